/- Parts. -/
import Derived.Test.YtgbfdcmkbblodaaGreatDoorVXe
import Derived.Test.YtgbfdcmkbblodaaGreatDoorVY42
namespace Go.Proofs.YtgbfdcmkbblodaaGreatDoor
open Go.RowKit
set_option linter.unusedVariables false
set_option linter.unusedSimpArgs false
set_option maxRecDepth 100000
set_option maxHeartbeats 16000000
open Tryz
theorem run_neq_state (x1 x2 y1 y2:ByteArray) (w:World):
  (binOp .neq 72 (.agg #[.string x1,.string x2]) (.agg #[.string y1,.string y2])).run prog w= .ok (.bool (!Sta.sameB ⟨x1,x2⟩ ⟨y1,y2⟩)) w:=by
 have hb:=bytes_inj x1 y1;have hb2:=bytes_inj x2 y2;go_simp;unfold Sta.sameB;dsimp only;by_cases h1:x1=y1
 ·by_cases h2:x2=y2
  ·simp[h1,h2]
  ·simp[h1,h2]
 ·simp[h1]
theorem EqualState_c (v1 v2:Value) (P:Nat->Prop) (l1 l2:List Sta) (w:World) (h1:StaRd w P v1 l1) (h2:StaRd w P v2 l2):
  Calls prog 40 #[v1,v2] w fun e w'=>e= .returned (.bool (stasEq l1 l2))/\ ∃n,w'=w.drewN n:=by
 obtain⟨a1,cap1,rfl,hc1,hm1⟩:=h1.slice;obtain⟨a2,cap2,rfl,hc2,hm2⟩:=h2.slice;have hm3:l1.length<=9223372036854775807:=by unfold maxLen at hm1;omega
 by_cases hl:l1.length=l2.length
 ·obtain⟨n,hn1⟩: ∃n,l1.length=n:=⟨_,rfl⟩;have hn2:l2.length=n:=by omega
  have H1:=Lh h1;have H2:=Lh h2;rw[hn1]at H1 hm3 hc1⊢;rw[hn2]at H2 hc2⊢;have HN1:=Lh hn1;have HN2:=Lh hn2;clear h1 h2 hn1 hn2 hl;go_enter func40,ntmps40;go_wp2
  go_loopw [13] (fun i wr=> ∃k m:Nat,i= .int .i64 k/\k<=n/\wr=w.drewN m/\stasEq (l1.drop k) (l2.drop k)=stasEq l1 l2) (fun i _=>n-(intOf i).toNat)
  case atStart=>exact⟨0,0,rfl,by omega,rfl,rfl⟩
  case round=>
   obtain⟨k,m,rfl,hk,rfl,hr⟩:=hrel;by_cases hlt:k<n
   ·have g1:k<l1.length:=by rw[HN1.o];exact hlt
    have g2:k<l2.length:=by rw[HN2.o];exact hlt
    obtain⟨b1,o1,c1,e1,_,p0,p1⟩:=H1.o.at_ k g1;obtain⟨b2,o2,c2,e2,_,q0,q1⟩:=H2.o.at_ k g2;rw[HN1.o]at e1;rw[HN2.o]at e2;simp only[vs0,true_and]at e1 e2;obtain⟨rfl,rfl⟩:=e1;obtain⟨rfl,rfl⟩:=e2;rw[List.drop_eq_getElem_cons g1,List.drop_eq_getElem_cons g2]at hr;generalize l1[k]=x at*;generalize l2[k]=y at*;simp only[stasEq]at hr;have HR:=Lh hr;clear hr;obtain⟨x1,x2⟩:=x;obtain⟨y1,y2⟩:=y;have hne:=run_neq_state x1 x2 y1 y2;generalize hT:Sta.sameB ⟨x1,x2⟩ ⟨y1,y2⟩=T at*
    cases T
    ·go_wp2
     go_quiet (fail)
     go_wp2;go_ret;exact⟨ret_bool (by rw[<-HR.o];rfl),_,World.drewN_drewN _ _ _⟩
    ·go_wp2
     go_quiet (fail)
     go_wp2;go_roundw
     case rel=>exact⟨k+1,m+nq,by go_num,by omega,rfl,by rw[<-HR.o,Bool.true_and]⟩
     case measure=>simp[intOf];omega
   ·have hkn:k=n:=by omega
    have HK:=Lh hkn;clear hkn;have e1:l1.drop k=[]:=List.drop_of_length_le (by have:=HN1.o;omega);have e2:l2.drop k=[]:=List.drop_of_length_le (by have:=HN2.o;omega);rw[e1,e2]at hr;have HR:=Lh hr;clear hr e1 e2;go_wp2;go_ret;exact⟨ret_bool (by rw[<-HR.o];rfl),_,rfl⟩
 ·have hne:((l1.length:Int) !=(l2.length:Int))=true:=by rw[bne_iff_ne];omega
  have HE:=Lh (stasEq_len hl);clear h1 h2;go_enter func40,ntmps40;go_wp2;go_ret;exact⟨ret_bool HE.o.symm,0,rfl⟩
theorem SvSame_c (x y:Sv) (v u:Value) (w:World) (hv:SvAt w v x) (hu:SvAt w u y):
  CB prog 9 #[v,u] w (.bool (x.sameB y)):=by
 obtain⟨nv,sv,rfl,hn,hs⟩:=hv;obtain⟨mv,tv,rfl,hm,ht⟩:=hu;have HJ:Hd (∀W:World,Below w.heap.size w W->CB prog 39 #[.agg #[.int .i64 x.job.par,nv],.agg #[.int .i64 y.job.par,mv]] W (.bool (x.job.sameB y.job))):=
  fun W hb=>JSame_c x.job y.job _ _ w.heap.size W ⟨_,rfl,hn.keep hb⟩ ⟨_,rfl,hm.keep hb⟩ hb.size
 have HS:Hd (∀W:World,Below w.heap.size w W->Calls prog 40 #[sv,tv] W fun e w'=>e= .returned (.bool (stasEq x.states y.states))/\ ∃n,w'=W.drewN n):=
  fun W hb=>EqualState_c sv tv (· <w.heap.size) x.states y.states W (hs.keep (fun _ k=>k) fun b k=>hb.block b k) (ht.keep (fun _ k=>k) fun b k=>hb.block b k)
 obtain⟨a,cap,rfl,-,-⟩:=hn.slice;obtain⟨a',cap',rfl,-,-⟩:=hm.slice;obtain⟨s,scap,rfl,-,-⟩:=hs.slice;obtain⟨s',scap',rfl,-,-⟩:=ht.slice;have HE:Hd (x.sameB y=((x.n==y.n)&&((x.cut==y.cut)&&(x.job.sameB y.job&&stasEq x.states y.states)))):=rfl;have hB:=two_bel w (svC x (.slice a x.job.nodes.length cap) (.slice s x.states.length scap)) (svC y (.slice a' y.job.nodes.length cap') (.slice s' y.states.length scap')) 27 27;have HJ2:=Lh (HJ.o _ hB);unfold svC at*;generalize x.sameB y=R at*;generalize x.job.sameB y.job=bj at*;generalize stasEq x.states y.states=bs at*;have HB:=Lh hB;clear hn hm hs ht HJ hB
 cases h1:(x.n==y.n)
 ·rw[h1]at HE;have HR:Hd (R=false):=HE.o;go_enter func9,ntmps9
  go_wp2_with fail
  go_ret;rw[HR.o];exact⟨rfl,HB.o⟩
 rw[h1]at HE
 cases h2:(x.cut==y.cut)
 ·rw[h2]at HE;have HR:Hd (R=false):=HE.o;go_enter func9,ntmps9
  go_wp2_with fail
  go_ret;rw[HR.o];exact⟨rfl,HB.o⟩
 rw[h2]at HE;have HE2:Hd (R=(bj&&bs)):=HE.o;clear HE;have hb1:=(Blk.new w #[.int .i64 x.n,.int .i64 x.cut,.int .i64 x.job.par,.slice a x.job.nodes.length cap,.slice s x.states.length scap] 27).alloc (.cells #[.int .i64 y.n,.int .i64 y.cut,.int .i64 y.job.par,.slice a' y.job.nodes.length cap',.slice s' y.states.length scap'] 27);have hb2:=Blk.new_at (w.alloc (.cells #[.int .i64 x.n,.int .i64 x.cut,.int .i64 x.job.par,.slice a x.job.nodes.length cap,.slice s x.states.length scap] 27)) #[.int .i64 y.n,.int .i64 y.cut,.int .i64 y.job.par,.slice a' y.job.nodes.length cap',.slice s' y.states.length scap'] 27 (k:=w.heap.size+1) (by simp)
 cases bj
 ·have HR:Hd (R=false):=HE2.o;clear hb1 hb2;go_enter func9,ntmps9
  go_wp2_with (first|(go_at_call 39;refine HJ2.o.mono ?_;rintro e w3 ⟨rfl,hb3⟩)|fail)
  go_ret;rw[HR.o];exact⟨rfl,HB.o.trans (hb3.mono HB.o.size)⟩
 ·have HR:Hd (R=bs):=HE2.o;go_enter func9,ntmps9
  go_upto_region 1 with fail
  generalize World.alloc (World.alloc w _) _=W2 at*;obtain⟨n0,n1,n2,n3,n4⟩:=hb1.q5;obtain⟨m0,m1,m2,m3,m4⟩:=hb2.q5;have HB1:=Lh hb1;have HB2:=Lh hb2;clear hb1 hb2
  go_wp2_with (first
   |(go_at_call 39;refine HJ2.o.mono ?_;rintro e w3 ⟨rfl,hb3⟩;have k4:=(HB1.o.below hb3 HB1.o.lt).cell 4;have l4:=(HB2.o.below hb3 HB2.o.lt).cell 4;have HS3:=Lh (HS.o w3 (HB.o.trans (hb3.mono HB.o.size)));have HB3:=Lh hb3;clear hb3 n4 m4)
   |(go_at_call 40;refine HS3.o.mono ?_;rintro e w4 ⟨rfl,nd,rfl⟩)
   |fail)
  go_ret;rw[HR.o];exact⟨rfl,below_drewN (HB.o.trans (HB3.o.mono HB.o.size)) nd⟩
theorem rSvSame_c (x y:Sv) (v u:Value) (w:World) (hv:SvAt w v x) (hu:SvAt w u y):
  CB prog 10 #[v,u] w (.bool (x.sameB y)):=by
 obtain⟨nv,sv,rfl,hn,hs⟩:=hv;obtain⟨mv,tv,rfl,hm,ht⟩:=hu;have HJ:Hd (∀W:World,Below w.heap.size w W->CB prog 41 #[.agg #[.int .i64 x.job.par,nv],.agg #[.int .i64 y.job.par,mv]] W (.bool (x.job.sameB y.job))):=
  fun W hb=>rJSame_c x.job y.job _ _ w.heap.size W ⟨_,rfl,hn.keep hb⟩ ⟨_,rfl,hm.keep hb⟩ hb.size
 obtain⟨a,cap,rfl,-,-⟩:=hn.slice;obtain⟨a',cap',rfl,-,-⟩:=hm.slice;obtain⟨s,scap,rfl,hsc,hsm⟩:=hs.slice;obtain⟨s',scap',rfl,-,-⟩:=ht.slice;have HE:Hd (x.sameB y=((x.n==y.n)&&((x.cut==y.cut)&&(x.job.sameB y.job&&stasEq x.states y.states)))):=rfl;have hB:=two_bel w (svC x (.slice a x.job.nodes.length cap) (.slice s x.states.length scap)) (svC y (.slice a' y.job.nodes.length cap') (.slice s' y.states.length scap')) 27 27;have HJ2:=Lh (HJ.o _ hB);unfold svC at*;generalize x.sameB y=R at*;generalize x.job.sameB y.job=bj at*;have HS:=Lh hs;have HT:=Lh ht;have HB:=Lh hB;clear hn hm hs ht HJ hB;have hnm:x.states.length<=9223372036854775807:=by unfold maxLen at hsm;omega
 cases h1:(x.n==y.n)
 ·rw[h1]at HE;have HR:Hd (R=false):=HE.o;have h1':(x.n !=y.n)=true:=by rw[bne,h1];rfl
  go_enter func10,ntmps10
  go_wp2_with fail
  go_ret;rw[HR.o];exact⟨rfl,HB.o⟩
 rw[h1]at HE;have h1':(x.n !=y.n)=false:=by rw[bne,h1];rfl
 cases h2:(x.cut==y.cut)
 ·rw[h2]at HE;have HR:Hd (R=false):=HE.o;have h2':(x.cut !=y.cut)=true:=by rw[bne,h2];rfl
  go_enter func10,ntmps10
  go_wp2_with fail
  go_ret;rw[HR.o];exact⟨rfl,HB.o⟩
 rw[h2]at HE;have h2':(x.cut !=y.cut)=false:=by rw[bne,h2];rfl
 have HE2:Hd (R=(bj&&stasEq x.states y.states)):=HE.o;clear HE;by_cases hlen:x.states.length=y.states.length
 case neg=>
  have hne:((x.states.length:Int) !=(y.states.length:Int))=true:=by rw[bne_iff_ne];omega
  have HR:Hd (R=false):=by show _=_;rw[HE2.o,stasEq_len hlen,Bool.and_false]
  clear hlen;go_enter func10,ntmps10
  go_wp2_with fail
  go_ret;rw[HR.o];exact⟨rfl,HB.o⟩
 have hb1:=(Blk.new w #[.int .i64 x.n,.int .i64 x.cut,.int .i64 x.job.par,.slice a x.job.nodes.length cap,.slice s x.states.length scap] 27).alloc (.cells #[.int .i64 y.n,.int .i64 y.cut,.int .i64 y.job.par,.slice a' y.job.nodes.length cap',.slice s' y.states.length scap'] 27);have hb2:=Blk.new_at (w.alloc (.cells #[.int .i64 x.n,.int .i64 x.cut,.int .i64 x.job.par,.slice a x.job.nodes.length cap,.slice s x.states.length scap] 27)) #[.int .i64 y.n,.int .i64 y.cut,.int .i64 y.job.par,.slice a' y.job.nodes.length cap',.slice s' y.states.length scap'] 27 (k:=w.heap.size+1) (by simp);have HLEN:=Lh hlen;obtain⟨n,hn⟩: ∃n,x.states.length=n:=⟨_,rfl⟩;have hn2:y.states.length=n:=by omega
 have HN:=Lh hn;have HN2:=Lh hn2;rw[hn]at hb1 hb2 HB HJ2 HS hnm⊢;rw[hn2]at hb1 hb2 HB HJ2 HT⊢;clear hlen hn hn2;go_enter func10,ntmps10
 go_upto_region 1 with fail
 generalize World.alloc (World.alloc w _) _=W2 at*;obtain⟨n0,n1,n2,n3,n4⟩:=hb1.q5;obtain⟨m0,m1,m2,m3,m4⟩:=hb2.q5;have HB1:=Lh hb1;have HB2:=Lh hb2;clear hb1 hb2
 cases bj
 ·have HR:Hd (R=false):=HE2.o
  go_wp2_with (first|(go_at_call 41;refine HJ2.o.mono ?_;rintro e w3 ⟨rfl,hb3⟩)|fail)
  go_ret;rw[HR.o];exact⟨rfl,HB.o.trans (hb3.mono HB.o.size)⟩
 have HR:Hd (R=stasEq x.states y.states):=HE2.o;clear HE2
 go_upto_region 3 with (first|(go_at_call 41;refine HJ2.o.mono ?_;rintro e w3 ⟨rfl,hb3⟩)|fail)
 have hB3:=HB.o.trans (hb3.mono HB.o.size);have p4:=(HB1.o.below hb3 HB1.o.lt).cell 4;have q4:=(HB2.o.below hb3 HB2.o.lt).cell 4;have HB3:=Lh hB3;clear n0 n1 n2 n3 n4 m0 m1 m2 m3 m4 hB3 hb3 HJ2;have HXS:Hd (StaRd w3 (· <w.heap.size) (.slice s n scap) x.states):=HS.o.keep (fun _ k=>k) fun b k=>HB3.o.block b k;have HYS:Hd (StaRd w3 (· <w.heap.size) (.slice s' n scap') y.states):=HT.o.keep (fun _ k=>k) fun b k=>HB3.o.block b k;clear HS HT
 go_wp2_with fail
 go_loopw [5] (fun q wr=> ∃k m:Nat,q= .int .i64 k/\k<=n/\wr=w3.drewN m/\stasEq (x.states.drop k) (y.states.drop k)=stasEq x.states y.states) (fun q _=>n-(intOf q).toNat)
 case atStart=>exact⟨0,0,rfl,ze0,rfl,rfl⟩
 case round=>
  obtain⟨k,m,rfl,hk,rfl,hr⟩:=hrel;by_cases hlt:k<n
  ·have g1:k<x.states.length:=by rw[HN.o];exact hlt
   have g2:k<y.states.length:=by rw[HN2.o];exact hlt
   obtain⟨b1,o1,c1,e1,_,u0,u1⟩:=HXS.o.at_ k g1;obtain⟨b2,o2,c2,e2,_,v0,v1⟩:=HYS.o.at_ k g2;rw[HN.o]at e1;rw[HN2.o]at e2;simp only[vs0,true_and]at e1 e2;obtain⟨rfl,rfl⟩:=e1;obtain⟨rfl,rfl⟩:=e2;rw[List.drop_eq_getElem_cons g1,List.drop_eq_getElem_cons g2]at hr;generalize x.states[k]=xs at*;generalize y.states[k]=ys at*;simp only[stasEq]at hr;have HRR:=Lh hr;clear hr;obtain⟨x1,x2⟩:=xs;obtain⟨y1,y2⟩:=ys;have hne:=run_neq_state x1 x2 y1 y2;generalize hT:Sta.sameB ⟨x1,x2⟩ ⟨y1,y2⟩=T at*;have HTT:=Lh hT;clear hT
   cases T
   ·go_wp2
    go_quiet (fail)
    go_wp2;go_ret;rw[HR.o,<-HRR.o];exact⟨rfl,by rw[World.drewN_drewN];exact below_drewN HB3.o _⟩
   ·go_wp2
    go_quiet (fail)
    go_wp2;go_roundw
    case rel=>exact⟨k+1,m+nq,by go_num,by omega,rfl,by rw[<-HRR.o,Bool.true_and]⟩
    case measure=>simp[intOf];omega
  ·have hkn:k=n:=by omega
   have hEN:Hd (R=true):=by
    show _=_;rw[HR.o,<-hr,List.drop_of_length_le (by rw[HN.o];omega),List.drop_of_length_le (by rw[HN2.o];omega)];rfl
   subst hkn;clear hr;go_wp2;go_ret;rw[hEN.o];exact⟨rfl,below_drewN HB3.o _⟩
theorem Heavy18_c (x:Sv) (w:World) (nv sv:Value) (hn:NodesAt w w.heap.size x.job.nodes nv) (hs:StaRd w (· <w.heap.size) sv x.states):
  CB prog 27 #[.agg #[.int .i64 x.job.par,nv],sv,.slice none 0 0] w (.bool x.heavyB):=by
 obtain⟨a,cap,rfl,-,-⟩:=hn.slice;obtain⟨sa,scap,rfl,hsc,hsm⟩:=hs.slice;have hA:=(Below.refl w.heap.size w).alloc le0 (.cells #[.int .i64 x.job.par,.slice a x.job.nodes.length cap] 24);have hbx:=Blk.new w #[.int .i64 x.job.par,.slice a x.job.nodes.length cap] 24;have HJ:Hd (∀W:World,Below w.heap.size w W->CB prog 69 #[.agg #[.int .i64 x.job.par,.slice a x.job.nodes.length cap]] W (.bool x.job.heavyB)):=
  fun W hb=>Heavy_c x.job _ w.heap.size W ⟨_,rfl,hn.keep hb⟩ hb.size
 have HE:Hd (x.heavyB=(heavySt x.states||(x.job.heavyB||decide (40<(x.states.length:Int))))):=rfl;generalize x.heavyB=R at*;generalize x.job.heavyB=bj at*;have HS:=Lh hs;have hnm:x.states.length<=9223372036854775807:=by unfold maxLen at hsm;omega
 generalize x.states=l at*;obtain⟨n,hn2⟩: ∃n,l.length=n:=⟨_,rfl⟩;rw[hn2]at HE HS hnm hsc⊢;have HN:=Lh hn2;clear hn hs hn2;go_enter func27,ntmps27
 go_upto_region 1 with fail
 generalize World.alloc w _=W at*;have HBX:=Lh hbx;have HA:=Lh hA;clear hbx hA
 go_upto_region 2 with fail
 go_loopw [11] (fun q wr=> ∃k:Nat,q= .int .i64 k/\k<=n/\Below W.heap.size W wr/\heavySt (l.drop k)=heavySt l) (fun q _=>n-(intOf q).toNat)
 case atStart=>exact⟨0,rfl,ze0,Below.refl _ _,rfl⟩
 case round=>
  obtain⟨k,rfl,hk,hB,hr⟩:=hrel;have hBw:=HA.o.trans (hB.mono HA.o.size);by_cases hlt:k<n
  ·have hkl:k<l.length:=by rw[HN.o];exact hlt
   obtain⟨b,off,cp,e1,hb,c0,c1⟩:=HS.o.at_ k hkl;rw[HN.o]at e1;simp only[vs0,true_and]at e1;obtain⟨rfl,rfl⟩:=e1;have c0:=(hBw.cell (p:=⟨b,off+k*2,none⟩) hb).trans c0;have c1:=(hBw.cell (p:=⟨b,off+k*2+1,none⟩) hb).trans c1;rw[List.drop_eq_getElem_cons hkl]at hr;simp only[heavySt]at hr;generalize l[k]=s at*;have hB2:=hB.alloc hB.size (.cells #[.string s.uid,.string s.bytes] 72);have HB2:=Lh hB2;have HBW2:=Lh (hBw.alloc hBw.size (.cells #[.string s.uid,.string s.bytes] 72));have HR:=Lh hr;have HSH:Hd (s.heavy=(decide (20000<(s.bytes.size:Int))||decide (1000<(s.uid.size:Int)))):=rfl;generalize s.heavy=sh at*;clear hB hB2 hBw hr
   cases d1:decide (20000<(s.bytes.size:Int))
   ·cases d2:decide (1000<(s.uid.size:Int))
    ·rw[d1,d2]at HSH
     go_wp2_with fail
     go_roundw
     case rel=>exact⟨k+1,by go_num,by omega,HB2.o,by rw[<-HR.o,HSH.o];rfl⟩
     case measure=>simp[intOf];omega
    ·rw[d1,d2]at HSH
     go_wp2_with fail
     go_ret;refine⟨ret_bool ?_,HBW2.o⟩;rw[HE.o,<-HR.o,HSH.o];rfl
   ·rw[d1]at HSH
    go_wp2_with fail
    go_ret;refine⟨ret_bool ?_,HBW2.o⟩;rw[HE.o,<-HR.o,HSH.o];rfl
  ·have hkn:k=n:=by omega
   have hE2:Hd (R=(bj||decide (40<(n:Int)))):=by
    show _=_;rw[HE.o,<-hr,List.drop_of_length_le (by rw[HN.o];omega)];rfl
   subst hkn;have hbr:=HBX.o.below hB HBX.o.lt;have c0:=hbr.cell 0;have c1:=hbr.cell 1;have HJ2:=Lh (HJ.o wr hBw);have HBW:=Lh hBw;clear hbr hB hr hBw
   cases bj
   ·cases d1:decide (40<(k:Int))
    all_goals
     rw[d1]at hE2
     go_wp2_with (first|(go_at_call 69;refine HJ2.o.mono ?_;rintro e w3 ⟨rfl,hb3⟩)|fail)
     go_ret;rw[hE2.o];exact⟨rfl,HBW.o.trans (hb3.mono HBW.o.size)⟩
   ·go_wp2_with (first|(go_at_call 69;refine HJ2.o.mono ?_;rintro e w3 ⟨rfl,hb3⟩)|fail)
    go_ret;rw[hE2.o];exact⟨rfl,HBW.o.trans (hb3.mono HBW.o.size)⟩
theorem SvHeavy_c (x:Sv) (v:Value) (w:World) (hv:SvAt w v x):
  CB prog 5 #[v] w (.bool x.heavyB):=by
 obtain⟨nv,sv,rfl,hn,hs⟩:=hv;have hA:=(Below.refl w.heap.size w).alloc le0 (.cells (svC x nv sv) 27);have HH:=Lh (Heavy18_c x _ nv sv ((hn.keep hA).mono hA.size) (hs.keep (fun b hb=>lt1 hb hA.size) (fun b hb=>hA.block b hb)));obtain⟨a,cap,rfl,-,-⟩:=hn.slice;obtain⟨sa,scap,rfl,-,-⟩:=hs.slice;have HA:=Lh hA;unfold svC at*;clear hn hs hA;go_enter func5,ntmps5
 go_wp2_with (first|(go_at_call 27;refine HH.o.mono ?_;rintro e w3 ⟨rfl,hb3⟩)|fail)
 go_ret;exact⟨rfl,HA.o.trans (hb3.mono HA.o.size)⟩
def DS (w W:World) (D:Nat) (d:Dk):Prop:= ∃M:Nat->Prop,DkAt W M D d/\(∀b,M b->w.heap.size<=b)/\Below w.heap.size w W
namespace DS
variable {w W W':World} {D:Nat} {d d':Dk}
theorem below (h:DS w W D d):Below w.heap.size w W:=let ⟨_,_,_,h3⟩:=h;h3
theorem keep (h:DS w W D d) (hb:Below W.heap.size W W'):DS w W' D d:=let ⟨M,h1,h2,h3⟩:=h;⟨M,h1.below hb,h2,h3.trans (hb.mono h3.size)⟩
theorem alloc (h:DS w W D d) (o:Obj):DS w (W.alloc o) D d:=h.keep (br0.alloc le0 _)
theorem of_to {M:Nat->Prop} (hM: ∀b,M b->w.heap.size<=b) (hB:Below w.heap.size w W) (hT:DkTo W W' M D d'):DS w W' D d':=by
 obtain⟨hf,N,hN,hR⟩:=hT;refine⟨N,hR,fun b q=>?_,hB.trans (hf.below hB.size (fun k hk e=>by have:=hM k e;omega))⟩;rcases hN b q with h|h
 ·exact hM b h
 ·exact le1 hB.size h
theorem write (h:DS w W D d) (x:Sv) (hok:x.Ok) (hfew:x.few) (v:Value) (hv:SvAt W v x) (hsz:(putSv x).1.length<=140737488355328) (hll:d.loose.length<=999999990):
  Calls prog 19 #[px D,v] W fun e w'=>e= .returned (.int .i64 (d.write x).2)/\DS w w' D (d.write x).1:=by
 obtain⟨M,h1,h2,h3⟩:=h;refine(SvWrite_c W M D d h1 x hok hfew v hv hsz hll).mono ?_;rintro e w' ⟨rfl,hT⟩;exact⟨rfl,of_to h2 h3 hT⟩
theorem read (h:DS w W D d) (hsz:(d.read 4).1.size<=990000):
  Calls prog 23 #[px D] W fun e w'=> ∃a cap sa scap,e= .returned (.tuple #[.agg (svC d.readSv.1 (.slice a d.readSv.1.job.nodes.length cap) (.slice sa d.readSv.1.states.length scap)),.int .i64 d.readSv.2])/\
   SvIn w' (fun c=>W.heap.size<=c/\c<w'.heap.size) (.agg (svC d.readSv.1 (.slice a d.readSv.1.job.nodes.length cap) (.slice sa d.readSv.1.states.length scap))) d.readSv.1/\DS w w' D d/\Below W.heap.size W w':=by
 obtain⟨M,h1,h2,h3⟩:=h;refine(SvRead_c W M D d h1 hsz).mono ?_;rintro e w' ⟨⟨v,rfl,hv⟩,hb⟩;obtain⟨a,cap,sa,scap,rfl⟩:=hv.slices;exact⟨a,cap,sa,scap,rfl,hv,⟨M,h1.below hb,h2,h3.trans (hb.mono h3.size)⟩,hb⟩
theorem new (w:World) (room:Int) (h1:1<=room) (h2:room<=4194304):Calls prog 14 #[.int .i64 room] w fun e w'=> ∃D,e= .returned (.tuple #[px D,.int .i64 0])/\DS w w' D (Dk.new room):=by
 refine(New_c room w).mono ?_;rintro e w' ⟨hb,⟨_,_,rfl,hd⟩|⟨h,_⟩⟩
 ·exact⟨_,rfl,_,hd,fun b e=>Nat.le_of_eq e.symm,hb⟩
 ·omega
end DS
theorem first_c (w:World) (h:Env w):Calls prog 28 #[] w fun e w'=>
  ∃a c,e= .returned (.agg #[.int .i64 1,.int .i64 3,.int .i64 2,.slice a 3 c,.slice none 0 0])/\SvIn w' (fun b=>w.heap.size<=b/\b<w'.heap.size) (.agg #[.int .i64 1,.int .i64 3,.int .i64 2,.slice a 3 c,.slice none 0 0]) firstSv/\Below w.heap.size w w':=by
 have hA:=(Below.refl w.heap.size w).alloc le0 (.cells #[.int .i64 0,.int .i64 0,.int .i64 0,.slice none 0 0,.slice none 0 0] 27);have hres:=Blk.new w #[.int .i64 0,.int .i64 0,.int .i64 0,.slice none 0 0,.slice none 0 0] 27;have HP:=Lh (made_c _ (h.keep hA));clear h;go_enter func28,ntmps28
 go_upto_region 1 with fail
 have hz:(w.alloc (.cells #[.int .i64 0,.int .i64 0,.int .i64 0,.slice none 0 0,.slice none 0 0] 27)).heap.size=w.heap.size+1:=by simp
 generalize World.alloc w _=W at*
 go_wp2_with (first
  |(go_at_call 70;refine HP.o.mono ?_;rintro e w2 ⟨a,c,rfl,hn,hb⟩;have hr2:=hres.below hb hres.lt;obtain⟨r0,r1,r2,r3,r4⟩:=hr2.q5;obtain⟨f0,f1,f2,f3,f4⟩:=hr2.u5;have HG:=Lh (set5 hr2 (hA.trans (hb.mono hA.size)) le0 (.int .i64 1) (.int .i64 3) (.int .i64 2) (.slice a 3 c) (.slice none 0 0));have HN:=Lh hn;clear hr2 hb hn)
  |fail)
 refine bodyPost_ret (v:= .agg #[.int .i64 1,.int .i64 3,.int .i64 2,.slice a 3 c,.slice none 0 0]) (results_cell_row rfl _ _ w.heap.size 27 _ (0,0) _ rfl HG.o.1 underlying27 rfl ?_) rfl ⟨a,c,rfl,⟨_,_,rfl,HN.o.keep (fun b k=>?_) (fun b k=>HG.o.2.2.1 b ?_),StaRd.nil _ _⟩,HG.o.2.1⟩
 ·as_aux_lemma=>kernel_rfl
 ·rw[HG.o.2.2.2];exact⟨by omega,k.2⟩
 ·have:=k.1;omega
theorem few_first:firstSv.few:=⟨by decide,by unfold firstSv;simp⟩
theorem size_first:(putSv firstSv).1.length<=140737488355328:=le1 (putSv_small first_ok (by kernel_rfl)) (by decide)
theorem dk1_size:(dk1.1.read 4).1.size<=990000:=by decide+kernel
theorem dk0_size:((Dk.new 5000).read 4).1.size<=990000:=by decide+kernel
theorem works23_c (w:World) (h:Env w):CB prog 6 #[] w (.bool true):=by
 have HN:=Lh (DS.new w 5000 (by decide) (by decide));have HF:Hd (∀W,Below w.heap.size w W->_):=fun W (hb:Below w.heap.size w W)=>first_c W (h.keep hb);have HR1:Hd (∀W D,DS w W D (Dk.new 5000)->Calls prog 23 #[px D] W fun e w'=> ∃a cap sa scap,e= .returned (.tuple #[.agg #[.int .i64 0,.int .i64 0,.int .i64 0,.slice a 0 cap,.slice sa 0 scap],.int .i64 4])/\DS w w' D (Dk.new 5000)):=fun W D h=>by
  have:=h.read dk0_size;rw[new_read]at this;refine this.mono ?_;rintro e w' ⟨a,cap,sa,scap,rfl,_,h2,_⟩;exact⟨a,cap,sa,scap,rfl,h2⟩
 have HW:Hd (∀W D v,DS w W D (Dk.new 5000)->SvAt W v firstSv->Calls prog 19 #[px D,v] W fun e w'=>e= .returned (.int .i64 0)/\DS w w' D dk1.1):=fun W D v h hv=>by
  have:=h.write firstSv first_ok few_first v hv size_first (by decide);rw[show((Dk.new 5000).write firstSv).2=0 from dk1_e]at this;exact this
 have HR2:Hd (∀W D,DS w W D dk1.1->Calls prog 23 #[px D] W fun e w'=> ∃a cap sa scap,e= .returned (.tuple #[.agg #[.int .i64 1,.int .i64 3,.int .i64 2,.slice a 3 cap,.slice sa 0 scap],.int .i64 0])/\SvIn w' (fun c=>W.heap.size<=c/\c<w'.heap.size) (.agg #[.int .i64 1,.int .i64 3,.int .i64 2,.slice a 3 cap,.slice sa 0 scap]) firstSv/\DS w w' D dk1.1):=fun W D h=>by
  have:=h.read dk1_size;rw[dk1_read]at this;refine this.mono ?_;rintro e w' ⟨a,cap,sa,scap,rfl,h1,h2,_⟩;exact⟨a,cap,sa,scap,rfl,h1,h2⟩
 have HSM:Hd (∀W v u,SvAt W v firstSv->SvAt W u firstSv->CB prog 10 #[v,u] W (.bool true)):=fun W v u hv hu=>by
  have:=rSvSame_c firstSv firstSv v u W hv hu;rw[Sv.sameB_refl]at this;exact this
 unfold px at*;clear h;go_enter func6,ntmps6
 go_upto_region 5 with (first
  |(go_at_call 14;refine HN.o.mono ?_;rintro e w1 ⟨D,rfl,d1⟩;have D1:=Lh d1;clear d1)
  |(go_at_call 23;refine(HR1.o _ _ D1.o).mono ?_;rintro e w2 ⟨a2,cap2,sa2,scap2,rfl,d2⟩;have D2:=Lh (d2.alloc (.cells #[.int .i64 0,.int .i64 0,.int .i64 0,.slice a2 0 cap2,.slice sa2 0 scap2] 27));clear D1 d2)
  |(go_at_call 28;refine(HF.o _ D2.o.below).mono ?_;rintro e w3 ⟨a3,cap3,rfl,v3,b3⟩;have D3:=Lh (D2.o.keep b3);have V3:=Lh (v3.at_ (fun _ k=>k.2));clear D2 v3 b3)
  |(go_at_call 19;refine(HW.o _ _ _ D3.o V3.o).mono ?_;rintro e w4 ⟨rfl,d4⟩;have D4:=Lh d4;clear D3 V3 d4)
  |(go_at_call 23;refine(HR2.o _ _ D4.o).mono ?_;rintro e w5 ⟨a5,cap5,sa5,scap5,rfl,v5,d5⟩;have D5:=Lh (d5.alloc (.cells #[.int .i64 1,.int .i64 3,.int .i64 2,.slice a5 3 cap5,.slice sa5 0 scap5] 27));have V5:=Lh ((v5.at_ (fun _ k=>k.2)).below (br0.alloc le0 (.cells #[.int .i64 1,.int .i64 3,.int .i64 2,.slice a5 3 cap5,.slice sa5 0 scap5] 27)));have B5:=Lh (Blk.new w5 #[.int .i64 1,.int .i64 3,.int .i64 2,.slice a5 3 cap5,.slice sa5 0 scap5] 27);clear D4 v5 d5)
  |fail)
 generalize World.alloc w5 _=W5 at*;obtain⟨c0,c1,c2,c3,c4⟩:=B5.o.q5;have HF5:=Lh (HF.o W5.drew D5.o.below.drew);clear HF HN HR1 HW HR2
 go_region_with (first
  |(go_at_call 28;refine HF5.o.mono ?_;rintro e w6 ⟨a6,cap6,rfl,v6,b6⟩;have b6':Below W5.heap.size W5 w6:=(Below.refl _ W5).drew.trans b6;obtain⟨k0,k1,k2,k3,k4⟩:=(B5.o.below b6' B5.o.lt).q5;have V6:=Lh (v6.at_ (fun _ k=>k.2));have VV:=Lh (V5.o.below b6');have BB:=Lh (D5.o.below.trans (b6'.mono D5.o.below.size));clear v6 b6 b6')
  |(go_at_call 10;refine(HSM.o _ _ _ VV.o V6.o).mono ?_;rintro e w7 ⟨rfl,b7⟩))
 all_goals
  go_wp2_with fail
  go_ret;exact⟨rfl,BB.o.trans (b7.mono BB.o.size)⟩

/- Parts. -/
import Derived.Test.YtokgmjefideioaaGreatDoorVY33
import Derived.Test.YtokgmjefideioaaGreatDoorVY45
namespace Go.Proofs.YtokgmjefideioaaGreatDoor
open Go.RowKit
set_option linter.unusedVariables false
set_option linter.unusedSimpArgs false
set_option maxRecDepth 100000
set_option maxHeartbeats 16000000
open Tryz
theorem rrSame_c (x:St) (v u:Value) (w:World) (P:Nat->Prop) (hv:StIn w P v x) (hu:StIn w P u x) (hP: ∀b,P b->b<w.heap.size):
  CB prog 26 #[v,u] w (.bool true):=by
 obtain⟨sv,rfl,hn⟩:=hv;obtain⟨tv,rfl,hm⟩:=hu;have HJ:Hd (∀W:World,Below w.heap.size w W->CB prog 49 #[.agg #[.int .i64 x.job.par,sv],.agg #[.int .i64 x.job.par,tv]] W (.bool true)):=fun W hb=>by
  have:=rJSame_c x.job x.job _ _ w.heap.size W ⟨_,rfl,(hn.toAt hP).keep hb⟩ ⟨_,rfl,(hm.toAt hP).keep hb⟩ hb.size;rwa[Jb.same_refl]at this
 obtain⟨a,cap,rfl,-,-⟩:=hn.slice;obtain⟨a2,cap2,rfl,-,-⟩:=hm.slice;clear hn hm;obtain⟨b1,b2,hB⟩:=two_new w #[.int .u8 (x.kind:Int),.int .i64 x.n,.int .i64 x.cut,.int .i64 x.too,.int .i64 x.job.par,.slice a x.job.nodes.length cap,.int .i64 x.part,.int .i64 x.at_,.int .i64 x.why] #[.int .u8 (x.kind:Int),.int .i64 x.n,.int .i64 x.cut,.int .i64 x.too,.int .i64 x.job.par,.slice a2 x.job.nodes.length cap2,.int .i64 x.part,.int .i64 x.at_,.int .i64 x.why] 47;unfold stC;go_enter func26,ntmps26
 go_upto_region 1 with fail
 generalize World.alloc (World.alloc w _) _=W at*;obtain⟨x0,x1,x2,x3,x4,x5,x6,x7,x8⟩:=b1.q9;obtain⟨y0,y1,y2,y3,y4,y5,y6,y7,y8⟩:=b2.q9;have HJ2:=Lh (HJ.o W hB)
 go_wp2_with (go_at_call 49;refine HJ2.o.mono ?_;rintro e w3 ⟨rfl,hb3⟩)
 go_ret;exact⟨rfl,hB.trans (hb3.mono hB.size)⟩
def phL:List St->Nat->Option Nat
 | [],p=>some p
 |x::l,p=>if(nextP p x.kind).2=true then phL l (nextP p x.kind).1 else none
theorem phL_cons (x:St) (l:List St) (p:Nat):phL (x::l) p=if(nextP p x.kind).2=true then phL l (nextP p x.kind).1 else none:=rfl
theorem phL_snoc: ∀(l:List St) (p:Nat) (x:St),phL (l++ [x]) p=(phL l p).bind fun q=>if(nextP q x.kind).2=true then some (nextP q x.kind).1 else none
 | [],p,x=>rfl
 |y::l,p,x=>by
  show(if _ then _ else _)=Option.bind (if _ then _ else _) _
  split
  ·exact phL_snoc l _ x
  ·rfl
def phI:Option Nat->Int
 |none=> -1
 |some p=>p
theorem ph_cases (p k:Nat) (hp:p<4):(nextP p k).2=true/\(p=0/\k=1\/p=0/\k=6\/p=1/\k=2\/p=1/\k=3\/p=2/\k=4\/p=2/\k=5\/p=3/\k=5)\/
  (nextP p k).2=false/\(p=0/\((k:Int)==1)=false/\((k:Int)==6)=false\/p=1/\((k:Int)==2)=false/\((k:Int)==3)=false\/p=2/\((k:Int)==4)=false/\((k:Int)==5)=false\/p=3/\((k:Int)==5)=false/\True):=by
 unfold nextP;simp only[bq0,beq_iff_eq]
 match p,hp with
 |0,_=>simp;omega
 |1,_=>simp;omega
 |2,_=>simp;omega
 |3,_=>simp;omega
theorem rPhase_c (w:World) (P:Nat->Prop) (v:Value) (l:List St) (g:StsRd w P v l):Calls prog 24 #[v] w fun e w'=>e= .returned (.int .i64 (phI (phL l 0)))/\w=w':=by
 obtain⟨a,cap,rfl,hcap,hmx⟩:=g.slice;have HG:=Lh g;have hln:l.length<=9223372036854775807:=by unfold maxLen at hmx;omega
 clear g;generalize hN:l.length=N at*;have HN:=Lh hN;clear hN;go_enter func24,ntmps24
 go_wp2_with fail
 go_loop [3,4] (fun p i=> ∃k pn:Nat,i= .int .i64 (k:Int)/\k<=N/\p= .int .i64 (pn:Int)/\pn<4/\phL (l.drop k) pn=phL l 0) (fun _ i=>N-(intOf i).toNat)
 case atStart=>exact⟨0,0,rfl,ze0,rfl,by decide,rfl⟩
 case round=>
  obtain⟨k,pn,rfl,hk,rfl,hp,hph⟩:=hrel;by_cases hlt:k<N
  ·have hkl:k<l.length:=by have:=HN.o;omega
   obtain⟨b,off,cp,sv,e1,_,_,hc⟩:=HG.o.at_ k hkl;rw[HN.o]at e1;simp only[vs0,true_and]at e1;obtain⟨rfl,rfl⟩:=e1;have c0:=hc 0 (by omega);rw[Nat.add_zero]at c0;unfold stC at c0;rw[List.drop_eq_getElem_cons hkl]at hph;rw[phL_cons]at hph;generalize l[k]=x at*;have c0:w.cell? ⟨b,off+k*9,none⟩=some (.int .u8 (x.kind:Int)):=c0;clear hc;generalize x.kind=kd at*;have hkI:(k:Int)<(N:Int):=by omega
   rcases ph_cases pn kd hp with ⟨h2,hc⟩|⟨h2,hc⟩
   ·rw[if_pos h2]at hph;rcases hc with ⟨rfl,rfl⟩|⟨rfl,rfl⟩|⟨rfl,rfl⟩|⟨rfl,rfl⟩|⟨rfl,rfl⟩|⟨rfl,rfl⟩|⟨rfl,rfl⟩
    all_goals
     have HPH:=Lh hph;clear hph h2
     go_wp2_with fail
     go_round
     case rel=>exact⟨k+1,_,by go_num,hlt,rfl,by decide,HPH.o⟩
     case measure=>simp[intOf];omega
   ·rw[if_neg (by rw[h2];decide)]at hph;rcases hc with ⟨rfl,h3,h4⟩|⟨rfl,h3,h4⟩|⟨rfl,h3,h4⟩|⟨rfl,h3,-⟩
    all_goals
     have HPH:=Lh hph;clear hph h2
     go_wp2_with fail
     go_ret;rw[<-HPH.o];exact⟨rfl,rfl⟩
  ·obtain rfl:k=N:=by omega
   rw[<-HN.o,List.drop_length]at hph;have HPH:=Lh hph;clear hph
   go_wp2_with fail
   go_ret;rw[<-HPH.o];exact⟨rfl,rfl⟩
theorem Jb.may_small {j:Jb} (hok:j.ok) (h:j.may.2=0):(∀d∈j.nodes,d.uid.size<=1000000)/\j.nodes.length<=1000:=by
 obtain⟨hs,hn,_,_⟩:=good_small hok h;exact⟨fun d hd=>by have:=(hs d hd).uid;omega,by omega⟩
theorem ff (a:Bool) {p:Prop} (h:p):a=false\/a=true/\p:=by
 cases a
 ·exact .inl rfl
 ·exact .inr ⟨rfl,h⟩
theorem rrMay_c (x:St) (hok:x.Ok) (hus: ∀d∈x.job.nodes,d.uid.size<=1000000) (hnl:x.job.nodes.length<=1000) (v:Value) (w:World) (P:Nat->Prop) (hv:StIn w P v x) (hP: ∀b,P b->b<w.heap.size):
  CB prog 15 #[v] w (.bool x.mayB):=by
 obtain⟨sv,rfl,hn⟩:=hv;have HS:Hd (∀W:World,Below w.heap.size w W->CB prog 49 #[.agg #[.int .i64 x.job.par,sv],.agg #[.int .i64 0,.slice none 0 0]] W (.bool (x.job.sameB ⟨0,[]⟩))):=fun W hb=>
  rJSame_c x.job ⟨0,[]⟩ _ _ w.heap.size W ⟨_,rfl,(hn.toAt hP).keep hb⟩ ⟨_,rfl,(NodesIn.nil W (fun _=>False)).toAt (fun _ h=>h.elim)⟩ hb.size
 have HM:Hd (∀W:World,Below w.heap.size w W->CB prog 50 #[.agg #[.int .i64 x.job.par,sv]] W (.tuple #[.int .i64 x.job.may.1,.int .i64 x.job.may.2])):=fun W hb=>
  rMayJ_c x.job hok.job hus hnl _ w.heap.size W ⟨_,rfl,(hn.toAt hP).keep hb⟩ hb.size
 have HE:Hd (x.mayB=if x.kind=1 then decide (1<=x.n)&&(decide (0<=x.cut)&&(decide (x.cut<=x.too)&&(x.job.may.2==0&&(x.part==0&&(x.at_==0&&x.why==0)))))
  else if x.kind=3 then x.noneB&&((x.part==0||x.part==1)&&(decide (0<=x.at_)&&x.why==0))else if x.kind=6 then x.noneB&&(x.part==0&&(x.at_==0&&decide (1<=x.why)))
  else if x.kind=2\/x.kind=4\/x.kind=5 then x.noneB&&(x.part==0&&(x.at_==0&&x.why==0))else false):=rfl
 have HNB:Hd (x.noneB=(x.job.sameB ⟨0,[]⟩&&(x.n==0&&(x.cut==0&&x.too==0)))):=rfl;obtain⟨a,cap,rfl,-,-⟩:=hn.slice;have hA:=(Below.refl w.heap.size w).alloc le0 (.cells #[.int .u8 (x.kind:Int),.int .i64 x.n,.int .i64 x.cut,.int .i64 x.too,.int .i64 x.job.par,.slice a x.job.nodes.length cap,.int .i64 x.part,.int .i64 x.at_,.int .i64 x.why] 47);have hx:=Blk.new w #[.int .u8 (x.kind:Int),.int .i64 x.n,.int .i64 x.cut,.int .i64 x.too,.int .i64 x.job.par,.slice a x.job.nodes.length cap,.int .i64 x.part,.int .i64 x.at_,.int .i64 x.why] 47;clear hn;generalize x.mayB=R at*;generalize x.noneB=nb at*;generalize x.job.sameB ⟨0,[]⟩=js at*;generalize x.job.may=jm at*;obtain⟨jm1,jm2⟩:=jm;unfold stC;go_enter func15,ntmps15
 go_upto_region 1 with fail
 generalize World.alloc w _=W at*;obtain⟨x0,x1,x2,x3,x4,x5,x6,x7,x8⟩:=hx.q9;have HS2:=Lh (HS.o W hA)
 go_cut [3] (fun s3 wx=>s3= .bool nb/\Below W.heap.size W wx)
 case first=>
  rcases ff js (ff (x.n==0) (ff (x.cut==0) trivial))with h1|⟨h1,h2|⟨h2,h3|⟨h3,-⟩⟩⟩
  all_goals
   rw[h1]at HS2 HNB
   (try rw[h2]at HNB)
   (try rw[h3]at HNB)
   go_wp2_with (go_at_call 49;refine HS2.o.mono ?_;rintro e w3 ⟨rfl,hb3⟩;have hx3:=hx.below hb3 hx.lt;have x1:=hx3.cell 1;have x2:=hx3.cell 2;have x3:=hx3.cell 3)
   go_meet;exact⟨by rw[HNB.o];rfl,hb3⟩
 case rest=>
 obtain⟨rfl,hb3⟩:=hcut;have hx3:=hx.below hb3 hx.lt;have hB3:=hA.trans (hb3.mono hA.size);have HM2:=Lh (HM.o wc hB3);have x4:=hx3.cell 4;have x5:=hx3.cell 5;clear x0 x1 x2 x3 x6 x7 x8 hx HS HS2 HNB HM hA hb3
 go_upto_region 3 with (go_at_call 50;refine HM2.o.mono ?_;rintro e w4 ⟨rfl,hb4⟩)
 have hx4:=hx3.below hb4 hx3.lt;have HB:=Lh (hB3.trans (hb4.mono hB3.size));clear x4 x5 hx3 hB3 hb4;have hx:=hx4;obtain⟨x0,x1,x2,x3,x4,x5,x6,x7,x8⟩:=hx.q9;have hcase:(x.kind=1\/x.kind=3\/x.kind=6)\/(x.kind=2\/x.kind=4\/x.kind=5)\/(((x.kind:Int)==1)=false/\((x.kind:Int)==3)=false/\((x.kind:Int)==6)=false/\((x.kind:Int)==2)=false/\((x.kind:Int)==4)=false/\((x.kind:Int)==5)=false):=by
  simp only[bq0];omega
 have hx1:=hx;generalize x.kind=kd at*;rcases hcase with (rfl|rfl|rfl)|hc|⟨k1,k3,k6,k2,k4,k5⟩
 ·rw[if_pos rfl]at HE;rcases ff (decide (1<=x.n)) (ff (decide (0<=x.cut)) (ff (decide (x.cut<=x.too)) (ff (jm2==0) (ff (x.part==0) (ff (x.at_==0) trivial)))))with h1|⟨h1,h2|⟨h2,h3|⟨h3,h4|⟨h4,h5|⟨h5,h6|⟨h6,-⟩⟩⟩⟩⟩⟩
  all_goals
   (try rw[h1]at HE)
   (try rw[h2]at HE)
   (try rw[h3]at HE)
   (try rw[h4]at HE)
   (try rw[h5]at HE)
   (try rw[h6]at HE)
   go_wp2_with fail
   go_ret;rw[HE.o];exact⟨by simp,HB.o⟩
 ·rw[if_neg (by decide),if_pos rfl]at HE;have hc:nb=false\/nb=true/\((x.part==0)=true/\(decide (0<=x.at_)=false\/decide (0<=x.at_)=true)\/(x.part==0)=false/\(x.part==1)=false\/(x.part==0)=false/\(x.part==1)=true/\(decide (0<=x.at_)=false\/decide (0<=x.at_)=true)):=by
   cases nb<;>cases (x.part==0)<;>cases (x.part==1)<;>cases decide (0<=x.at_)<;>simp
  rcases hc with h1|⟨h1,⟨h2,h4|h4⟩|⟨h2,h3⟩|⟨h2,h3,h4|h4⟩⟩
  all_goals
   (try rw[h1]at HE)
   (try rw[h2]at HE)
   (try rw[h3]at HE)
   (try rw[h4]at HE)
   (try rw[h5]at HE)
   (try rw[h6]at HE)
   go_wp2_with fail
   go_ret;rw[HE.o];exact⟨by simp,HB.o⟩
 ·rw[if_neg (by decide),if_neg (by decide),if_pos rfl]at HE;rcases ff nb (ff (x.part==0) (ff (x.at_==0) trivial))with h1|⟨h1,h2|⟨h2,h3|⟨h3,-⟩⟩⟩
  all_goals
   (try rw[h1]at HE)
   (try rw[h2]at HE)
   (try rw[h3]at HE)
   (try rw[h4]at HE)
   (try rw[h5]at HE)
   (try rw[h6]at HE)
   go_wp2_with fail
   go_ret;rw[HE.o];exact⟨by simp,HB.o⟩
 ·rw[if_neg (by omega),if_neg (by omega),if_neg (by omega),if_pos hc]at HE;rcases hc with rfl|rfl|rfl
  all_goals
   rcases ff nb (ff (x.part==0) (ff (x.at_==0) trivial))with h1|⟨h1,h2|⟨h2,h3|⟨h3,-⟩⟩⟩
  all_goals
   (try rw[h1]at HE)
   (try rw[h2]at HE)
   (try rw[h3]at HE)
   (try rw[h4]at HE)
   (try rw[h5]at HE)
   (try rw[h6]at HE)
   go_wp2_with fail
   go_ret;rw[HE.o];exact⟨by simp,HB.o⟩
 ·have h0: ¬(kd=2\/kd=4\/kd=5):=by simp only[bq0]at k2 k4 k5;omega
  simp only[bq0]at k1 k3 k6;rw[if_neg (by omega),if_neg (by omega),if_neg (by omega),if_neg h0]at HE;rw[<-bq0]at k1 k3 k6;clear h0
  go_wp2_with fail
  go_ret;rw[HE.o];exact⟨rfl,HB.o⟩
theorem rrText_c (x:St) (hok:x.Ok) (hmay:x.mayB=true) (v:Value) (w:World) (P:Nat->Prop) (hv:StIn w P v x) (hP: ∀b,P b->b<w.heap.size):
  CB prog 58 #[v] w (.string x.text):=by
 obtain⟨sv,rfl,hn⟩:=hv;have hnums:=St.nums_ok hok;have HPL:Hd (∀W:World,Calls prog 97 #[.slice (some ⟨W.heap.size,0,none⟩) 6 6] (W.alloc (.cells #[.int .i64 x.n,.int .i64 x.cut,.int .i64 x.too,.int .i64 x.part,.int .i64 x.at_,.int .i64 x.why] 2)) fun e w'=>e= .returned (.string (bstr (putL x.nums)))/\Below W.heap.size W w'):=
  fun W=>rputLit_c x.nums 6 _ rfl rfl hnums (by omega) W
 have hpl:(putL x.nums).length<=60:=putL_len x.nums hnums;have hA:=(Below.refl w.heap.size w).alloc le0 (.cells (stC x sv) 47);have hbx:=Blk.new w (stC x sv) 47;have HTX:Hd (x.text=bstr (putL x.nums++if x.kind=1 then txtL (bstr x.job.by)else [])):=rfl;generalize x.text=TX at*;by_cases hk:x.kind=1
 ·have hjm:=St.may_job hmay hk;have hsm:=by_small hok.job hjm;obtain⟨hus,hnl⟩:=Jb.may_small hok.job hjm;have hput:x.job.putR=(x.job.by,0):=by unfold Jb.putR;rw[if_pos hjm]
  have HPP:Hd (∀W:World,Below w.heap.size w W->CB prog 98 #[.agg #[.int .i64 x.job.par,sv]] W (.tuple #[.string (bstr x.job.by),.int .i64 0])):=by
   intro W hb;have:=rPut14_c x.job hok.job hus hnl (.agg #[.int .i64 x.job.par,sv]) w.heap.size W ⟨sv,rfl,(hn.toAt hP).keep hb⟩ hb.size;rwa[hput]at this
  have HPT:Hd (∀W:World,Calls prog 99 #[.string (bstr x.job.by)] W fun e w'=>e= .returned (.tuple #[.string (bstr (txtL (bstr x.job.by))),.int .i64 0])/\Below W.heap.size W w'):=fun W=>rPutText_c (bstr x.job.by) (by rw[bstr_size];omega) W;rw[if_pos hk]at HTX;have hkb:((x.kind:Int)==1)=true:=by rw[beq_iff_eq];omega
  have htl:(txtL (bstr x.job.by)).length<=65546:=by
   have:=(txtL_len (bstr x.job.by) (by rw[bstr_size];omega)).1;rw[bstr_size]at this;omega
  obtain⟨TY,hTY⟩: ∃TY,bstr (txtL (bstr x.job.by))=TY:=⟨_,rfl⟩;have hz1:(bstr (putL x.nums)).size<=60:=by rw[bstr_size];exact hpl
  have hz2:TY.size<=65546:=by rw[<-hTY,bstr_size];exact htl
  rw[<-bstr_app,hTY]at HTX;rw[hTY]at HPT;obtain⟨a,cap,rfl,-,-⟩:=hn.slice;clear hn hsm hput htl hTY hjm hpl hnums hok hmay hk;generalize bstr (putL x.nums)=SN at*;generalize bstr x.job.by=JB at*
  unfold stC at hbx hA⊢;go_enter func58,ntmps58
  go_upto_region 1 with fail
  generalize World.alloc w _=W1 at*;have HPL2:=Lh (HPL.o W1);have q1:=hbx.cell 1;have q2:=hbx.cell 2;have q3:=hbx.cell 3;have q6:=hbx.cell 6;have q7:=hbx.cell 7;have q8:=hbx.cell 8
  go_upto_region 2 with (first|(go_at_call 97;refine HPL2.o.mono ?_;rintro e w2 ⟨rfl,hb2⟩)|fail)
  have hbx2:=hbx.below hb2 hbx.lt;have hB2:=hA.trans (hb2.mono hA.size);have g0:=hbx2.cell 0;have g4:=hbx2.cell 4;have g5:=hbx2.cell 5;have HPP2:=Lh (HPP.o w2 hB2);clear q1 q2 q3 q6 q7 q8 hbx hA hb2 HPL HPL2 HPP
  go_wp2_with (first|(go_at_call 98;refine HPP2.o.mono ?_;rintro e w3 ⟨rfl,hb3⟩)|(go_at_call 99;refine(HPT.o _).mono ?_;rintro e w4 ⟨rfl,hb4⟩)|fail)
  go_ret;rw[HTX.o];exact⟨rfl,(hB2.trans (hb3.mono hB2.size)).trans (hb4.mono (le1 hB2.size hb3.size))⟩
 ·rw[if_neg hk,List.append_nil]at HTX;have hkb:((x.kind:Int)==1)=false:=by rw[bq0];omega
  obtain⟨a,cap,rfl,-,-⟩:=hn.slice;clear hn hpl hnums hok hmay hk;generalize bstr (putL x.nums)=SN at*;unfold stC at hbx hA⊢;go_enter func58,ntmps58
  go_upto_region 1 with fail
  generalize World.alloc w _=W1 at*;have HPL2:=Lh (HPL.o W1);have q1:=hbx.cell 1;have q2:=hbx.cell 2;have q3:=hbx.cell 3;have q6:=hbx.cell 6;have q7:=hbx.cell 7;have q8:=hbx.cell 8
  go_upto_region 2 with (first|(go_at_call 97;refine HPL2.o.mono ?_;rintro e w2 ⟨rfl,hb2⟩)|fail)
  have hbx2:=hbx.below hb2 hbx.lt;have hB2:=hA.trans (hb2.mono hA.size);have g0:=hbx2.cell 0;clear q1 q2 q3 q6 q7 q8 hbx hA hb2 HPL HPL2
  go_wp2_with fail
  go_ret;rw[HTX.o];exact⟨rfl,hB2⟩

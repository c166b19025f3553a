/- Parts. -/
import Derived.Deep.DrawnRows
import Derived.Test.YtgbfdcmkbblodaaGreatDoorVW9a
namespace Go.Proofs.YtgbfdcmkbblodaaGreatDoor
open Go.RowKit
set_option linter.unusedVariables false
set_option linter.unusedSimpArgs false
set_option maxRecDepth 100000
set_option maxHeartbeats 16000000
open Tryz
theorem info_intJ:(prog.info? 3).map (fun i=>(i.zero,i.size,i.bytes))=some (some (.int .i64 0),1,8):=by kernel_rfl
theorem cell_one_newJ (w:World) (a:Value) (t:TypeId): ∀j u,[a][j]? =some u->(w.alloc (.cells #[a] t)).cell? ((⟨w.heap.size,0,none⟩:Addr).add j)=some u:=by
 intro j u hj;have hj4:j<1:=(List.getElem?_eq_some_iff.1 hj).1;rw[Addr.add_lit,Nat.zero_add,(Blk.new w #[a] t).cell j];simpa using hj
def readersGo (at_:Int):List Nd->Nat->List Int
 | [],_=> []
 |d::l,k=>bif d.ins.any (fun y=>at_==y)then(k:Int)::readersGo at_ l (k+1)else readersGo at_ l (k+1)
def Jb.readers (j:Jb) (at_:Int):List Int:=readersGo at_ j.nodes 0
structure RdRel (at_:Int) (l:List Nd) (w:World) (s q:Value) (wr:World):Prop where
 ex: ∃(k:Nat) (xs:List Int),q= .int .i64 k/\k<=l.length/\Below w.heap.size w wr/\wr.ownsRow w.heap.size 3 1 s xs.length (xs.map (Value.int .i64))/\xs.length<=k/\xs++readersGo at_ (l.drop k) k=readersGo at_ l 0
theorem readers_c (jb:Jb) (at_:Int) (v:Value) (B:Nat) (w:World) (hv:JbAt w B v jb) (hB:B<=w.heap.size) (hlen:jb.nodes.length<=1000):
  Calls prog 128 #[v,.int .i64 at_] w fun e w'=> ∃v',e= .returned v'/\Sl w' w'.heap.size 1 v' (jb.readers at_).length ((jb.readers at_).map (Value.int .i64))/\Below w.heap.size w w':=by
 obtain⟨i0,hi,hz0,hz1,hz2⟩:=info_parts info_intJ;have HE:Hd (jb.readers at_=readersGo at_ jb.nodes 0):=rfl;obtain⟨sv,rfl,hs⟩:=hv;obtain⟨a,cap,rfl,hcap,hmx⟩:=hs.slice;have HS:=Lh hs;generalize jb.nodes=l at*;generalize jb.par=par at*;generalize jb.readers at_=rr at*;clear hs;have hW:=(Below.refl w.heap.size w).alloc le0 (.cells #[.int .i64 par,.slice a l.length cap] 24);go_enter func128,ntmps128
 go_wp2_with fail
 generalize World.alloc w _=W at*
 go_loopw [5,11] (fun s q wr=>RdRel at_ l w s q wr) (fun _ q _=>l.length-(intOf q).toNat)
 case atStart=>exact⟨⟨0,[],rfl,ze0,hW,World.ownsRow_nil _ _ _ _,le0,rfl⟩⟩
 case round=>
  obtain⟨k,xs,rfl,hk,hBr,hown,hxk,hr⟩:=hrel.ex;clear hrel;by_cases hlt:k<l.length
  ·obtain⟨b,off,cp,e1,hb,hu,iv,sv,c0,c1,c2,c3,c4,c5,c6,hin⟩:=((HS.o.mono hB).keep hBr).at_ k hlt;simp only[vs0,true_and]at e1;obtain⟨rfl,rfl⟩:=e1;obtain⟨a2,cap2,rfl,_,_⟩:=hin.2.slice;obtain⟨_,ai,capi,rfl,_,_,_⟩:=id hin.1;rw[List.drop_eq_getElem_cons hlt]at hr;simp only[readersGo]at hr;have hsl:=fun X (hX:Below w.heap.size wr X)=>hin.1.below hX;generalize l[k]=y at*;have HSL:=Lh hsl;have HR:=Lh hr;rename_i hx1 hx2 hx3;clear hr hin hsl hx1 hx2 hx3;have hbw:w.heap.size<=wr.heap.size:=hBr.size
   cases hc:y.ins.any (fun z=>at_==z)
   all_goals
    have HC:=Lh hc;clear hc
   ·go_wp2_with (go_at_call 163;refine(ContainsInt_c y.ins _ _ at_ _ _ (HSL.o _ (br0.alloc hbw _)) rfl).mono ?_;rintro e w3 ⟨rfl,rfl⟩;rw[HC.o])
    go_roundw
    case rel=>exact⟨⟨k+1,xs,by go_num,by omega,hBr.alloc hbw _,hown.alloc _,by omega,by rw[<-HR.o,HC.o];rfl⟩⟩
    case measure=>simp[intOf];omega
   ·have hBn:=hBr.alloc hbw (.cells #[.string y.uid,.int .u8 y.kind,.slice ai y.ins.length capi,.int .u8 y.x.op,.int .i64 y.x.n,.slice a2 y.x.args.length cap2,.int .i64 y.n] 135);have hon:=hown.alloc (.cells #[.string y.uid,.int .u8 y.kind,.slice ai y.ins.length capi,.int .u8 y.x.op,.int .i64 y.x.n,.slice a2 y.x.args.length cap2,.int .i64 y.n] 135)
    go_upto_region 6 with (go_at_call 163;refine(ContainsInt_c y.ins _ _ at_ _ _ (HSL.o _ (br0.alloc hbw _)) rfl).mono ?_;rintro e w3 ⟨rfl,rfl⟩;rw[HC.o])
    generalize World.alloc wr _=W2 at*;have hbw2:=hBn.size
    go_wp2_with (at_builtin;refine wpList_append_own _ rfl (.tmp 20) (.tmp 22) 130 rfl w.heap.size 3 i0 (.int .i64 0) 1 8 underlying130 hi hz0 hz1 hz2 rfl (by decide) u5 xs.length (xs.map (Value.int .i64)) rfl (hon.alloc _) ⟨W2.heap.size,0,none⟩ 1 1 [.int .i64 (k:Int)] rfl rfl (cell_one_newJ _ _ _) (by simp[Value.oneCell']) (by unfold maxLen;omega) (by omega) (by simp;omega) ?_;intro v1' w3 hown3 hgrow3 _)
    have hb3: ∀k,u5.ownBlock=some k->w.heap.size<=k:=fun k hk=>(hon.lt k hk).1;have hB3:Below w.heap.size w w3:=(hBn.alloc hbw2 _).grown hgrow3 (by simp;omega) hb3;go_roundw
    case rel=>
     refine⟨⟨k+1,xs++ [(k:Int)],by go_num,by omega,hB3,?_,by simp;omega,by rw[<-HR.o,HC.o];simp⟩⟩;simpa using hown3
    case measure=>simp[intOf];omega
  ·rw[List.drop_of_length_le (by omega)]at hr;simp only[readersGo,List.append_nil]at hr;subst hr;have HO:=Lh (Sl.of_owns hown);go_wp2;go_ret;refine⟨_,rfl,?_,hBr⟩;rw[HE.o];exact HO.o
theorem find1_c (d:Nd) (u:ByteArray) (b:Nat) (v:Value) (B:Nat) (w:World) (hv:NdAt w B v d) (hu:w.cell? ⟨b,0,none⟩=some (.string u)) (hb:b<w.heap.size):
  CB prog 130 #[v,.pointer (some ⟨b,0,none⟩)] w (.bool (decide (d.uid=u))):=by
 obtain⟨iv,sv,rfl,⟨hi,hs⟩,hu2⟩:=hv;obtain⟨_,ai,capi,rfl,hc1,hm1,_⟩:=id hi;obtain⟨ax,capx,rfl,hc2,hm2⟩:=hs.slice;have hbi:=bytes_inj d.uid u;have HU:=Lh hu;by_cases hxy:d.uid=u
 ·have HXY:Hd (decide (d.uid=u)=true):=dt0 hxy;have hq:(d.uid.toList==u.toList)=true:=by simpa using hbi.2 hxy
  clear hbi hxy;go_enter func130,ntmps130;go_wp2;go_ret;exact⟨ret_bool HXY.o.symm,br0.alloc le0 _⟩
 ·have HXY:Hd (decide (d.uid=u)=false):=df0 hxy;have hq:(d.uid.toList==u.toList)=false:=by simpa using fun h=>hxy (hbi.1 h)
  clear hbi hxy;go_enter func130,ntmps130;go_wp2;go_ret;exact⟨ret_bool HXY.o.symm,br0.alloc le0 _⟩
theorem IndexNode_c (l:List Nd) (n:Nat) (u:ByteArray) (bu:Nat) (v:Value) (B:Nat) (w:World) (h:NodesAt w B l v) (hB:B<=w.heap.size) (hn:l.length=n) (hb:w.cell? ⟨bu,0,none⟩=some (.string u)) (hbl:bu<w.heap.size):
  Calls prog 129 #[v,.func (.func 130) #[] #[.pointer (some ⟨bu,0,none⟩)]] w fun e w'=>e= .returned (.int .i64 (idxZ (fun d:Nd=>decide (d.uid=u)) l 0))/\Below w.heap.size w w':=by
 obtain⟨a,cap,rfl,hcap,hmx⟩:=h.slice;have HS:=Lh h;have HB:=Lh hb;have hlm:n<=9223372036854775807:=by unfold maxLen at hmx;omega
 have HN:=Lh hn;rw[hn];clear h hb hn hcap hmx;go_enter func129,ntmps129;go_wp2
 go_loopw [8] (fun q wr=> ∃k:Nat,q= .int .i64 k/\k<=n/\Below w.heap.size w wr/\idxZ (fun d:Nd=>decide (d.uid=u)) (l.drop k) k=idxZ (fun d:Nd=>decide (d.uid=u)) l 0) (fun q _=>n-(intOf q).toNat)
 case atStart=>exact⟨0,rfl,ze0,Below.refl _ _,rfl⟩
 case round=>
  obtain⟨k,rfl,hk,hBr,hr⟩:=hrel;by_cases hlt:k<n
  ·obtain⟨b,off,cp,e1,hb',hu,iv,sv,c0,c1,c2,c3,c4,c5,c6,hin⟩:=((HS.o.mono hB).keep hBr).at_ k (by have:=HN.o;omega);rw[HN.o]at e1;simp only[vs0,true_and]at e1;obtain⟨rfl,rfl⟩:=e1;obtain⟨a2,cap2,rfl,_,_⟩:=hin.2.slice;obtain⟨_,ai,capi,rfl,_,_,_⟩:=id hin.1;rw[List.drop_eq_getElem_cons (by have:=HN.o;omega)]at hr;simp only[idxZ]at hr;generalize l[k]'_=y at*;have HY:Hd (NdAt wr w.heap.size (.agg #[.string y.uid,.int .u8 y.kind,.slice ai y.ins.length capi,.int .u8 y.x.op,.int .i64 y.x.n,.slice a2 y.x.args.length cap2,.int .i64 y.n]) y):=⟨_,_,rfl,hin,hu⟩;have HR:=Lh hr;rename_i hx1 hx2 hx3;clear hr hin hx1 hx2 hx3 hu;have hbw:w.heap.size<=wr.heap.size:=hBr.size;have HBr:=Lh ((hBr.cell (p:=⟨bu,0,none⟩) hbl).trans HB.o)
   cases hc:decide (y.uid=u)
   all_goals
    have HC:=Lh hc;clear hc
    go_wp2_with (go_at_call 130;refine(find1_c y u bu _ _ _ HY.o HBr.o (by omega)).mono ?_;rintro e w3 ⟨rfl,hb3⟩;rw[HC.o])
   ·go_roundw
    case rel=>exact⟨k+1,by go_num,by omega,hBr.trans (hb3.mono hbw),by rw[<-HR.o,HC.o];rfl⟩
    case measure=>simp[intOf];omega
   ·go_ret;exact⟨ret_int (by rw[<-HR.o,HC.o];rfl),hBr.trans (hb3.mono hbw)⟩
  ·rw[List.drop_of_length_le (by have:=HN.o;omega)]at hr;have HR:=Lh hr;clear hr;go_wp2;go_ret;exact⟨ret_int (by rw[<-HR.o];rfl),hBr⟩
def Jb.find (j:Jb) (u:ByteArray):Int:=idxZ (fun d:Nd=>decide (d.uid=u)) j.nodes 0
theorem Find_c (jb:Jb) (u:ByteArray) (v:Value) (B:Nat) (w:World) (hv:JbAt w B v jb) (hB:B<=w.heap.size):
  CB prog 72 #[v,.string u] w (.int .i64 (jb.find u)):=by
 have hmf: ∀(fn:Fn) (first cap:Array Value) (w:World),(Instr.makeFunc fn first cap).run prog w= .ok (.func fn first cap) w:=fun _ _ _ _=>rfl;obtain⟨sv,rfl,hs⟩:=hv;obtain⟨a,cap,rfl,hcap,hmx⟩:=hs.slice;have HS:=Lh hs;have HE:Hd (jb.find u=idxZ (fun d:Nd=>decide (d.uid=u)) jb.nodes 0):=rfl;generalize jb.nodes=l at*;generalize jb.par=par at*;have hb2:=((Below.refl w.heap.size w).alloc le0 (.cells #[.int .i64 par,.slice a l.length cap] 24)).alloc (by simp) (.cells #[.string u] 9);have hN:=Lh ((Blk.new_at (w.alloc (.cells #[.int .i64 par,.slice a l.length cap] 24)) #[.string u] 9 (k:=w.heap.size+1) (by simp)).cell 0);have HSZ:Hd (((w.alloc (.cells #[.int .i64 par,.slice a l.length cap] 24)).alloc (.cells #[.string u] 9)).heap.size=w.heap.size+2):=by simp[Hd]
 clear hs;go_enter func72,ntmps72
 go_wp2_with (go_at_call 129;refine(IndexNode_c l _ u (w.heap.size+1) _ w.heap.size _ ((HS.o.mono hB).keep hb2) hb2.size rfl hN.o (by have:=HSZ.o;omega)).mono ?_;rintro e w3 ⟨rfl,hb3⟩)
 go_ret;exact⟨ret_int HE.o.symm,hb2.trans (hb3.mono hb2.size)⟩
def RSameC (h:Nat):Prop:= ∀(x y:Ex) (v u:Value) (B:Nat) (w:World),x.ht<=h->ExAt w B v x->ExAt w B u y->B<=w.heap.size->
 CB prog 96 #[v,u] w (.bool (x.sameB y))
theorem rsame_step (h:Nat) (IH:Hd (∀x y:Ex,x.ht<h-> ∀(v u:Value) (B:Nat) (w:World),ExAt w B v x->ExAt w B u y->B<=w.heap.size->
   CB prog 96 #[v,u] w (.bool (x.sameB y)))):RSameC h:=by
 intro x y v u B w hh hv hu hB;have HLT:Hd (∀a∈x.args,a.ht<h):=fun a ha=>by have:=Ex.ht_args x a ha;omega
 have HE:=Lh (Ex.sameB_eq x y);obtain⟨sv,rfl,hs⟩:=hv;obtain⟨su,rfl,ht⟩:=hu;obtain⟨a,cap,rfl,hcap,hmx⟩:=hs.slice;obtain⟨a',cap',rfl,hcap',hmx'⟩:=ht.slice;have HS:=Lh hs;have HT:=Lh ht;generalize x.op=o at*;generalize x.n=n at*;generalize y.op=o' at*;generalize y.n=n' at*;generalize x.args=l at*;generalize y.args=m at*;clear hs ht hh;have hlm:l.length<=9223372036854775807:=by unfold maxLen at hmx;omega
 by_cases h1:o=o'
 ·by_cases h2:n=n'
  ·by_cases h3:l.length=m.length
   ·have hq1:(o !=o')=false:=by simpa using h1
    have hq2:(n !=n')=false:=by simpa using h2
    have HE2:Hd (x.sameB y=Exs.sameB l m):=by show _=_;rw[HE.o,dt0 h1,dt0 h2];rfl
    obtain⟨k,hk⟩: ∃k,l.length=k:=⟨_,rfl⟩;have hk':m.length=k:=by omega
    rw[hk]at hlm;have HK:=Lh hk;have HK':=Lh hk';rw[hk,hk'];clear h1 h2 HE hk hk' h3;go_enter func96,ntmps96;go_wp2;have hW:=((Below.refl w.heap.size w).alloc le0 (.cells #[.int .u8 o,.int .i64 n,.slice a k cap] 133)).alloc (by simp) (.cells #[.int .u8 o',.int .i64 n',.slice a' k cap'] 133);have hb1:=(Blk.new w #[.int .u8 o,.int .i64 n,.slice a k cap] 133).alloc (.cells #[.int .u8 o',.int .i64 n',.slice a' k cap'] 133);have hb2:=Blk.new_at (w.alloc (.cells #[.int .u8 o,.int .i64 n,.slice a k cap] 133)) #[.int .u8 o',.int .i64 n',.slice a' k cap'] 133 (k:=w.heap.size+1) (by simp);have hsz:((w.alloc (.cells #[.int .u8 o,.int .i64 n,.slice a k cap] 133)).alloc (.cells #[.int .u8 o',.int .i64 n',.slice a' k cap'] 133)).heap.size=w.heap.size+2:=by simp
    generalize World.alloc (World.alloc w _) _=W at*;have HSZ:=Lh hsz;have hsz1:w.heap.size+2<=W.heap.size:=by omega
    clear hsz
    go_loopw [5] (fun q wr=> ∃j:Nat,q= .int .i64 j/\j<=k/\Below W.heap.size W wr/\Exs.sameB (l.drop j) (m.drop j)=Exs.sameB l m) (fun q _=>k-(intOf q).toNat)
    case atStart=>exact⟨0,rfl,ze0,Below.refl _ _,rfl⟩
    case round=>
     obtain⟨j,rfl,hj,hBr,hr⟩:=hrel;have hbr1:=hb1.below hBr hb1.lt;have hbr2:=hb2.below hBr hb2.lt;have p2:=hbr1.cell 2;have q2:=hbr2.cell 2;by_cases hlt:j<k
     ·have hj1:j<l.length:=by have:=HK.o;omega
      have hj2:j<m.length:=by have:=HK'.o;omega
      have hBw:=hW.trans (hBr.mono (by omega));obtain⟨b,off,cp,sv,e1,hb,c0,c1,c2,hsub⟩:=((HS.o.mono hB).keep hBw).at_ j hj1;obtain⟨b',off',cp',sv',e2,hb',d0,d1,d2,hsub'⟩:=((HT.o.mono hB).keep hBw).at_ j hj2;rw[HK.o]at e1;rw[HK'.o]at e2;simp only[vs0,true_and]at e1 e2;obtain⟨rfl,rfl⟩:=e1;obtain⟨rfl,rfl⟩:=e2;obtain⟨a2,cap2,rfl,_,_⟩:=hsub.slice;obtain⟨a3,cap3,rfl,_,_⟩:=hsub'.slice;rw[List.drop_eq_getElem_cons hj1,List.drop_eq_getElem_cons hj2]at hr;simp only[Exs.sameB]at hr;have hht:=HLT.o _ (List.getElem_mem hj1);generalize l[j]=x' at*;generalize m[j]=y' at*;have HX:Hd (ExAt wr w.heap.size (.agg #[.int .u8 x'.op,.int .i64 x'.n,.slice a2 x'.args.length cap2]) x'):=⟨_,rfl,hsub⟩;have HY:Hd (ExAt wr w.heap.size (.agg #[.int .u8 y'.op,.int .i64 y'.n,.slice a3 y'.args.length cap3]) y'):=⟨_,rfl,hsub'⟩;have HR:=Lh hr;clear hr hsub hsub';go_wp2
      go_still_tail 10,(by kernel_rfl)
      cases hs:x'.sameB y'
      all_goals
       have HSB:=Lh hs;clear hs
       go_wp2_with (go_at_call 96;refine(IH.o x' y' hht _ _ w.heap.size _ (HX.o.keep (Below.refl _ wr).drew) (HY.o.keep (Below.refl _ wr).drew) (by have:=hBr.size;first|omega|(simp;omega))).mono ?_;rintro e w3 ⟨rfl,hb3⟩;rw[HSB.o])
      ·go_ret;exact⟨ret_bool (by rw[HE2.o,<-HR.o,HSB.o];rfl),hBw.drew.trans (hb3.mono hBw.size)⟩
      ·go_roundw
       case rel=>exact⟨j+1,by go_num,by omega,hBr.drew.trans (hb3.mono hBr.size),by rw[<-HR.o,HSB.o,Bool.true_and]⟩
       case measure=>simp[intOf];omega
     ·rw[List.drop_of_length_le (by have:=HK.o;omega),List.drop_of_length_le (by have:=HK'.o;omega)]at hr;have HR:=Lh hr;clear hr;go_wp2;go_ret;exact⟨ret_bool (by rw[HE2.o,<-HR.o];rfl),hW.trans (hBr.mono (by omega))⟩
   ·have hq1:(o !=o')=false:=by simpa using h1
    have hq2:(n !=n')=false:=by simpa using h2
    have hq3:((l.length:Int) !=(m.length:Int))=true:=by rw[bne_iff_ne];omega
    have HE2:Hd (x.sameB y=false):=by show _=_;rw[HE.o,Exs.sameB_len l m h3,Bool.and_false,Bool.and_false]
    clear h1 h2 h3 HE;go_enter func96,ntmps96;go_wp2;go_ret;exact⟨ret_bool HE2.o.symm,(br0.alloc le0 _).alloc (by simp) _⟩
  ·have hq1:(o !=o')=false:=by simpa using h1
   have hq2:(n !=n')=true:=by simpa using h2
   have HE2:Hd (x.sameB y=false):=by show _=_;rw[HE.o,df0 h2,Bool.false_and,Bool.and_false]
   clear h1 h2 HE;go_enter func96,ntmps96;go_wp2;go_ret;exact⟨ret_bool HE2.o.symm,(br0.alloc le0 _).alloc (by simp) _⟩
 ·have hq1:(o !=o')=true:=by simpa using h1
  have HE2:Hd (x.sameB y=false):=by show _=_;rw[HE.o,df0 h1,Bool.false_and]
  clear h1 HE;go_enter func96,ntmps96;go_wp2;go_ret;exact⟨ret_bool HE2.o.symm,(br0.alloc le0 _).alloc (by simp) _⟩
theorem rsame_all (h:Nat):RSameC h:=by
 induction h using Nat.strongRecOn with
 |ind h ih=>exact rsame_step h (fun x y hx v u B w hv hu hB=>ih x.ht hx x y v u B w le0 hv hu hB)
theorem rSame_c (x y:Ex) (v u:Value) (B:Nat) (w:World) (hv:ExAt w B v x) (hu:ExAt w B u y) (hB:B<=w.heap.size):
  CB prog 96 #[v,u] w (.bool (x.sameB y)):=rsame_all x.ht x y v u B w le0 hv hu hB
def intsB:List Int->List Int->Bool
 | [],[]=>true
 |x::l,y::m=>(x==y)&&intsB l m
 |_,_=>false
theorem intsB_len: ∀(l m:List Int),l.length≠m.length->intsB l m=false
 | [],[],h=>absurd rfl h
 | [],_::_,_=>rfl
 |_::_,[],_=>rfl
 |x::l,y::m,h=>by simp only[intsB];rw[intsB_len l m (by simpa using h),Bool.and_false]
theorem intsB_iff: ∀(l m:List Int),intsB l m=true↔l=m
 | [],[]=>by simp[intsB]
 | [],_::_=>by simp[intsB]
 |_::_,[]=>by simp[intsB]
 |x::l,y::m=>by simp[intsB,intsB_iff l m]
theorem EqualInt_c (l1 l2:List Int) (n1 n2:Nat) (v1 v2:Value) (B:Nat) (w:World) (h1:Sl w B 1 v1 n1 (l1.map (Value.int .i64))) (h2:Sl w B 1 v2 n2 (l2.map (Value.int .i64))) (hn1:l1.length=n1) (hn2:l2.length=n2):
  Calls prog 93 #[v1,v2] w fun e w'=>e= .returned (.bool (intsB l1 l2))/\ ∃n,w'=w.drewN n:=by
 by_cases hl:n1=n2
 ·obtain rfl:n1=n2:=hl;obtain⟨_,a1,cap1,rfl,hc1,hm1,_⟩:=id h1;obtain⟨_,a2,cap2,rfl,hc2,hm2,_⟩:=id h2;have H1:=Lh h1;have H2:=Lh h2;have HN1:=Lh hn1;have HN2:=Lh hn2;have hnm:n1<=9223372036854775807:=by unfold maxLen at hm1;omega
  clear h1 h2 hn1 hn2;rename_i hx1 hx2 hx3 hx4;clear hx1 hx2 hx3 hx4;go_enter func93,ntmps93;go_wp2
  go_loopw [13] (fun i wr=> ∃k m:Nat,i= .int .i64 k/\k<=n1/\wr=w.drewN m/\intsB (l1.drop k) (l2.drop k)=intsB l1 l2) (fun i _=>n1-(intOf i).toNat)
  case atStart=>exact⟨0,0,rfl,by omega,rfl,rfl⟩
  case round=>
   obtain⟨k,m,rfl,hk,rfl,hr⟩:=hrel;by_cases hlt:k<n1
   ·obtain⟨b1,o1,c1,e1,_,g1,p0⟩:=H1.o.int k hlt;obtain⟨b2,o2,c2,e2,_,g2,q0⟩:=H2.o.int k hlt;simp only[vs0,true_and]at e1 e2;obtain⟨rfl,rfl⟩:=e1;obtain⟨rfl,rfl⟩:=e2;rw[List.drop_eq_getElem_cons g1,List.drop_eq_getElem_cons g2]at hr;generalize l1[k]=x at*;generalize l2[k]=y at*;simp only[intsB]at hr;have HR:=Lh hr;clear hr;by_cases hxy:x=y
    ·have HXY:Hd ((x==y)=true):=by simpa[Hd]using hxy
     have hq:(x !=y)=false:=by simpa using hxy
     clear hxy;go_wp2
     go_quiet (fail)
     go_wp2;go_roundw
     case rel=>exact⟨k+1,m+nq,by go_num,by omega,rfl,by rw[<-HR.o,HXY.o,Bool.true_and]⟩
     case measure=>simp[intOf];omega
    ·have HXY:Hd ((x==y)=false):=by simpa[Hd]using hxy
     have hq:(x !=y)=true:=by simpa using hxy
     clear hxy;go_wp2
     go_quiet (fail)
     go_wp2;go_ret;exact⟨ret_bool (by rw[<-HR.o,HXY.o];rfl),_,World.drewN_drewN _ _ _⟩
   ·have e1:l1.drop k=[]:=List.drop_of_length_le (by have:=HN1.o;omega);have e2:l2.drop k=[]:=List.drop_of_length_le (by have:=HN2.o;omega);rw[e1,e2]at hr;have HR:=Lh hr;clear hr e1 e2;go_wp2;go_ret;exact⟨ret_bool (by rw[<-HR.o];rfl),_,rfl⟩
 ·obtain⟨_,a1,cap1,rfl,hc1,hm1,_⟩:=h1;obtain⟨_,a2,cap2,rfl,hc2,hm2,_⟩:=h2;rename_i hx1 hx2 hx3 hx4;clear hx1 hx2 hx3 hx4;have hne:((n1:Int) !=(n2:Int))=true:=by rw[bne_iff_ne];omega
  have HE:=Lh (intsB_len l1 l2 (by omega));clear hn1 hn2;go_enter func93,ntmps93;go_wp2;go_ret;exact⟨ret_bool HE.o.symm,0,rfl⟩
def Nd.sameB (x y:Nd):Bool:=decide (x.uid=y.uid)&&((x.kind==y.kind)&&((x.n==y.n)&&(intsB x.ins y.ins&&x.x.sameB y.x)))
def Nds.sameB:List Nd->List Nd->Bool
 | [],[]=>true
 |x::l,y::m=>x.sameB y&&Nds.sameB l m
 |_,_=>false
theorem Nds.sameB_len: ∀(l m:List Nd),l.length≠m.length->Nds.sameB l m=false
 | [],[],h=>absurd rfl h
 | [],_::_,_=>rfl
 |_::_,[],_=>rfl
 |x::l,y::m,h=>by simp only[Nds.sameB];rw[Nds.sameB_len l m (by simpa using h),Bool.and_false]
def Jb.sameB (x y:Jb):Bool:=(x.par==y.par)&&Nds.sameB x.nodes y.nodes
theorem Nd.sameB_cases (x y:Nd):((x.uid=y.uid)/\(x.kind=y.kind)/\(x.n=y.n)/\intsB x.ins y.ins=true/\x.sameB y=x.x.sameB y.x)\/
  (x.sameB y=false/\(¬(x.uid=y.uid)\/(x.uid=y.uid/\ ¬x.kind=y.kind)\/(x.uid=y.uid/\x.kind=y.kind/\ ¬x.n=y.n)\/(x.uid=y.uid/\x.kind=y.kind/\x.n=y.n/\intsB x.ins y.ins=false))):=by
 unfold Nd.sameB;by_cases h1:x.uid=y.uid
 ·by_cases h2:x.kind=y.kind
  ·by_cases h3:x.n=y.n
   ·cases h4:intsB x.ins y.ins
    ·simp[h1,h2,h3]
    ·simp[h1,h2,h3]
   ·simp[h1,h2,h3]
  ·simp[h1,h2]
 ·simp[h1]
theorem nsame_c (x y:Nd) (v u:Value) (B:Nat) (w:World) (hv:NdAt w B v x) (hu:NdAt w B u y) (hB:B<=w.heap.size):
  CB prog 92 #[v,u] w (.bool (x.sameB y)):=by
 obtain⟨iv,sv,rfl,⟨hi,hs⟩,hu1⟩:=hv;obtain⟨jv,tv,rfl,⟨hj,ht⟩,hu2⟩:=hu;obtain⟨_,ai,capi,rfl,hc1,hm1,_⟩:=id hi;obtain⟨_,bi,capj,rfl,hc2,hm2,_⟩:=id hj;obtain⟨ax,capx,rfl,_,_⟩:=hs.slice;obtain⟨bx,capy,rfl,_,_⟩:=ht.slice;rename_i hx1 hx2 hx3 hx4 hx5 hx6;have hW:=((Below.refl w.heap.size w).alloc le0 (.cells #[.string x.uid,.int .u8 x.kind,.slice ai x.ins.length capi,.int .u8 x.x.op,.int .i64 x.x.n,.slice ax x.x.args.length capx,.int .i64 x.n] 135)).alloc (by simp) (.cells #[.string y.uid,.int .u8 y.kind,.slice bi y.ins.length capj,.int .u8 y.x.op,.int .i64 y.x.n,.slice bx y.x.args.length capy,.int .i64 y.n] 135);have hwz:w.heap.size+2=((w.alloc (.cells #[.string x.uid,.int .u8 x.kind,.slice ai x.ins.length capi,.int .u8 x.x.op,.int .i64 x.x.n,.slice ax x.x.args.length capx,.int .i64 x.n] 135)).alloc (.cells #[.string y.uid,.int .u8 y.kind,.slice bi y.ins.length capj,.int .u8 y.x.op,.int .i64 y.x.n,.slice bx y.x.args.length capy,.int .i64 y.n] 135)).heap.size:=by simp
 have hNX:=(Blk.new w #[.string x.uid,.int .u8 x.kind,.slice ai x.ins.length capi,.int .u8 x.x.op,.int .i64 x.x.n,.slice ax x.x.args.length capx,.int .i64 x.n] 135).alloc (.cells #[.string y.uid,.int .u8 y.kind,.slice bi y.ins.length capj,.int .u8 y.x.op,.int .i64 y.x.n,.slice bx y.x.args.length capy,.int .i64 y.n] 135);have hNY:=Blk.new_at (w.alloc (.cells #[.string x.uid,.int .u8 x.kind,.slice ai x.ins.length capi,.int .u8 x.x.op,.int .i64 x.x.n,.slice ax x.x.args.length capx,.int .i64 x.n] 135)) #[.string y.uid,.int .u8 y.kind,.slice bi y.ins.length capj,.int .u8 y.x.op,.int .i64 y.x.n,.slice bx y.x.args.length capy,.int .i64 y.n] 135 (k:=w.heap.size+1) (by simp);have HI:=Lh hi;have HJ:=Lh hj;have HX:Hd (∀X,Below w.heap.size w X->ExAt X X.heap.size (.agg #[.int .u8 x.x.op,.int .i64 x.x.n,.slice ax x.x.args.length capx]) x.x):=fun X hX=>⟨_,rfl,((hs.mono hB).keep hX).mono hX.size⟩;have HY:Hd (∀X,Below w.heap.size w X->ExAt X X.heap.size (.agg #[.int .u8 y.x.op,.int .i64 y.x.n,.slice bx y.x.args.length capy]) y.x):=fun X hX=>⟨_,rfl,((ht.mono hB).keep hX).mono hX.size⟩;have hbi:=bytes_inj x.uid y.uid;have hcs:=Nd.sameB_cases x y;clear hi hj hs ht hx1 hx2 hx3 hx4 hx5 hx6 hu1 hu2 hc1 hc2 hm1 hm2;have HCS:=Lh hcs;clear hcs;have HL1:Hd (x.ins.length=x.ins.length):=rfl;rcases HCS.o with ⟨h1,h2,h3,h4,hr⟩|⟨hr,hc⟩
 ·have q1:(x.uid.toList==y.uid.toList)=true:=by simpa using hbi.2 h1
  have q2:(x.kind==y.kind)=true:=by simpa using h2
  have q3:(x.n==y.n)=true:=by simpa using h3
  have H4:=Lh h4;have HR:=Lh hr;clear h1 h2 h3 h4 hr hbi;go_enter func92,ntmps92
  go_wp2_with fail
  generalize World.alloc (World.alloc w _) _=W at*;have HWZ:=Lh hwz;have hwz2:w.heap.size+2<=W.heap.size:=by omega
  obtain⟨x0,x1,x2,x3,x4,x5,x6⟩:=hNX.q7;obtain⟨y0,y1,y2,y3,y4,y5,y6⟩:=hNY.q7;clear hwz
  go_wp2_with (first
   |(go_at_call 93;refine(EqualInt_c x.ins y.ins _ _ _ _ B _ (HI.o.below (hW.mono hB)) (HJ.o.below (hW.mono hB)) rfl rfl).mono ?_;rintro e w3 ⟨rfl,nq,rfl⟩;rw[H4.o])
   |(go_at_call 94;refine(Same_c x.x y.x _ _ _ _ (HX.o _ (below_drewN hW nq)) (HY.o _ (below_drewN hW nq)) le0).mono ?_;rintro e w4 ⟨rfl,hb4⟩))
  go_ret;exact⟨ret_bool HR.o.symm,(below_drewN hW nq).trans (hb4.mono (by simp;omega))⟩
 ·have HR:=Lh hr;clear hr HCS;rcases hc with h1|⟨h1,h2⟩|⟨h1,h2,h3⟩|⟨h1,h2,h3,h4⟩
  ·have q1:(x.uid.toList==y.uid.toList)=false:=by simpa using fun h=>h1 (hbi.1 h)
   clear h1 hbi hNX hNY hwz;go_enter func92,ntmps92
   go_wp2_with fail
   go_ret;exact⟨ret_bool HR.o.symm,hW⟩
  ·have q1:(x.uid.toList==y.uid.toList)=true:=by simpa using hbi.2 h1
   have q2:(x.kind==y.kind)=false:=by simpa using h2
   clear h1 h2 hbi hNX hNY hwz;go_enter func92,ntmps92
   go_wp2_with fail
   go_ret;exact⟨ret_bool HR.o.symm,hW⟩
  ·have q1:(x.uid.toList==y.uid.toList)=true:=by simpa using hbi.2 h1
   have q2:(x.kind==y.kind)=true:=by simpa using h2
   have q3:(x.n==y.n)=false:=by simpa using h3
   clear h1 h2 h3 hbi hNX hNY hwz;go_enter func92,ntmps92
   go_wp2_with fail
   go_ret;exact⟨ret_bool HR.o.symm,hW⟩
  ·have q1:(x.uid.toList==y.uid.toList)=true:=by simpa using hbi.2 h1
   have q2:(x.kind==y.kind)=true:=by simpa using h2
   have q3:(x.n==y.n)=true:=by simpa using h3
   have H4:=Lh h4;clear h1 h2 h3 h4 hbi hNX hNY hwz;go_enter func92,ntmps92
   go_wp2_with (go_at_call 93;refine(EqualInt_c x.ins y.ins _ _ _ _ B _ (HI.o.below (hW.mono hB)) (HJ.o.below (hW.mono hB)) rfl rfl).mono ?_;rintro e w3 ⟨rfl,nq,rfl⟩;rw[H4.o])
   go_ret;exact⟨ret_bool HR.o.symm,below_drewN hW nq⟩
theorem eqNodes_c (l m:List Nd) (v u:Value) (B:Nat) (w:World) (hv:NodesAt w B l v) (hu:NodesAt w B m u) (hB:B<=w.heap.size):
  CB prog 91 #[v,u,.func (.func 92) #[] #[]] w (.bool (Nds.sameB l m)):=by
 obtain⟨a,cap,rfl,hcap,hmx⟩:=hv.slice;obtain⟨a',cap',rfl,hcap',hmx'⟩:=hu.slice;by_cases hlen:l.length=m.length
 ·obtain⟨n,hn⟩: ∃n,l.length=n:=⟨_,rfl⟩;have hn':m.length=n:=by omega
  have HV:=Lh hv;have HU:=Lh hu;have HN:=Lh hn;have HN':=Lh hn';have hnm:n<=9223372036854775807:=by unfold maxLen at hmx;omega
  rw[hn,hn'];clear hv hu hn hn' hlen;go_enter func91,ntmps91;go_wp2
  go_loopw [17] (fun q wr=> ∃j:Nat,q= .int .i64 j/\j<=n/\Below w.heap.size w wr/\Nds.sameB (l.drop j) (m.drop j)=Nds.sameB l m) (fun q _=>n-(intOf q).toNat)
  case atStart=>exact⟨0,rfl,ze0,Below.refl _ _,rfl⟩
  case round=>
   obtain⟨j,rfl,hj,hBr,hr⟩:=hrel;by_cases hlt:j<n
   ·have hj1:j<l.length:=by have:=HN.o;omega
    have hj2:j<m.length:=by have:=HN'.o;omega
    obtain⟨b,off,cp,e1,hb,hu,iv,sv,c0,c1,c2,c3,c4,c5,c6,hin⟩:=((HV.o.mono hB).keep hBr).at_ j hj1;obtain⟨b',off',cp',e2,hb',hu',iv',sv',d0,d1,d2,d3,d4,d5,d6,hin'⟩:=((HU.o.mono hB).keep hBr).at_ j hj2;rw[HN.o]at e1;rw[HN'.o]at e2;simp only[vs0,true_and]at e1 e2;obtain⟨rfl,rfl⟩:=e1;obtain⟨rfl,rfl⟩:=e2;obtain⟨a2,cap2,rfl,_,_⟩:=hin.2.slice;obtain⟨a3,cap3,rfl,_,_⟩:=hin'.2.slice;obtain⟨_,ai,capi,rfl,_,_,_⟩:=id hin.1;obtain⟨_,bi,capj,rfl,_,_,_⟩:=id hin'.1;rw[List.drop_eq_getElem_cons hj1,List.drop_eq_getElem_cons hj2]at hr;simp only[Nds.sameB]at hr;have hbw:=lt1 hb hBr.size;have hbw':=lt1 hb' hBr.size;generalize l[j]=x at*;generalize m[j]=y at*;have HX:Hd (∀X,Below wr.heap.size wr X->NdAt X X.heap.size (.agg #[.string x.uid,.int .u8 x.kind,.slice ai x.ins.length capi,.int .u8 x.x.op,.int .i64 x.x.n,.slice a2 x.x.args.length cap2,.int .i64 x.n]) x):=
     fun X hX=>⟨_,_,rfl,(hin.keep (hX.mono hBr.size)).mono (le1 hBr.size hX.size),hu⟩
    have HY:Hd (∀X,Below wr.heap.size wr X->NdAt X X.heap.size (.agg #[.string y.uid,.int .u8 y.kind,.slice bi y.ins.length capj,.int .u8 y.x.op,.int .i64 y.x.n,.slice a3 y.x.args.length cap3,.int .i64 y.n]) y):=
     fun X hX=>⟨_,_,rfl,(hin'.keep (hX.mono hBr.size)).mono (le1 hBr.size hX.size),hu'⟩
    have HR:=Lh hr;rename_i hx1 hx2 hx3 hx4 hx5 hx6 hx7 hx8 hx9 hx10;clear hr hin hin' hu hu' hx1 hx2 hx3 hx4 hx5 hx6 hx7 hx8 hx9 hx10
    cases hs:x.sameB y
    all_goals
     have HS:=Lh hs;clear hs
     go_wp2_with (go_at_call 92;refine(nsame_c x y _ _ _ _ (HX.o _ ((br0.alloc le0 _).alloc (by simp) _)) (HY.o _ ((br0.alloc le0 _).alloc (by simp) _)) le0).mono ?_;rintro e w3 ⟨rfl,hb3⟩;rw[HS.o])
    ·go_ret;exact⟨ret_bool (by rw[<-HR.o,HS.o];rfl),((hBr.alloc hBr.size _).alloc (by have:=hBr.size;simp;omega) _).trans (hb3.mono (by have:=hBr.size;simp;omega))⟩
    ·go_roundw
     case rel=>exact⟨j+1,by go_num,by omega,((hBr.alloc hBr.size _).alloc (by have:=hBr.size;simp;omega) _).trans (hb3.mono (by have:=hBr.size;simp;omega)),by rw[<-HR.o,HS.o,Bool.true_and]⟩
     case measure=>simp[intOf];omega
   ·rw[List.drop_of_length_le (by have:=HN.o;omega),List.drop_of_length_le (by have:=HN'.o;omega)]at hr;have HR:=Lh hr;clear hr;go_wp2;go_ret;exact⟨ret_bool (by rw[<-HR.o];rfl),hBr⟩
 ·have hne:((l.length:Int) !=(m.length:Int))=true:=by rw[bne_iff_ne];omega
  have HF:=Lh (Nds.sameB_len l m hlen);clear hlen hv hu;go_enter func91,ntmps91;go_wp2;go_ret;exact⟨ret_bool HF.o.symm,Below.refl _ _⟩
theorem JSame_c (x y:Jb) (v u:Value) (B:Nat) (w:World) (hv:JbAt w B v x) (hu:JbAt w B u y) (hB:B<=w.heap.size):
  CB prog 39 #[v,u] w (.bool (x.sameB y)):=by
 obtain⟨sv,rfl,hs⟩:=hv;obtain⟨tv,rfl,ht⟩:=hu;obtain⟨a,cap,rfl,hcap,hmx⟩:=hs.slice;obtain⟨a',cap',rfl,hcap',hmx'⟩:=ht.slice;have HS:=Lh hs;have HT:=Lh ht;have HE:Hd (x.sameB y=((x.par==y.par)&&Nds.sameB x.nodes y.nodes)):=rfl;have hW:=((Below.refl w.heap.size w).alloc le0 (.cells #[.int .i64 x.par,.slice a x.nodes.length cap] 24)).alloc (by simp) (.cells #[.int .i64 y.par,.slice a' y.nodes.length cap'] 24);clear hs ht
 cases hp:(x.par==y.par)
 ·have HP:=Lh hp;go_enter func39,ntmps39;go_wp2;go_ret;exact⟨ret_bool (by rw[HE.o,HP.o];rfl),hW⟩
 ·have HP:=Lh hp;go_enter func39,ntmps39
  go_wp2_with (go_at_call 91;refine(eqNodes_c x.nodes y.nodes _ _ B _ (HS.o.keep (hW.mono hB)) (HT.o.keep (hW.mono hB)) (by have:=hW.size;omega)).mono ?_;rintro e w3 ⟨rfl,hb3⟩)
  go_ret;exact⟨ret_bool (by rw[HE.o,HP.o];rfl),hW.trans (hb3.mono hW.size)⟩
theorem findRow_mem {r:Row}: ∀ {l:List (Row×Int)} {i:Nat} {q:Nat×Int},findRow r l i=some q-> ∃p∈l,p.1=r/\p.2=q.2
 | [],i,q,h=>by simp[findRow]at h
 |(s,t)::l,i,q,h=>by
  simp only[findRow]at h
  split at h
  ·rename_i hs
   simp only[Option.some.injEq]at h
   subst h
   exact⟨(s,t),by simp,hs.symm,rfl⟩
  ·obtain⟨p,hp,h1,h2⟩:=findRow_mem h
   exact⟨p,by simp[hp],h1,h2⟩
theorem kv8_vals: ∀p∈kv8,p.2=1\/p.2=2:=by decide+kernel
theorem getRow_vals (r:Row):getRow r kv8=0\/getRow r kv8=1\/getRow r kv8=2:=by
 unfold getRow
 cases h:findRow r kv8 0 with
 |none=>exact .inl rfl
 |some q=>
  obtain⟨p,hp,_,h2⟩:=findRow_mem h;have:=kv8_vals p hp;rw[h2]at this;exact .inr this
theorem Ex.ty_vals (x:Ex):x.ty=0\/x.ty=1\/x.ty=2:=by
 rw[Ex.ty_eq];split
 ·exact .inl rfl
 ·exact getRow_vals _
theorem Ex.ty_mem (x:Ex):x.ty∈([0,1,2]:List Int):=by
 rcases Ex.ty_vals x with h|h|h<;>rw[h]<;>simp
def RDeepC (h:Nat):Prop:= ∀(x:Ex) (v:Value) (B:Nat) (w:World) (k:Nat) (i:Int),x.ht<=h->ExAt w B v x->i=(k:Int)+1->B<=w.heap.size->k<=100->
 CB prog 283 #[v,.int .i64 i] w (.int .i64 (deepN k x))
theorem rdeep_step (h:Nat) (IH:Hd (∀x:Ex,x.ht<h-> ∀(v:Value) (B:Nat) (w:World) (k:Nat) (i:Int),ExAt w B v x->i=(k:Int)+1->B<=w.heap.size->k<=100->
   CB prog 283 #[v,.int .i64 i] w (.int .i64 (deepN k x)))):RDeepC h:=by
 intro x v B w k i hh hv hi hB hk;have HLT:Hd (∀a∈x.args,a.ht<h):=fun a ha=>by have:=Ex.ht_args x a ha;omega
 have HE:Hd (∀k',k=k'+1->deepN k x=x.args.foldl (fun n a=>max n (deepN k' a)) 0+1):=fun k' e=>by subst e;rfl
 have HE0:Hd (k=0->deepN k x=1):=fun e=>by subst e;rfl
 obtain⟨sv,rfl,hs⟩:=hv;obtain⟨a,cap,rfl,hcap,hmx⟩:=hs.slice;have HS:=Lh hs;have hlm:x.args.length<=9223372036854775807:=by unfold maxLen at hmx;omega
 generalize x.op=o at*;generalize x.n=n at*;generalize x.args=l at*;clear hs hh;by_cases hk0:0<k
 ·obtain⟨k',hk'⟩: ∃k',k=k'+1:=⟨k-1,by omega⟩;have HE2:=Lh (HE.o k' hk');have HI:=Lh (show i=(k':Int)+1+1 by omega);obtain⟨hip,hi100,hi1⟩: ¬i<=1/\i<=101/\1<=i:=by and_intros<;>(omega)
  clear hi hk';go_enter func283,ntmps283;go_wp2;have hW:=(Below.refl w.heap.size w).alloc le0 (.cells #[.int .u8 o,.int .i64 n,.slice a l.length cap] 133);have hbx:=Blk.new w #[.int .u8 o,.int .i64 n,.slice a l.length cap] 133;have hz:w.heap.size<(w.alloc (.cells #[.int .u8 o,.int .i64 n,.slice a l.length cap] 133)).heap.size:=hbx.lt;generalize World.alloc w _=W at*
  go_loopw [5,6] (fun s q wr=> ∃j m:Nat,q= .int .i64 j/\s= .int .i64 m/\j<=l.length/\m<=200/\Below W.heap.size W wr/\(l.drop j).foldl (fun n a=>max n (deepN k' a)) m=l.foldl (fun n a=>max n (deepN k' a)) 0) (fun _ q _=>l.length-(intOf q).toNat)
  case atStart=>exact⟨0,0,rfl,rfl,ze0,by omega,Below.refl _ _,rfl⟩
  case round=>
   obtain⟨j,m,rfl,rfl,hj,hm,hBr0,hr⟩:=hrel;have hBr:=hW.trans (hBr0.mono (by omega));have hbr2:=hbx.below hBr0 hz;have p2:=hbr2.cell 2;by_cases hlt:j<l.length
   ·obtain⟨b,off,cp,sv,e1,hb,c0,c1,c2,hsub⟩:=((HS.o.mono hB).keep hBr).at_ j hlt;simp only[vs0,true_and]at e1;obtain⟨rfl,rfl⟩:=e1;obtain⟨a2,cap2,rfl,_,_⟩:=hsub.slice;rw[List.drop_eq_getElem_cons hlt]at hr;simp only[List.foldl_cons]at hr;have hht:=HLT.o _ (List.getElem_mem hlt);have hdl:=deepN_le k' (l[j]'hlt);have hk100:k'<=100:=by have:=HI.o;omega
    generalize l[j]=y at*;have HX:Hd (ExAt wr wr.heap.size (.agg #[.int .u8 y.op,.int .i64 y.n,.slice a2 y.args.length cap2]) y):=⟨_,rfl,hsub.mono hBr.size⟩;have HR:=Lh hr;clear hr hsub;have hbr:=hBr.size;generalize hdd:deepN k' y=dd at*;have HDE:=Lh hdd;clear hdd;by_cases hgt:(m:Int)<(dd:Int)
    ·go_wp2_with (go_at_call 283;refine(IH.o y hht _ _ _ k' _ HX.o (by have:=HI.o;omega) le0 hk100).mono ?_;rintro e w3 ⟨rfl,hb3⟩;rw[HDE.o])
     go_roundw
     case rel=>exact⟨j+1,dd,by go_num,rfl,by omega,by omega,hBr0.trans (hb3.mono hBr0.size),by rw[<-HR.o,Nat.max_eq_right (by omega)]⟩
     case measure=>simp[intOf];omega
    ·go_wp2_with (go_at_call 283;refine(IH.o y hht _ _ _ k' _ HX.o (by have:=HI.o;omega) le0 hk100).mono ?_;rintro e w3 ⟨rfl,hb3⟩;rw[HDE.o])
     go_roundw
     case rel=>exact⟨j+1,m,by go_num,rfl,by omega,by omega,hBr0.trans (hb3.mono hBr0.size),by rw[<-HR.o,Nat.max_eq_left (by omega)]⟩
     case measure=>simp[intOf];omega
   ·rw[List.drop_of_length_le (by omega)]at hr;simp only[List.foldl_nil]at hr;have HR:=Lh hr;clear hr;go_wp2;go_ret;exact⟨ret_int (by rw[HE2.o,<-HR.o];rfl),hBr⟩
 ·have HE2:=Lh (HE0.o (by omega));have hi1:i=1:=by omega
  subst hi1;clear hi;go_enter func283,ntmps283;go_wp2;go_ret;exact⟨ret_int (by rw[HE2.o];rfl),br0.alloc le0 _⟩
theorem rdeep_all (h:Nat):RDeepC h:=by
 induction h using Nat.strongRecOn with
 |ind h ih=>exact rdeep_step h (fun x hx v B w k i hv hi hB hk=>ih x.ht hx x v B w k i le0 hv hi hB hk)
theorem rDeep_c (x:Ex) (v:Value) (B:Nat) (w:World) (hv:ExAt w B v x) (hB:B<=w.heap.size):
  CB prog 259 #[v] w (.int .i64 (deepN 16 x)):=by
 obtain⟨sv,rfl,hs⟩:=hv;obtain⟨a,cap,rfl,hcap,hmx⟩:=hs.slice;have HV:Hd (ExAt w B _ x):=⟨_,rfl,hs⟩;clear hs;go_enter func259,ntmps259
 go_wp2_with (go_at_call 283;refine(rdeep_all x.ht x _ B _ 16 _ le0 (HV.o.keep (br0.alloc hB _)) (by omega) (by simp;omega) (by omega)).mono ?_;rintro e w3 ⟨rfl,hb3⟩)
 go_ret;exact⟨rfl,(br0.alloc le0 _).trans (hb3.mono (by simp))⟩
theorem rargs_c (op:Int) (h0:0<=op) (h1:op<=18) (w:World):CB prog 284 #[.int .u8 op] w (.int .i64 (manyN op)):=by
 obtain rfl|rfl|rfl|rfl|rfl|rfl|rfl|rfl|rfl|rfl|rfl|rfl|rfl|rfl|rfl|rfl|rfl|rfl|rfl:op=0\/op=1\/op=2\/op=3\/op=4\/op=5\/op=6\/op=7\/op=8\/op=9\/op=10\/op=11\/op=12\/op=13\/op=14\/op=15\/op=16\/op=17\/op=18:=by omega
 all_goals
  go_enter func284,ntmps284;go_wp2;go_ret;exact⟨ret_int (by decide),br0.alloc le0 _⟩
def shapedN:Nat->Ex->Bool
 |0,_=>true
 |k+1,x=>shapeB x&&x.args.all (shapedN k)
theorem foldl_max_lt (f:Ex->Nat): ∀(l:List Ex) (m k:Nat),m<=k->(∀a∈l,f a<=k)->l.foldl (fun n a=>max n (f a)) m<=k
 | [],m,k,h,_=>h
 |x::l,m,k,h,ha=>foldl_max_lt f l _ k (Nat.max_le.2 ⟨h,ha x (by simp)⟩) fun a hm=>ha a (by simp[hm])
theorem mayB_shaped: ∀(k:Nat) (x:Ex),mayB k x=(decide (deepN k x<=k)&&shapedN (k+1) x)
 |0,x=>by simp[mayB,deepN]
 |k+1,x=>by
  have ih: ∀a,mayB k a=(decide (deepN k a<=k)&&shapedN (k+1) a):=mayB_shaped k
  have hd:decide (deepN (k+1) x<=k+1)=x.args.all (fun a=>decide (deepN k a<=k)):=by
   rw[Bool.eq_iff_iff,decide_eq_true_eq,List.all_eq_true];simp only[deepN,decide_eq_true_eq];constructor
   ·intro h a ha;have hx: ∀(l:List Ex) (m:Nat),l.foldl (fun n a=>max n (deepN k a)) m<=k->m<=k/\ ∀a∈l,deepN k a<=k:=by
     intro l
     induction l with
     |nil=>exact fun m h=>⟨h,by simp⟩
     |cons y l ih=>
      intro m h;obtain⟨h1,h2⟩:=ih _ h;have h1':max m (deepN k y)<=k:=h1;refine⟨by have:=Nat.le_max_left m (deepN k y);omega,fun a ha=>?_⟩;rcases List.mem_cons.1 ha with rfl|ha
      ·have:=Nat.le_max_right m (deepN k a);omega
      ·exact h2 a ha
    exact(hx x.args 0 (by omega)).2 a ha
   ·intro h;have:=foldl_max_lt (deepN k) x.args 0 k ze0 h;omega
  have hall:x.args.all (mayB k)=(x.args.all (fun a=>decide (deepN k a<=k))&&x.args.all (shapedN (k+1))):=by
   clear hd
   induction x.args with
   |nil=>rfl
   |cons a l ihl=>simp only[List.all_cons];rw[ihl,ih a];cases decide (deepN k a<=k)<;>cases shapedN (k+1) a<;>simp
  have e:shapedN (k+1+1) x=(shapeB x&&x.args.all (shapedN (k+1))):=rfl;rw[hd,e];simp only[mayB];rw[hall]
  cases shapeB x<;>simp
theorem ints_c (l1 l2:List Int) (n1 n2:Nat) (v1 v2:Value) (B:Nat) (w:World) (h1:Sl w B 1 v1 n1 (l1.map (Value.int .i64))) (h2:Sl w B 1 v2 n2 (l2.map (Value.int .i64))) (hn1:l1.length=n1) (hn2:l2.length=n2):
  Calls prog 95 #[v1,v2] w fun e w'=>e= .returned (.bool (intsB l1 l2))/\ ∃n,w'=w.drewN n:=by
 by_cases hl:n1=n2
 ·obtain rfl:n1=n2:=hl;obtain⟨_,a1,cap1,rfl,hc1,hm1,_⟩:=id h1;obtain⟨_,a2,cap2,rfl,hc2,hm2,_⟩:=id h2;have H1:=Lh h1;have H2:=Lh h2;have HN1:=Lh hn1;have HN2:=Lh hn2;have hnm:n1<=9223372036854775807:=by unfold maxLen at hm1;omega
  clear h1 h2 hn1 hn2;rename_i hx1 hx2 hx3 hx4;clear hx1 hx2 hx3 hx4;go_enter func95,ntmps95;go_wp2
  go_loopw [5] (fun i wr=> ∃k m:Nat,i= .int .i64 k/\k<=n1/\wr=w.drewN m/\intsB (l1.drop k) (l2.drop k)=intsB l1 l2) (fun i _=>n1-(intOf i).toNat)
  case atStart=>exact⟨0,0,rfl,by omega,rfl,rfl⟩
  case round=>
   obtain⟨k,m,rfl,hk,rfl,hr⟩:=hrel;by_cases hlt:k<n1
   ·obtain⟨b1,o1,c1,e1,_,g1,p0⟩:=H1.o.int k hlt;obtain⟨b2,o2,c2,e2,_,g2,q0⟩:=H2.o.int k hlt;simp only[vs0,true_and]at e1 e2;obtain⟨rfl,rfl⟩:=e1;obtain⟨rfl,rfl⟩:=e2;rw[List.drop_eq_getElem_cons g1,List.drop_eq_getElem_cons g2]at hr;generalize l1[k]=x at*;generalize l2[k]=y at*;simp only[intsB]at hr;have HR:=Lh hr;clear hr;by_cases hxy:x=y
    ·have HXY:Hd ((x==y)=true):=by simpa[Hd]using hxy
     have hq:(x !=y)=false:=by simpa using hxy
     clear hxy;go_wp2
     go_quiet (fail)
     go_wp2;go_roundw
     case rel=>exact⟨k+1,m+nq,by go_num,by omega,rfl,by rw[<-HR.o,HXY.o,Bool.true_and]⟩
     case measure=>simp[intOf];omega
    ·have HXY:Hd ((x==y)=false):=by simpa[Hd]using hxy
     have hq:(x !=y)=true:=by simpa using hxy
     clear hxy;go_wp2
     go_quiet (fail)
     go_wp2;go_ret;exact⟨ret_bool (by rw[<-HR.o,HXY.o];rfl),_,World.drewN_drewN _ _ _⟩
   ·have e1:l1.drop k=[]:=List.drop_of_length_le (by have:=HN1.o;omega);have e2:l2.drop k=[]:=List.drop_of_length_le (by have:=HN2.o;omega);rw[e1,e2]at hr;have HR:=Lh hr;clear hr e1 e2;go_wp2;go_ret;exact⟨ret_bool (by rw[<-HR.o];rfl),_,rfl⟩
 ·obtain⟨_,a1,cap1,rfl,hc1,hm1,_⟩:=h1;obtain⟨_,a2,cap2,rfl,hc2,hm2,_⟩:=h2;rename_i hx1 hx2 hx3 hx4;clear hx1 hx2 hx3 hx4;have hne:((n1:Int) !=(n2:Int))=true:=by rw[bne_iff_ne];omega
  have HE:=Lh (intsB_len l1 l2 (by omega));clear hn1 hn2;go_enter func95,ntmps95;go_wp2;go_ret;exact⟨ret_bool HE.o.symm,0,rfl⟩
theorem rJSame_c (jx jy:Jb) (v u:Value) (B:Nat) (w:World) (hv:JbAt w B v jx) (hu:JbAt w B u jy) (hB:B<=w.heap.size):
  CB prog 41 #[v,u] w (.bool (jx.sameB jy)):=by
 obtain⟨sv,rfl,hs⟩:=hv;obtain⟨tv,rfl,ht⟩:=hu;obtain⟨a,cap,rfl,hcap,hmx⟩:=hs.slice;obtain⟨a',cap',rfl,hcap',hmx'⟩:=ht.slice;have HS:=Lh hs;have HT:=Lh ht;have HE:Hd (jx.sameB jy=((jx.par==jy.par)&&Nds.sameB jx.nodes jy.nodes)):=rfl;generalize jx.sameB jy=res at*;generalize jx.par=p at*;generalize jy.par=p' at*;generalize jx.nodes=l at*;generalize jy.nodes=m at*;have hW:=((Below.refl w.heap.size w).alloc le0 (.cells #[.int .i64 p,.slice a l.length cap] 24)).alloc (by simp) (.cells #[.int .i64 p',.slice a' m.length cap'] 24);clear hs ht;by_cases hp:p=p'
 ·by_cases hlen:l.length=m.length
  ·have q1:(p !=p')=false:=by simpa using hp
   have HE2:Hd (res=Nds.sameB l m):=by show _=_;rw[HE.o,hp];simp
   obtain⟨n,hn⟩: ∃n,l.length=n:=⟨_,rfl⟩;have hn':m.length=n:=by omega
   have HN:=Lh hn;have HN':=Lh hn';have hnm:n<=9223372036854775807:=by unfold maxLen at hmx;omega
   rw[hn,hn']at hW;have hb1:=(Blk.new w #[.int .i64 p,.slice a n cap] 24).alloc (.cells #[.int .i64 p',.slice a' n cap'] 24);have hb2:=Blk.new_at (w.alloc (.cells #[.int .i64 p,.slice a n cap] 24)) #[.int .i64 p',.slice a' n cap'] 24 (k:=w.heap.size+1) (by simp);rw[hn,hn'];clear hn hn' hlen hp HE;go_enter func41,ntmps41
   go_wp2_with fail
   generalize World.alloc (World.alloc w _) _=W at*;have hlo2:=hb2.lt
   go_loopw [5] (fun q wr=> ∃j:Nat,q= .int .i64 j/\j<=n/\Below W.heap.size W wr/\Nds.sameB (l.drop j) (m.drop j)=Nds.sameB l m) (fun q _=>n-(intOf q).toNat)
   case atStart=>exact⟨0,rfl,ze0,Below.refl _ _,rfl⟩
   case round=>
    obtain⟨j,rfl,hj,hBr,hr⟩:=hrel;have hbr1:=hb1.below hBr hb1.lt;have hbr2:=hb2.below hBr hb2.lt;have p2:=hbr1.cell 1;have q2:=hbr2.cell 1;have hlr1:=hbr1.lt;have hlr2:=hbr2.lt;have hBw:=hW.trans (hBr.mono hW.size);by_cases hlt:j<n
    ·have hj1:j<l.length:=by have:=HN.o;omega
     have hj2:j<m.length:=by have:=HN'.o;omega
     obtain⟨b,off,cp,e1,hb,hu,iv,sv,c0,c1,c2,c3,c4,c5,c6,hin⟩:=((HS.o.mono hB).keep hBw).at_ j hj1;obtain⟨b',off',cp',e2,hb',hu',iv',sv',d0,d1,d2,d3,d4,d5,d6,hin'⟩:=((HT.o.mono hB).keep hBw).at_ j hj2;rw[HN.o]at e1;rw[HN'.o]at e2;simp only[vs0,true_and]at e1 e2;obtain⟨rfl,rfl⟩:=e1;obtain⟨rfl,rfl⟩:=e2;obtain⟨a2,cap2,rfl,_,_⟩:=hin.2.slice;obtain⟨a3,cap3,rfl,_,_⟩:=hin'.2.slice;obtain⟨_,ai,capi,rfl,_,_,_⟩:=id hin.1;obtain⟨_,bi,capj,rfl,_,_,_⟩:=id hin'.1;rw[List.drop_eq_getElem_cons hj1,List.drop_eq_getElem_cons hj2]at hr;simp only[Nds.sameB]at hr;have hbw:=lt1 hb hBw.size;have hbw':=lt1 hb' hBw.size;generalize l[j]=x at*;generalize m[j]=y at*;have HX:=Lh (hin.mono hBw.size);have HY:=Lh (hin'.mono hBw.size);have HR:=Lh hr;rename_i hx1 hx2 hx3 hx4 hx5 hx6 hx7 hx8 hx9 hx10;clear hr hin hin' hu hu' hx1 hx2 hx3 hx4 hx5 hx6 hx7 hx8 hx9 hx10;have hBn:=((Below.refl wr.heap.size wr).alloc le0 (.cells #[.string x.uid,.int .u8 x.kind,.slice ai x.ins.length capi,.int .u8 x.x.op,.int .i64 x.x.n,.slice a2 x.x.args.length cap2,.int .i64 x.n] 135)).alloc (by simp) (.cells #[.string y.uid,.int .u8 y.kind,.slice bi y.ins.length capj,.int .u8 y.x.op,.int .i64 y.x.n,.slice a3 y.x.args.length cap3,.int .i64 y.n] 135);have hwz:((wr.alloc (.cells #[.string x.uid,.int .u8 x.kind,.slice ai x.ins.length capi,.int .u8 x.x.op,.int .i64 x.x.n,.slice a2 x.x.args.length cap2,.int .i64 x.n] 135)).alloc (.cells #[.string y.uid,.int .u8 y.kind,.slice bi y.ins.length capj,.int .u8 y.x.op,.int .i64 y.x.n,.slice a3 y.x.args.length cap3,.int .i64 y.n] 135)).heap.size=wr.heap.size+2:=by simp
     have hNX:=(Blk.new wr #[.string x.uid,.int .u8 x.kind,.slice ai x.ins.length capi,.int .u8 x.x.op,.int .i64 x.x.n,.slice a2 x.x.args.length cap2,.int .i64 x.n] 135).alloc (.cells #[.string y.uid,.int .u8 y.kind,.slice bi y.ins.length capj,.int .u8 y.x.op,.int .i64 y.x.n,.slice a3 y.x.args.length cap3,.int .i64 y.n] 135);have hNY:=Blk.new_at (wr.alloc (.cells #[.string x.uid,.int .u8 x.kind,.slice ai x.ins.length capi,.int .u8 x.x.op,.int .i64 x.x.n,.slice a2 x.x.args.length cap2,.int .i64 x.n] 135)) #[.string y.uid,.int .u8 y.kind,.slice bi y.ins.length capj,.int .u8 y.x.op,.int .i64 y.x.n,.slice a3 y.x.args.length cap3,.int .i64 y.n] 135 (k:=wr.heap.size+1) (by simp);have hbi:=bytes_inj x.uid y.uid;have HCS:=Lh (Nd.sameB_cases x y);rcases HCS.o with ⟨h1,h2,h3,h4,hrr⟩|⟨hrr,hc⟩
     ·clear HCS;have q1:(x.uid.toList==y.uid.toList)=true:=by simpa using hbi.2 h1
      have q1':(x.uid.toList !=y.uid.toList)=false:=by simpa using hbi.2 h1
      have q3:(x.kind !=y.kind)=false:=by simpa using h2
      have q4:(x.n !=y.n)=false:=by simpa using h3
      have H4:=Lh h4;have HRR:=Lh hrr;clear h1 h2 h3 h4 hrr hbi
      cases hs:x.x.sameB y.x
      all_goals
       have HS:=Lh hs;clear hs
       go_upto_region 8 with fail
       generalize World.alloc (World.alloc wr _) _=W2 at*;have HWZ:=Lh hwz;have hwz2:wr.heap.size+2<=W2.heap.size:=by omega
       obtain⟨x0,x1,x2,x3,x4,x5,x6⟩:=hNX.q7;obtain⟨y0,y1,y2,y3,y4,y5,y6⟩:=hNY.q7;clear hwz
       go_wp2_with (first
        |(go_at_call 95;refine(ints_c x.ins y.ins _ _ _ _ wr.heap.size _ (HX.o.1.below hBn) (HY.o.1.below hBn) rfl rfl).mono ?_;rintro e w3 ⟨rfl,nq,rfl⟩;rw[H4.o])
        |(go_at_call 96;refine(rSame_c x.x y.x _ _ wr.heap.size _ ⟨_,rfl,HX.o.2.keep (below_drewN hBn nq)⟩ ⟨_,rfl,HY.o.2.keep (below_drewN hBn nq)⟩ (by have:=hBn.size;simp;omega)).mono ?_;rintro e w4 ⟨rfl,hb4⟩;rw[HS.o]))
      ·go_ret;exact⟨ret_bool (by rw[HE2.o,<-HR.o,HRR.o,HS.o];rfl),hBw.trans (((below_drewN hBn nq).trans (hb4.mono (by simp;omega))).mono hBw.size)⟩
      ·go_roundw
       case rel=>exact⟨j+1,by go_num,by omega,hBr.trans (((below_drewN hBn nq).trans (hb4.mono (by simp;omega))).mono hBr.size),by rw[<-HR.o,HRR.o,HS.o,Bool.true_and]⟩
       case measure=>simp[intOf];omega
     ·have HRR:=Lh hrr;clear hrr HCS;rcases hc with h1|⟨h1,h2⟩|⟨h1,h2,h3⟩|⟨h1,h2,h3,h4⟩
      ·skip
       have q1:(x.uid.toList==y.uid.toList)=false:=by simpa using fun h=>h1 (hbi.1 h)
       have q1':(x.uid.toList !=y.uid.toList)=true:=by simpa using fun h=>h1 (hbi.1 h)
       clear h1 hbi hNX hNY hwz
       go_wp2_with fail
       go_ret;exact⟨ret_bool (by rw[HE2.o,<-HR.o,HRR.o];rfl),hBw.trans (hBn.mono hBw.size)⟩
      ·skip
       have q1:(x.uid.toList==y.uid.toList)=true:=by simpa using hbi.2 h1
       have q1':(x.uid.toList !=y.uid.toList)=false:=by simpa using hbi.2 h1
       have q3:(x.kind !=y.kind)=true:=by simpa using h2
       clear h1 h2 hbi hNX hNY hwz
       go_wp2_with fail
       go_ret;exact⟨ret_bool (by rw[HE2.o,<-HR.o,HRR.o];rfl),hBw.trans (hBn.mono hBw.size)⟩
      ·skip
       have q1:(x.uid.toList==y.uid.toList)=true:=by simpa using hbi.2 h1
       have q1':(x.uid.toList !=y.uid.toList)=false:=by simpa using hbi.2 h1
       have q3:(x.kind !=y.kind)=false:=by simpa using h2
       have q4:(x.n !=y.n)=true:=by simpa using h3
       clear h1 h2 h3 hbi hNX hNY hwz
       go_wp2_with fail
       go_ret;exact⟨ret_bool (by rw[HE2.o,<-HR.o,HRR.o];rfl),hBw.trans (hBn.mono hBw.size)⟩
      ·skip
       have q1:(x.uid.toList==y.uid.toList)=true:=by simpa using hbi.2 h1
       have q1':(x.uid.toList !=y.uid.toList)=false:=by simpa using hbi.2 h1
       have q3:(x.kind !=y.kind)=false:=by simpa using h2
       have q4:(x.n !=y.n)=false:=by simpa using h3
       have H4:=Lh h4;clear h1 h2 h3 h4 hbi hNX hNY hwz
       go_wp2_with (go_at_call 95;refine(ints_c x.ins y.ins _ _ _ _ wr.heap.size _ (HX.o.1.below hBn) (HY.o.1.below hBn) rfl rfl).mono ?_;rintro e w3 ⟨rfl,nq,rfl⟩;rw[H4.o])
       go_ret;exact⟨ret_bool (by rw[HE2.o,<-HR.o,HRR.o];rfl),hBw.trans ((below_drewN hBn nq).mono hBw.size)⟩
    ·rw[List.drop_of_length_le (by have:=HN.o;omega),List.drop_of_length_le (by have:=HN'.o;omega)]at hr;have HR:=Lh hr;clear hr;go_wp2;go_ret;exact⟨ret_bool (by rw[HE2.o,<-HR.o];rfl),hBw⟩
  ·have q1:(p !=p')=false:=by simpa using hp
   have q2:((l.length:Int) !=(m.length:Int))=true:=by rw[bne_iff_ne];omega
   have HE2:Hd (res=false):=by show _=_;rw[HE.o,Nds.sameB_len l m hlen,Bool.and_false]
   clear hp hlen HE;go_enter func41,ntmps41;go_wp2;go_ret;exact⟨ret_bool HE2.o.symm,hW⟩
 ·have q1:(p !=p')=true:=by simpa using hp
  have HE2:Hd (res=false):=by
   show _=_;rw[HE.o,show(p==p')=false by simpa using hp];rfl
  clear hp HE;go_enter func41,ntmps41;go_wp2;go_ret;exact⟨ret_bool HE2.o.symm,hW⟩

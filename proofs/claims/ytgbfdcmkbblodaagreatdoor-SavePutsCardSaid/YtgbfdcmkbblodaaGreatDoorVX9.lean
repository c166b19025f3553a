/- Parts. -/
import Derived.Test.YtgbfdcmkbblodaaGreatDoorVX4
import Derived.Test.YtgbfdcmkbblodaaGreatDoorVX8
import Derived.Test.YtgbfdcmkbblodaaGreatDoorVW21
namespace Go.Proofs.YtgbfdcmkbblodaaGreatDoor
open Go.RowKit
set_option linter.unusedVariables false
set_option linter.unusedSimpArgs false
set_option maxRecDepth 100000
set_option maxHeartbeats 16000000
open Tryz
theorem rstateful_c (k:Int) (w:World):Calls prog 84 #[.int .u8 k] w fun e w'=>e= .returned (.bool (statefulB k))/\w=w':=by
 unfold statefulB;generalize h1:(k==6)=a;generalize h2:(k==7)=b
 cases a<;>cases b
 all_goals
  go_enter func84,ntmps84
  go_wp2_with fail
  go_ret;exact⟨rfl,rfl⟩
theorem fit_ways {a1 a2 a3 a4 a5 a6 rf:Bool} (h13:(a1&&a3)=false) (h:rf=(!(a1&&a2)&&!(a3&&(a4||(a5||a6))))):
  (rf=false/\((a1=true/\a2=true)\/(a1=false/\a3=true/\a4=true)\/(a1=false/\a3=true/\a4=false/\a5=true)\/(a1=false/\a3=true/\a4=false/\a5=false/\a6=true)))\/
  (rf=true/\((a1=true/\a2=false/\a3=false)\/(a1=false/\a3=false)\/(a1=false/\a3=true/\a4=false/\a5=false/\a6=false))):=by
 subst h
 revert h13
 cases a1<;>cases a2<;>cases a3<;>cases a4<;>cases a5<;>cases a6<;>decide
theorem T6At.below {w w':World} {T:Nat} {ps:List (Trow×Value)} (h:T6At w T ps) (hb:Below w.heap.size w w'):T6At w' T ps:=by
 obtain⟨a,cap,h1,h2,h3⟩:=h;exact⟨a,cap,h1.below hb h1.lt,(h2.below hb).mono hb.size,h3⟩
theorem rFits_c (u:ByteArray) (kd xo:Int) (xn dn:Int) (ai ax:Option Addr) (len capi xl capx:Nat) (T:Nat) (ps:List (Trow×Value)) (w:World) (h:T6At w T ps):
  CB prog 86 #[.agg #[.string u,.int .u8 kd,.slice ai len capi,.int .u8 xo,.int .i64 xn,.slice ax xl capx,.int .i64 dn],px T] w (.bool (fitsB kd dn (ps.map Prod.fst))):=by
 have HF:Hd (fitsB kd dn (ps.map Prod.fst)=(statefulB kd&&(ps.map Prod.fst).all (rowFits kd dn))):=rfl;generalize fitsB kd dn (ps.map Prod.fst)=R at*;have hb0:Below w.heap.size w (w.alloc (.cells #[.string u,.int .u8 kd,.slice ai len capi,.int .u8 xo,.int .i64 xn,.slice ax xl capx,.int .i64 dn] 135)):=br0.alloc le0 _;have hN:Blk (w.alloc (.cells #[.string u,.int .u8 kd,.slice ai len capi,.int .u8 xo,.int .i64 xn,.slice ax xl capx,.int .i64 dn] 135)) w.heap.size 135 #[.string u,.int .u8 kd,.slice ai len capi,.int .u8 xo,.int .i64 xn,.slice ax xl capx,.int .i64 dn]:=Blk.new w _ _;obtain⟨a,cap,hT,hS,hL⟩:=h.below hb0;obtain⟨hx1,a',cap',e',hx2,hmx,hx3⟩:=id hS;simp only[vs0]at e';obtain⟨rfl,e9,rfl⟩:=e';clear e9;have hlm:ps.length<=9223372036854775807:=by unfold maxLen at hmx;omega
 have HT:=Lh hT;have HS:=Lh hS;have HL:=Lh hL;have HN:=Lh hN;have HB:=Lh hb0;have hzw:w.heap.size<(w.alloc (.cells #[.string u,.int .u8 kd,.slice ai len capi,.int .u8 xo,.int .i64 xn,.slice ax xl capx,.int .i64 dn] 135)).heap.size:=hN.lt;have h67:((kd==6)&&(kd==7))=false:=by
  rw[Bool.and_eq_false_iff,bq0,bq0];omega
 have H67:=Lh h67;clear hT hS hL hN hb0 h h67 hmx hx1 hx2 hx3;unfold px;go_enter func86,ntmps86
 go_wp2_with fail
 generalize (w.alloc (.cells #[.string u,.int .u8 kd,.slice ai len capi,.int .u8 xo,.int .i64 xn,.slice ax xl capx,.int .i64 dn] 135))=W at*
 go_loopw [5] (fun q wr=> ∃k:Nat,q= .int .i64 (k:Int)/\k<=ps.length/\((ps.map Prod.fst).take k).all (rowFits kd dn)=true/\Below W.heap.size W wr) (fun q _=>ps.length-(intOf q).toNat)
 case atStart=>exact⟨0,rfl,ze0,rfl,Below.refl _ _⟩
 case round=>
  obtain⟨k,rfl,hk,hall,hb⟩:=hrel;have hTr:=HT.o.below hb HT.o.lt;have c0:=hTr.cell 0;by_cases hlt:k<ps.length
  ·obtain⟨b,off,rfl,hbl,x0,x1,x2⟩:=(HS.o.below hb).rw rfl k hlt;obtain⟨la,lcap,hv⟩:=HL.o _ (List.getElem_mem hlt);rw[hv]at x2;have HTK:Hd (((ps.map Prod.fst).take (k+1)).all (rowFits kd dn)=(((ps.map Prod.fst).take k).all (rowFits kd dn)&&rowFits kd dn ps[k].1)):=by
    show _=_;rw[List.take_succ_eq_append_getElem (by simpa using hlt),List.all_append,List.getElem_map];simp
   have HNO:Hd (rowFits kd dn ps[k].1=false->(ps.map Prod.fst).all (rowFits kd dn)=false):=fun e=>by
    rw[List.all_eq_false];exact⟨ps[k].1,List.mem_map_of_mem (List.getElem_mem hlt),by rw[e];decide⟩
   have hRF:rowFits kd dn ps[k].1=(!((kd==6)&&decide ((0:Int)<(ps[k].1.l.length:Int)))&&!((kd==7)&&(ps[k].1.acc !=0||(decide ((ps[k].1.l.length:Int)<1)||decide (dn<=(ps[k].1.l.length:Int)))))):=by
    unfold rowFits;rw[show decide (0<ps[k].1.l.length)=decide ((0:Int)<(ps[k].1.l.length:Int)) by simp,show decide (ps[k].1.l.length<1)=decide ((ps[k].1.l.length:Int)<1) by rw[decide_eq_decide];omega]
   have hw:=fit_ways H67.o hRF;clear hRF hv;generalize rowFits kd dn ps[k].1=rf at*;generalize ps[k].1.acc=acc at*;generalize ps[k].1.l.length=ln at*;generalize ps[k].1.key=key at*;generalize ps[k].2=pv at*;have hbx:Below W.heap.size W (wr.alloc (.cells #[.int .i64 acc,.slice la ln lcap] 189)):=hb.alloc hb.size _;have hNx:=HN.o.below hbx HN.o.lt;have n1:=hNx.cell 1;have n4:=hNx.cell 6;have hCx:Blk (wr.alloc (.cells #[.int .i64 acc,.slice la ln lcap] 189)) wr.heap.size 189 #[.int .i64 acc,.slice la ln lcap]:=Blk.new wr _ _;have y0:=hCx.cell 0;have y1:=hCx.cell 1;have HBX:=Lh hbx;have HALL:=Lh hall;have HLT:=Lh hlt;have hkI:(k:Int)<(ps.length:Int):=by omega
   clear hbx hNx hCx hb hall hTr hlt;generalize h1:(kd==6)=a1 at*;generalize h2:decide ((0:Int)<(ln:Int))=a2 at*;generalize h3:(kd==7)=a3 at*;generalize h4:(acc !=0)=a4 at*;generalize h5:decide ((ln:Int)<1)=a5 at*;generalize h6:decide (dn<=(ln:Int))=a6 at*;have h7:decide (0<ln)=a2:=by rw[<-h2,decide_eq_decide];omega
   have h8:decide (ln<1)=a5:=by rw[<-h5,decide_eq_decide];omega
   rcases hw with ⟨hrf,hw⟩|⟨hrf,hw⟩
   ·have HAF:Hd ((ps.map Prod.fst).all (rowFits kd dn)=false):=HNO.o hrf;clear hrf HNO HTK;rcases hw with ⟨rfl,rfl⟩|⟨rfl,rfl,rfl⟩|⟨rfl,rfl,rfl,rfl⟩|⟨rfl,rfl,rfl,rfl,rfl⟩
    all_goals
     go_wp2_with fail
     go_ret;exact⟨by rw[HF.o,HAF.o,Bool.and_false];rfl,HB.o.trans (HBX.o.mono HB.o.size)⟩
   ·have HAT:Hd (((ps.map Prod.fst).take (k+1)).all (rowFits kd dn)=true):=by show _=_;rw[HTK.o,HALL.o,hrf];rfl
    clear hrf HNO HTK;rcases hw with ⟨rfl,rfl,rfl⟩|⟨rfl,rfl⟩|⟨rfl,rfl,rfl,rfl,rfl⟩
    all_goals
     go_wp2_with fail
     go_roundw
     case rel=>exact⟨k+1,by go_num,HLT.o,HAT.o,HBX.o⟩
     case measure=>have:=HLT.o;simp[intOf];omega
  ·obtain rfl:k=ps.length:=by omega
   have n1:=(HN.o.below hb HN.o.lt).cell 1;have HAT:Hd ((ps.map Prod.fst).all (rowFits kd dn)=true):=by show _=_;rw[<-hall,List.take_of_length_le (by simp)]
   have HBR:=Lh hb;clear hb hall hTr
   go_wp2_with (first|(go_at_call 84;refine(rstateful_c _ _).mono ?_;rintro e w9 ⟨rfl,rfl⟩)|fail)
   go_ret;exact⟨by rw[HF.o,HAT.o,Bool.and_true];rfl,HB.o.trans (HBR.o.mono HB.o.size)⟩
def ptrV:Option Nat->Value
 |none=> .pointer none
 |some T=>px T
theorem info_ptab:(prog.info? 152).map (fun i=>(i.zero,i.size,i.bytes))=some (some (.pointer none),1,8):=by kernel_rfl
structure Ld6 (w:World) (par:Int) (a:Option Addr) (n cap I:Nat) (g:Option Addr) (tcap k:Nat) (ts:List (Option Nat)) (wr:World):Prop where
 below:Below w.heap.size w wr
 job:Blk wr w.heap.size 24 #[.int .i64 par,.slice a n cap]
 idl:Blk wr I 151 #[.int .i64 par,.slice a n cap,.slice g k tcap]
 row:wr.ownsRow (I+1) 152 1 (.slice g k tcap) k (ts.map ptrV)
 hI:w.heap.size<I
namespace Ld6
variable {w wr wx w4:World} {par:Int} {a g:Option Addr} {n cap I tcap k q c4:Nat} {ts:List (Option Nat)}
theorem more (h:Ld6 w par a n cap I g tcap k ts wr) (hb:Below wr.heap.size wr wx):Ld6 w par a n cap I g tcap k ts wx:=
 ⟨h.below.trans (hb.mono h.below.size),h.job.below hb h.job.lt,h.idl.below hb h.idl.lt,own_keep h.row hb,h.hI⟩
theorem app (h:Ld6 w par a n cap I g tcap k ts wr) {o:Obj} (hg:(wr.alloc o).grownBy w4 (Value.slice g k tcap).ownBlock) (hown:w4.ownsRow (I+1) 152 1 (.slice (some ⟨q,0,none⟩) (k+1) c4) (k+1) (ts.map ptrV++ [.pointer none])):
  Ld6 w par a n cap I (some ⟨q,0,none⟩) c4 (k+1) (ts++ [none]) (w4.setCell ⟨I,2,none⟩ (.slice (some ⟨q,0,none⟩) (k+1) c4)):=by
 have hI:=h.hI;have hf:Fr (fun b=>I<b) wr w4:=((Fr.refl (fun b=>I<b) wr).alloc o).grown hg (fun b e=> .inl (by have:=own_ge h.row b e;omega));have hf2:=(hf.mono (T:=fun b=>I<=b) (fun b _ e=>Nat.le_of_lt e)).setCell (p:=⟨I,2,none⟩) (.inl (Nat.le_refl I)) (Value.slice (some ⟨q,0,none⟩) (k+1) c4);exact⟨h.below.trans (hf2.below h.below.size (fun b hb e=>by omega)),h.job.fr hf2 (by omega),(h.idl.fr hf (by omega)).set 2 _,by
  rw[List.map_append]
  exact own_other hown (p:=⟨I,2,none⟩) (Nat.lt_succ_self I) _,hI⟩
theorem put (h:Ld6 w par a n cap I (some ⟨q,0,none⟩) tcap k ts wr) (j:Nat) (T:Nat):Ld6 w par a n cap I (some ⟨q,0,none⟩) tcap k (ts.set j (some T)) (wr.setCell ⟨q,j,none⟩ (px T)):=by
 have hI:=h.hI;have hq:I+1<=q:=own_ge h.row q rfl;have hf:=(Fr.refl (fun b=>I<b) wr).setCell (p:=⟨q,j,none⟩) (.inl (by show I<q;omega)) (px T);exact⟨h.below.trans (hf.below h.below.size (fun b hb e=>by omega)),h.job.fr hf (by omega),h.idl.fr hf (by omega),by
  rw[List.map_set]
  exact own_set h.row j _,hI⟩
end Ld6
theorem st_in {j:Jb} {s:Sta} {tk:List Nat} (h:(j.find s.uid).toNat∈tk):stBad j s tk=true:=by
 unfold stBad;rw[dt0 h,Bool.true_or,Bool.or_true]
theorem st_ok6 {j:Jb} {s:Sta} {tk:List Nat} (h1:(j.find s.uid).toNat∉tk) (h2: ¬j.find s.uid<0) (h3:statefulB (j.kindAt (j.find s.uid).toNat)=true):stBad j s tk=false:=by
 unfold stBad;rw[df0 h2,df0 h1,h3];rfl
theorem rTake6_err (s:ByteArray) (hs:s.size<=140737488355328) (he:(takeTb s).2≠0) (w:World):CB prog 85 #[.string s] w (.tuple #[.pointer none,.int .i64 (takeTb s).2]):=
 (rTake6_c s hs w).mono fun e w' ⟨hb,h⟩=>⟨by
  rcases h with ⟨_,h⟩|⟨h,_⟩
  ·exact h
  ·exact absurd h he,hb⟩
theorem rTake6_ok (s:ByteArray) (hs:s.size<=140737488355328) (he:(takeTb s).2=0) (w:World):Calls prog 85 #[.string s] w fun e w'=> ∃T ps,e= .returned (.tuple #[px T,.int .i64 0])/\ps.map Prod.fst=(takeTb s).1/\T6At w' T ps/\Below w.heap.size w w':=
 (rTake6_c s hs w).mono fun e w' ⟨hb,h⟩=>by
  rcases h with ⟨h,_⟩|⟨_,T,ps,rfl,h1,h2⟩
  ·exact absurd he h
  ·exact⟨T,ps,rfl,h1,h2,hb⟩
def TkIs (ts:List (Option Nat)) (tk:List Nat):Prop:= ∀i,i∈tk↔ ∃T,ts[i]? =some (some T)
theorem TkIs.none (n:Nat):TkIs (List.replicate n none) []:=fun i=>by
 simp[List.getElem?_replicate]
theorem TkIs.put {ts:List (Option Nat)} {tk:List Nat} (h:TkIs ts tk) {k:Nat} (hk:k<ts.length) (T:Nat):TkIs (ts.set k (some T)) (tk++ [k]):=fun i=>by
 rw[List.mem_append,h i,List.mem_singleton,List.getElem?_set]
 by_cases e:k=i
 ·subst e
  simp[hk]
 ·simp[e,Ne.symm e,eq_comm]
theorem rLoad_c (jb:Jb) (hok:jb.ok) (hus: ∀d∈jb.nodes,d.uid.size<=1000000) (hlen:jb.nodes.length<=1000) (jv:Value) (l:List Sta) (sv:Value) (w:World) (hj:JbAt w w.heap.size jv jb) (hs:StaRd w (· <w.heap.size) sv l) (hsz: ∀s∈l,s.bytes.size<=140737488355328):
  Calls prog 35 #[jv,sv] w fun e w'=>(∃p,e= .returned (.tuple #[p,.int .i64 (loadE jb l)]))/\Below w.heap.size w w':=by
 obtain⟨nv,rfl,hnd⟩:=hj;obtain⟨a,cap,rfl,hcap,hmx⟩:=hnd.slice;obtain⟨sa,scap,rfl,hsc,hsm⟩:=hs.slice;have hlm:jb.nodes.length<=9223372036854775807:=by omega
 have hll:l.length<=9223372036854775807:=by unfold maxLen at hsm;omega
 have HE:Hd (loadE jb l=if jb.may.2≠0 then 2 else loadGo jb l []):=rfl;generalize loadE jb l=E at*;have hb1:Below w.heap.size w (w.alloc (.cells #[.int .i64 jb.par,.slice a jb.nodes.length cap] 24)):=br0.alloc le0 _;have HM:=Lh (rMayJ_c jb hok hus hlen (.agg #[.int .i64 jb.par,.slice a jb.nodes.length cap]) w.heap.size (w.alloc (.cells #[.int .i64 jb.par,.slice a jb.nodes.length cap] 24)) ⟨_,rfl,hnd.keep hb1⟩ hb1.size);have hJ0:=Blk.new w #[.int .i64 jb.par,.slice a jb.nodes.length cap] 24;have c0:=hJ0.cell 0;have c1:=hJ0.cell 1;have HJ0:=Lh hJ0;have HB1:=Lh hb1;have HND:=Lh hnd;have HST:=Lh hs;have HSZ:=Lh hsz;have HLN:Hd (jb.nodes.length<=1000):=hlen;clear hb1 hnd hs hsz hJ0 hok hus hcap hmx hsc hsm;by_cases hm:jb.may.2=0
 ·have hm0:(jb.may.2 !=0)=false:=by simpa using hm
  have HE2:Hd (E=loadGo jb l []):=by show _=_;rw[HE.o,if_neg (by simpa using hm)]
  clear hm HE;go_enter func35,ntmps35
  go_upto_region 4 with (first|(go_at_call 82;refine HM.o.mono ?_;rintro e w1 ⟨rfl,hbm⟩)|fail)
  have hj1:=HJ0.o.below hbm HJ0.o.lt;have hb2:=HB1.o.trans (hbm.mono HB1.o.size);have d0:=hj1.cell 0;have d1:=hj1.cell 1;have HI:Hd (w.heap.size<w1.heap.size):=hj1.lt;have HL0:Hd (Ld6 w jb.par a jb.nodes.length cap w1.heap.size none 0 0 [] (w1.alloc (.cells #[.int .i64 jb.par,.slice a jb.nodes.length cap,.slice none 0 0] 151))):=
   ⟨hb2.alloc hb2.size _,hj1.alloc _,Blk.new w1 _ _,World.ownsRow_nil _ _ _ _,hj1.lt⟩
  clear hj1 hb2 hbm HM HJ0 HB1 c0 c1
  go_upto_region 6 with fail
  generalize w1.heap.size=I at*;generalize (w1.alloc (.cells #[.int .i64 jb.par,.slice a jb.nodes.length cap,.slice none 0 0] 151))=W0 at*;clear d0 d1;obtain⟨i0,hi,hz0,hz1,hz2⟩:=info_parts info_ptab
  go_loopw [9] (fun q wr=> ∃(k:Nat) (g:Option Addr) (tcap:Nat),q= .int .i64 (k:Int)/\k<=jb.nodes.length/\Ld6 w jb.par a jb.nodes.length cap I g tcap k (List.replicate k none) wr) (fun q _=>jb.nodes.length-(intOf q).toNat)
  case atStart=>exact⟨0,none,0,rfl,ze0,HL0.o⟩
  case round=>
   obtain⟨k,g,tcap,rfl,hk,hL⟩:=hrel;have j0:=hL.job.cell 0;have j1:=hL.job.cell 1;by_cases hkl:k<jb.nodes.length
   ·have hkI:(k:Int)<(jb.nodes.length:Int):=by omega
    have i2:=hL.idl.cell 2;have hO:=own_alloc hL.row (.cells #[.pointer none] 152);have hcell: ∀i u,([.pointer none]:List Value)[i]? =some u->(wr.alloc (.cells #[.pointer none] 152)).cell? ((⟨wr.heap.size,0,none⟩:Addr).add i)=some u:=World.news_of_block (heap_alloc_new wr _);have hsz2:I+1<=(wr.alloc (.cells #[.pointer none] 152)).heap.size:=by have:=hL.idl.lt;simp;omega
    have HL:=Lh hL;have HO:=Lh hO;have HC:=Lh hcell;have HGE:=Lh (own_ge hL.row);have hlen2:=HLN.o;clear hL hO hcell
    go_wp2_with (first
     |(at_builtin;refine wpList_append_own _ rfl _ _ 149 rfl (I+1) 152 i0 (.pointer none) 1 8 underlying149 hi hz0 hz1 hz2 rfl (by decide) (.slice g k tcap) k ((List.replicate k none).map ptrV) rfl HO.o ⟨wr.heap.size,0,none⟩ 1 1 [.pointer none] rfl rfl HC.o (by simp[Value.oneCell']) (by unfold maxLen;omega) (by omega) hsz2 ?_;intro v' w3 hown3 hgrow3 _;obtain⟨g',cap',rfl⟩:=owns_succ hown3;have hid4:=((HL.o.idl.alloc (.cells #[.pointer none] 152)).grown hgrow3 (fun e=>by have:=HGE.o _ e.symm;omega));have i3:=hid4.cell 2;have f3:=hid4.free 2)
     |fail)
    have hL3:=HL.o.app hgrow3 hown3;go_roundw
    case rel=>exact⟨k+1,_,cap',by go_num,hkl,by rw[List.replicate_succ'];exact hL3⟩
    case measure=>simp[intOf];omega
   ·obtain rfl:k=jb.nodes.length:=by omega
    have HL:=Lh hL;have HFL:Hd (∀s:Sta,jb.find s.uid<(jb.nodes.length:Int)):=fun s=>by
     have:=idxZ_few (fun d:Nd=>decide (d.uid=s.uid)) jb.nodes 0;show idxZ _ _ _<_;omega
    have HKA:Hd (∀k (h:k<jb.nodes.length),jb.kindAt k=jb.nodes[k].kind/\jb.nAt k=jb.nodes[k].n):=fun k h=>⟨kindAt_eq jb k h,nAt_eq jb k h⟩;have HTI:=Lh (TkIs.none jb.nodes.length);have HTL:Hd ((List.replicate jb.nodes.length (none:Option Nat)).length=jb.nodes.length):=List.length_replicate;generalize List.replicate jb.nodes.length (none:Option Nat)=ts0 at*;clear hL HL0 i0 hi hz0 hz1 hz2
    go_wp2_with fail
    go_loopw [10] (fun q wr=> ∃(j:Nat) (ts:List (Option Nat)) (tk:List Nat),q= .int .i64 (j:Int)/\j<=l.length/\Ld6 w jb.par a jb.nodes.length cap I g tcap jb.nodes.length ts wr/\ts.length=jb.nodes.length/\TkIs ts tk/\loadGo jb (l.drop j) tk=E) (fun q _=>l.length-(intOf q).toNat)
    case atStart=>exact⟨0,ts0,[],rfl,ze0,HL.o,HTL.o,HTI.o,HE2.o.symm⟩
    case round=>
     clear j0 j1 hkl;obtain⟨j,ts,tk,rfl,hj,hL,htl,hti,hgo⟩:=hrel;by_cases hjl:j<l.length
     ·have d0:decide ((j:Int)<(l.length:Int))=true:=dt0 (by omega);obtain⟨sb,so,sc,e1,hsb,s0,s1⟩:=HST.o.at_ j hjl;have hsj:=HSZ.o _ (List.getElem_mem hjl);rw[List.drop_eq_getElem_cons hjl]at hgo;simp only[vs0]at e1;obtain⟨rfl,e2,rfl⟩:=e1;clear e2;have k0:=(hL.below.cell (p:=⟨sb,so+j*2,none⟩) hsb).trans s0;have k1:=(hL.below.cell (p:=⟨sb,so+j*2+1,none⟩) hsb).trans s1;have HJL:=Lh hjl;have HSB:=Lh (lt1 hsb hL.below.size);generalize l[j]=s at*;have HGO:=Lh hgo;have HTI:=Lh hti;have HTL:=Lh htl;have HSJ:=Lh hsj;have HL:=Lh hL;have HK1:=Lh k1;have HCC:Hd (∀W,Below wr.heap.size wr W->W.cell? ⟨w.heap.size,0,none⟩=some (.int .i64 jb.par)/\W.cell? ⟨w.heap.size,1,none⟩=some (.slice a jb.nodes.length cap)/\W.cell? ⟨sb,so+j*2,none⟩=some (.string s.uid)):=fun W hb=>
       ⟨(HL.o.job.below hb HL.o.job.lt).cell 0,(HL.o.job.below hb HL.o.job.lt).cell 1,(hb.cell (p:=⟨sb,so+j*2,none⟩) HSB.o).trans k0⟩
      have HF:=Lh (fun W (hb:Below wr.heap.size wr W)=>rFind_c jb s.uid (.agg #[.int .i64 jb.par,.slice a jb.nodes.length cap]) w.heap.size W ⟨_,rfl,HND.o.keep (HL.o.below.trans (hb.mono HL.o.below.size))⟩ (le1 HL.o.below.size hb.size));clear s0 s1 hL hgo hti htl hsj k0 k1 hsb
      go_upto_region 12 with fail
      have hb:Below wr.heap.size wr wr.drew:=br0.drew;refine wp_region_held_drew (S:=(fun w'=>Below wr.heap.size wr w')) (by kernel_rfl) ?_ (fun hHeld=>tk0 ?_)
      ·exact hb
      repeat' first
       |refine tkN ?_
       |(refine tkX ?_;try simp only[Act.put,tkA,tkB,tkC,tkD,tkE,tkF])
       |(refine tkt (v:=?_) (by decide+kernel) rfl (by rfl) (fun _ _ _ h=>h) (by assumption) ?_ ?_;rotate_left;(· intro w' hSw;(try dsimp only at hSw);obtain⟨z0,z1,z2⟩:=HCC.o _ hSw;clear hSw;go_simp;(try with_reducible rfl));try simp only[Act.put,tkA,tkB,tkC,tkD,tkE,tkF])
       |refine tkM ?_
       |refine tkZ ?_
       |refine tkB1 ?_
       |refine brN ?_
       |exact brE
       |refine brc rfl (fun K hK=>?_) ?_
       |(replace hK:=hK;go_simp;go_at_call 83;refine(HF.o _ hb).mono ?_;rintro e w2 ⟨rfl,hbf⟩;replace hb:=hb.trans (hbf.mono hb.size);refine hK.out _ _ ?_ (fun hHeld=>?_);(· exact hb);clear hK K;try simp only[Act.put,tkA,tkB,tkC,tkD,tkE,tkF])
       |fail
      have HFL2:=Lh (HFL.o s);have HST0:Hd (∀r,jb.find s.uid=r->(r<0->E=180)/\(∀k:Nat,r=(k:Int)-> ∀hk:k<jb.nodes.length,(statefulB jb.nodes[k].kind=false->E=180)/\(k∈tk->E=180)/\(statefulB jb.nodes[k].kind=true->k∉tk->((takeTb s.bytes).2≠0->E=(takeTb s.bytes).2)/\((takeTb s.bytes).2=0->(fitsB jb.nodes[k].kind jb.nodes[k].n (takeTb s.bytes).1=false->E=181)/\(fitsB jb.nodes[k].kind jb.nodes[k].n (takeTb s.bytes).1=true->loadGo jb (l.drop (j+1)) (tk++ [k])=E))))):=by
       rintro r hr;have hgo:=HGO.o;subst hr;refine⟨fun h=>?_,fun k hk hkl=>?_⟩
       ·rw[<-hgo,lg_bad (st_neg h)]
       ·have e1:(jb.find s.uid).toNat=k:=by omega
        obtain⟨g1,g2⟩:=HKA.o k hkl;refine⟨fun h=>?_,fun h=>?_,fun h hn=>?_⟩
        ·rw[<-hgo,lg_bad (st_kind (by rw[e1,g1];exact h))]
        ·rw[<-hgo,lg_bad (st_in (by rw[e1];exact h))]
        ·have hg:=st_ok6 (by rw[e1];exact hn) (by omega) (by rw[e1,g1];exact h);refine⟨fun h2=>by rw[<-hgo,lg_err hg h2],fun h2=>⟨fun h3=>?_,fun h3=>?_⟩⟩
         ·rw[<-hgo,lg_fit hg h2 (by rw[e1,g1,g2];exact h3)]
         ·rw[<-hgo,lg_next hg h2 (by rw[e1,g1,g2];exact h3),e1]
      generalize jb.find s.uid=r at*;have hL8:=HL.o.more hb;have j0:=hL8.job.cell 0;have j1:=hL8.job.cell 1;have i2:=hL8.idl.cell 2;clear HCC HF HFL;by_cases hr0:r<0
      ·have d1:decide (r<0)=true:=dt0 hr0;have HEE:Hd (E=180):=(HST0.o r rfl).1 hr0;have HL8:=Lh hL8.below;clear hr0 HST0 hL8 hb
       go_wp2_with fail
       go_ret2;exact⟨⟨_,by rw[HEE.o];rfl⟩,HL8.o⟩
      ·obtain⟨k,rfl⟩: ∃k:Nat,r=(k:Int):=⟨r.toNat,by omega⟩;have hk:k<jb.nodes.length:=by have:=HFL2.o;omega
       have hpk:=(HST0.o _ rfl).2 k rfl hk;have d1:decide ((k:Int)<0)=false:=df0 hr0;have hkt:k<ts.length:=by rw[HTL.o];exact hk
       obtain⟨g1,tc1,hgq⟩:=own_pos hL8.row (by omega);simp only[vs0]at hgq;obtain⟨rfl,e2,rfl⟩:=hgq;obtain⟨t0,tf⟩:=(own_cells hL8.row).2.2 k hk;rw[List.getElem?_map,List.getElem?_eq_getElem hkt]at t0;have htk:k∈tk↔ ∃T,ts[k]=some T:=by rw[HTI.o k,List.getElem?_eq_getElem hkt];simp
       obtain⟨nb,no,nc,e1,hnb,hu,iv,xv,n0,n1,n2,n3,n4,n5,n6,hin⟩:=(HND.o.keep hL8.below).at_ k hk;obtain⟨a1,l1,c1,a2,l2,c2,rfl,rfl⟩:=ndIn_form hin;simp only[vs0]at e1;obtain⟨rfl,e3,rfl⟩:=e1;have q1:=(hb.cell (p:=⟨sb,so+j*2+1,none⟩) HSB.o).trans HK1.o;have HL8:=Lh hL8;have HNB:=Lh hnb;have HKT:=Lh hkt;have HK:=Lh hk;have HIN:Hd (w2.cell? ⟨nb,no+k*7,none⟩=some (.string jb.nodes[k].uid)/\w2.cell? ⟨nb,no+k*7+1,none⟩=some (.int .u8 jb.nodes[k].kind)/\w2.cell? ⟨nb,no+k*7+2,none⟩=some (.slice a1 l1 c1)/\w2.cell? ⟨nb,no+k*7+3,none⟩=some (.int .u8 jb.nodes[k].x.op)/\w2.cell? ⟨nb,no+k*7+4,none⟩=some (.int .i64 jb.nodes[k].x.n)/\w2.cell? ⟨nb,no+k*7+5,none⟩=some (.slice a2 l2 c2)/\w2.cell? ⟨nb,no+k*7+6,none⟩=some (.int .i64 jb.nodes[k].n)):=⟨n0,n1,n2,n3,n4,n5,n6⟩;clear hL8 hnb n0 n2 n3 n4 n5 n6 hin hb hu e2 e3 HST0 hr0;generalize jb.nodes[k]=nd at*;generalize hts:ts[k]=tv at*;rcases hst:statefulB nd.kind with _|_
       ·have HEE:Hd (E=180):=hpk.1 hst;have HSF:=Lh hst;clear hpk hst htk hts hkt
        go_wp2_with (first
         |(go_at_call 84;refine(rstateful_c _ _).mono ?_;rintro e w9 ⟨rfl,rfl⟩;rw[HSF.o])
         |fail)
        go_ret2;exact⟨⟨_,by rw[HEE.o];rfl⟩,HL8.o.below⟩
       ·have HSF:=Lh hst;rcases tv with _|T0
        ·have hpk2:=hpk.2.2 hst (fun h=>by obtain⟨T,e⟩:=htk.1 h;cases e)
         have HTS:Hd ((ts.map ptrV)[k]? =some (.pointer none)):=by show _=_;rw[List.getElem?_map,List.getElem?_eq_getElem hkt];exact congrArg (fun z=>some (ptrV z)) hts
         clear hpk hst htk hts hkt;unfold Option.map at t0;unfold ptrV at t0;dsimp only at t0;by_cases hte:(takeTb s.bytes).2=0
         ·have HTE:=Lh hte;have hpk3:=hpk2.2 hte;clear hpk2 hte
          go_upto_region 18 with (first
           |(go_at_call 84;refine(rstateful_c _ _).mono ?_;rintro e w9 ⟨rfl,rfl⟩;rw[HSF.o])
           |(go_at_call 85;refine(rTake6_ok s.bytes HSJ.o HTE.o _).mono ?_;rintro e w3 ⟨T,ps,rfl,hps,htab,hb3⟩)
           |fail)
          have hL9:=HL8.o.more hb3;obtain⟨n0,n1,n2,n3,n4,n5,n6⟩:=HIN.o;have hnb2:nb<w2.heap.size:=lt1 HNB.o HL8.o.below.size;have g:=fun x=>hb3.cell (p:=⟨nb,x,none⟩) hnb2;have z0:=(g _).trans n0;have z1:=(g _).trans n1;have z2:=(g _).trans n2;have z3:=(g _).trans n3;have z4:=(g _).trans n4;have z5:=(g _).trans n5;have z6:=(g _).trans n6;have x0:=hL9.job.cell 0;have x1:=hL9.job.cell 1;have HL9:=Lh hL9;have HFT:Hd (CB prog 86 #[.agg #[.string nd.uid,.int .u8 nd.kind,.slice a1 l1 c1,.int .u8 nd.x.op,.int .i64 nd.x.n,.slice a2 l2 c2,.int .i64 nd.n],px T] w3 (.bool (fitsB nd.kind nd.n (takeTb s.bytes).1))):=by
           have:=rFits_c nd.uid nd.kind nd.x.op nd.x.n nd.n a1 a2 l1 c1 l2 c2 T ps w3 htab;rwa[hps]at this
          clear n0 n1 n2 n3 n4 n5 n6 g hL9 q1 j0 j1 i2 htab hps hb3 t0 tf;rcases hfb:fitsB nd.kind nd.n (takeTb s.bytes).1 with _|_
          ·have HEE:Hd (E=181):=hpk3.1 hfb;have HFB:=Lh hfb;clear hpk3 hfb
           go_wp2_with (first
            |(go_at_call 86;refine HFT.o.mono ?_;rintro e w4 ⟨rfl,hb4⟩;rw[HFB.o])
            |fail)
           go_ret2;exact⟨⟨_,by rw[HEE.o];rfl⟩,(HL9.o.more hb4).below⟩
          ·have HNX:=Lh (hpk3.2 hfb);have HFB:=Lh hfb;clear hpk3 hfb
           go_upto_region 20 with (first
            |(go_at_call 86;refine HFT.o.mono ?_;rintro e w4 ⟨rfl,hb4⟩;rw[HFB.o])
            |fail)
           have hL10:=HL9.o.more hb4;have i2:=hL10.idl.cell 2;have t1:=((own_cells hL10.row).2.2 k HK.o).2;have t2:=((own_cells hL10.row).2.2 k HK.o).1.trans HTS.o;have hkn:=HK.o;have HL10:=Lh hL10;clear hL10 z0 z1 z2 z3 z4 z5 z6 x0 x1 HFT HFB;unfold px
           go_wp2_with fail
           go_roundw
           case rel=>exact⟨j+1,_,_,by go_num,HJL.o,HL10.o.put k T,by rw[List.length_set,HTL.o],HTI.o.put HKT.o T,HNX.o⟩
           case measure=>have:=HJL.o;simp[intOf];omega
         ·have HEE:Hd (E=(takeTb s.bytes).2):=hpk2.1 hte;have d5:((takeTb s.bytes).2 !=0)=true:=by simpa using hte
          have HTE:=Lh hte;clear hpk2 hte
          go_wp2_with (first
           |(go_at_call 84;refine(rstateful_c _ _).mono ?_;rintro e w9 ⟨rfl,rfl⟩;rw[HSF.o])
           |(go_at_call 85;refine(rTake6_err s.bytes HSJ.o HTE.o _).mono ?_;rintro e w3 ⟨rfl,hb3⟩)
           |fail)
          go_ret2;exact⟨⟨_,by rw[HEE.o];rfl⟩,(HL8.o.more hb3).below⟩
        ·have HEE:Hd (E=180):=hpk.2.1 (htk.2 ⟨T0,rfl⟩);clear hpk hst htk hts hkt;unfold Option.map at t0;unfold ptrV px at t0;dsimp only at t0
         go_wp2_with (first
          |(go_at_call 84;refine(rstateful_c _ _).mono ?_;rintro e w9 ⟨rfl,rfl⟩;rw[HSF.o])
          |fail)
         go_ret2;exact⟨⟨_,by rw[HEE.o];rfl⟩,HL8.o.below⟩
     ·obtain rfl:j=l.length:=by omega
      have d0:decide ((l.length:Int)<(l.length:Int))=false:=df0 (by omega);have HEE:Hd (E=0):=by
       show _=_;rw[<-hgo,List.drop_length];rfl
      have HL:=Lh hL;have HTL:=Lh htl;clear hL hgo hti htl
      go_wp2_with fail
      go_loopw [14] (fun q wr=> ∃(i:Nat) (ts:List (Option Nat)),q= .int .i64 (i:Int)/\i<=jb.nodes.length/\Ld6 w jb.par a jb.nodes.length cap I g tcap jb.nodes.length ts wr/\ts.length=jb.nodes.length) (fun q _=>jb.nodes.length-(intOf q).toNat)
      case atStart=>exact⟨0,ts,rfl,ze0,HL.o,HTL.o⟩
      case round=>
       obtain⟨k,ts,rfl,hk,hL,htl⟩:=hrel;have j0:=hL.job.cell 0;have j1:=hL.job.cell 1;by_cases hkl:k<jb.nodes.length
       ·have hkt:k<ts.length:=by rw[htl];exact hkl
        obtain⟨g1,tc1,hgq⟩:=own_pos hL.row (by omega);simp only[vs0]at hgq;obtain⟨rfl,e2,rfl⟩:=hgq;obtain⟨t0,tf⟩:=(own_cells hL.row).2.2 k hkl;rw[List.getElem?_map,List.getElem?_eq_getElem hkt]at t0;obtain⟨nb,no,nc,e1,hnb,hu,iv,xv,n0,n1,n2,n3,n4,n5,n6,hin⟩:=(HND.o.keep hL.below).at_ k hkl;simp only[vs0]at e1;obtain⟨rfl,e3,rfl⟩:=e1;have i2:=hL.idl.cell 2;have HTL:=Lh htl;have HKL:=Lh hkl;have hkI:(k:Int)<(jb.nodes.length:Int):=by omega
        clear n0 n2 n3 n4 n5 n6 hin hu e2 e3 hnb;generalize jb.nodes[k].kind=kd at*;generalize hts:ts[k]=tv at*;have HTS:Hd ((ts.map ptrV)[k]? =some (ptrV tv)):=by show _=_;rw[List.getElem?_map,List.getElem?_eq_getElem hkt];exact congrArg (fun z=>some (ptrV z)) hts
        clear hts hkt htl hkl;rcases tv with _|T0
        ·unfold Option.map at t0;unfold ptrV at t0;dsimp only at t0;rcases hst:statefulB kd with _|_
         ·have HSF:=Lh hst;have HL:=Lh hL;clear hst hL
          go_wp2_with (first
           |(go_at_call 84;refine(rstateful_c _ _).mono ?_;rintro e w9 ⟨rfl,rfl⟩;rw[HSF.o])
           |fail)
          go_roundw
          case rel=>exact⟨k+1,ts,by go_num,HKL.o,HL.o,HTL.o⟩
          case measure=>have:=HKL.o;simp[intOf];omega
         ·have HSF:=Lh hst;have hLa:=hL.more (br0.alloc le0 (.cells #[.slice none 0 0] 158));have tf2:=((own_cells hLa.row).2.2 k HKL.o).2;have tf3:_=some (Value.pointer none):=((own_cells hLa.row).2.2 k HKL.o).1.trans HTS.o;have HLP:=Lh (hLa.put k wr.heap.size);clear hst hL hLa tf;unfold px at HLP
          go_wp2_with (first
           |(go_at_call 84;refine(rstateful_c _ _).mono ?_;rintro e w9 ⟨rfl,rfl⟩;rw[HSF.o])
           |fail)
          go_roundw
          case rel=>exact⟨k+1,_,by go_num,HKL.o,HLP.o,by rw[List.length_set,HTL.o]⟩
          case measure=>have:=HKL.o;simp[intOf];omega
        ·unfold Option.map at t0;unfold ptrV px at t0;dsimp only at t0;have HL:=Lh hL;clear hL
         go_wp2_with fail
         go_roundw
         case rel=>exact⟨k+1,ts,by go_num,HKL.o,HL.o,HTL.o⟩
         case measure=>have:=HKL.o;simp[intOf];omega
       ·obtain rfl:k=jb.nodes.length:=by omega
        have HL:=Lh hL.below;clear hL htl
        go_wp2_with fail
        go_ret2;exact⟨⟨_,by rw[HEE.o];rfl⟩,HL.o⟩
 ·have hm0:(jb.may.2 !=0)=true:=by simpa using hm
  have HE2:Hd (E=2):=by show _=_;rw[HE.o,if_pos hm]
  clear hm HE;go_enter func35,ntmps35
  go_wp2_with (first|(go_at_call 82;refine HM.o.mono ?_;rintro e w1 ⟨rfl,hbm⟩)|fail)
  go_ret2;exact⟨⟨_,by rw[HE2.o];rfl⟩,HB1.o.trans (hbm.mono HB1.o.size)⟩

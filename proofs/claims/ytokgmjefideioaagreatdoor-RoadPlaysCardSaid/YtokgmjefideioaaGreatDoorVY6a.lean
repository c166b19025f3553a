/- Parts. -/
import Derived.Test.YtokgmjefideioaaGreatDoorVW3
import Derived.Test.YtokgmjefideioaaGreatDoorVW5
namespace Go.Proofs.YtokgmjefideioaaGreatDoor
open Go.RowKit
set_option linter.unusedVariables false
set_option linter.unusedSimpArgs false
set_option maxRecDepth 100000
set_option maxHeartbeats 16000000
open Tryz
def chL:Chg->List Value
 | .app f s=> [.int .i64 1,.int .i64 f,.int .i64 0,.string s]
 | .cut f n=> [.int .i64 2,.int .i64 f,.int .i64 n,.string {data:=#[]}]
 | .mv a b=> [.int .i64 3,.int .i64 a,.int .i64 b,.string {data:=#[]}]
theorem chL_len (c:Chg):(chL c).length=4:=by cases c<;>rfl
def chsL (cs:List Chg):List Value:=cs.flatMap chL
theorem chsL_snoc (cs:List Chg) (c:Chg):chsL (cs++ [c])=chsL cs++chL c:=by
 unfold chsL;rw[List.flatMap_append,List.flatMap_cons,List.flatMap_nil,List.append_nil]
theorem chsL_at: ∀(cs:List Chg) (k:Nat) (h:k<cs.length) (j:Nat),j<4->(chsL cs)[k*4+j]? =(chL cs[k])[j]?
 |c::cs,0,_,j,hj=>by
  show(chL c++chsL cs)[0*4+j]? =_
  rw[Nat.zero_mul,Nat.zero_add,List.getElem?_append_left (by rw[chL_len];exact hj)]
  rfl
 |c::cs,k+1,h,j,hj=>by
  show(chL c++chsL cs)[(k+1)*4+j]? =_
  rw[List.getElem?_append_right (by rw[chL_len];omega),chL_len,show(k+1)*4+j-4=k*4+j by omega]
  exact chsL_at cs k (by simpa using h) j hj
structure RDk (w:World) (M:Nat->Prop) (D:Nat) (d:Dk):Prop where
 inv:d.Inv
 mem:M D
 lt: ∀b,M b->b<w.heap.size
 ex: ∃lv,Blk w D 54 (dkC d lv)/\SlP w (fun b=>M b/\b≠D) 4 lv d.loose.length (chsL d.loose)
def RDkTo (w w':World) (M:Nat->Prop) (D:Nat) (d':Dk):Prop:=Fr M w w'/\ ∃N,(∀b,N b->M b\/w.heap.size<=b)/\RDk w' N D d'
namespace RDk
variable {w w':World} {M N:Nat->Prop} {D:Nat} {d:Dk}
theorem keep (h:RDk w M D d) (hs:w.heap.size<=w'.heap.size) (hk: ∀b,M b->w'.heap[b]? =w.heap[b]?):RDk w' M D d:=by
 obtain⟨lv,h1,h2⟩:=h.ex;exact⟨h.inv,h.mem,fun b hb=>lt1 (h.lt b hb) hs,lv,(hk D h.mem).trans h1,h2.keep (fun _ k=>k) fun b hb=>hk b hb.1⟩
theorem fr {S:Nat->Prop} (h:RDk w M D d) (hf:Fr S w w') (hS: ∀b,M b-> ¬S b):RDk w' M D d:=h.keep hf.size fun b hb=>hf.block b (h.lt b hb) (hS b hb)
theorem below (h:RDk w M D d) (hb:Below w.heap.size w w'):RDk w' M D d:=h.keep hb.size fun b hm=>hb.block b (h.lt b hm)
theorem tos (h:RDk w M D d):RDkTo w w M D d:=⟨Fr.refl _ _,M,fun _ hb=> .inl hb,h⟩
theorem toB (h:RDk w M D d) (hb:Below w.heap.size w w'):RDkTo w w' M D d:=⟨Fr.of_new hb,M,fun _ hb=> .inl hb,h.below hb⟩
theorem set {d':Dk} {lv:Value} (h:RDk w M D d) (hi:d'.Inv) (hb:Blk w' D 54 (dkC d' lv)) (hf:Fr (· =D) w w') (hl:SlP w (fun b=>M b/\b≠D) 4 lv d'.loose.length (chsL d'.loose)):RDkTo w w' M D d':=
 ⟨hf.mono (fun k _ e=>e▸h.mem),M,fun _ hb=> .inl hb,hi,h.mem,fun b hm=>lt1 (h.lt b hm) hf.size,lv,hb,hl.keep (fun _ k=>k) fun b hm=>hf.block b (h.lt b hm.1) hm.2⟩
theorem slice {lv:Value} (h:SlP w M 4 lv d.loose.length (chsL d.loose)): ∃a cap,lv= .slice a d.loose.length cap/\d.loose.length<=cap/\cap<=maxLen:=by
 obtain⟨_,a,cap,hv,h2,h3,_⟩:=h;exact⟨a,cap,hv,h2,h3⟩
end RDk
theorem rNew_c (room:Int) (w:World):
  Calls prog 8 #[.int .i64 room] w fun e w'=>Below w.heap.size w w'/\((1<=room/\room<=4194304/\e= .returned (.tuple #[px w.heap.size,.int .i64 0])/\RDk w' (· =w.heap.size) w.heap.size (Dk.new room))\/((room<1\/4194304<room)/\e= .returned (.tuple #[.pointer none,.int .i64 2]))):=by
 by_cases h1:room<1
 ·have d1:decide (room<1)=true:=dt0 h1;go_enter func8,ntmps8
  go_wp2_with fail
  go_ret2
  first|exact⟨Below.refl _ _,.inr ⟨.inl h1,rfl⟩⟩|exact⟨Below.refl _ _,.inr rfl⟩
 ·have d1:decide (room<1)=false:=df0 h1;by_cases h2:4194304<room
  ·have d2:decide (4194304<room)=true:=dt0 h2;have HH:=Lh h2;go_enter func8,ntmps8
   go_wp2_with fail
   go_ret2
   first|exact⟨Below.refl _ _,.inr ⟨.inr HH.o,rfl⟩⟩|exact⟨Below.refl _ _,.inr rfl⟩
  ·have d2:decide (4194304<room)=false:=df0 h2;have HH:=Lh (⟨h1,h2⟩: ¬room<1/\ ¬4194304<room);clear h1 h2;go_enter func8,ntmps8
   go_wp2_with fail
   go_ret2;have h1:=HH.o.1;have h2:=HH.o.2;refine⟨br0.alloc le0 _,.inl ⟨by omega,by omega,rfl,Dk.Inv.new room (by omega) (by omega),rfl,?_,.slice none 0 0,Blk.new w _ _,rfl,none,0,rfl,le0,ze0,.inl rfl⟩⟩;rintro b rfl;simp
theorem rop_b (w:World) (D:Nat) (d:Dk) (lv:Value) (hb:Blk w D 54 (dkC d lv)) (hld:d.Len) (hr1: -1<=d.left) (hr2:d.left<=9223372036854775807):
  Calls prog 71 #[px D] w fun e w'=>e= .returned (.int .i64 d.op.2)/\Blk w' D 54 (dkC d.op.1 lv)/\Fr (· =D) w w':=by
 have c35:=(hb.cell 35).trans (dkC_35 hld);have f34:=hb.free 34;have f35:=hb.free 35;have c34:=(hb.cell 34).trans (dkC_34 hld);have hDl:=hb.lt;have HB:=Lh hb;unfold px;have HE:Hd (d.op=if d.left=0 then({d with off:=true},50)else if 0<d.left then({d with left:=d.left-1},0)else(d,0)):=rfl;generalize d.op=R at*;by_cases h0:d.left=0
 ·have HR:Hd (R=({d with off:=true},50)):=by show _=_;rw[HE.o,if_pos h0]
  rw[h0]at c35;clear h0 HE hb;go_enter func71,ntmps71
  go_wp2_with fail
  go_ret;rw[HR.o];have hF:Fr (· =D) w (w.setCell ⟨D,34,none⟩ (.bool true)):=(Fr.refl (fun x=>x=D) w).setCell (p:=⟨D,34,none⟩) (.inl rfl) _;have:=HB.o.set 34 (.bool true);rw[dkC_set_34 hld]at this;exact⟨rfl,this,hF⟩
 ·by_cases hp:0<d.left
  ·have HR:Hd (R=({d with left:=d.left-1},0)):=by show _=_;rw[HE.o,if_neg h0,if_pos hp]
   have d0:(d.left==0)=false:=by rw[bq0];exact h0
   have d1:decide (0<d.left)=true:=dt0 hp;generalize hL:d.left=L at c35 hr1 hr2 d0 d1 h0 hp;have HLL:=Lh hL;clear hL HE h0 hb;go_enter func71,ntmps71
   go_wp2_with fail
   go_ret;obtain rfl:=HLL.o;rw[HR.o];have hF:Fr (· =D) w (w.setCell ⟨D,35,none⟩ (.int .i64 (d.left-1))):=(Fr.refl (fun x=>x=D) w).setCell (p:=⟨D,35,none⟩) (.inl rfl) _;have:=HB.o.set 35 (.int .i64 (d.left-1));rw[dkC_set_35 hld]at this;exact⟨rfl,this,hF⟩
  ·have HR:Hd (R=(d,0)):=by show _=_;rw[HE.o,if_neg h0,if_neg hp]
   have d0:(d.left==0)=false:=by rw[bq0];exact h0
   have d1:decide (0<d.left)=false:=df0 hp;generalize d.left=L at c35 hr1 hr2 d0 d1 h0 hp;clear HE h0 hb;go_enter func71,ntmps71
   go_wp2_with fail
   go_ret;rw[HR.o];exact⟨rfl,HB.o,Fr.refl _ _⟩
theorem rPower_c (w:World) (M:Nat->Prop) (D:Nat) (d:Dk) (h:RDk w M D d) (n:Int) (hn:n<=9223372036854775807):
  Calls prog 17 #[px D,.int .i64 n] w fun e w'=>e= .returned (.int .i64 (d.power n).2)/\RDkTo w w' M D (d.power n).1:=by
 have hin:=h.inv.power n hn;have hld:=h.inv.len;obtain⟨lv,hb,hlo⟩:=h.ex;have f35:=hb.free 35;have c34:=(hb.cell 34).trans (dkC_34 hld);have c35:=(hb.cell 35).trans (dkC_35 hld);have hDl:=hb.lt;have HH:=Lh h;have HI:=Lh hin;have HB:=Lh hb;have HLO:=Lh hlo;clear hin hlo h hb;unfold px;have HE:Hd (d.power n=if d.off=true then(d,50)else if n<0 then(d,2)else({d with left:=n},0)):=rfl;generalize d.power n=R at*
 cases ho:d.off
 ·rw[ho]at c34;by_cases h0:n<0
  ·have HV:Hd (R=(d,2)):=by show _=_;rw[HE.o,ho,if_neg (by decide),if_pos h0]
   have hd:decide (n<0)=true:=dt0 h0;clear HE ho;go_enter func17,ntmps17
   go_wp2_with fail
   go_ret;rw[HV.o];exact⟨rfl,HH.o.tos⟩
  ·have HV:Hd (R=({d with left:=n},0)):=by show _=_;rw[HE.o,ho,if_neg (by decide),if_neg h0]
   have hd:decide (n<0)=false:=df0 h0;clear HE ho;go_enter func17,ntmps17
   go_wp2_with fail
   go_ret;have hi:=HI.o;rw[HV.o]at hi⊢;have hF:Fr (· =D) w (w.setCell ⟨D,35,none⟩ (.int .i64 n)):=(Fr.refl (fun x=>x=D) w).setCell (p:=⟨D,35,none⟩) (.inl rfl) _;have:=HB.o.set 35 (.int .i64 n);rw[dkC_set_35 hld]at this;exact⟨rfl,HH.o.set (d':={d with left:=n}) hi this hF HLO.o⟩
 ·have HV:Hd (R=(d,50)):=by show _=_;rw[HE.o,ho,if_pos rfl]
  rw[ho]at c34;clear HE ho;go_enter func17,ntmps17
  go_wp2_with fail
  go_ret;rw[HV.o];exact⟨rfl,HH.o.tos⟩
theorem files_sizeR:(prog.info? 51).map (·.size)=some 16:=by kernel_rfl
theorem rSync_c (w:World) (M:Nat->Prop) (D:Nat) (d:Dk) (h:RDk w M D d):
  Calls prog 38 #[px D] w fun e w'=>e= .returned (.int .i64 d.sync.2)/\RDkTo w w' M D d.sync.1:=by
 obtain⟨lv,hb,hL⟩:=id h.ex;have hld:=h.inv.len;have HOP:=Lh (rop_b w D d lv hb hld h.inv.left1 h.inv.left2);have HH:=Lh h;have HI:=Lh h.inv.sync;have HIO:=Lh h.inv.op;have HE:Hd (d.sync=if d.off=true then(d,50)else if d.op.2=0 then({d.op.1 with sure:=d.op.1.now,loose:=[]},0)else d.op):=rfl;have HSM:=Lh (Dk.op_same d);have HO:=Lh (Dk.op_len hld);have HL:=Lh hL;have HD:=Lh (h.lt D h.mem);have c34:=(hb.cell 34).trans (dkC_34 hld);have hDl:=hb.lt;generalize d.sync=R at*;unfold px at HOP⊢;clear hb hL h hld;by_cases ho:d.off=true
 ·rw[if_pos ho]at HE;rw[ho]at c34;clear ho;go_enter func38,ntmps38
  go_wp2_with fail
  go_ret;rw[HE.o];exact⟨rfl,HH.o.tos⟩
 ·rw[if_neg ho]at HE;have ho2:d.off=false:=by simpa using ho
  rw[ho2]at c34;clear ho ho2;by_cases h0:d.op.2=0
  ·rw[if_pos h0]at HE;rw[h0]at HOP;clear h0;generalize d.op.1=d1 at*;have hl:(d1.now.map Value.string).length=16:=by rw[List.length_map,HO.o.n]
   have HI2:Hd ((prog.info? 51).map (·.size)=some (d1.now.map Value.string).length):=by show _=_;rw[hl];exact files_sizeR
   go_enter func38,ntmps38
   go_upto_region 6 with (first|(go_at_call 71;refine HOP.o.mono ?_;rintro e w1 ⟨rfl,hb1,hf1⟩))
   have HR1:=Lh (dk_range_now hb1 HO.o);have HT1:=Lh (dk_there hb1 HO.o 17 16 (by omega));have HB2:=Lh (dk_store_sure hb1 HO.o HO.o.n);have f33:=hb1.free 33;have hl1:=hb1.lt;have HF1:=Lh hf1;have hlen2:Dk.Len {d1 with sure:=d1.now}:=⟨HO.o.n,HO.o.n⟩;have c33:=(HB2.o.cell 33).trans (dkC_33 hlen2);have g33:=HB2.o.free 33;clear hb1 hf1 HOP
   go_wp2_with (first|(refine wpList_load_mid rfl 51 (.tmp 16) rfl D 1 rfl _ _ HR1.o underlying51 rfl HI2.o ?_)|(refine wpList_store_mid rfl 51 (.tmp 19) (.tmp 17) rfl D 17 (d1.now.map Value.string).toArray rfl rfl (by simpa[hl]using HT1.o) (by simpa using HI2.o) (strs_one d1.now) ?_)|fail)
   go_ret;have hi:=HI.o;rw[HE.o]at hi⊢;have hst:=HB2.o.set 33 (.slice none 0 0);rw[dkC_set_33 hlen2]at hst;refine⟨rfl,HH.o.set (d':={d1 with sure:=d1.now,loose:=[]}) hi hst ?_ ⟨rfl,none,0,rfl,le0,ze0,.inl rfl⟩⟩;exact(HF1.o.setCells D _ 17 _ (.inl rfl)).setCell (p:=⟨D,33,none⟩) (.inl rfl) _
  ·rw[if_neg h0]at HE;have h1:(d.op.2 !=0)=true:=by simpa using h0
   clear h0;go_enter func38,ntmps38
   go_wp2_with (first|(go_at_call 71;refine HOP.o.mono ?_;rintro e w1 ⟨rfl,hb1,hf1⟩))
   go_ret;rw[HE.o];exact⟨rfl,HH.o.set HIO.o hb1 hf1 (by rw[HSM.o.2.2.2];exact HL.o)⟩
theorem rRead_c (w:World) (M:Nat->Prop) (D:Nat) (d:Dk) (h:RDk w M D d) (f:Int):
  Calls prog 40 #[px D,.int .i64 f] w fun e w'=>e= .returned (.tuple #[.string (d.read f).1,.int .i64 (d.read f).2])/\w=w':=by
 obtain⟨lv,hb,_⟩:=h.ex;have hld:=h.inv.len;have c34:=(hb.cell 34).trans (dkC_34 hld);have hDl:=hb.lt;have HE:Hd (d.read f=if d.off=true then(.empty,50)else if Dk.isF f=false then(.empty,2)else(fl d.now f.toNat,0)):=rfl;generalize d.read f=R at*;unfold px;clear h
 cases ho:d.off
 ·rw[ho]at c34 HE;rw[if_neg (by decide)]at HE;clear ho
  cases hf:Dk.isF f
  ·rw[hf,if_pos rfl]at HE;have hc:f<0\/(¬f<0/\15<f):=by simp[Dk.isF]at hf;omega
   rcases hc with h1|⟨h1,h2⟩
   ·have e1:decide (f<0)=true:=dt0 h1;clear hf h1;go_enter func40,ntmps40
    go_wp2_with fail
    go_ret2;rw[HE.o];exact⟨rfl,rfl⟩
   ·have e1:decide (f<0)=false:=df0 h1;have e2:decide (15<f)=true:=dt0 h2;clear hf h1 h2;go_enter func40,ntmps40
    go_wp2_with fail
    go_ret2;rw[HE.o];exact⟨rfl,rfl⟩
  ·rw[hf,if_neg (by decide)]at HE;obtain⟨n,rfl,hn⟩:=isF_ir hf;rw[Int.toNat_natCast]at HE;have c:=(hb.cell (1+n)).trans (dkC_now hld n hn);have hn16:(n:Int)<16:=by omega
   have e1:decide ((n:Int)<0)=false:=df0 (by omega);have e2:decide (15<(n:Int))=false:=df0 (by omega);have e3: ¬(15<(n:Int)):=by omega
   have e4: ¬(15<n):=by omega
   generalize fl d.now n=x at*;clear hb hf;go_enter func40,ntmps40
   go_wp2_with fail
   go_ret2;rw[HE.o];exact⟨rfl,rfl⟩
 ·rw[ho]at c34 HE;rw[if_pos rfl]at HE;clear ho;go_enter func40,ntmps40
  go_wp2_with fail
  go_ret2;rw[HE.o];exact⟨rfl,rfl⟩
theorem rLeft_c (D:Nat) (w:World) (d:Dk) (lv:Value) (hb:Blk w D 54 (dkC d lv)) (hd:d.Len) (hfit:(Dk.sum d.now:Int)<=d.room) (hroom:d.room<=4194304):
  Calls prog 105 #[px D] w fun e w'=>e= .returned (.int .i64 d.free)/\w=w':=by
 have c0:=(hb.cell 0).trans (dkC_0 (d:=d) (lv:=lv));have hDl:=hb.lt;have HC:Hd (∀k,k<16->w.cell? ⟨D,1+k,none⟩=some (.string (fl d.now k))):=fun k hk=>(hb.cell (1+k)).trans (dkC_now hd k hk);have HST:Hd (∀k,k<16->Dk.sum (d.now.take (k+1))=Dk.sum (d.now.take k)+(fl d.now k).size):=fun k hk=>sum_take d.now k (by rw[hd.n];exact hk);have HF:Hd (d.now.take 16=d.now):=by show _=_;exact List.take_of_length_le (by rw[hd.n];exact le0)
 have HSL:Hd (∀k,k<=16->Dk.sum (d.now.take k)<=Dk.sum d.now):=by
  have hlast: ∀n k,n+k=16->Dk.sum (d.now.take k)<=Dk.sum d.now:=by
   intro n
   induction n with
   |zero=>intro k hk;rw[List.take_of_length_le (by rw[hd.n];omega)];exact le0
   |succ n ih=>intro k hk;have:=ih (k+1) (by omega);have:=HST.o k (by omega);omega
  exact fun k hk=>hlast (16-k) k (by omega)
 have HFR:Hd (d.free=d.room-(Dk.sum d.now:Nat)):=rfl;generalize d.free=FR at*;generalize d.now=l at*;generalize d.room=room at*;clear hb;unfold px;go_enter func105,ntmps105
 go_wp2_with fail
 go_loop [3,4] (fun n q=> ∃k:Nat,q= .int .i64 k/\k<=16/\n= .int .i64 (room-(Dk.sum (l.take k):Nat))) (fun _ q=>16-(intOf q).toNat)
 case atStart=>exact⟨0,rfl,ze0,by simp[Dk.sum]⟩
 case round=>
  obtain⟨k,rfl,hk,rfl⟩:=hrel;by_cases hlt:k<16
  ·have hx:=HC.o k hlt;have hst:=HST.o k hlt;have hs1:=HSL.o k hk;have hs2:=HSL.o (k+1) hlt;have e1:decide ((k:Int)<16)=true:=dt0 (by omega);have e2:(k:Int)<16:=by omega
   generalize Dk.sum (l.take k)=s0 at*;have HS:=Lh hst;generalize fl l k=x at*
   go_wp2_with fail
   go_round
   case rel=>exact⟨k+1,by go_num,by omega,by rw[HS.o];congr 1;omega⟩
   case measure=>simp[intOf];omega
  ·have e16:l.take k=l:=by
    have h16:k=16:=by omega
    rw[h16];exact HF.o
   have e1:decide ((k:Int)<16)=false:=df0 (by omega);rw[e16];clear e16
   go_wp2_with fail
   go_ret;rw[HFR.o];exact⟨rfl,rfl⟩
def Chg.mk (c:Chg) (n:Int) (l:Fls):Fls:=match c with
 | .app f s=>(Chg.app f s).part n l
 |c=>c.does l
def flC (l:Fls):Array Value:=(l.map Value.string).toArray
theorem flC_at {l:Fls} {f:Nat} (h:f<l.length):(flC l)[f]? =some (.string (fl l f)):=by
 unfold flC;rw[List.getElem?_toArray,List.getElem?_map,List.getElem?_eq_getElem h,Option.map_some,fl_get]
theorem flC_set (l:Fls) (f:Nat) (x:ByteArray):(flC l).setIfInBounds f (.string x)=flC (l.set f x):=by
 unfold flC;rw[List.setIfInBounds_toArray,<-List.map_set]
theorem z16:flC (List.replicate 16 .empty)=#[.string {data:=#[]},.string {data:=#[]},.string {data:=#[]},.string {data:=#[]},.string {data:=#[]},.string {data:=#[]},.string {data:=#[]},.string {data:=#[]},.string {data:=#[]},.string {data:=#[]},.string {data:=#[]},.string {data:=#[]},.string {data:=#[]},.string {data:=#[]},.string {data:=#[]},.string {data:=#[]}]:=rfl
theorem flC_range {w:World} {b:Nat} {t:TypeId} {l:Fls} (h:Blk w b t (flC l)):w.rangeAt b 0 (l.map Value.string):=fun j v hv=>by
 rw[Nat.zero_add,h.cell]
 unfold flC
 rw[List.getElem?_toArray,hv]
theorem rmade_c (l:Fls) (hl:l.length=16) (hz: ∀f,(fl l f).size<=4194304) (c:Chg) (hc:c.okIn l) (hs: ∀f s,c= .app f s->s.size<=140737488355328) (n:Int) (w:World):
  CB prog 52 #[.agg (flC l),.agg (chL c).toArray,.int .i64 n] w (.agg (flC (c.mk n l))):=by
 have hb1:=((Blk.new w (flC l) 51).alloc (.cells (chL c).toArray 109)).alloc (.cells (flC (List.replicate 16 .empty)) 51);have hb2:=(Blk.new_at (w.alloc (.cells (flC l) 51)) (chL c).toArray 109 (k:=w.heap.size+1) (by simp)).alloc (.cells (flC (List.replicate 16 .empty)) 51);have hb3:=Blk.new_at ((w.alloc (.cells (flC l) 51)).alloc (.cells (chL c).toArray 109)) (flC (List.replicate 16 .empty)) 51 (k:=w.heap.size+2) (by simp);have hB:=(((Below.refl w.heap.size w).alloc le0 (.cells (flC l) 51)).alloc (by simp) (.cells (chL c).toArray 109)).alloc (by simp;omega) (.cells (flC (List.replicate 16 .empty)) 51);rw[z16]at hb1 hb2 hb3 hB;have HSZ:Hd (∀l:Fls,l.length=16->(prog.info? 51).map (·.size)=some (l.map Value.string).length):=fun l h=>by rw[List.length_map,h];exact files_sizeR
 have HHZ:=Lh hz;have HHS:=Lh hs;have HC:=Lh hc;clear hz hs hc;have tail:Hd (∀(W:World) (L:Fls),L.length=16->Blk W (w.heap.size) 51 (flC L)->Blk W (w.heap.size+2) 51 (flC (List.replicate 16 .empty))->Below w.heap.size w W->
   Blk (W.setCells (w.heap.size+2) 0 (L.map Value.string)) (w.heap.size+2) 51 (flC L)/\Below w.heap.size w (W.setCells (w.heap.size+2) 0 (L.map Value.string))):=fun W L hL h1 h2 h3=>by
  have h4:=Blk.setCells (l:=(List.replicate 16 ByteArray.empty).map Value.string) (L.map Value.string) 0 h2;refine⟨?_,(Fr.setCells (S:=fun _=>False) _ (L.map Value.string) 0 _ (Fr.of_new h3) (.inr (by omega))).below le0 (fun _ _ h=>h)⟩;have e:=setL_mid (L.map Value.string) [] ((List.replicate 16 ByteArray.empty).map Value.string) [] (by simp[hL]);simp only[List.nil_append,List.append_nil,List.length_nil]at e;rw[e]at h4;exact h4
 cases c with
 |app f s=>
  have hf:f<16:=HC.o;have hss:=HHS.o f s rfl;go_enter func52,ntmps52
  go_upto_region 1 with fail
  generalize World.alloc (World.alloc (World.alloc w _) _) _=W at*;have k0:W.cell? ⟨w.heap.size+1,0,none⟩=some (.int .i64 1):=hb2.cell 0;have k1:W.cell? ⟨w.heap.size+1,1,none⟩=some (.int .i64 f):=hb2.cell 1;have k3:W.cell? ⟨w.heap.size+1,3,none⟩=some (.string s):=hb2.cell 3;clear hb2;have c0:=(hb1.cell f).trans (flC_at (by omega));have f0:=hb1.free f;have hf1:(f:Int)<16:=by omega
  have hzf:=HHZ.o f;have HB1:=Lh hb1;have HB3:=Lh hb3;have HB:=Lh hB;clear hb1 hb3 hB
  go_upto_if 12 with fail
  go_cut [2] (fun s2 wx=>s2= .int .i64 (max n 0)/\W=wx)
  case first=>
   go_wp2_with fail
   all_goals
    go_meet;refine⟨?_,rfl⟩
    congr 1
    omega
  case rest=>
  obtain⟨rfl,rfl⟩:=hcut;have HQ:Hd (((clip n s.size:Nat):Int)=if(s.size:Int)<max n 0 then(s.size:Int)else max n 0):=by
   show _=_;unfold clip;split<;>omega
  generalize max n 0=m at*;have hql:=clip_le n s.size;have HMK:Hd ((Chg.app f s).mk n l=l.set f (fl l f++s.extract 0 (clip n s.size))):=rfl;generalize clip n s.size=q at*
  go_upto_if 17 with fail
  go_cut [2] (fun s2 wx=>s2= .int .i64 (q:Int)/\W=wx)
  case first=>
   go_wp2_with fail
   all_goals
    go_meet;have e:=HQ.o;refine⟨?_,rfl⟩
    congr 1
    split at e<;>omega
  case rest=>
  obtain⟨rfl,rfl⟩:=hcut;have hqi:(q:Int)<=(s.size:Int):=by omega
  have hxz:(s.extract 0 q).size<=140737488355328:=by rw[ByteArray.size_extract];omega
  have hxi:((fl l f).size:Int)+((s.extract 0 q).size:Int)<=9223372036854775807:=by omega
  clear HQ
  go_upto_region 7 with fail
  generalize fl l f=y at*
  go_region
  all_goals
   have h1:=(HB1.o.set f (.string (y++s.extract 0 q))).drew;rw[flC_set]at h1;have h3:=(HB3.o.other (p:=⟨w.heap.size,f,none⟩) (by show w.heap.size+2≠w.heap.size;omega) (.string (y++s.extract 0 q))).drew;have hb:=(HB.o.setCell (p:=⟨w.heap.size,f,none⟩) le0 (.string (y++s.extract 0 q))).drew;have hL:(l.set f (y++s.extract 0 q)).length=16:=by rw[List.length_set];exact hl
   have HRR:Hd (∃R,(Chg.app f s).mk n l=R/\R=l.set f (y++s.extract 0 q)):=⟨_,rfl,HMK.o⟩;obtain⟨R,hRR,hR2⟩:=HRR.o;rw[<-hR2]at h1 hL;have HRE:=Lh hRR;clear hRR hR2 HRR HMK
   go_upto_region 13 with fail
   generalize World.drew _=W1 at*;have HR1:=Lh (flC_range h1);have HT1:Hd (W1.there (w.heap.size+2) 0 16):=fun j hj=>⟨by rw[Nat.zero_add,h3.cell j];simpa using hj,h3.free _⟩;have HI2:=Lh (HSZ.o R hL);have HL:=Lh hL;rw[<-z16]at h3;have HP:=Lh (tail.o W1 R hL h1 h3 hb);clear h1 h3 hb hL
   go_wp2_with (first|(refine wpList_load_mid rfl 51 (.tmp 3) rfl w.heap.size 0 rfl _ _ HR1.o underlying51 rfl HI2.o ?_)|(refine wpList_store_mid rfl 51 (.tmp 6) (.tmp 57) rfl (w.heap.size+2) 0 (R.map Value.string).toArray rfl rfl (by simpa[HL.o]using HT1.o) (by simpa using HI2.o) (strs_one R) ?_)|fail)
   refine bodyPost_ret (v:= .agg (flC R)) (results_cell_row rfl _ _ (w.heap.size+2) 51 _ (0,0) _ rfl HP.o.1 underlying51 rfl ?_) rfl ⟨by rw[HRE.o],HP.o.2⟩;exact HI2.o.trans (by unfold flC;rw[List.size_toArray])
 |cut f j=>
  obtain⟨hf,hj⟩:f<16/\j<=(fl l f).size:=HC.o;go_enter func52,ntmps52
  go_upto_region 1 with fail
  generalize World.alloc (World.alloc (World.alloc w _) _) _=W at*;have k0:W.cell? ⟨w.heap.size+1,0,none⟩=some (.int .i64 2):=hb2.cell 0;have k1:W.cell? ⟨w.heap.size+1,1,none⟩=some (.int .i64 f):=hb2.cell 1;have k2:W.cell? ⟨w.heap.size+1,2,none⟩=some (.int .i64 j):=hb2.cell 2;have c0:=(hb1.cell f).trans (flC_at (by omega));have f0:=hb1.free f;have hf1:(f:Int)<16:=by omega
  have hzf:=HHZ.o f;have HB1:=Lh hb1;have HB3:=Lh hb3;have HB:=Lh hB;have HMK:Hd ((Chg.cut f j).mk n l=l.set f ((fl l f).extract 0 j)):=rfl;have hji:(j:Int)<=((fl l f).size:Int):=by omega
  clear hb1 hb2 hb3 hB;generalize fl l f=y at*
  go_upto_region 9 with fail
  go_region
  all_goals
   have h1:=(HB1.o.set f (.string (y.extract 0 j))).drew;rw[flC_set]at h1;have h3:=(HB3.o.other (p:=⟨w.heap.size,f,none⟩) (by show w.heap.size+2≠w.heap.size;omega) (.string (y.extract 0 j))).drew;have hb:=(HB.o.setCell (p:=⟨w.heap.size,f,none⟩) le0 (.string (y.extract 0 j))).drew;have hL:(l.set f (y.extract 0 j)).length=16:=by rw[List.length_set];exact hl
   have HRR:Hd (∃R,(Chg.cut f j).mk n l=R/\R=l.set f (y.extract 0 j)):=⟨_,rfl,HMK.o⟩
   go_upto_region 13 with fail
   generalize World.drew _=W1 at*;obtain⟨R,hRR,hR2⟩:=HRR.o;rw[<-hR2]at h1 hL;have HRE:=Lh hRR;clear hRR hR2 HRR HMK;have HR1:=Lh (flC_range h1);have HT1:Hd (W1.there (w.heap.size+2) 0 16):=fun j hj=>⟨by rw[Nat.zero_add,h3.cell j];simpa using hj,h3.free _⟩;have HI2:=Lh (HSZ.o R hL);have HL:=Lh hL;rw[<-z16]at h3;have HP:=Lh (tail.o W1 R hL h1 h3 hb);clear h1 h3 hb hL
   go_wp2_with (first|(refine wpList_load_mid rfl 51 (.tmp 3) rfl w.heap.size 0 rfl _ _ HR1.o underlying51 rfl HI2.o ?_)|(refine wpList_store_mid rfl 51 (.tmp 6) (.tmp 57) rfl (w.heap.size+2) 0 (R.map Value.string).toArray rfl rfl (by simpa[HL.o]using HT1.o) (by simpa using HI2.o) (strs_one R) ?_)|fail)
   refine bodyPost_ret (v:= .agg (flC R)) (results_cell_row rfl _ _ (w.heap.size+2) 51 _ (0,0) _ rfl HP.o.1 underlying51 rfl ?_) rfl ⟨by rw[HRE.o],HP.o.2⟩;exact HI2.o.trans (by unfold flC;rw[List.size_toArray])
 |mv a b=>
  obtain⟨ha,hb0,hab⟩:a<16/\b<16/\a≠b:=HC.o;go_enter func52,ntmps52
  go_upto_region 1 with fail
  generalize World.alloc (World.alloc (World.alloc w _) _) _=W at*;have k0:W.cell? ⟨w.heap.size+1,0,none⟩=some (.int .i64 3):=hb2.cell 0;have k1:W.cell? ⟨w.heap.size+1,1,none⟩=some (.int .i64 a):=hb2.cell 1;have k2:W.cell? ⟨w.heap.size+1,2,none⟩=some (.int .i64 b):=hb2.cell 2;have c0:=(hb1.cell a).trans (flC_at (by omega));have c1:=(hb1.cell b).trans (flC_at (by omega));have f0:=hb1.free a;have f1:=hb1.free b;have hf1:(a:Int)<16:=by omega
  have hf2:(b:Int)<16:=by omega
  have HB1:=Lh hb1;have HB3:=Lh hb3;have HB2:=Lh hb2;have HB:=Lh hB;have HMK:Hd ((Chg.mv a b).mk n l=(l.set b (fl l a)).set a .empty):=rfl;clear hb1 hb2 hb3 hB;generalize fl l a=y at*
  go_upto_region 11 with fail
  go_region
  all_goals
   have g1:=(HB1.o.set b (.string y)).drew;rw[flC_set]at g1;have g2:=(HB2.o.other (p:=⟨w.heap.size,b,none⟩) (by show w.heap.size+1≠w.heap.size;omega) (.string y)).drew;have g3:=(HB3.o.other (p:=⟨w.heap.size,b,none⟩) (by show w.heap.size+2≠w.heap.size;omega) (.string y)).drew;have gb:=(HB.o.setCell (p:=⟨w.heap.size,b,none⟩) le0 (.string y)).drew;generalize World.drew _=W2 at*;have k1:W2.cell? ⟨w.heap.size+1,1,none⟩=some (.int .i64 a):=g2.cell 1;have c0:=(g1.cell a).trans (flC_at (by rw[List.length_set];omega));have f0:=g1.free a;have h1:=g1.set a (.string .empty);rw[flC_set]at h1;have h3:=g3.other (p:=⟨w.heap.size,a,none⟩) (by show w.heap.size+2≠w.heap.size;omega) (.string .empty);have hb:=gb.setCell (p:=⟨w.heap.size,a,none⟩) le0 (.string .empty);have hL:((l.set b y).set a .empty).length=16:=by rw[List.length_set,List.length_set];exact hl
   have HRR:Hd (∃R,(Chg.mv a b).mk n l=R/\R=(l.set b y).set a .empty):=⟨_,rfl,HMK.o⟩;clear g1 g2 g3 gb;have K1:=Lh h1;have K3:=Lh h3;have KB:=Lh hb;clear h1 h3 hb
   go_upto_region 13 with fail
   generalize hW1:World.setCell W2 _ _=W1;have hW:W2.setCell ⟨w.heap.size,a,none⟩ (.string .empty)=W1:=hW1;have h1:=K1.o;have h3:=K3.o;have hb:=KB.o;rw[hW]at h1 h3 hb;clear hW hW1 K1 K3 KB;obtain⟨R,hRR,hR2⟩:=HRR.o;rw[<-hR2]at h1 hL;have HRE:=Lh hRR;clear hRR hR2 HRR HMK;have HR1:=Lh (flC_range h1);have HT1:Hd (W1.there (w.heap.size+2) 0 16):=fun j hj=>⟨by rw[Nat.zero_add,h3.cell j];simpa using hj,h3.free _⟩;have HI2:=Lh (HSZ.o R hL);have HL:=Lh hL;rw[<-z16]at h3;have HP:=Lh (tail.o W1 R hL h1 h3 hb);clear h1 h3 hb hL
   go_wp2_with (first|(refine wpList_load_mid rfl 51 (.tmp 3) rfl w.heap.size 0 rfl _ _ HR1.o underlying51 rfl HI2.o ?_)|(refine wpList_store_mid rfl 51 (.tmp 6) (.tmp 57) rfl (w.heap.size+2) 0 (R.map Value.string).toArray rfl rfl (by simpa[HL.o]using HT1.o) (by simpa using HI2.o) (strs_one R) ?_)|fail)
   refine bodyPost_ret (v:= .agg (flC R)) (results_cell_row rfl _ _ (w.heap.size+2) 51 _ (0,0) _ rfl HP.o.1 underlying51 rfl ?_) rfl ⟨by rw[HRE.o],HP.o.2⟩;exact HI2.o.trans (by unfold flC;rw[List.size_toArray])
section
variable {P:Program} {md:Region.Mode} {ops:Array Oper} {Q:Exit->Act->World->Prop} {S:World->Prop} {L:Nat}
def waitsOn (md:Region.Mode) (ops:Array Oper) (x i:Nat):Bool:=match ops[x]? with
 |some o=>o.after.any fun e=>Region.binds md e&&e.on==i
 |none=>false
def waitsL (md:Region.Mode) (ops:Array Oper) (listed:Array Bool) (L i:Nat):Bool:=waitsOn md ops L i||(List.range ops.size).any fun d=>!listed.getD d true&&(waitsOn md ops d i&&waitsOn md ops L d)
theorem not_ready {listed:Array Bool} {x i:Nat} (h:waitsOn md ops x i=true) (hi:listed.getD i true=false):x∉Region.ready md ops listed:=by
 intro hx;obtain⟨_,o,ho,hall⟩:=mem_ready.1 hx;simp only[waitsOn,ho,Array.any_eq_true']at h;obtain⟨e,he,hb⟩:=h;simp only[Bool.and_eq_true,beq_iff_eq]at hb;have h1:=hall e he hb.1;rw[hb.2]at h1;rcases Nat.lt_or_ge i listed.size with h'|h'
 ·simp[h']at hi h1;rw[hi]at h1;cases h1
 ·simp[Array.getElem?_eq_none h']at h1
theorem waitsL_not {listed:Array Bool} {i:Nat} (h:waitsL md ops listed L i=true) (hi:listed.getD i true=false):L∉Region.ready md ops listed:=by
 simp only[waitsL,Bool.or_eq_true,List.any_eq_true,Bool.and_eq_true,Bool.not_eq_true']at h;rcases h with h|⟨d,_,h1,_,h3⟩
 ·exact not_ready h hi
 ·exact not_ready h3 h1
theorem waitsL_set {listed:Array Bool} {i j:Nat} (h:waitsL md ops listed L i=true) (hi:listed.getD i true=false) (hj:j∈Region.ready md ops listed):waitsL md ops (listed.setIfInBounds j true) L i=true:=by
 simp only[waitsL,Bool.or_eq_true,List.any_eq_true,Bool.and_eq_true,Bool.not_eq_true']at h⊢;rcases h with h|⟨d,h0,h1,h2,h3⟩
 ·exact .inl h
 ·refine .inr ⟨d,h0,?_,h2,h3⟩;have:j≠d:=by rintro rfl;exact not_ready h2 hi hj
  rw[getD_set_ne true this];exact h1
def wpAnyL (P:Program) (md:Region.Mode) (ops:Array Oper) (Q:Exit->Act->World->Prop) (S:World->Prop) (L:Nat):Nat->Array Bool->Act->World->Prop
 |0,listed,a,w=>Region.ready md ops listed=[]/\Q .normal a w
 |n+1,listed,a,w=>(Region.ready md ops listed=[]->Q .normal a w)/\ ∀j∈Region.ready md ops listed,wpOp P ops Q j (fun a' w'=>(j≠L->S w')/\wpAnyL P md ops Q S L n (listed.setIfInBounds j true) a' w') a w
theorem wpAny_of_L: ∀(n:Nat) (listed:Array Bool) (a:Act) (w:World),wpAnyL P md ops Q S L n listed a w->wpAny P md ops Q n listed a w
 |0,_,_,_,h=>h
 |n+1,_,_,_,h=>⟨h.1,fun j hj=>wpOp_mono (fun a' w' h'=>wpAny_of_L n _ a' w' h'.2) (h.2 j hj)⟩
theorem wpAnyL_take {i:Nat} {oi:Oper} {v:Value} (hi:ops[i]? =some oi) (hsel:Region.noSelect ops=true) (hQ: ∀c a w,Q (.panic c) (a.put oi.dst v) w->Q (.panic c) a w):
  ∀(n:Nat) (listed:Array Bool) (a:Act) (w:World),Region.free md ops listed i=true->waitsL md ops listed L i=true->i∈Region.ready md ops listed->YieldsIf P ops S oi v a->S w->
   wpAnyL P md ops Q S L n (listed.setIfInBounds i true) (a.put oi.dst v) w->wpAnyL P md ops Q S L (n+1) listed a w:=by
 have hns:=Region.noSelect_spec hsel
 suffices H: ∀(n:Nat) (listed:Array Bool) (a:Act) (w:World),(∀j oj,ops[j]? =some oj->j≠i->listed.getD j true=false->(∀e∈oj.after,Region.binds md e=true->e.on≠i)->oi.apart ops oj=true)->
   waitsL md ops listed L i=true->i∈Region.ready md ops listed->YieldsIf P ops S oi v a->S w->wpAnyL P md ops Q S L n (listed.setIfInBounds i true) (a.put oi.dst v) w->wpAnyL P md ops Q S L (n+1) listed a w from
  fun n listed a w hf=>H n listed a w (Region.free_spec hi hf)
 intro n
 induction n with
 |zero=>
  intro listed a w _ _ hr hy hS h;refine⟨fun e=>absurd (e▸hr) (by simp),fun j hj=>?_⟩;rcases Decidable.em (j=i)with rfl|hji
  ·exact hy.wpOp hi hS ⟨fun _=>hS,h⟩
  ·have:=ready_mono hj hji;rw[h.1]at this
   cases this
 |succ n ih=>
  intro listed a w hf hw hr hy hS h;have hun:=(mem_ready.1 hr).1;refine⟨fun e=>absurd (e▸hr) (by simp),fun j hj=>?_⟩;rcases Decidable.em (j=i)with rfl|hji
  ·exact hy.wpOp hi hS ⟨fun _=>hS,h⟩
  have hjL:j≠L:=by rintro rfl;exact waitsL_not hw hun hj
  obtain⟨hju,oj,hoj,_⟩:=mem_ready.1 hj;have hno: ∀e∈oj.after,Region.binds md e=true->e.on≠i:=fun e he hb heq=>not_ready (md:=md) (by
   simp only[waitsOn,hoj,Array.any_eq_true',Bool.and_eq_true,beq_iff_eq]
   exact⟨e,he,hb,heq⟩) hun hj
  refine wpOp_mono (fun a' w' h3=>⟨h3.2.1,ih _ a' w' (fun k ok hk hki hku hn=>hf k ok hk hki ?_ hn) (waitsL_set hw hun hj) (ready_mono hr (Ne.symm hji)) h3.1 (h3.2.1 hjL) ?_⟩)
   (wpOp_putIf hoj (hf j oj hoj hji hju hno) (fun cs b=>hns i oi cs b hi) (fun cs b=>hns j oj cs b hoj) hQ hy (h.2 j (ready_mono hj hji)))
  ·rcases Decidable.em (j=k)with rfl|hjk
   ·exact hju
   ·rw[getD_set_ne true hjk]at hku;exact hku
  ·rw[Array.setIfInBounds_comm _ _ hji];exact h3.2.2
variable {fuel i:Nat} {listed:Array Bool} {a:Act} {w:World} {oi:Oper} {v:Value}
def TwL (P:Program) (md:Region.Mode) (ops:Array Oper) (Q:Exit->Act->World->Prop) (S:World->Prop) (L:Nat) (_ fuel:Nat) (listed:Array Bool) (a:Act) (w:World):Prop:=wpAnyL P md ops Q S L fuel listed a w
def tlOk (md:Region.Mode) (ops:Array Oper) (listed:Array Bool) (L i:Nat):Bool:=tkOk md ops listed i&&waitsL md ops listed L i
def tlNo (md:Region.Mode) (ops:Array Oper) (listed:Array Bool) (L i:Nat):Bool:=decide (i<ops.size)&&!(tlOk md ops listed L i)
theorem tl0 {id:Nat} {a:Act} {w:World} (hm:P.follows .mixedOrders=true) (hS:S w.drew) (h:S w.drew->TwL P .any ops Q S L 0 ops.size (Array.replicate ops.size false) a w.drew):(Code.region id ops true).wp P Q a w:=wp_region_any hm (wpAny_of_L _ _ _ _ (h hS))
theorem tln (_:tlNo md ops listed L i=true) (h:TwL P md ops Q S L (i+1) fuel listed a w):TwL P md ops Q S L i fuel listed a w:=h
theorem tkS (j:Nat) (_:decide (i=j)=true) (_:decide (i<ops.size)=true) (h:TwAt P md ops Q S (i+1) fuel listed a w):TwAt P md ops Q S i fuel listed a w:=h
theorem tlS (j:Nat) (_:decide (i=j)=true) (_:decide (i<ops.size)=true) (h:TwL P md ops Q S L (i+1) fuel listed a w):TwL P md ops Q S L i fuel listed a w:=h
theorem tld (hr:Region.ready md ops listed=[]) (h:Q .normal a w):TwL P md ops Q S L i fuel listed a w:=by
 unfold TwL
 cases fuel with
 |zero=>exact⟨hr,h⟩
 |succ n=>exact⟨fun _=>h,by rw[hr];simp⟩
theorem tly (hc:tlOk md ops listed L i=true) (hi:ops[i]? =some oi) (hQ: ∀c a w,Q (.panic c) (a.put oi.dst v) w->Q (.panic c) a w) (hy:YieldsIf P ops S oi v a) (hS:S w)
  (h:TwL P md ops Q S L 0 fuel (listed.setIfInBounds i true) (a.put oi.dst v) w):TwL P md ops Q S L i (fuel+1) listed a w:=by
 simp only[tlOk,tkOk,Bool.and_eq_true]at hc;exact wpAnyL_take hi hc.1.2 hQ fuel listed a w hc.1.1.2 hc.2 (by simpa using hc.1.1.1) hy hS h
theorem tlt (hc:tlOk md ops listed L i=true) (hi:ops[i]? =some oi) (hg:Region.wanted oi (yielded ops a.tmps)=true) (hQ: ∀c a w,Q (.panic c) (a.put oi.dst v) w->Q (.panic c) a w) (hS:S w)
  (hv: ∀w,S w->(execOp a.eval oi).run P w= .ok (.value v) w)
  (h:TwL P md ops Q S L 0 fuel (listed.setIfInBounds i true) (a.put oi.dst v) w):TwL P md ops Q S L i (fuel+1) listed a w:=tly hc hi hQ (.inl ⟨hg,hv⟩) hS h
def BrL (P:Program) (md:Region.Mode) (ops:Array Oper) (Q:Exit->Act->World->Prop) (S:World->Prop) (L i fuel:Nat) (listed:Array Bool) (a:Act) (w:World):Prop:=
 ∀j∈Region.ready md ops listed,i<=j->wpOp P ops Q j (fun a' w'=>(j≠L->S w')/\wpAnyL P md ops Q S L fuel (listed.setIfInBounds j true) a' w') a w
theorem tlb (hr:(Region.ready md ops listed).isEmpty=false) (h:BrL P md ops Q S L 0 fuel listed a w):TwL P md ops Q S L i (fuel+1) listed a w:=
 ⟨fun e=>(by rw[e]at hr;cases hr),fun j hj=>h j hj ze0⟩
theorem bln (hn:(decide (i<ops.size)&&!(Region.ready md ops listed).contains i)=true) (h:BrL P md ops Q S L (i+1) fuel listed a w):BrL P md ops Q S L i fuel listed a w:=fun j hj hij=>by
 simp only[Bool.and_eq_true,Bool.not_eq_true']at hn
 refine h j hj (Nat.lt_of_le_of_ne hij fun e=>?_)
 subst e
 have:=List.contains_iff_mem.2 hj
 rw[this]at hn
 cases hn.2
theorem ble (hn:decide (i<ops.size)=false):BrL P md ops Q S L i fuel listed a w:=fun j hj hij=>by
 have:=of_decide_eq_false hn
 have:=(List.mem_range.1 (List.mem_filter.1 hj).1)
 omega
theorem blc (hi:ops[i]? =some oi)
  (h: ∀K':Act->World->Prop,Shut (∀a w,(i≠L->S w)->((i≠L->S w)->TwL P md ops Q S L 0 fuel (listed.setIfInBounds i true) a w)->K' a w)->if Region.wanted oi (yielded ops a.tmps)=true then Oper.wp P oi a w K' Q else K' (a.put oi.dst undef) w)
  (hs:BrL P md ops Q S L (i+1) fuel listed a w):BrL P md ops Q S L i fuel listed a w:=fun j hj hij=>by
 rcases Nat.lt_or_ge i j with h'|h'
 ·exact hs j hj h'
 ·obtain rfl:i=j:=by omega
  exact wpOp_step hi (fun K' hK=>h K' (fun a w hS hW=>hK a w ⟨hS,hW hS⟩))
end

/- Parts. -/
import Derived.Test.YtgbfdcmkbblodaaGreatDoorVX2
import Derived.Test.YtgbfdcmkbblodaaGreatDoorVY6a
namespace Go.Proofs.YtgbfdcmkbblodaaGreatDoor
open Go.RowKit
set_option linter.unusedVariables false
set_option linter.unusedSimpArgs false
set_option maxRecDepth 100000
set_option maxHeartbeats 16000000
open Tryz
theorem own_frB {w w':World} {base:Nat} {e:TypeId} {size n:Nat} {v:Value} {xs:List Value} {S:Nat->Prop} (h:w.ownsRow base e size v n xs) (hf:Fr S w w') (hS: ∀k,v.ownBlock=some k-> ¬S k):w'.ownsRow base e size v n xs:=by
 obtain⟨h1,h2⟩:=h;refine⟨h1,h2.imp id ?_⟩;rintro ⟨g,cap,cur,hv,hb,hg,r⟩;exact⟨g,cap,cur,hv,hb,hf.heap_at hg (hS g (by rw[hv];rfl)),r⟩
theorem own_sl {w:World} {base:Nat} {e:TypeId} {size n:Nat} {v:Value} {xs:List Value} (h:w.ownsRow base e size v n xs): ∃a c,v= .slice a n c:=by
 rcases h.2 with ⟨rfl,rfl⟩|⟨g,cap,cur,rfl,_⟩
 ·exact⟨none,0,rfl⟩
 ·exact⟨_,cap,rfl⟩
theorem emp_size6 (s:ByteArray):s.toList.isEmpty=decide (s.size=0):=by
 rw[ByteArray.toList_eq,Lib.size_eq]
 cases s.data.toList<;>simp
theorem Rd.win_bad {m why:Int} {p:Rd} (h:(p.win m why).2.e≠0):(p.win m why).1=0:=by
 unfold Rd.win at h⊢;by_cases hc:p.num.2.e=0/\(p.num.1<0\/m<p.num.1)
 ·rw[if_pos hc]
 ·rw[if_neg hc]at h⊢;exact Rd.num_bad h
theorem reps_take (n j:Nat) (h:j<n) (q:Rd):reps Rd.num (n-j) q=(q.num.1::(reps Rd.num (n-(j+1)) q.num.2).1,(reps Rd.num (n-(j+1)) q.num.2).2):=by
 rw[show n-j=(n-(j+1))+1 by omega];rfl
theorem lastK_at (ps:List (Trow×Value)) (m:Nat) (h:m<ps.length) (hl:ps.length=m+1):lastK (ps.map Prod.fst)=ps[m].1.key:=by
 have e:ps.map Prod.fst=(ps.map Prod.fst).take m++ [ps[m].1]:=by
  have:=List.take_succ_eq_append_getElem (l:=ps.map Prod.fst) (i:=m) (by simpa using h);rw[List.getElem_map,List.take_of_length_le (by rw[List.length_map];omega)]at this;exact this
 rw[e,lastK_snoc]
theorem info_row6:(prog.info? 206).map (fun i=>(i.zero,i.size,i.bytes))=some (some (.agg #[.int .i64 0,.int .i64 0,.slice none 0 0]),3,40):=by kernel_rfl
theorem info_i64t:(prog.info? 2).map (fun i=>(i.zero,i.size,i.bytes))=some (some (.int .i64 0),1,8):=by kernel_rfl
structure Tk6 (w:World) (X:Nat) (a:Option Addr) (cap n:Nat) (ps:List (Trow×Value)) (p:Rd) (W:World):Prop where
 below:Below X w W
 tx:RT6 W X p
 tb:Blk W (X+1) 158 #[.slice a n cap]
 row:W.ownsRow (X+2) 206 3 (.slice a n cap) n (rwL ps)
 len: ∀p∈ps,∃a cap,p.2= .slice a p.1.l.length cap
namespace Tk6
variable {w W W':World} {X cap n C:Nat} {a:Option Addr} {ps:List (Trow×Value)} {p q:Rd}
theorem fr (h:Tk6 w X a cap n ps p W) (hw:X<=w.heap.size) (hf:Fr (fun b=>b=X\/C<=b) W W') (hC: ∀b,(Value.slice a n cap).ownBlock=some b->b<C) (hT:X+1<C) (hq:RT6 W' X q):Tk6 w X a cap n ps q W':=
 ⟨h.below.trans (hf.below (le1 hw h.below.size) (fun k hk e=>by omega)),hq,h.tb.fr hf (by omega),own_frB h.row hf (fun k e=>by have:=hC k e;have:=own_ge h.row k e;omega),h.len⟩
theorem step (h:Tk6 w X a cap n ps p W) (hw:X<=w.heap.size) (hf:Fr (FrT X) W W') (hq:RT6 W' X q):Tk6 w X a cap n ps q W':=
 ⟨h.below.trans (hf.below (le1 hw h.below.size) (fun k hk e=>by have:k=X:=e;omega)),hq,h.tb.fr hf (fun e=>by have:X+1=X:=e;omega),own_fr h.row hf (fun k e=>by rw[show k=X from e];omega),h.len⟩
theorem alloc (h:Tk6 w X a cap n ps p W) (hw:X<=w.heap.size) (o:Obj):Tk6 w X a cap n ps p (W.alloc o):=⟨h.below.alloc (le1 hw h.below.size) o,Blk.alloc h.tx o,h.tb.alloc o,own_alloc h.row o,h.len⟩
theorem drew (h:Tk6 w X a cap n ps p W):Tk6 w X a cap n ps p W.drew:=⟨h.below.drew,h.tx,h.tb,h.row,h.len⟩
theorem sl (h:Tk6 w X a cap n ps p W):Sl W W.heap.size 3 (.slice a n cap) n (rwL ps):=Sl.of_owns h.row
end Tk6
def T6At (w:World) (T:Nat) (ps:List (Trow×Value)):Prop:= ∃a cap,Blk w T 158 #[.slice a ps.length cap]/\Sl w w.heap.size 3 (.slice a ps.length cap) ps.length (rwL ps)/\ ∀p∈ps,∃a cap,p.2= .slice a p.1.l.length cap
def TakePost6 (s:ByteArray) (w:World) (e:Ending) (w':World):Prop:=
 Below w.heap.size w w'/\((takeTb s).2≠0/\e= .returned (.tuple #[.pointer none,.int .i64 (takeTb s).2])\/
  (takeTb s).2=0/\ ∃T ps,e= .returned (.tuple #[px T,.int .i64 0])/\ps.map Prod.fst=(takeTb s).1/\T6At w' T ps)
theorem rTake6_c (s:ByteArray) (hs:s.size<=140737488355328) (w:World):Calls prog 85 #[.string s] w (TakePost6 s w):=by
 unfold TakePost6;have HE:=Lh (takeTb_ref s);generalize takeTb s=R at*;have hX0:RT6 ((w.alloc (.cells #[.string s,.int .i64 0] 203)).alloc (.cells #[.slice none 0 0] 158)) w.heap.size ⟨s,0⟩:=(Blk.new w _ _).alloc _;have hT0:Blk ((w.alloc (.cells #[.string s,.int .i64 0] 203)).alloc (.cells #[.slice none 0 0] 158)) (w.heap.size+1) 158 #[.slice none 0 0]:=Blk.new_at _ _ _ (by simp);have hb0:Below w.heap.size w ((w.alloc (.cells #[.string s,.int .i64 0] 203)).alloc (.cells #[.slice none 0 0] 158)):=(br0.alloc le0 _).alloc (by simp) _;go_enter func85,ntmps85
 go_upto_region 3 with fail
 generalize ((w.alloc (.cells #[.string s,.int .i64 0] 203)).alloc (.cells #[.slice none 0 0] 158))=W1 at*;have hL:Tk6 w w.heap.size none 0 0 [] ⟨s,0⟩ W1:=⟨hb0,hX0,hT0,World.ownsRow_nil _ _ _ _,by simp⟩;have hw:w.heap.size<=w.heap.size:=le0;generalize hX:w.heap.size=X at hL hX0 hT0 hb0⊢;have hw:X<=w.heap.size:=by omega
 have HX:=Lh hX;have HN:=Lh (rwin6_c X 320 ⟨s,0⟩ hs W1 hX0);have hir:=win_ir 320 21 (by decide) ⟨s,0⟩;have hsz:=le1 (win_size 320 21 ⟨s,0⟩) hs;have hne0:= @Rd.win_bad 320 21 ⟨s,0⟩;generalize Rd.win 320 21 ⟨s,0⟩=q at*;obtain⟨n,p0⟩:=q;dsimp only at HE HN hir hsz hne0;obtain⟨N,rfl⟩: ∃N:Nat,n=(N:Int):=⟨n.toNat,by omega⟩;rw[Int.toNat_natCast]at HE;have HNE:Hd (p0.e=0\/N=0):=by
  by_cases h:p0.e=0
  ·exact .inl h
  ·exact .inr (by have:=hne0 h;omega)
 have HL:=Lh hL;have HSZ:=Lh hsz;have hN3:(N:Int)<=320:=hir.2;clear hX0 hT0 hb0 hL hs hsz hne0 hir hX
 go_upto_region 4 with (first|(go_at_call 142;refine HN.o.mono ?_;rintro e W3 ⟨rfl,hp3,hf3⟩)|fail)
 have HL3:=Lh (HL.o.step hw hf3 hp3);clear HN hf3 hp3 HL;generalize hT0:Rd.trows N [] p0=T0 at*;have HT0:=Lh hT0;have HR:Hd (R=(if T0.2.e≠0 then([],T0.2.e)else if T0.2.s.size≠0 then([],21)else(T0.1,0))):=HE.o;clear hT0 HE
 go_wp2_with fail
 go_loopw [7] (fun q wr=> ∃(k:Nat) (a:Option Addr) (cap:Nat) (ps:List (Trow×Value)) (p:Rd),q= .int .i64 (k:Int)/\k<=N/\ps.length=k/\(p.e=0\/N=0)/\p.s.size<=140737488355328/\Tk6 w X a cap k ps p wr/\Rd.trows (N-k) (ps.map Prod.fst) p=T0) (fun q _=>N-(intOf q).toNat)
 case atStart=>exact⟨0,none,0,[],p0,rfl,ze0,rfl,HNE.o,HSZ.o,HL3.o,HT0.o⟩
 case round=>
  obtain⟨k,a,cap,ps,p,rfl,hk,hpl,hpe,hps,hL,hrows⟩:=hrel;have HRS:=Lh hrows;have HPL:=Lh hpl;clear hrows hpl;by_cases hlt:k<N
  ·have hp0:p.e=0:=by rcases hpe with h|h;exact h;omega
   have hkI:(k:Int)<(N:Int):=by omega
   obtain⟨m,hm⟩: ∃m,N-k=m+1:=⟨N-k-1,by omega⟩;have hst:Rd.trows (m+1) (ps.map Prod.fst) p=(if p.trow.2.e≠0 then([],p.trow.2)else if rowBad (ps.map Prod.fst) p.trow.1.key then([],⟨p.trow.2.s,21⟩)else Rd.trows m (ps.map Prod.fst++ [p.trow.1]) p.trow.2):=rfl;rw[<-hm,HRS.o]at hst;have HST:=Lh hst;have HM:=Lh hm;have HROW:Hd (p.trow=(⟨p.num.1,p.num.2.num.1,(reps Rd.num (p.num.2.num.2.win 16 21).1.toNat (p.num.2.num.2.win 16 21).2).1⟩,(reps Rd.num (p.num.2.num.2.win 16 21).1.toNat (p.num.2.num.2.win 16 21).2).2)):=rfl;generalize p.trow=rw' at*;clear hst hm HRS;have hs1:=le1 p.num_size hps;have HA1:=Lh (rnum6_c X p hps wr hL.tx);generalize p.num=q1 at*;obtain⟨key,p1⟩:=q1;dsimp only at HROW HA1 hs1;have hs2:=le1 p1.num_size hs1;have HA2:=Lh (fun(W:World) (h:RT6 W X p1)=>rnum6_c X p1 hs1 W h);generalize p1.num=q2 at*;obtain⟨acc,p2⟩:=q2;dsimp only at HROW HA2 hs2;have hs3:=le1 (win_size 16 21 p2) hs2;have HA3:=Lh (fun(W:World) (h:RT6 W X p2)=>rwin6_c X 16 p2 hs2 W h);have hi3:=win_ir 16 21 (by decide) p2;generalize p2.win 16 21=q3 at*;obtain⟨n3,p3⟩:=q3;dsimp only at HROW HA3 hs3 hi3;obtain⟨M,rfl⟩: ∃M:Nat,n3=(M:Int):=⟨n3.toNat,by omega⟩;rw[Int.toNat_natCast]at HROW;have HLR:=Lh hL;clear hL hpe hps
   go_upto_region 10 with (first
    |(go_at_call 143;refine HA1.o.mono ?_;rintro e W4 ⟨rfl,hq4,hf4⟩;have hL4:=HLR.o.step hw hf4 hq4;clear HA1)
    |(go_at_call 143;refine(HA2.o _ hL4.tx).mono ?_;rintro e W5 ⟨rfl,hq5,hf5⟩;have hL5:=hL4.step hw hf5 hq5;have hL6:=hL5.alloc hw (.cells #[.int .i64 acc,.slice none 0 0] 189);have hC6:=Blk.new W5 #[.int .i64 acc,.slice none 0 0] 189;clear HA2 hL4)
    |(go_at_call 142;refine(HA3.o _ hL6.tx).mono ?_;rintro e W7 ⟨rfl,hq7,hf7⟩)
    |fail)
   have hTC:X+1<W5.heap.size:=hL5.tb.lt;have hTB:=own_lt hL5.row;have hC7:=hC6.fr hf7 (fun e=>by have:W5.heap.size=X:=e;omega);have hL7:=hL6.step hw hf7 hq7;generalize W5.heap.size=C at*;obtain⟨i0,hi,hz0,hz1,hz2⟩:=info_parts info_i64t;have HL7:=Lh hL7;have HC7:=Lh hC7;have HS3:=Lh hs3;have HTB:=Lh hTB;clear hL5 hL6 hC6 hf7 hq7 HA3 hf5 hq5 hf4 hq4 hs1 hs2 hL7 hC7 hs3 hTB HLR;generalize hQ0:reps Rd.num M p3=Q0 at*;have HQ0:=Lh hQ0;clear hQ0
   go_wp2_with fail
   go_loopw [11] (fun q wx=> ∃(j:Nat) (xs:List Int) (lv:Value) (y:Rd),q= .int .i64 (j:Int)/\j<=M/\xs.length=j/\y.s.size<=140737488355328/\Tk6 w X a cap k ps y wx/\Blk wx C 189 #[.int .i64 acc,lv]/\wx.ownsRow (C+1) 2 1 lv j (xs.map (Value.int .i64))/\(xs++(reps Rd.num (M-j) y).1,(reps Rd.num (M-j) y).2)=Q0) (fun q _=>M-(intOf q).toNat)
   case atStart=>exact⟨0,[],_,p3,rfl,ze0,rfl,HS3.o,HL7.o,HC7.o,World.ownsRow_nil _ _ _ _,HQ0.o⟩
   case round=>
    obtain⟨j,xs,lv,y,rfl,hj,hxl,hys,hLy,hCy,hoy,hny⟩:=hrel;obtain⟨la,lcap,rfl⟩:=own_sl hoy;have HNY:=Lh hny;have HXL:=Lh hxl;clear hny hxl;by_cases hjl:j<M
    ·have hjI:(j:Int)<(M:Int):=by omega
     have HNX:=Lh (reps_take M j hjl y);have HYS:=Lh (le1 y.num_size hys);have HA:=Lh (fun(W:World) (h:RT6 W X y)=>rnum6_c X y hys W h);generalize y.num=z at*;obtain⟨x,y1⟩:=z;dsimp only at HNX HA HYS;have HBB:=Lh (own_ge hoy)
     go_upto_region 13 with fail
     have hL0:=hLy.drew;have hC0:Blk wr.drew C 189 #[.int .i64 acc,.slice la j lcap]:=hCy;have hO0:=own_drew hoy;clear hLy hCy hoy hys;have HSX:Hd (∀W,Fr (fun b=>b=X\/C<b) wr.drew W->Blk W C 189 #[.int .i64 acc,.slice la j lcap]):=fun W q=>hC0.fr q (by omega);have hb:Fr (fun b=>b=X\/C<b) wr.drew wr.drew:=Fr.refl _ _;refine tl0 (S:=(fun w'=>Blk w' C 189 #[.int .i64 acc,.slice la j lcap])) (L:=7) (by kernel_rfl) (HSX.o _ hb) (fun hHeld=>?_);generalize wr.drew=wd0 at*
     repeat' first
      |refine tln (by decide+kernel) ?_
      |(refine tls (by decide+kernel) rfl (by rfl) (fun _ _ _ h=>h) (by assumption) ?_;try simp only[Act.put,tkA,tkB,tkC,tkD,tkE,tkF])
      |(refine tlt (v:=?_) (by decide+kernel) rfl (by rfl) (fun _ _ _ h=>h) (by assumption) ?_ ?_;rotate_left;(· intro w' hSw;(try dsimp only at hSw);have z1:=hSw.cell 1;clear hSw;go_simp;(try with_reducible rfl));try simp only[Act.put,tkA,tkB,tkC,tkD,tkE,tkF])
      |refine tlm (by decide+kernel) ?_
      |refine tld (by decide+kernel) ?_
      |refine tlb (by decide+kernel) ?_
      |refine bln (by decide+kernel) ?_
      |exact ble (by decide+kernel)
      |refine blc rfl (fun K hK=>?_) ?_
      |(replace hK:=hK;refine opD 39 (by decide+kernel) ?_;go_simp;go_at_call 143;refine(HA.o _ hL0.tx).mono ?_;rintro e w1 ⟨rfl,hq1,hf1⟩;replace hb:=hf1.mono (T:=fun b=>b=X\/C<b) (fun b _ e=> .inl e);replace hO0:=own_fr hO0 hf1 (fun b e=>by rw[show b=X from e];omega);refine hK.out _ _ (fun _=>HSX.o _ hb) (fun hHeld=>?_);replace hHeld:=hHeld (by decide);clear hK K;try simp only[Act.put,tkA,tkB,tkC,tkD,tkE,tkF])
      |(replace hK:=hK;refine opD 40 (by decide+kernel) ?_;go_simp;have hN1:=Blk.new w1 #[.int .i64 x] 2;replace hb:=hb.alloc (.cells #[.int .i64 x] 2);replace hO0:=own_alloc hO0 (.cells #[.int .i64 x] 2);replace hq1:=Blk.alloc hq1 (.cells #[.int .i64 x] 2);refine hK.out _ _ (fun _=>HSX.o _ hb) (fun hHeld=>?_);replace hHeld:=hHeld (by decide);clear hK K;try simp only[Act.put,tkA,tkB,tkC,tkD,tkE,tkF])
      |(replace hK:=hK;refine opD 41 (by decide+kernel) ?_;refine step_append_lies _ (by rfl) (.tmp 37) (.tmp 40) _ (by rfl) (C+1) 2 i0 (.int .i64 0) 1 8 underlying78 hi hz0 hz1 hz2 rfl (by decide) _ j (xs.map (Value.int .i64)) (by rfl) hO0 ⟨w1.heap.size,0,none⟩ 1 1 [.int .i64 x] (by rfl) rfl (by exact World.news_of_block hN1) (by simp[Value.oneCell']) (by decide) (by unfold maxLen;omega) (by omega) (by have:=hb.size;have:=(HSX.o _ hb).lt;omega) _ rfl ?_;intro g4 cap4 w4 own4 hg4 hat4 hlt4;replace hq1:=Blk.grown hq1 hg4 (fun e=>by have:=HBB.o _ e.symm;omega);replace hb:=hb.grown hg4 (fun b e=> .inl (.inr (HBB.o b e)));clear hN1;refine hK.out _ _ (fun _=>HSX.o _ hb) (fun hHeld=>?_);replace hHeld:=hHeld (by decide);clear hK K;try simp only[Act.put,tkA,tkB,tkC,tkD,tkE,tkF])
      |(replace hK:=hK;refine opIs 2 (by decide+kernel) ?_;have hs4:=HSX.o _ hb;have c1:=hs4.cell 1;have f1:=hs4.free 1;go_simp;clear c1 f1 hs4;refine hK.out _ _ (fun h=>absurd rfl h) (fun hHeld=>?_);clear hHeld hK K;try simp only[Act.put,tkA,tkB,tkC,tkD,tkE,tkF])
      |fail
     have hs5:=(HSX.o _ hb).set 1 (.slice (some ⟨g4,0,none⟩) (j+1) cap4);have hf5:=(hb.mono (T:=fun b=>b=X\/C<=b) (fun b _ e=>by omega)).setCell (p:=⟨C,1,none⟩) (.inl (.inr (Nat.le_refl C))) (Value.slice (some ⟨g4,0,none⟩) (j+1) cap4);have hL5:=hL0.fr hw hf5 HTB.o hTC (Blk.other hq1 (p:=⟨C,1,none⟩) (by show X≠C;omega) _);have own5:=own_other own4 (p:=⟨C,1,none⟩) (Nat.lt_succ_self C) (Value.slice (some ⟨g4,0,none⟩) (j+1) cap4);clear hb HSX hf5 hq1 own4 hL0 hC0 hO0
     go_wp2_with fail
     go_roundw
     case rel=>exact⟨j+1,xs++ [x],_,y1,by go_num,hjl,by rw[la0,HXL.o];rfl,HYS.o,hL5,hs5,by rw[List.map_append];exact own5,by rw[<-HNY.o,HNX.o];simp⟩
     case measure=>simp[intOf];omega
    ·obtain rfl:j=M:=by omega
     have hqq:=HNY.o;rw[Nat.sub_self]at hqq;have hqq2:Q0=(xs,y):=by rw[<-hqq];show(xs++ [],y)=_;rw[List.append_nil]
     have HRW:rw'=(⟨key,acc,xs⟩,y):=by rw[HROW.o,hqq2]
     subst HRW;have HST2:=Lh HST.o;dsimp only at HST2;clear HST HROW hqq hqq2 HNY;have hxr:=Blk.cell hLy.tx 1;have hxf:=Blk.free hLy.tx 1;have htc:=hLy.tb.cell 0;have HMN:=Lh (rmany_c (X+1) a cap ps k HPL.o (grp key) wr hLy.tb hLy.sl);have HLS:=Lh (fun x=>rless_c x key wr);have HGR:=Lh (rgrp_c key wr);have HSL:=Lh hLy.sl;have HLY:=Lh hLy;have HYS:=Lh hys;have HCY:=Lh hCy;have HOY:=Lh hoy;clear hLy hCy hoy hys;have hcn:cntG (ps.map Prod.fst) (grp key)<=320:=by have:=cntG_le (ps.map Prod.fst) (grp key);rw[List.length_map,HPL.o]at this;omega
     have HRB:Hd (rowBad (ps.map Prod.fst) key↔(0<k/\0<=bef (lastK (ps.map Prod.fst)) key)\/40<=cntG (ps.map Prod.fst) (grp key)):=by
      show _↔_;unfold rowBad;rw[show(ps.map Prod.fst≠ []↔0<k) by rw[Ne,List.map_eq_nil_iff,<-List.length_eq_zero_iff,HPL.o];omega]
     have HLA:Hd (∀m (h:m<ps.length),ps.length=m+1->lastK (ps.map Prod.fst)=ps[m].1.key):=fun m h h2=>lastK_at ps m h h2;have HC0:Hd (ps=[]->cntG (ps.map Prod.fst) (grp key)=0):=fun h=>by rw[h];rfl
     generalize hcc:cntG (ps.map Prod.fst) (grp key)=cn at*;generalize lastK (ps.map Prod.fst)=lk at*;clear hcc
     go_upto_region 14 with fail
     go_cut [72] (fun c wq=> ∃b,c= .bool b/\(b=true↔y.e=0/\rowBad (ps.map Prod.fst) key)/\wr=wq)
     case first=>
      by_cases hye:y.e=0
      ·have eb:(y.e==0)=true:=by simpa using hye
       rcases Nat.eq_zero_or_pos k with hk0|hk0
       ·obtain rfl:ps=[]:=List.eq_nil_of_length_eq_zero (by rw[HPL.o];exact hk0);subst hk0;have hc0:cn=0:=HC0.o rfl;subst hc0
        go_wp2_with (first|(go_at_call 146;refine HGR.o.mono ?_;rintro e w1 ⟨rfl,rfl⟩)|(go_at_call 145;refine HMN.o.mono ?_;rintro e w1 ⟨rfl,rfl⟩)|fail)
        go_meet;exact⟨false,rfl,by rw[HRB.o];simp,rfl⟩
       ·obtain⟨m0,rfl⟩: ∃m0,k=m0+1:=⟨k-1,by omega⟩;have hm1:m0<ps.length:=by rw[HPL.o];omega
        obtain⟨rb,roff,rfl,_,x0,_,_⟩:=HSL.o.rw HPL.o m0 hm1;have hlk:=HLA.o m0 hm1 HPL.o;generalize ps[m0].1.key=k0 at*;subst hlk;by_cases hls:bef lk key<0
        ·have HLE:Hd (Calls prog 144 #[.int .i64 lk,.int .i64 key] wr fun e w'=>e= .returned (.bool true)/\wr=w'):=by have:=HLS.o lk;rwa[dt0 hls]at this
         by_cases h40:40<=cn
         ·have d40:decide ((40:Int)<=(cn:Int))=true:=dt0 (by omega)
          go_wp2_with (first|(go_at_call 144;refine HLE.o.mono ?_;rintro e w1 ⟨rfl,rfl⟩)|(go_at_call 146;refine HGR.o.mono ?_;rintro e w1 ⟨rfl,rfl⟩)|(go_at_call 145;refine HMN.o.mono ?_;rintro e w1 ⟨rfl,rfl⟩)|fail)
          go_meet;exact⟨true,by first|rfl|rw[d40],by rw[HRB.o];simp[hye,h40],rfl⟩
         ·go_wp2_with (first|(go_at_call 144;refine HLE.o.mono ?_;rintro e w1 ⟨rfl,rfl⟩)|(go_at_call 146;refine HGR.o.mono ?_;rintro e w1 ⟨rfl,rfl⟩)|(go_at_call 145;refine HMN.o.mono ?_;rintro e w1 ⟨rfl,rfl⟩)|fail)
          go_meet;exact⟨false,by first|rfl|rw[df0 (show ¬(40:Int)<=(cn:Int) by omega)],by rw[HRB.o];simp only[Bool.false_eq_true,false_iff];omega,rfl⟩
        ·have HLE:Hd (Calls prog 144 #[.int .i64 lk,.int .i64 key] wr fun e w'=>e= .returned (.bool false)/\wr=w'):=by have:=HLS.o lk;rwa[df0 hls]at this
         go_wp2_with (first|(go_at_call 144;refine HLE.o.mono ?_;rintro e w1 ⟨rfl,rfl⟩)|fail)
         go_meet;exact⟨true,rfl,by rw[HRB.o];simp only[true_iff];exact⟨hye,.inl ⟨by omega,by omega⟩⟩,rfl⟩
      ·have eb:(y.e==0)=false:=by simpa using hye
       go_wp2_with fail
       go_meet;exact⟨false,rfl,by simp[hye],rfl⟩
     case rest=>
      obtain⟨b,rfl,hbb,rfl⟩:=hcut;have HBB:=Lh hbb;clear hbb HMN HLS HGR HSL HLA hcn htc
      cases b
      ·by_cases hye:y.e=0
       ·have eb:(y.e !=0)=false:=by simpa using hye
        have hnr: ¬rowBad (ps.map Prod.fst) key:=fun h=>by have:=HBB.o.2 ⟨hye,h⟩;cases this
        have HST3:Hd (T0=Rd.trows m (ps.map Prod.fst++ [⟨key,acc,xs⟩]) y):=by
         show _=_;rw[HST2.o,if_neg (by simpa using hye),if_neg hnr]
        have HYE:=Lh hye;clear hye hnr HST2 HRB HBB HC0
        go_upto_region 18 with fail
        obtain⟨i1,hi1,hz3,hz4,hz5⟩:=info_parts info_row6;have hL0:=HLY.o.drew;have hC0:Blk wr.drew C 189 #[.int .i64 acc,.slice la j lcap]:=HCY.o;have hO0:=hL0.row;have HBT:=Lh (own_ge hO0);have HLT:=Lh (own_lt hO0);have hXs:X<wr.drew.heap.size:=hL0.tx.lt;have hzz:C<wr.drew.heap.size:=hC0.lt;have HSX:Hd (∀W,Fr (fun b=>X<b/\b≠C/\b≠X+1) wr.drew W->Blk W (X+1) 158 #[.slice a k cap]/\Blk W C 189 #[.int .i64 acc,.slice la j lcap]):=fun W q=>⟨hL0.tb.fr q (by omega),hC0.fr q (by omega)⟩;have hb:Fr (fun b=>X<b/\b≠C/\b≠X+1) wr.drew wr.drew:=Fr.refl _ _;refine tl0 (S:=(fun w'=>Blk w' (X+1) 158 #[.slice a k cap]/\Blk w' C 189 #[.int .i64 acc,.slice la j lcap])) (L:=12) (by kernel_rfl) (HSX.o _ hb) (fun hHeld=>?_);generalize wr.drew=wd0 at*
        repeat' first
         |refine tln (by decide+kernel) ?_
         |(refine tls (by decide+kernel) rfl (by rfl) (fun _ _ _ h=>h) (by assumption) ?_;try simp only[Act.put,tkA,tkB,tkC,tkD,tkE,tkF])
         |(refine tlt (v:=?_) (by decide+kernel) rfl (by rfl) (fun _ _ _ h=>h) (by assumption) ?_ ?_;rotate_left;(· intro w' hSw;(try dsimp only at hSw);have z0:=hSw.1.cell 0;have z1:=hSw.2.cell 0;have z2:=hSw.2.cell 1;clear hSw;go_simp;(try with_reducible rfl));try simp only[Act.put,tkA,tkB,tkC,tkD,tkE,tkF])
         |refine tlm (by decide+kernel) ?_
         |refine tld (by decide+kernel) ?_
         |refine tlb (by decide+kernel) ?_
         |refine bln (by decide+kernel) ?_
         |exact ble (by decide+kernel)
         |refine blc rfl (fun K hK=>?_) ?_
         |(replace hK:=hK;refine opD 93 (by decide+kernel) ?_;go_simp;have hN1:=Blk.new wd0 #[.int .i64 key,.int .i64 acc,.slice la j lcap] 206;replace hb:=hb.alloc (.cells #[.int .i64 key,.int .i64 acc,.slice la j lcap] 206);replace hO0:=own_alloc hO0 (.cells #[.int .i64 key,.int .i64 acc,.slice la j lcap] 206);refine hK.out _ _ (fun _=>HSX.o _ hb) (fun hHeld=>?_);replace hHeld:=hHeld (by decide);clear hK K;try simp only[Act.put,tkA,tkB,tkC,tkD,tkE,tkF])
         |(replace hK:=hK;refine opD 94 (by decide+kernel) ?_;refine step_append_lies _ (by rfl) (.tmp 89) (.tmp 93) _ (by rfl) (X+2) 206 i1 (.agg #[.int .i64 0,.int .i64 0,.slice none 0 0]) 3 40 underlying156 hi1 hz3 hz4 hz5 rfl (by decide) _ k (rwL ps) (by rfl) hO0 ⟨wd0.heap.size,0,none⟩ 1 1 [.int .i64 key,.int .i64 acc,.slice la j lcap] (by rfl) rfl (by exact World.news_of_block hN1) (by simp[Value.oneCell']) (by decide) (by unfold maxLen;omega) (by omega) (by have:=hb.size;omega) _ rfl ?_;intro g4 cap4 w4 own4 hg4 hat4 hlt4;replace hb:=hb.grown hg4 (fun b e=> .inl ⟨by have:=HBT.o b e;omega,fun q=>by have:=HTB.o b e;omega,fun q=>by have:=HBT.o b e;omega⟩);clear hN1;refine hK.out _ _ (fun _=>HSX.o _ hb) (fun hHeld=>?_);replace hHeld:=hHeld (by decide);clear hK K;try simp only[Act.put,tkA,tkB,tkC,tkD,tkE,tkF])
         |(replace hK:=hK;refine opIs 2 (by decide+kernel) ?_;have hs4:=(HSX.o _ hb).1;have c1:=hs4.cell 0;have f1:=hs4.free 0;go_simp;clear c1 f1 hs4;refine hK.out _ _ (fun h=>absurd rfl h) (fun hHeld=>?_);clear hHeld hK K;try simp only[Act.put,tkA,tkB,tkC,tkD,tkE,tkF])
         |fail
        have hf5:=(hb.mono (T:=fun b=>X<b) (fun b _ e=>e.1)).setCell (p:=⟨X+1,0,none⟩) (.inl (Nat.lt_succ_self X)) (Value.slice (some ⟨g4,0,none⟩) (k+1) cap4);have hs5:=(HSX.o _ hb).1.set 0 (.slice (some ⟨g4,0,none⟩) (k+1) cap4);have own5:=own_other own4 (p:=⟨X+1,0,none⟩) (Nat.lt_succ_self (X+1)) (Value.slice (some ⟨g4,0,none⟩) (k+1) cap4);have hL5:Tk6 w X (some ⟨g4,0,none⟩) cap4 (k+1) (ps++ [(⟨key,acc,xs⟩,.slice la j lcap)]) y (w4.setCell ⟨X+1,0,none⟩ (.slice (some ⟨g4,0,none⟩) (k+1) cap4)):=
         ⟨hL0.below.trans (hf5.below (le1 hw hL0.below.size) (fun b hb e=>by omega)),Blk.fr hL0.tx hf5 (by omega),hs5,by rw[rwL_snoc];exact own5,fun p hp=>by
          rcases List.mem_append.1 hp with hp|hp
          ·exact hL0.len p hp
          ·rw[List.mem_singleton.1 hp];exact⟨la,lcap,by show Value.slice la j lcap= .slice la xs.length lcap;rw[HXL.o]⟩⟩
        clear hb HSX hf5 own4 hL0 hC0 hO0 hs5 own5
        go_wp2_with fail
        go_roundw
        case rel=>exact⟨k+1,_,cap4,_,y,by go_num,hlt,by rw[la0,HPL.o];rfl,.inl HYE.o,HYS.o,hL5,by rw[List.map_append,HST3.o,show N-(k+1)=m by have:=HM.o;omega];rfl⟩
        case measure=>simp[intOf];omega
       ·have eb:(y.e !=0)=true:=by simpa using hye
        have HRR:Hd (R=([],y.e)):=by
         show _=_;rw[HR.o,HST2.o,if_pos hye,if_pos hye]
        have HYE:=Lh hye;clear hye HST2 HR HRB HBB
        go_upto_region 17 with fail
        go_quiet (fail)
        go_wp2_with fail
        go_ret2;exact⟨by rw[HX.o];exact below_drewN HLY.o.below _,.inl ⟨by rw[HRR.o];exact HYE.o,by rw[HRR.o];rfl⟩⟩
      ·obtain⟨hye,hrb⟩:=HBB.o.1 rfl;have HRR:Hd (R=([],21)):=by
        show _=_;have ht:T0=([],⟨y.s,21⟩):=by rw[HST2.o,if_neg (by simpa using hye),if_pos hrb]
        rw[HR.o,ht,if_pos (by show(21:Int)≠0;decide)]
       have hxe:=Blk.cell (HLY.o.tx.err 21) 1;clear hye hrb HST2 HR HRB HBB
       go_upto_region 17 with fail
       go_quiet (fail)
       go_wp2_with fail
       go_ret2;exact⟨by rw[HX.o];exact below_drewN (HLY.o.below.setCell (p:=⟨X,1,none⟩) (Nat.le_refl X) _) _,.inl ⟨by rw[HRR.o];decide,by rw[HRR.o];rfl⟩⟩
  ·obtain rfl:N=k:=by omega
   have hrs:=HRS.o;rw[Nat.sub_self]at hrs;have hrs2:T0=(ps.map Prod.fst,p):=hrs.symm;have hem:=emp_size6 p.s;have r0:=Blk.cell hL.tx 0;have r1:=Blk.cell hL.tx 1;have s1:=Blk.free hL.tx 1;have r2:=Blk.cell (hL.tx.err 21) 1;have HLR:=Lh hL;clear hL;by_cases hpe0:p.e=0
   ·have d0:(p.e==0)=true:=by simpa using hpe0
    cases hz:p.s.toList.isEmpty
    ·have hz0: ¬p.s.size=0:=by rw[hz]at hem;exact of_decide_eq_false hem.symm
     have HRR:Hd (R=([],21)):=by
      show _=_;rw[HR.o,hrs2,if_neg (by simpa using hpe0),if_pos hz0]
     clear hpe0 hem hz0 hpe HR HRS hrs hrs2
     go_upto_region 22 with fail
     go_quiet (fail)
     go_wp2_with fail
     go_ret2;exact⟨by rw[HX.o];exact below_drewN (HLR.o.below.setCell (p:=⟨X,1,none⟩) (Nat.le_refl X) _) _,.inl ⟨by rw[HRR.o];decide,by rw[HRR.o];rfl⟩⟩
    ·have hz0:p.s.size=0:=by rw[hz]at hem;exact of_decide_eq_true hem.symm
     have d1:(p.e !=0)=false:=by simpa using hpe0
     have HRR:Hd (R=(ps.map Prod.fst,0)):=by
      show _=_;rw[HR.o,hrs2,if_neg (by simpa using hpe0),if_neg (by simpa using hz0)]
     clear hpe0 hem hz0 hpe HR HRS hrs hrs2
     go_wp2_with fail
     go_ret2;refine⟨by rw[HX.o];exact HLR.o.below,.inr ⟨by rw[HRR.o],X+1,rfl,ps,by rw[HRR.o],a,cap,?_⟩⟩;rw[HPL.o];exact⟨HLR.o.tb,HLR.o.sl,HLR.o.len⟩
   ·have d0:(p.e==0)=false:=by simpa using hpe0
    have d1:(p.e !=0)=true:=by simpa using hpe0
    have HRR:Hd (R=([],p.e)):=by
     show _=_;rw[HR.o,hrs2,if_pos hpe0]
    have HPE:=Lh hpe0;clear hpe0 hem hpe HR HRS hrs hrs2
    go_upto_region 22 with fail
    go_quiet (fail)
    go_wp2_with fail
    go_ret2;exact⟨by rw[HX.o];exact below_drewN HLR.o.below _,.inl ⟨by rw[HRR.o];exact HPE.o,by rw[HRR.o];rfl⟩⟩

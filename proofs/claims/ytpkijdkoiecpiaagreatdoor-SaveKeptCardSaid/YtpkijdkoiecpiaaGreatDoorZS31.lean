/-
  Parts of the proof: H7 H2 H8 H9 HA HB HC.
-/
import Derived.Deep.AppendLies
import Derived.Deep.RegionHeld3
import Derived.Test.YtpkijdkoiecpiaaGreatDoorZS11
import Derived.Test.YtpkijdkoiecpiaaGreatDoorZS12
import Derived.Test.YtpkijdkoiecpiaaGreatDoorZS23
import Derived.Test.YtpkijdkoiecpiaaGreatDoorZS26
import Derived.Test.YtpkijdkoiecpiaaGreatDoorZS29
import Derived.Test.YtpkijdkoiecpiaaGreatDoorZS30
import Derived.Test.YtpkijdkoiecpiaaGreatDoorZS33
namespace Go.Proofs.YtpkijdkoiecpiaaGreatDoor
open Go.RowKit
set_option linter.unusedVariables false
set_option linter.unusedSimpArgs false
theorem nodup_inj {α β:Type} (f:α → β):∀ (l:List α),(l.map f).Nodup → ∀ x ∈ l,∀ y ∈ l,f x = f y → x = y
 | [],_,x,hx,_,_,_ => absurd hx (by simp)
 | z :: l,h,x,hx,y,hy,e => by
  rw [List.map_cons,List.nodup_cons] at h
  rcases List.mem_cons.1 hx with ex | hx2
  ·rcases List.mem_cons.1 hy with ey | hy2
   ·rw [ex,ey]
   ·exact absurd (by rw [← ex,e]; exact List.mem_map_of_mem hy2) h.1
  ·rcases List.mem_cons.1 hy with ey | hy2
   ·exact absurd (by rw [← ey, ← e]; exact List.mem_map_of_mem hx2) h.1
   ·exact nodup_inj f l h.2 x hx2 y hy2 e
theorem getI_row {ps:List (Trow × Value)} (hr:Rise (ps.map Prod.fst)) {p:Trow × Value} (hp:p ∈ ps):getI p.1.key (tkv ps) = some (.agg #[.int .i64 p.1.acc,p.2]):=by
 have hn:=hr.keys
 rw [List.map_map] at hn
 obtain ⟨j,hj⟩:=findI_some p.1.key (.agg #[.int .i64 p.1.acc,p.2]) (tkv ps) 0 (fun q hq e => by
  obtain ⟨q0,hq0,rfl⟩:=List.mem_map.1 hq
  rw [nodup_inj _ ps hn q0 hq0 p hp e]) ⟨_,List.mem_map_of_mem hp,rfl⟩
 unfold getI
 rw [hj]
 rfl
theorem TabAt.below {w w':World} {P:Nat → Prop} {T B:Nat} {ps:List (Trow × Value)} (h:TabAt w P T B ps) (hP:∀ b,P b → b < w.heap.size) (hb:Below w.heap.size w w'):TabAt w' P T B ps :=
 h.keep (hb.block T h.box.lt) (hb.block B h.map.lt) (fun _ h => h) (fun b hb2 => hb.block b (hP b hb2))
set_option maxRecDepth 100000 in
set_option maxHeartbeats 1000000 in
theorem Get_c (P:Nat → Prop) (T B:Nat) (ps:List (Trow × Value)) (w:World) (h:TabAt w P T B ps) (hP:∀ b,P b → b < w.heap.size) (hr:Rise (ps.map Prod.fst)) (hl:∀ p ∈ ps,p.1.l.length ≤ 16) (p:Trow × Value) (hp:p ∈ ps) :
  Calls Tryz.prog 203 #[px T, .int .i64 p.1.key] w fun e w' => (∃ a cap,e = .returned (.tuple #[.agg #[.int .i64 p.1.acc, .slice a p.1.l.length cap], .bool true])) ∧ Below w.heap.size w w':=by
 obtain ⟨⟨key,acc,l⟩,v⟩:=p
 have hi:=h.rows _ hp
 have hl16:=hl _ hp
 dsimp only at hi hl16 ⊢
 obtain ⟨a0,n0,c0,hve⟩:∃ a n c,v = .slice a n c:=by rcases hi with ⟨_,rfl⟩ | ⟨g,cap,rfl,_⟩ <;> exact ⟨_,_,_,rfl⟩
 subst hve
 have hg:=getI_row hr hp
 dsimp only at hg
 have HG:=Lib.hid hg
 have h1:=h.below hP (((Below.refl _ _).alloc (Nat.le_refl _) (.cells #[.int .i64 0, .slice none 0 0] 274)))
 have t0:=h1.box.cell 0
 have hm:=h1.map
 have HO:Hid (∀ W:World,Below w.heap.size w W → Calls Tryz.prog 236 #[.agg #[.int .i64 acc, .slice a0 n0 c0]] W fun e w' => (∃ a cap,e = .returned (.agg #[.int .i64 acc, .slice a l.length cap])) ∧ Below W.heap.size W w'):=fun W hb =>
  own_c acc l hl16 P _ W (hi.keep (fun _ h => h) (fun b hb2 => hb.block b (hP b hb2))) (fun b hb2 => Nat.lt_of_lt_of_le (hP b hb2) hb.size)
 have hz:∀ W:World,(zeroValue 274).run Tryz.prog W = .ok (.agg #[.int .i64 0, .slice none 0 0]) W:=fun W => zero_cell _
 have hb2:Below w.heap.size w ((w.alloc (.cells #[.int .i64 0, .slice none 0 0] 274)).alloc (.cells #[.int .i64 acc, .slice a0 n0 c0] 274)):=((Below.refl _ _).alloc (Nat.le_refl _) _).alloc (by simp) _
 have hr0:Blk ((w.alloc (.cells #[.int .i64 0, .slice none 0 0] 274)).alloc (.cells #[.int .i64 acc, .slice a0 n0 c0] 274)) w.heap.size 274 #[.int .i64 0, .slice none 0 0]:=(Blk.new w _ _).alloc _
 have HB2:=Lib.hid hb2
 have HR0:=Lib.hid hr0
 clear h h1 hi hl hg hP hr hp hb2 hr0
 unfold px
 go_enter Tryz.func203,Tryz.ntmps203
 go_wp2_with (first
  | (refine wpList_lookupI _ 276 2 274 Tryz.underlying276 Tryz.underlying2 _ (hz _) rfl _ _ rfl B _ rfl hm key rfl ?_; rw [HG.out])
  | (go_at_call 236; refine (HO.out _ HB2.out).mono ?_; rintro e w1 ⟨⟨a1,c1,rfl⟩,hb1⟩; have hr1:=HR0.out.below hb1 (by simp; omega); have q0:=hr1.cell 0; have q1:=hr1.cell 1; have f0:=hr1.free 0; have f1:=hr1.free 1)
  | fail)
 have g2:Blk ((w1.setCell ⟨w.heap.size,0,none⟩ (.int .i64 acc)).setCell ⟨w.heap.size,1,none⟩ (.slice a1 l.length c1)) w.heap.size 274 #[.int .i64 acc, .slice a1 l.length c1]:=(hr1.set 0 (.int .i64 acc)).set 1 (.slice a1 l.length c1)
 refine bodyPost_ret (v := .tuple #[.agg #[_,_],_]) (results_cell_row2P rfl _ _ w.heap.size 274 _ (0,0) _ rfl g2 Tryz.underlying274 rfl ?_ (.bool true) rfl) rfl ⟨⟨a1,c1,rfl⟩, ?_⟩
 ·as_aux_lemma => kernel_rfl
 exact ((HB2.out.trans (hb1.mono HB2.out.size)).setCell (p:=⟨w.heap.size,0,none⟩) (Nat.le_refl _) _).setCell (p:=⟨w.heap.size,1,none⟩) (Nat.le_refl _) _
theorem rowFits6 (n key acc:Int) (l:List Int):rowFits 6 n ⟨key,acc,l⟩ = !decide (0 < l.length):=by
 unfold rowFits
 rw [show ((6:Int) == 6) = true from rfl,show ((6:Int) == 7) = false from rfl,Bool.true_and,Bool.false_and,Bool.not_false,Bool.and_true]
theorem rowFits7 (n key acc:Int) (l:List Int):rowFits 7 n ⟨key,acc,l⟩ = !(acc != 0 || (decide (l.length < 1) || decide (n ≤ (l.length:Int)))):=by
 unfold rowFits
 rw [show ((7:Int) == 6) = false from rfl,show ((7:Int) == 7) = true from rfl,Bool.false_and,Bool.not_false,Bool.true_and,Bool.true_and]
theorem InsP.form {w:World} {P:Nat → Prop} {l:List Int} {v:Value} (h:InsP w P l v):∃ a c,v = .slice a l.length c:=by
 rcases h with ⟨rfl,rfl⟩ | ⟨g,cap,rfl,_⟩ <;> exact ⟨_,_,rfl⟩
theorem InsP.at_ {w:World} {P:Nat → Prop} {l:List Int} {v:Value} (h:InsP w P l v) (j:Nat) (hj:j < l.length):∃ g c,v = .slice (some ⟨g,0,none⟩) l.length c ∧ l.length ≤ c ∧ c ≤ maxLen ∧ P g ∧ w.cell? ⟨g,j,none⟩ = some (.int .i64 l[j]):=by
 rcases h with ⟨rfl,rfl⟩ | ⟨g,cap,rfl,hp,h1,h2,h3⟩
 ·simp at hj
 ·exact ⟨g,cap,rfl,h1,h2,hp,by rw [h3 j hj,List.getElem?_map,List.getElem?_eq_getElem hj]; rfl⟩
theorem row_at {ps:List (Trow × Value)} {ks:List Int} (hp:ks.Perm ((ps.map Prod.fst).map (·.key))) (j:Nat) (hj:j < ks.length):∃ p ∈ ps,ks[j] = p.1.key:=by
 have:=hp.mem_iff.1 (List.getElem_mem hj)
 obtain ⟨r,hr,e⟩:=List.mem_map.1 this
 obtain ⟨p,hp2,rfl⟩:=List.mem_map.1 hr
 exact ⟨p,hp2,e.symm⟩
def KFit (kd n:Int) (ps:List (Trow × Value)) (ks:List Int) (j:Nat):Prop:=∀ i,i < j → ∀ k,ks[i]? = some k → ∀ p ∈ ps,p.1.key = k → rowFits kd n p.1 = true
theorem KFit.all {kd n:Int} {ps:List (Trow × Value)} {ks:List Int} (h:KFit kd n ps ks ks.length) (hp:ks.Perm ((ps.map Prod.fst).map (·.key))):(ps.map Prod.fst).all (rowFits kd n) = true:=by
 rw [List.all_eq_true]
 intro r hr
 obtain ⟨p,hp2,rfl⟩:=List.mem_map.1 hr
 have hk:p.1.key ∈ ks:=hp.mem_iff.2 (List.mem_map_of_mem hr)
 obtain ⟨i,hi,e⟩:=List.mem_iff_getElem.1 hk
 exact h i hi p.1.key (by rw [List.getElem?_eq_getElem hi,e]) p hp2 rfl
theorem KFit.none {kd n:Int} {ps:List (Trow × Value)} {p:Trow × Value} (hp:p ∈ ps) (h:rowFits kd n p.1 = false):(ps.map Prod.fst).all (rowFits kd n) = false:=by
 rw [← Bool.not_eq_true,List.all_eq_true]
 intro ha
 have:=ha p.1 (List.mem_map_of_mem hp)
 rw [h] at this
 cases this
theorem KFit.step {kd n:Int} {ps:List (Trow × Value)} {ks:List Int} {j:Nat} (hr:Rise (ps.map Prod.fst)) (h:KFit kd n ps ks j) {p:Trow × Value} (hp:p ∈ ps) (hk:ks[j]? = some p.1.key) (hf:rowFits kd n p.1 = true):KFit kd n ps ks (j + 1):=by
 intro i hi k hk2 q hq e
 by_cases hij:i < j
 ·exact h i hij k hk2 q hq e
 ·obtain rfl:i = j:=by omega
  rw [hk] at hk2
  have hn:=hr.keys
  rw [List.map_map] at hn
  rw [nodup_inj _ ps hn q hq p hp (e.trans (Option.some.inj hk2).symm)]
  exact hf
set_option maxRecDepth 100000 in
set_option maxHeartbeats 2000000 in
theorem Fits_c (u:ByteArray) (kd xo:Int) (xn dn:Int) (ai ax:Option Addr) (len capi xl capx:Nat) (P:Nat → Prop) (T B:Nat) (ps:List (Trow × Value)) (w:World) (h:TabAt w P T B ps) (hP:∀ b,P b → b < w.heap.size)
  (hr:Rise (ps.map Prod.fst)) (hl:∀ p ∈ ps,p.1.l.length ≤ 16) (h64:∀ p ∈ ps,I64 p.1.key) (hn:ps.length ≤ 1000) :
  Calls Tryz.prog 158 #[.agg #[.string u, .int .u8 kd, .slice ai len capi, .int .u8 xo, .int .i64 xn, .slice ax xl capx, .int .i64 dn],px T] w fun e w' => e = .returned (.bool (fitsB kd dn (ps.map Prod.fst))) ∧ Below w.heap.size w w':=by
 have HR:Hid (∀ R,R = fitsB kd dn (ps.map Prod.fst) → R = (statefulB kd && (ps.map Prod.fst).all (rowFits kd dn))):=fun R e => e
 generalize hR:fitsB kd dn (ps.map Prod.fst) = R
 have HF:Hid (R = (statefulB kd && (ps.map Prod.fst).all (rowFits kd dn))):=HR.out R hR.symm
 clear HR hR
 have hN:Blk (w.alloc (.cells #[.string u, .int .u8 kd, .slice ai len capi, .int .u8 xo, .int .i64 xn, .slice ax xl capx, .int .i64 dn] 181)) w.heap.size 181 #[.string u, .int .u8 kd, .slice ai len capi, .int .u8 xo, .int .i64 xn, .slice ax xl capx, .int .i64 dn]:=Blk.new w _ _
 have hb0:Below w.heap.size w (w.alloc (.cells #[.string u, .int .u8 kd, .slice ai len capi, .int .u8 xo, .int .i64 xn, .slice ax xl capx, .int .i64 dn] 181)):=(Below.refl _ _).alloc (Nat.le_refl _) _
 have HK:=Lib.hid (Keys_c P T B ps _ (h.below hP hb0) hr h64 hn)
 have HT:=Lib.hid h
 have HP:=Lib.hid hP
 have HL:=Lib.hid hl
 have HRI:=Lib.hid hr
 have HN5:=Lib.hid hn
 clear h hP hr hl h64 hn
 have x1:=hN.cell 1
 have x6:=hN.cell 6
 unfold px at *
 cases hst:statefulB kd
 ·have HS:=Lib.hid hst
  go_enter Tryz.func158,Tryz.ntmps158
  go_wp2_with (first | (go_at_call 156; refine (stateful_c kd _).mono ?_; rintro e w1 ⟨rfl,rfl⟩; rw [HS.out]) | fail)
  go_ret
  exact ⟨by rw [HF.out,HS.out]; rfl,hb0⟩
 ·have HS:=Lib.hid hst
  have HF2:Hid (R = (ps.map Prod.fst).all (rowFits kd dn)):=by show _ = _; rw [HF.out,HS.out]; rfl
  have hkd:kd = 6 ∨ kd = 7:=by unfold statefulB at hst; simpa using hst
  clear hst HF
  go_enter Tryz.func158,Tryz.ntmps158
  go_upto_region 4 with (first
   | (go_at_call 156; refine (stateful_c kd _).mono ?_; rintro e w1 ⟨rfl,rfl⟩; rw [HS.out])
   | (go_at_call 202; refine HK.out.mono ?_; rintro e W ⟨v,ks,rfl,hperm,hks,hbW⟩; obtain ⟨av,cv,rfl⟩:=hks.form)
   | fail)
  generalize (w.alloc (.cells #[.string u, .int .u8 kd, .slice ai len capi, .int .u8 xo, .int .i64 xn, .slice ax xl capx, .int .i64 dn] 181)) = W0 at *
  have HN:=Lib.hid (hN.below hbW hN.lt)
  have HB:=Lib.hid (hb0.trans (hbW.mono hb0.size))
  have HKS:Hid (InsP W (fun b => b < W.heap.size) ks (.slice av ks.length cv)):=hks.keep (fun b hb => hb.2) (fun _ _ => rfl)
  have HPM:=Lib.hid hperm
  have hks5:ks.length ≤ 1000:=by have:=hperm.length_eq; have:=HN5.out; simp at *; omega
  have HTW:=Lib.hid (HT.out.below HP.out HB.out)
  have HPW:Hid (∀ b,P b → b < W.heap.size):=fun b hb => Nat.lt_of_lt_of_le (HP.out b hb) HB.out.size
  clear hN hb0 hbW hks hperm x1 x6 HK
  go_loopw [21] (fun q wr => ∃ j:Nat,q = .int .i64 (j:Int) ∧ j ≤ ks.length ∧ KFit kd dn ps ks j ∧ Below W.heap.size W wr) (fun q _ => ks.length - (intOf q).toNat)
  case atStart => exact ⟨0,rfl,Nat.zero_le _,fun i hi => absurd hi (Nat.not_lt_zero _),Below.refl _ _⟩
  case round =>
   obtain ⟨j,rfl,hj,hf,hb⟩:=hrel
   by_cases hjl:j < ks.length
   ·have d0:decide ((j:Int) < (ks.length:Int)) = true:=decide_eq_true (by omega)
    obtain ⟨g,c,hv,hc1,hc2,hg,hcell⟩:=HKS.out.at_ j hjl
    obtain ⟨p,hp,hpk⟩:=row_at HPM.out j hjl
    simp only [Value.slice.injEq] at hv
    obtain ⟨rfl,_,rfl⟩:=hv
    have k0:=(World.cell?_of_block (a:=⟨g,j,none⟩) (hb.block g hg)).trans hcell
    rw [hpk] at k0
    have HG:=Lib.hid (Get_c P T B ps wr (HTW.out.below HPW.out hb) (fun b hb2 => Nat.lt_of_lt_of_le (HPW.out b hb2) hb.size) HRI.out HL.out p hp)
    have HPK:Hid (ks[j]? = some p.1.key):=by show _ = _; rw [List.getElem?_eq_getElem hjl,hpk]
    have HPP:=Lib.hid hp
    have HLP:=Lib.hid (HL.out p hp)
    have HF:=Lib.hid hf
    have HBR:=Lib.hid hb
    have HC:=Lib.hid hcell
    obtain ⟨⟨key,acc,l⟩,pv⟩:=p
    dsimp only at HG HPK HLP k0
    unfold px at HG
    clear hcell hp hpk hf hb
    go_upto_region 8 with (first
     | (go_at_call 203; refine HG.out.mono ?_; rintro e w1 ⟨⟨a1,c1,rfl⟩,hb1⟩)
     | fail)
    have hbx:Below W.heap.size W (w1.alloc (.cells #[.int .i64 acc, .slice a1 l.length c1] 274)):=(HBR.out.trans (hb1.mono HBR.out.size)).alloc (by have:=HBR.out.size; have:=hb1.size; omega) _
    have hNx:=HN.out.below hbx HN.out.lt
    have x1:=hNx.cell 1
    have x6:=hNx.cell 6
    have hCx:Blk (w1.alloc (.cells #[.int .i64 acc, .slice a1 l.length c1] 274)) w1.heap.size 274 #[.int .i64 acc, .slice a1 l.length c1]:=Blk.new w1 _ _
    have y0:=hCx.cell 0
    have HBX:=Lib.hid hbx
    clear hb1 hbx hNx hCx
    rcases hkd with rfl | rfl
    ·by_cases hz:0 < l.length
     ·have d1:decide ((0:Int) < (l.length:Int)) = true:=decide_eq_true (by omega)
      have d2:decide (0 < l.length) = true:=decide_eq_true hz
      have HZ:=Lib.hid hz
      clear hz
      go_wp2_with fail
      go_ret
      exact ⟨by rw [HF2.out,KFit.none HPP.out (by show rowFits 6 _ ⟨key,acc,l⟩ = false; rw [rowFits6,decide_eq_true HZ.out]; rfl)]; rfl,HB.out.trans (HBX.out.mono HB.out.size)⟩
     ·have d1:decide ((0:Int) < (l.length:Int)) = false:=decide_eq_false (by omega)
      have d2:decide (0 < l.length) = false:=decide_eq_false hz
      have HZ:=Lib.hid hz
      clear hz
      go_wp2_with fail
      go_roundw
      case rel => exact ⟨j + 1,by go_num,by omega,HF.out.step HRI.out HPP.out HPK.out (by show rowFits 6 _ ⟨key,acc,l⟩ = true; rw [rowFits6,decide_eq_false HZ.out]; rfl),HBX.out⟩
      case measure => simp [intOf]; omega
    ·by_cases ha:acc = 0
     ·have d1:(acc != 0) = false:=by simpa using ha
      by_cases h1:l.length < 1
      ·have d2:decide ((l.length:Int) < 1) = true:=decide_eq_true (by omega)
       have d3:decide (l.length < 1) = true:=decide_eq_true h1
       have HZ:=Lib.hid h1
       clear h1 ha
       go_wp2_with fail
       go_ret
       exact ⟨by rw [HF2.out,KFit.none HPP.out (by show rowFits 7 _ ⟨key,acc,l⟩ = false; rw [rowFits7,decide_eq_true HZ.out,Bool.true_or,Bool.or_true]; rfl)]; rfl,HB.out.trans (HBX.out.mono HB.out.size)⟩
      ·have d2:decide ((l.length:Int) < 1) = false:=decide_eq_false (by omega)
       have d3:decide (l.length < 1) = false:=decide_eq_false h1
       by_cases h2:dn ≤ (l.length:Int)
       ·have d4:decide (dn ≤ (l.length:Int)) = true:=decide_eq_true h2
        have HZ:=Lib.hid h2
        clear h1 h2 ha
        go_wp2_with fail
        go_ret
        exact ⟨by rw [HF2.out,KFit.none HPP.out (by show rowFits 7 _ ⟨key,acc,l⟩ = false; rw [rowFits7,decide_eq_true HZ.out,Bool.or_true,Bool.or_true]; rfl)]; rfl,HB.out.trans (HBX.out.mono HB.out.size)⟩
       ·have d4:decide (dn ≤ (l.length:Int)) = false:=decide_eq_false h2
        have HZ:=Lib.hid h2
        have HZ1:=Lib.hid h1
        have HA:=Lib.hid ha
        clear h1 h2 ha
        go_wp2_with fail
        go_roundw
        case rel => exact ⟨j + 1,by go_num,by omega,HF.out.step HRI.out HPP.out HPK.out (by show rowFits 7 _ ⟨key,acc,l⟩ = true; rw [rowFits7,decide_eq_false HZ.out,decide_eq_false HZ1.out,HA.out]; rfl),HBX.out⟩
        case measure => simp [intOf]; omega
     ·have d1:(acc != 0) = true:=by simpa using ha
      have HA:=Lib.hid ha
      clear ha
      go_wp2_with fail
      go_ret
      exact ⟨by rw [HF2.out,KFit.none HPP.out (by show rowFits 7 _ ⟨key,acc,l⟩ = false; rw [rowFits7,show (acc != 0) = true by simpa using HA.out,Bool.true_or]; rfl)]; rfl,HB.out.trans (HBX.out.mono HB.out.size)⟩
   ·obtain rfl:j = ks.length:=by omega
    have d0:decide ((ks.length:Int) < (ks.length:Int)) = false:=decide_eq_false (by omega)
    go_wp2_with fail
    go_ret
    exact ⟨by rw [HF2.out,hf.all HPM.out]; rfl,HB.out.trans (hb.mono HB.out.size)⟩
section
open Go.RowKit Go.ChangeShapes Go.WideShapes
def StaRd (w:World) (P:Nat → Prop) (v:Value) (l:List Sta):Prop :=
 ∃ a cap,v = .slice a l.length cap ∧ l.length ≤ cap ∧ cap ≤ maxLen ∧ (l.length = 0 ∨ ∃ b off,a = some ⟨b,off,none⟩ ∧ P b ∧ ∀ k (h:k < l.length),w.cell? ⟨b,off + k * 2,none⟩ = some (.string l[k].uid) ∧ w.cell? ⟨b,off + k * 2 + 1,none⟩ = some (.string l[k].bytes))
namespace StaRd
variable {w w':World} {P Q:Nat → Prop} {v:Value} {l:List Sta}
theorem nil (w:World) (P:Nat → Prop):StaRd w P (.slice none 0 0) []:=⟨none,0,rfl,Nat.le_refl _,Nat.zero_le _, .inl rfl⟩
theorem keep (h:StaRd w P v l) (hPQ:∀ b,P b → Q b) (hk:∀ b,P b → w'.heap[b]? = w.heap[b]?):StaRd w' Q v l:=by
 obtain ⟨a,cap,hv,h1,h2,h3⟩:=h
 refine ⟨a,cap,hv,h1,h2,h3.imp id ?_⟩
 rintro ⟨b,off,ha,hb,hc⟩
 exact ⟨b,off,ha,hPQ b hb,fun k hk2 => ⟨(World.cell?_of_block (hk b hb)).trans (hc k hk2).1,(World.cell?_of_block (hk b hb)).trans (hc k hk2).2⟩⟩
theorem slice (h:StaRd w P v l):∃ a cap,v = .slice a l.length cap ∧ l.length ≤ cap ∧ cap ≤ maxLen:=by
 obtain ⟨a,cap,hv,h1,h2,h3⟩:=h
 exact ⟨a,cap,hv,h1,h2⟩
theorem at_ (h:StaRd w P v l) (k:Nat) (hk:k < l.length):∃ b off cap,v = .slice (some ⟨b,off,none⟩) l.length cap ∧ P b ∧ w.cell? ⟨b,off + k * 2,none⟩ = some (.string l[k].uid) ∧ w.cell? ⟨b,off + k * 2 + 1,none⟩ = some (.string l[k].bytes):=by
 obtain ⟨a,cap,hv,h1,h2,h3⟩:=h
 rcases h3 with h3 | ⟨b,off,rfl,hb,hc⟩
 ·omega
 ·exact ⟨b,off,cap,hv,hb,hc k hk⟩
end StaRd
def svC (x:Sv) (nv sv:Value):Array Value:=#[.int .i64 x.n, .int .i64 x.cut, .int .i64 x.job.par,nv,sv]
def SvIn (w:World) (P:Nat → Prop) (v:Value) (x:Sv):Prop:=∃ nv sv,v = .agg (svC x nv sv) ∧ NodesIn w P x.job.nodes nv ∧ StaRd w P sv x.states
theorem SvIn.keep {w w':World} {P Q:Nat → Prop} {v:Value} {x:Sv} (h:SvIn w P v x) (hPQ:∀ b,P b → Q b) (hk:∀ b,P b → w'.heap[b]? = w.heap[b]?):SvIn w' Q v x:=let ⟨nv,sv,h1,h2,h3⟩:=h; ⟨nv,sv,h1,h2.keep hPQ hk,h3.keep hPQ hk⟩
section
variable {H:Type} {enc:TypeId × Value → H} {w:World}
end
end
theorem getI_some {r:Int} {kv:List (Int × Value)} (h:(getI r kv).isSome = true):∃ p ∈ kv,p.1 = r:=by
 by_cases hn:∀ p ∈ kv,p.1 ≠ r
 ·have:=(findI_none r kv 0).2 hn
  unfold getI at h
  rw [this] at h
  cases h
 ·simpa using hn
theorem getI_none {r:Int} {kv:List (Int × Value)} (h:getI r kv = none):∀ p ∈ kv,p.1 ≠ r:=by
 refine (findI_none r kv 0).1 ?_
 unfold getI at h
 simpa using h
def tkOf (kv:List (Int × Value)):List Nat:=kv.map fun p => p.1.toNat
theorem st_some {j:Jb} {s:Sta} {kv:List (Int × Value)} (h:(getI (j.find s.uid) kv).isSome = true):stBad j s (tkOf kv) = true:=by
 obtain ⟨p,hp,e⟩:=getI_some h
 have:(j.find s.uid).toNat ∈ tkOf kv:=by rw [← e]; exact List.mem_map_of_mem hp
 unfold stBad
 rw [decide_eq_true this,Bool.true_or,Bool.or_true]
theorem st_neg {j:Jb} {s:Sta} {tk:List Nat} (h:j.find s.uid < 0):stBad j s tk = true:=by
 unfold stBad
 rw [decide_eq_true h,Bool.true_or]
theorem st_kind {j:Jb} {s:Sta} {tk:List Nat} (h:statefulB (j.kindAt (j.find s.uid).toNat) = false):stBad j s tk = true:=by
 unfold stBad
 rw [h,Bool.not_false,Bool.or_true,Bool.or_true]
theorem st_good {j:Jb} {s:Sta} {kv:List (Int × Value)} (hk:∀ p ∈ kv,0 ≤ p.1) (h1:getI (j.find s.uid) kv = none) (h2 : ¬ j.find s.uid < 0) (h3:statefulB (j.kindAt (j.find s.uid).toNat) = true):stBad j s (tkOf kv) = false:=by
 have : ¬ (j.find s.uid).toNat ∈ tkOf kv:=by
  intro h
  obtain ⟨p,hp,e⟩:=List.mem_map.1 h
  have:=hk p hp
  exact getI_none h1 p hp (by omega)
 unfold stBad
 rw [decide_eq_false h2,decide_eq_false this,h3]
 rfl
theorem lg_bad {j:Jb} {s:Sta} {l:List Sta} {tk:List Nat} (h:stBad j s tk = true):loadGo j (s :: l) tk = 180:=by unfold loadGo; rw [if_pos h]
theorem lg_err {j:Jb} {s:Sta} {l:List Sta} {tk:List Nat} (h:stBad j s tk = false) (h2:(takeTb s.bytes).2 ≠ 0):loadGo j (s :: l) tk = (takeTb s.bytes).2:=by
 unfold loadGo; rw [if_neg (by rw [h]; decide),if_pos h2]
theorem lg_fit {j:Jb} {s:Sta} {l:List Sta} {tk:List Nat} (h:stBad j s tk = false) (h2:(takeTb s.bytes).2 = 0) (h3:fitsB (j.kindAt (j.find s.uid).toNat) (j.nAt (j.find s.uid).toNat) (takeTb s.bytes).1 = false):loadGo j (s :: l) tk = 181:=by
 unfold loadGo; rw [if_neg (by rw [h]; decide),if_neg (by simpa using h2),if_pos h3]
theorem lg_next {j:Jb} {s:Sta} {l:List Sta} {tk:List Nat} (h:stBad j s tk = false) (h2:(takeTb s.bytes).2 = 0) (h3:fitsB (j.kindAt (j.find s.uid).toNat) (j.nAt (j.find s.uid).toNat) (takeTb s.bytes).1 = true):loadGo j (s :: l) tk = loadGo j l (tk ++ [(j.find s.uid).toNat]):=by
 conv => lhs; rw [loadGo]
 rw [if_neg (by rw [h]; decide),if_neg (by simpa using h2),if_neg (by rw [h3]; decide)]
theorem idxZ_few {α:Type} (p:α → Bool):∀ (l:List α) (k:Nat),idxZ p l k = -1 ∨ idxZ p l k < (k:Int) + l.length
 | [],k => .inl rfl
 | y :: l,k => by
  have:=idxZ_few p l (k + 1)
  simp only [idxZ,List.length_cons]
  cases p y <;> simp only [cond_true,cond_false] <;> omega
theorem kindAt_eq (j:Jb) (k:Nat) (h:k < j.nodes.length):j.kindAt k = j.nodes[k].kind:=by unfold Jb.kindAt; rw [List.getElem?_eq_getElem h]; rfl
theorem nAt_eq (j:Jb) (k:Nat) (h:k < j.nodes.length):j.nAt k = j.nodes[k].n:=by unfold Jb.nAt; rw [List.getElem?_eq_getElem h]; rfl
theorem tTake_err (s:ByteArray) (hs:s.size ≤ 140737488355328) (he:(takeTb s).2 ≠ 0) (w:World):Calls Tryz.prog 157 #[.string s] w fun e w' => e = .returned (.tuple #[.pointer none, .int .i64 (takeTb s).2]) ∧ Below w.heap.size w w' :=
 (tTake_c s hs w).mono fun e w' ⟨hb,h⟩ => ⟨by
  rcases h with ⟨_,h⟩ | ⟨h,_⟩
  ·exact h
  ·exact absurd h he,hb⟩
theorem tTake_ok (s:ByteArray) (hs:s.size ≤ 140737488355328) (he:(takeTb s).2 = 0) (w:World):Calls Tryz.prog 157 #[.string s] w fun e w' => ∃ T B ps,e = .returned (.tuple #[px T, .int .i64 0]) ∧ ps.map Prod.fst = (takeTb s).1 ∧ TabAt w' (fun b => b < w'.heap.size) T B ps ∧ Below w.heap.size w w' :=
 (tTake_c s hs w).mono fun e w' ⟨hb,h⟩ => by
  rcases h with ⟨h,_⟩ | ⟨_,T,B,ps,rfl,h1,h2⟩
  ·exact absurd he h
  ·exact ⟨T,B,ps,rfl,h1,h2.keep rfl rfl (fun b hb => hb.2) (fun _ _ => rfl),hb⟩
theorem fits_tab (s:ByteArray) (u:ByteArray) (kd xo:Int) (xn dn:Int) (ai ax:Option Addr) (len capi xl capx:Nat) (T B:Nat) (ps:List (Trow × Value)) (w:World) (h:TabAt w (fun b => b < w.heap.size) T B ps) (hps:ps.map Prod.fst = (takeTb s).1) :
  Calls Tryz.prog 158 #[.agg #[.string u, .int .u8 kd, .slice ai len capi, .int .u8 xo, .int .i64 xn, .slice ax xl capx, .int .i64 dn],px T] w fun e w' => e = .returned (.bool (fitsB kd dn (takeTb s).1)) ∧ Below w.heap.size w w':=by
 obtain ⟨h1,h2,h3⟩:=takeTb_at s
 have h4:=takeTb_keys s
 rw [← hps] at h1 h2 h3 h4 ⊢
 exact Fits_c u kd xo xn dn ai ax len capi xl capx _ T B ps w h (fun _ h => h) h1 (fun p hp => h2 _ (List.mem_map_of_mem hp)) (fun p hp => h4 _ (List.mem_map_of_mem hp)) (by rw [List.length_map] at h3; omega)
theorem zero_tab (w:World):(zeroValue 222).run Tryz.prog w = .ok (.pointer none) w:=by go_simp
theorem look_none {w:World} {b:Nat} {kv:List (Int × Value)} (hm:MapI w .i64 b kv) {r:Int} (h:getI r kv = none):(Instr.lookup 218 (.map (some b)) (.int .i64 r) true).run Tryz.prog w = .ok (.tuple #[.pointer none, .bool false]) w:=by
 have:=lookupI (P:=Tryz.prog) Tryz.underlying218 Tryz.underlying3 hm r (.pointer none) (zero_tab w)
 rw [h] at this
 exact this
theorem look_some {w:World} {b:Nat} {kv:List (Int × Value)} (hm:MapI w .i64 b kv) {r:Int} {v:Value} (h:getI r kv = some v):(Instr.lookup 218 (.map (some b)) (.int .i64 r) true).run Tryz.prog w = .ok (.tuple #[v, .bool true]) w:=by
 have:=lookupI (P:=Tryz.prog) Tryz.underlying218 Tryz.underlying3 hm r (.pointer none) (zero_tab w)
 rw [h] at this
 exact this
theorem ins_tab {w:World} {b:Nat} {kv:List (Int × Value)} (hm:MapI w .i64 b kv) {r:Int} (h:getI r kv = none) (x:Value):∃ w',(Instr.mapUpdate 218 (.map (some b)) (.int .i64 r) x).run Tryz.prog w = .ok () w' ∧ MapI w' .i64 b (kv ++ [(r,x)]) ∧ Fr (fun i => i = b) w w' ∧ w'.heap.size = w.heap.size :=
 insertI Tryz.underlying218 Tryz.underlying3 hm r x h
theorem New_b (w:World):Calls Tryz.prog 159 #[] w fun e w' => ∃ T,e = .returned (px T) ∧ Below w.heap.size w w' :=
 (New_t w).mono fun e w' h => ⟨_,h.1,h.2.1⟩
structure LdAt (w:World) (par:Int) (a:Option Addr) (n cap BJ MB ID:Nat) (kv:List (Int × Value)) (wr:World):Prop where
 below:Below w.heap.size w wr
 job:Blk wr BJ 26 #[.int .i64 par, .slice a n cap]
 idl:Blk wr ID 220 #[.int .i64 par, .slice a n cap, .map (some MB)]
 map:MapI wr .i64 MB kv
 ge:w.heap.size ≤ MB
 ne:BJ ≠ MB ∧ ID ≠ MB
namespace LdAt
variable {w wr wx:World} {par:Int} {a:Option Addr} {n cap BJ MB ID:Nat} {kv kv2:List (Int × Value)}
theorem more (h:LdAt w par a n cap BJ MB ID kv wr) (hb:Below wr.heap.size wr wx):LdAt w par a n cap BJ MB ID kv wx :=
 ⟨h.below.trans (hb.mono h.below.size),h.job.below hb h.job.lt,h.idl.below hb h.idl.lt,h.map.same (hb.block MB h.map.lt),h.ge,h.ne⟩
theorem put (h:LdAt w par a n cap BJ MB ID kv wr) (hf:Fr (fun i => i = MB) wr wx) (hm:MapI wx .i64 MB kv2):LdAt w par a n cap BJ MB ID kv2 wx :=
 ⟨h.below.trans (hf.below h.below.size (fun k hk e => by have:=h.ge; omega)),h.job.fr hf h.ne.1,h.idl.fr hf h.ne.2,hm,h.ge,h.ne⟩
end LdAt
theorem ndIn_form {w:World} {B:Nat} {iv sv:Value} {d:Nd} (h:NdIn w B iv sv d):∃ a1 n1 c1 a2 n2 c2,iv = .slice a1 n1 c1 ∧ sv = .slice a2 n2 c2:=by
 obtain ⟨_,a1,c1,rfl,_⟩:=h.1
 obtain ⟨a2,c2,rfl,_⟩:=h.2.slice
 exact ⟨_,_,_,_,_,_,rfl,rfl⟩
set_option maxRecDepth 100000 in
set_option maxHeartbeats 1000000 in
theorem Load_c (jb:Jb) (jv:Value) (l:List Sta) (sv:Value) (w:World) (hj:JbAt w w.heap.size jv jb) (hs:StaRd w (· < w.heap.size) sv l) (hsz:∀ s ∈ l,s.bytes.size ≤ 140737488355328) :
  Calls Tryz.prog 94 #[jv,sv] w fun e w' => (∃ p,e = .returned (.tuple #[p, .int .i64 (loadE jb l)])) ∧ Below w.heap.size w w':=by
 obtain ⟨nv,rfl,hnd⟩:=hj
 obtain ⟨a,cap,rfl,hcap,hmx⟩:=hnd.slice
 obtain ⟨sa,scap,rfl,hsc,hsm⟩:=hs.slice
 have hlm:jb.nodes.length ≤ 9223372036854775807:=by unfold maxLen at hmx; omega
 have hll:l.length ≤ 9223372036854775807:=by unfold maxLen at hsm; omega
 have HE:Hid (loadE jb l = if jb.may.2 ≠ 0 then 2 else loadGo jb l []):=rfl
 generalize loadE jb l = E at *
 have hb1:Below w.heap.size w (w.alloc (.cells #[.int .i64 jb.par, .slice a jb.nodes.length cap] 26)):=(Below.refl _ _).alloc (Nat.le_refl _) _
 have HM:=Lib.hid (May_c1 jb (.agg #[.int .i64 jb.par, .slice a jb.nodes.length cap]) w.heap.size (w.alloc (.cells #[.int .i64 jb.par, .slice a jb.nodes.length cap] 26)) ⟨_,rfl,hnd.keep hb1⟩ hb1.size)
 have HJ0:Hid (Blk (w.alloc (.cells #[.int .i64 jb.par, .slice a jb.nodes.length cap] 26)) w.heap.size 26 #[.int .i64 jb.par, .slice a jb.nodes.length cap]):=Blk.new w _ _
 have HB1:=Lib.hid hb1
 have HND:=Lib.hid hnd
 have HST:=Lib.hid hs
 have HSZ:=Lib.hid hsz
 clear hb1 hnd hs hsz
 by_cases hm:jb.may.2 = 0
 ·have hm0:(jb.may.2 != 0) = false:=by simpa using hm
  have HE2:Hid (E = loadGo jb l []):=by show _ = _; rw [HE.out,if_neg (by simpa using hm)]
  clear hm HE
  go_enter Tryz.func94,Tryz.ntmps94
  go_upto_region 4 with (first | (go_at_call 64; refine HM.out.mono ?_; rintro e w1 ⟨rfl,hbm⟩) | fail)
  have hj1:=HJ0.out.below hbm HJ0.out.lt
  have hb2:=HB1.out.trans (hbm.mono HB1.out.size)
  have c0:=hj1.cell 0
  have c1:=hj1.cell 1
  have HJ1:=Lib.hid hj1
  have HB2:=Lib.hid hb2
  have HLT:Hid (w.heap.size < w1.heap.size):=hj1.lt
  clear hj1 hb2 hbm HM HJ0 HB1
  go_upto_region 6 with (first | (refine wpList_makeMapI _ _ rfl rfl .i64 ?_; intro hmap) | fail)
  have hL:LdAt w jb.par a jb.nodes.length cap w.heap.size w1.heap.size (w1.heap.size + 1) [] ((w1.alloc (.map #[] 0)).alloc (.cells #[.int .i64 jb.par, .slice a jb.nodes.length cap, .map (some w1.heap.size)] 220)) :=
   ⟨(HB2.out.alloc HB2.out.size _).alloc (by have:=HB2.out.size; simp; omega) _,(HJ1.out.alloc _).alloc _,Blk.new_at _ _ _ (by simp),hmap.alloc _,by have:=HLT.out; omega,by have:=HLT.out; omega,by omega⟩
  clear hmap c0 c1 HJ1 HB2
  generalize hID:w1.heap.size + 1 = ID at *
  generalize w1.heap.size = MB at *
  generalize ((w1.alloc (.map #[] 0)).alloc (.cells #[.int .i64 jb.par, .slice a jb.nodes.length cap, .map (some MB)] 220)) = W0 at *
  have HFL:Hid (∀ s:Sta,jb.find s.uid < (jb.nodes.length:Int)):=fun s => by
   have:=idxZ_few (fun d:Nd => decide (d.uid = s.uid)) jb.nodes 0
   show idxZ _ _ _ < _
   omega
  have HKA:Hid (∀ k (h:k < jb.nodes.length),jb.kindAt k = jb.nodes[k].kind ∧ jb.nAt k = jb.nodes[k].n):=fun k h => ⟨kindAt_eq jb k h,nAt_eq jb k h⟩
  go_loopw [33] (fun q wr => ∃ (j:Nat) (kv:List (Int × Value)),q = .int .i64 (j:Int) ∧ j ≤ l.length ∧ LdAt w jb.par a jb.nodes.length cap w.heap.size MB ID kv wr ∧ (∀ p ∈ kv,0 ≤ p.1) ∧ loadGo jb (l.drop j) (tkOf kv) = E) (fun q _ => l.length - (intOf q).toNat)
  case atStart => exact ⟨0,[],rfl,Nat.zero_le _,hL,by simp,by rw [HE2.out]; rfl⟩
  case round =>
   clear hL
   obtain ⟨j,kv,rfl,hj,hL,hkv,hgo⟩:=hrel
   by_cases hjl:j < l.length
   ·have d0:decide ((j:Int) < (l.length:Int)) = true:=decide_eq_true (by omega)
    obtain ⟨sb,so,sc,e1,hsb,s0,s1⟩:=HST.out.at_ j hjl
    have hsj:=HSZ.out _ (List.getElem_mem hjl)
    rw [List.drop_eq_getElem_cons hjl] at hgo
    simp only [Value.slice.injEq] at e1
    obtain ⟨rfl,_,rfl⟩:=e1
    have k0:=(hL.below.cell (p:=⟨sb,so + j * 2,none⟩) hsb).trans s0
    have k1:=(hL.below.cell (p:=⟨sb,so + j * 2 + 1,none⟩) hsb).trans s1
    have HJL:=Lib.hid hjl
    generalize l[j] = s at *
    have hL7:=hL.more ((Below.refl _ _).alloc (Nat.le_refl _) (.cells #[.string s.uid, .string s.bytes] 151))
    have hS7:Blk (wr.alloc (.cells #[.string s.uid, .string s.bytes] 151)) wr.heap.size 151 #[.string s.uid, .string s.bytes]:=Blk.new wr _ _
    have HL7:=Lib.hid hL7
    have HS7:=Lib.hid hS7
    have HGO:=Lib.hid hgo
    have HKV:=Lib.hid hkv
    have HSJ:=Lib.hid hsj
    clear s0 s1 hL7 hS7 hL hgo hkv hsj
    go_upto_region 8 with fail
    generalize (wr.alloc (.cells #[.string s.uid, .string s.bytes] 151)) = W7 at *
    have HF:=Lib.hid (Find_c jb s.uid (.agg #[.int .i64 jb.par, .slice a jb.nodes.length cap]) w.heap.size W7 ⟨_,rfl,HND.out.keep HL7.out.below⟩ HL7.out.below.size)
    have HFL2:=Lib.hid (HFL.out s)
    have j0:=HL7.out.job.cell 0
    have j1:=HL7.out.job.cell 1
    have q0:=HS7.out.cell 0
    have HST0:Hid (∀ r og,jb.find s.uid = r → getI r kv = og → (og.isSome = true → E = 180) ∧ (r < 0 → E = 180) ∧ (∀ k:Nat,r = (k:Int) → og = none → ∀ hk:k < jb.nodes.length,(statefulB jb.nodes[k].kind = false → E = 180) ∧ (statefulB jb.nodes[k].kind = true → ((takeTb s.bytes).2 ≠ 0 → E = (takeTb s.bytes).2) ∧ ((takeTb s.bytes).2 = 0 → (fitsB jb.nodes[k].kind jb.nodes[k].n (takeTb s.bytes).1 = false → E = 181) ∧ (fitsB jb.nodes[k].kind jb.nodes[k].n (takeTb s.bytes).1 = true → loadGo jb (l.drop (j + 1)) (tkOf kv ++ [k]) = E))))):=by
     rintro r og hr hog
     have hgo:=HGO.out
     subst hr
     subst hog
     refine ⟨fun h => ?_,fun h => ?_,fun k hk hn hkl => ?_⟩
     ·rw [← hgo,lg_bad (st_some h)]
     ·rw [← hgo,lg_bad (st_neg h)]
     ·have e1:(jb.find s.uid).toNat = k:=by omega
      obtain ⟨g1,g2⟩:=HKA.out k hkl
      refine ⟨fun h => ?_,fun h => ?_⟩
      ·rw [← hgo,lg_bad (st_kind (by rw [e1,g1]; exact h))]
      ·have hg:=st_good HKV.out hn (by omega) (by rw [e1,g1]; exact h)
       refine ⟨fun h2 => by rw [← hgo,lg_err hg h2],fun h2 => ⟨fun h3 => ?_,fun h3 => ?_⟩⟩
       ·rw [← hgo,lg_fit hg h2 (by rw [e1,g1,g2]; exact h3)]
       ·rw [← hgo,lg_next hg h2 (by rw [e1,g1,g2]; exact h3),e1]
    generalize jb.find s.uid = r at *
    rcases hog:getI r kv with _ | v0
    ·have HOG:=Lib.hid hog
     obtain ⟨_,hneg,hpos⟩:=HST0.out r none rfl hog
     clear hog HST0
     by_cases hr0:r < 0
     ·have d1:decide (r < 0) = true:=decide_eq_true hr0
      have HEE:Hid (E = 180):=hneg hr0
      clear hneg hpos hr0
      go_upto_region 9 with (first | (go_at_call 155; refine HF.out.mono ?_; rintro e w2 ⟨rfl,hbf⟩) | fail)
      have hL8:=HL7.out.more hbf
      have i2:=hL8.idl.cell 2
      have hk8:=look_none hL8.map HOG.out
      go_wp2_with fail
      go_ret2
      exact ⟨⟨_,by rw [HEE.out]; rfl⟩,hL8.below⟩
     ·obtain ⟨k,rfl⟩:∃ k:Nat,r = (k:Int):=⟨r.toNat,by omega⟩
      have hk:k < jb.nodes.length:=by have:=HFL2.out; omega
      have hpk:=hpos k rfl rfl hk
      have d1:decide ((k:Int) < 0) = false:=decide_eq_false hr0
      clear hneg hpos hr0
      go_upto_region 9 with (first | (go_at_call 155; refine HF.out.mono ?_; rintro e w2 ⟨rfl,hbf⟩) | fail)
      have hL8:=HL7.out.more hbf
      have i2:=hL8.idl.cell 2
      have hk8:=look_none hL8.map HOG.out
      have y0:=hL8.job.cell 0
      have y1:=hL8.job.cell 1
      have HS8:=Lib.hid (HS7.out.below hbf HS7.out.lt)
      have q1:=HS8.out.cell 1
      obtain ⟨nb,no,nc,e1,hnb,hu,iv,xv,n0,n1,n2,n3,n4,n5,n6,hin⟩:=(HND.out.keep hL8.below).at_ k hk
      obtain ⟨a1,l1,c1,a2,l2,c2,rfl,rfl⟩:=ndIn_form hin
      simp only [Value.slice.injEq] at e1
      obtain ⟨rfl,_,rfl⟩:=e1
      have HL8:=Lib.hid hL8
      have HNB:=Lib.hid hnb
      have HIN:Hid (w2.cell? ⟨nb,no + k * 7,none⟩ = some (.string jb.nodes[k].uid) ∧ w2.cell? ⟨nb,no + k * 7 + 1,none⟩ = some (.int .u8 jb.nodes[k].kind) ∧ w2.cell? ⟨nb,no + k * 7 + 2,none⟩ = some (.slice a1 l1 c1) ∧ w2.cell? ⟨nb,no + k * 7 + 3,none⟩ = some (.int .u8 jb.nodes[k].x.op) ∧ w2.cell? ⟨nb,no + k * 7 + 4,none⟩ = some (.int .i64 jb.nodes[k].x.n) ∧ w2.cell? ⟨nb,no + k * 7 + 5,none⟩ = some (.slice a2 l2 c2) ∧ w2.cell? ⟨nb,no + k * 7 + 6,none⟩ = some (.int .i64 jb.nodes[k].n)):=⟨n0,n1,n2,n3,n4,n5,n6⟩
      clear hL8 hnb n0 n2 n3 n4 n5 n6 hin hbf
      generalize jb.nodes[k] = nd at *
      rcases hst:statefulB nd.kind with _ | _
      ·have HEE:Hid (E = 180):=hpk.1 hst
       have HSF:=Lib.hid hst
       clear hpk hst
       go_wp2_with (first
        | (go_at_call 156; refine (stateful_c _ _).mono ?_; rintro e w9 ⟨rfl,rfl⟩; rw [HSF.out])
        | fail)
       go_ret2
       exact ⟨⟨_,by rw [HEE.out]; rfl⟩,HL8.out.below⟩
      ·have hpk2:=hpk.2 hst
       have HSF:=Lib.hid hst
       clear hpk hst
       by_cases hte:(takeTb s.bytes).2 = 0
       ·have HTE:=Lib.hid hte
        have hpk3:=hpk2.2 hte
        clear hpk2 hte
        go_upto_region 15 with (first
         | (go_at_call 156; refine (stateful_c _ _).mono ?_; rintro e w9 ⟨rfl,rfl⟩; rw [HSF.out])
         | (go_at_call 157; refine (tTake_ok s.bytes HSJ.out HTE.out _).mono ?_; rintro e w3 ⟨T,B,ps,rfl,hps,htab,hb3⟩)
         | fail)
        have hL9:=HL8.out.more hb3
        obtain ⟨n0,n1,n2,n3,n4,n5,n6⟩:=HIN.out
        have hnb2:nb < w2.heap.size:=Nat.lt_of_lt_of_le HNB.out HL8.out.below.size
        have g:=fun x => hb3.cell (p:=⟨nb,x,none⟩) hnb2
        have z0:=(g _).trans n0
        have z1:=(g _).trans n1
        have z2:=(g _).trans n2
        have z3:=(g _).trans n3
        have z4:=(g _).trans n4
        have z5:=(g _).trans n5
        have z6:=(g _).trans n6
        have x0:=hL9.job.cell 0
        have x1:=hL9.job.cell 1
        have HL9:=Lib.hid hL9
        have HFT:=Lib.hid (fits_tab s.bytes nd.uid nd.kind nd.x.op nd.x.n nd.n a1 a2 l1 c1 l2 c2 T B ps w3 htab hps)
        clear n0 n1 n2 n3 n4 n5 n6 g hL9 q0 q1 y0 y1 i2 j0 j1 htab hps
        rcases hfb:fitsB nd.kind nd.n (takeTb s.bytes).1 with _ | _
        ·have HEE:Hid (E = 181):=hpk3.1 hfb
         have HFB:=Lib.hid hfb
         clear hpk3 hfb
         go_wp2_with (first
          | (go_at_call 158; refine HFT.out.mono ?_; rintro e w4 ⟨rfl,hb4⟩; rw [HFB.out])
          | fail)
         go_ret2
         exact ⟨⟨_,by rw [HEE.out]; rfl⟩,(HL9.out.more hb4).below⟩
        ·have HNX:=Lib.hid (hpk3.2 hfb)
         have HFB:=Lib.hid hfb
         clear hpk3 hfb
         go_upto_region 17 with (first
          | (go_at_call 158; refine HFT.out.mono ?_; rintro e w4 ⟨rfl,hb4⟩; rw [HFB.out])
          | fail)
         have hL10:=HL9.out.more hb4
         have i2:=hL10.idl.cell 2
         obtain ⟨w5,hrun5,hm5,hf5,hs5⟩:=ins_tab hL10.map HOG.out (px T)
         have HF5:=Lib.hid hf5
         have HM5:=Lib.hid hm5
         have HL10:=Lib.hid hL10
         clear hL10 z0 z1 z2 z3 z4 z5 z6 x0 x1 hf5 hm5 hs5 hk8
         go_wp2_with fail
         go_roundw
         case rel => exact ⟨j + 1,_,by go_num,HJL.out,HL10.out.put HF5.out HM5.out,fun p hp => by
          rcases List.mem_append.1 hp with hp | hp
          ·exact HKV.out p hp
          ·rw [List.mem_singleton.1 hp]; exact Int.natCast_nonneg k,by rw [← HNX.out]; unfold tkOf; rw [List.map_append]; rfl⟩
         case measure => have:=HJL.out; simp [intOf]; omega
       ·have HEE:Hid (E = (takeTb s.bytes).2):=hpk2.1 hte
        have d5:((takeTb s.bytes).2 != 0) = true:=by simpa using hte
        have HTE:=Lib.hid hte
        clear hpk2 hte
        go_wp2_with (first
         | (go_at_call 156; refine (stateful_c _ _).mono ?_; rintro e w9 ⟨rfl,rfl⟩; rw [HSF.out])
         | (go_at_call 157; refine (tTake_err s.bytes HSJ.out HTE.out _).mono ?_; rintro e w3 ⟨rfl,hb3⟩)
         | fail)
        go_ret2
        exact ⟨⟨_,by rw [HEE.out]; rfl⟩,(HL8.out.more hb3).below⟩
    ·have HOG:=Lib.hid hog
     have HEE:Hid (E = 180):=(HST0.out r (some v0) rfl hog).1 rfl
     clear hog HST0
     go_upto_region 9 with (first | (go_at_call 155; refine HF.out.mono ?_; rintro e w2 ⟨rfl,hbf⟩) | fail)
     have hL8:=HL7.out.more hbf
     have i2:=hL8.idl.cell 2
     have hk8:=look_some hL8.map HOG.out
     go_wp2_with fail
     go_ret2
     exact ⟨⟨_,by rw [HEE.out]; rfl⟩,hL8.below⟩
   ·obtain rfl:j = l.length:=by omega
    have d0:decide ((l.length:Int) < (l.length:Int)) = false:=decide_eq_false (by omega)
    have HEE:Hid (E = 0):=by
     show _ = _
     rw [← hgo,List.drop_length]
     rfl
    have j0:=hL.job.cell 0
    have j1:=hL.job.cell 1
    have HL:=Lib.hid hL
    clear hL hkv hgo
    go_upto_region 20 with fail
    go_loopw [94] (fun q wx => ∃ (k:Nat) (kv2:List (Int × Value)),q = .int .i64 (k:Int) ∧ k ≤ jb.nodes.length ∧ LdAt w jb.par a jb.nodes.length cap w.heap.size MB ID kv2 wx) (fun q _ => jb.nodes.length - (intOf q).toNat)
    case atStart => exact ⟨0,kv,rfl,Nat.zero_le _,HL.out⟩
    case round =>
     clear j0 j1
     obtain ⟨k,kv2,rfl,hk,hL2⟩:=hrel
     by_cases hkl:k < jb.nodes.length
     ·have d1:decide ((k:Int) < (jb.nodes.length:Int)) = true:=decide_eq_true (by omega)
      obtain ⟨nb,no,nc,e1,hnb,hu,iv,xv,n0,n1,n2,n3,n4,n5,n6,hin⟩:=(HND.out.keep hL2.below).at_ k hkl
      obtain ⟨a1,l1,c1,a2,l2,c2,rfl,rfl⟩:=ndIn_form hin
      simp only [Value.slice.injEq] at e1
      obtain ⟨rfl,_,rfl⟩:=e1
      have HKL:=Lib.hid hkl
      generalize jb.nodes[k] = nd at *
      have hL3:=hL2.more ((Below.refl _ _).alloc (Nat.le_refl _) (.cells #[.string nd.uid, .int .u8 nd.kind, .slice a1 l1 c1, .int .u8 nd.x.op, .int .i64 nd.x.n, .slice a2 l2 c2, .int .i64 nd.n] 181))
      have hN:Blk (wr.alloc (.cells #[.string nd.uid, .int .u8 nd.kind, .slice a1 l1 c1, .int .u8 nd.x.op, .int .i64 nd.x.n, .slice a2 l2 c2, .int .i64 nd.n] 181)) wr.heap.size 181 #[.string nd.uid, .int .u8 nd.kind, .slice a1 l1 c1, .int .u8 nd.x.op, .int .i64 nd.x.n, .slice a2 l2 c2, .int .i64 nd.n]:=Blk.new wr _ _
      have HL3:=Lib.hid hL3
      have HN:=Lib.hid hN
      clear hL2 hL3 hN hin
      go_upto_region 22 with fail
      generalize (wr.alloc (.cells #[.string nd.uid, .int .u8 nd.kind, .slice a1 l1 c1, .int .u8 nd.x.op, .int .i64 nd.x.n, .slice a2 l2 c2, .int .i64 nd.n] 181)) = W at *
      have i2:=HL3.out.idl.cell 2
      have x1:=HN.out.cell 1
      clear n0 n1 n2 n3 n4 n5 n6
      rcases hog:getI (k:Int) kv2 with _ | v0
      ·have hk8:=look_none HL3.out.map hog
       have HOG:=Lib.hid hog
       clear hog
       rcases hst:statefulB nd.kind with _ | _
       ·have HSF:=Lib.hid hst
        clear hst
        go_wp2_with (first | (go_at_call 156; refine (stateful_c _ _).mono ?_; rintro e w9 ⟨rfl,rfl⟩; rw [HSF.out]) | fail)
        go_roundw
        case rel => exact ⟨k + 1,kv2,by go_num,HKL.out,HL3.out⟩
        case measure => have:=HKL.out; simp [intOf]; omega
       ·have HSF:=Lib.hid hst
        clear hst
        go_upto_region 24 with (first | (go_at_call 156; refine (stateful_c _ _).mono ?_; rintro e w9 ⟨rfl,rfl⟩; rw [HSF.out]) | fail)
        have i3:=(HL3.out.more (Below.refl _ _).drew).idl.cell 2
        clear i2 x1 hk8
        go_region_with (first | (go_at_call 159; refine (New_b _).mono ?_; rintro e w9 ⟨T,rfl,hb9⟩; have hL9:=(HL3.out.more (Below.refl _ _).drew).more hb9; have i4:=hL9.idl.cell 2; obtain ⟨w5,hrun5,hm5,hf5,hs5⟩:=ins_tab hL9.map HOG.out (px T); have HL9:=Lib.hid hL9; have HM5:=Lib.hid hm5; have HF5:=Lib.hid hf5; clear hL9 hm5 hf5 hs5 hb9))
        all_goals
         go_wp2_with fail
         go_roundw
         case rel => exact ⟨k + 1,_,by go_num,HKL.out,HL9.out.put HF5.out HM5.out⟩
         case measure => have:=HKL.out; simp [intOf]; omega
      ·have hk8:=look_some HL3.out.map hog
       clear hog
       go_wp2_with fail
       go_roundw
       case rel => exact ⟨k + 1,kv2,by go_num,HKL.out,HL3.out⟩
       case measure => have:=HKL.out; simp [intOf]; omega
     ·obtain rfl:k = jb.nodes.length:=by omega
      have d1:decide ((jb.nodes.length:Int) < (jb.nodes.length:Int)) = false:=decide_eq_false (by omega)
      go_wp2_with fail
      go_ret2
      exact ⟨⟨_,by rw [HEE.out]; rfl⟩,hL2.below⟩
 ·have hm0:(jb.may.2 != 0) = true:=by simpa using hm
  have HE2:Hid (E = 2):=by show _ = _; rw [HE.out,if_pos hm]
  clear hm HE
  go_enter Tryz.func94,Tryz.ntmps94
  go_wp2_with (first | (go_at_call 64; refine HM.out.mono ?_; rintro e w1 ⟨rfl,hbm⟩) | fail)
  go_ret2
  exact ⟨⟨_,by rw [HE2.out]; rfl⟩,HB1.out.trans (hbm.mono HB1.out.size)⟩
theorem PutText_big (u:ByteArray) (hu:65536 < u.size) (w:World):Calls Tryz.prog 117 #[.string u] w fun e w' => e = .returned (.tuple #[.string .empty, .int .i64 3]) ∧ w = w':=by
 have hg:decide ((65536:Int) < (u.size:Int)) = true:=decide_eq_true (by omega)
 have hg2:decide (65536 < u.size) = true:=decide_eq_true hu
 have hg3:(65536:Int) < (u.size:Int):=by omega
 go_enter Tryz.func117,Tryz.ntmps117
 go_wp2_with fail
 go_ret2
 exact ⟨rfl,rfl⟩
theorem FPut_big (k:Nat) (h0:0 < k) (h1:k < 256) (u:ByteArray) (hu:65536 < u.size) (w:World):Calls Tryz.prog 97 #[.int .u8 (k:Int), .string u] w fun e w' => e = .returned (.tuple #[.string .empty, .int .i64 3]) ∧ w = w':=by
 have hk0:((k:Int) == 0) = false:=by rw [beq_eq_false_iff_ne]; omega
 have HT:=Lib.hid (PutText_big u hu w)
 go_enter Tryz.func97,Tryz.ntmps97
 go_wp2_with (first | (go_at_call 117; refine HT.out.mono ?_; rintro e w1 ⟨rfl,rfl⟩) | fail)
 go_ret2
 exact ⟨rfl,rfl⟩
def txts (l:List ByteArray):List UInt8:=l.flatMap txtL
theorem txts_len:∀ (l:List ByteArray),(∀ u ∈ l,u.size ≤ 65536) → (txts l).length ≤ 65546 * l.length
 | [],_ => Nat.le_refl _
 | u :: l,h => by
  have h1:=txts_len l (fun v hv => h v (by simp [hv]))
  have h2:=(txtL_len u (h u (by simp))).1
  have:=h u (by simp)
  unfold txts at *
  rw [List.flatMap_cons,List.length_append,List.length_cons]
  omega
set_option maxRecDepth 100000 in
set_option maxHeartbeats 1000000 in
theorem texts_c (us:List ByteArray) (m:Nat) (hm:us.length = m) (h2:m ≤ 2) (hu:∀ u ∈ us,u.size ≤ 65536) (b:Nat) (w:World) (hb:b < w.heap.size) (hc:∀ j (h:j < us.length),w.cell? ⟨b,j,none⟩ = some (.string us[j])) :
  Calls Tryz.prog 96 #[.slice (some ⟨b,0,none⟩) m m] w fun e w' => e = .returned (.tuple #[.string (bstr (txts us)), .int .i64 0]) ∧ Below w.heap.size w w':=by
 have HC:=Lib.hid hc
 have HU:=Lib.hid hu
 have HM:Hid (us.length = m):=hm
 have HBA:Hid (∀ l m,bstr l ++ bstr m = bstr (l ++ m)):=bstr_app
 have HSZ:Hid (∀ l,(bstr l).size = l.length):=bstr_size
 clear hc hu hm
 go_enter Tryz.func96,Tryz.ntmps96
 go_upto_region 3 with fail
 go_loopw [4,11] (fun s q wr => ∃ (j:Nat) (acc:List UInt8),s = .string (bstr acc) ∧ q = .int .i64 (j:Int) ∧ j ≤ m ∧ acc.length ≤ 65546 * j ∧ acc ++ txts (us.drop j) = txts us ∧ Below w.heap.size w wr) (fun _ q _ => m - (intOf q).toNat)
 case atStart => exact ⟨0,[],rfl,rfl,Nat.zero_le _,Nat.le_refl _,rfl,Below.refl _ _⟩
 case round =>
  obtain ⟨j,acc,rfl,rfl,hj,hal,hacc,hbr⟩:=hrel
  by_cases hjl:j < m
  ·have d0:decide ((j:Int) < (m:Int)) = true:=decide_eq_true (by omega)
   have hju:j < us.length:=by have:=HM.out; omega
   have k0:=(hbr.cell (p:=⟨b,j,none⟩) hb).trans (HC.out j hju)
   have hus:=HU.out _ (List.getElem_mem hju)
   rw [List.drop_eq_getElem_cons hju] at hacc
   generalize us[j] = u at *
   have HT:Hid (Calls Tryz.prog 117 #[.string u] wr fun e w' => e = .returned (.tuple #[.string (bstr (txtL u)), .int .i64 0]) ∧ Below wr.heap.size wr w'):=PutText_c u hus wr
   have hlen:=(txtL_len u hus).1
   have hacc2:(acc ++ txtL u) ++ txts (us.drop (j + 1)) = txts us:=by rw [← hacc]; unfold txts; rw [List.flatMap_cons,List.append_assoc]
   have HACC:=Lib.hid hacc2
   have HBR:=Lib.hid hbr
   clear hacc hacc2 hbr
   generalize txtL u = T at *
   have happ:bstr acc ++ bstr T = bstr (acc ++ T):=HBA.out _ _
   have hsz1:(bstr acc).size ≤ 200000:=by rw [HSZ.out]; omega
   have hsz2:(bstr T).size ≤ 200000:=by rw [HSZ.out]; omega
   have HAL:Hid ((acc ++ T).length ≤ 65546 * (j + 1)):=by show _ ≤ _; rw [List.length_append]; omega
   clear hal hlen hus
   go_wp2_with (first | (go_at_call 117; refine HT.out.mono ?_; rintro e w1 ⟨rfl,hb1⟩) | fail)
   go_roundw
   case rel => exact ⟨j + 1,acc ++ T,rfl,by go_num,hjl,HAL.out,HACC.out,HBR.out.trans (hb1.mono HBR.out.size)⟩
   case measure => simp [intOf]; omega
  ·obtain rfl:j = m:=by omega
   have d0:decide ((j:Int) < (j:Int)) = false:=decide_eq_false (by omega)
   have e:acc = txts us:=by
    rw [← hacc, ← HM.out,List.drop_length]
    exact (List.append_nil _).symm
   subst e
   go_wp2_with fail
   go_ret2
   exact ⟨rfl,hbr⟩
set_option maxRecDepth 100000 in
set_option maxHeartbeats 1000000 in
theorem put1_ok (k:Nat) (h0:0 < k) (h1:k < 256) (ah:List UInt8) (us:List ByteArray) (m:Nat) (hm:us.length = m) (h2:m ≤ 2) (hu:∀ u ∈ us,u.size ≤ 65536) (b bb:Nat) (cur:ByteArray) (w:World) (hb:b < w.heap.size) (hc:∀ j (h:j < us.length),w.cell? ⟨b,j,none⟩ = some (.string us[j]))
  (hB:Blk w bb 9 #[.string cur]) (hcur:cur.size ≤ 10000000000000) (hT:(ah ++ txts us).length ≤ 65536) :
  Calls Tryz.prog 95 #[.int .u8 (k:Int), .string (bstr ah), .slice (some ⟨b,0,none⟩) m m, .pointer (some ⟨bb,0,none⟩)] w fun e w' => e = .returned (.int .i64 0) ∧ Blk w' bb 9 #[.string (cur ++ bstr (frL k (bstr (ah ++ txts us))))] ∧ Fr (fun i => i = bb) w w':=by
 have HX:=Lib.hid (texts_c us m hm h2 hu b w hb hc)
 have HF:Hid (∀ W:World,Calls Tryz.prog 97 #[.int .u8 (k:Int), .string (bstr (ah ++ txts us))] W fun e w' => e = .returned (.tuple #[.string (bstr (frL k (bstr (ah ++ txts us)))), .int .i64 0]) ∧ Below W.heap.size W w'):=fun W => FPut_c k h0 h1 _ (by rw [bstr_size]; exact hT) W
 have happ:bstr ah ++ bstr (txts us) = bstr (ah ++ txts us):=bstr_app _ _
 have hs1:(bstr ah).size ≤ 70000:=by rw [bstr_size]; rw [List.length_append] at hT; omega
 have hs2:(bstr (txts us)).size ≤ 70000:=by rw [bstr_size]; rw [List.length_append] at hT; omega
 have hs3:(bstr (frL k (bstr (ah ++ txts us)))).size ≤ 70000:=by
  have:=(txtL_len (bstr (ah ++ txts us)) (by rw [bstr_size]; exact hT)).1
  rw [bstr_size] at this ⊢
  rw [frL_len]
  omega
 have HB:=Lib.hid hB
 have HLT:=hB.lt
 clear hT hu hc hm hB
 generalize bstr (frL k (bstr (ah ++ txts us))) = f at *
 generalize bstr (ah ++ txts us) = tt at *
 generalize bstr ah = a at *
 generalize bstr (txts us) = t at *
 go_enter Tryz.func95,Tryz.ntmps95
 go_upto_region 5 with (first
  | (go_at_call 96; refine HX.out.mono ?_; rintro e w1 ⟨rfl,hb1⟩)
  | (go_at_call 97; refine (HF.out _).mono ?_; rintro e w2 ⟨rfl,hb2⟩)
  | fail)
 have hb3:=hb1.trans (hb2.mono hb1.size)
 have hB2:=HB.out.below hb3 HLT
 have x0:=hB2.cell 0
 have y0:=hB2.free 0
 have HB2:=Lib.hid hB2
 have HFR:Hid (Fr (fun i => i = bb) w w2):=Fr.of_new hb3
 clear hb1 hb2 hb3 hB2
 go_wp2_with fail
 go_ret
 exact ⟨rfl,HB2.out.set 0 _,HFR.out.setCell (p:=⟨bb,0,none⟩) (.inl rfl) _⟩
set_option maxRecDepth 100000 in
set_option maxHeartbeats 1000000 in
theorem put1_big (k:Nat) (h0:0 < k) (h1:k < 256) (ah:List UInt8) (hah:ah.length ≤ 70000) (us:List ByteArray) (m:Nat) (hm:us.length = m) (h2:m ≤ 2) (hu:∀ u ∈ us,u.size ≤ 65536) (b bb:Nat) (cur:ByteArray) (w:World) (hb:b < w.heap.size) (hc:∀ j (h:j < us.length),w.cell? ⟨b,j,none⟩ = some (.string us[j]))
  (hB:Blk w bb 9 #[.string cur]) (hcur:cur.size ≤ 10000000000000) (hT:65536 < (ah ++ txts us).length) :
  Calls Tryz.prog 95 #[.int .u8 (k:Int), .string (bstr ah), .slice (some ⟨b,0,none⟩) m m, .pointer (some ⟨bb,0,none⟩)] w fun e w' => e = .returned (.int .i64 3) ∧ Blk w' bb 9 #[.string cur] ∧ Fr (fun i => i = bb) w w':=by
 have HX:=Lib.hid (texts_c us m hm h2 hu b w hb hc)
 have HF:Hid (∀ W:World,Calls Tryz.prog 97 #[.int .u8 (k:Int), .string (bstr (ah ++ txts us))] W fun e w' => e = .returned (.tuple #[.string .empty, .int .i64 3]) ∧ W = w'):=fun W => FPut_big k h0 h1 _ (by rw [bstr_size]; exact hT) W
 have happ:bstr ah ++ bstr (txts us) = bstr (ah ++ txts us):=bstr_app _ _
 have htl:=txts_len us hu
 have hs1:(bstr ah).size ≤ 70000:=by rw [bstr_size]; exact hah
 have hs2:(bstr (txts us)).size ≤ 140000:=by rw [bstr_size]; omega
 have hce:cur ++ ByteArray.empty = cur:=by apply ByteArray.ext; rw [ByteArray.data_append]; simp
 have HB:=Lib.hid hB
 have HLT:=hB.lt
 clear hT hu hc hm hB htl
 generalize bstr (ah ++ txts us) = tt at *
 generalize bstr ah = a at *
 generalize bstr (txts us) = t at *
 go_enter Tryz.func95,Tryz.ntmps95
 go_upto_region 5 with (first
  | (go_at_call 96; refine HX.out.mono ?_; rintro e w1 ⟨rfl,hb1⟩)
  | (go_at_call 97; refine (HF.out _).mono ?_; rintro e w2 ⟨rfl,rfl⟩)
  | fail)
 have hB2:=HB.out.below hb1 HLT
 have x0:=hB2.cell 0
 have y0:=hB2.free 0
 have HB2:=Lib.hid hB2
 have HFR:Hid (Fr (fun i => i = bb) w w1):=Fr.of_new hb1
 clear hb1 hB2
 go_wp2_with fail
 go_ret
 exact ⟨rfl,HB2.out.set 0 _,HFR.out.setCell (p:=⟨bb,0,none⟩) (.inl rfl) _⟩
theorem txts1 (u:ByteArray):txts [u] = txtL u:=by unfold txts; rw [List.flatMap_cons,List.flatMap_nil,List.append_nil]
theorem txts2 (s:Sta):txts [s.uid,s.bytes] = stL s:=by unfold txts stL; rw [List.flatMap_cons,List.flatMap_cons,List.flatMap_nil,List.append_nil]
theorem empty_app' (t:ByteArray):ByteArray.empty ++ t = t:=by
 apply ByteArray.ext
 rw [ByteArray.data_append]
 simp
structure PtAt (w:World) (SB BB:Nat) (cs:Array Value) (cur:ByteArray) (wr:World):Prop where
 below:Below w.heap.size w wr
 box:Blk wr SB 81 cs
 buf:Blk wr BB 9 #[.string cur]
 ge:w.heap.size ≤ BB
 ne:SB ≠ BB
namespace PtAt
variable {w wr wx:World} {SB BB:Nat} {cs:Array Value} {cur cur2:ByteArray}
theorem more (h:PtAt w SB BB cs cur wr) (hb:Below wr.heap.size wr wx):PtAt w SB BB cs cur wx :=
 ⟨h.below.trans (hb.mono h.below.size),h.box.below hb h.box.lt,h.buf.below hb h.buf.lt,h.ge,h.ne⟩
theorem put (h:PtAt w SB BB cs cur wr) (hf:Fr (fun i => i = BB) wr wx) (hm:Blk wx BB 9 #[.string cur2]):PtAt w SB BB cs cur2 wx :=
 ⟨h.below.trans (hf.below h.below.size (fun k hk e => by have:=h.ge; omega)),h.box.fr hf h.ne,hm,h.ge,h.ne⟩
end PtAt
def PtSt (x:Sv) (j:Nat) (cur:List UInt8) (e:Int):Prop :=
 (e = 0 ∧ cur ++ (putSt (x.states.drop j)).1 = frL 9 (bstr x.head) ++ (putSt x.states).1 ∧ (putSt (x.states.drop j)).2 = (putSt x.states).2) ∨ (e = 3 ∧ (putSt x.states).2 = 3)
theorem putSt_ok {s:Sta} {l:List Sta} (h:stWide s = false):putSt (s :: l) = (frL 10 (bstr (stL s)) ++ (putSt l).1,(putSt l).2):=by
 conv => lhs; rw [putSt]
 rw [if_neg (by rw [h]; decide)]
theorem putSt_wide {s:Sta} {l:List Sta} (h:stWide s = true):putSt (s :: l) = ([],3):=by
 conv => lhs; rw [putSt]
 rw [if_pos h]
theorem PtSt.start (x:Sv):PtSt x 0 (frL 9 (bstr x.head)) 0 := .inl ⟨rfl,rfl,rfl⟩
theorem PtSt.step {x:Sv} {j:Nat} {cur:List UInt8} (h:PtSt x j cur 0) (hj:j < x.states.length) (hw:stWide x.states[j] = false):PtSt x (j + 1) (cur ++ frL 10 (bstr (stL x.states[j]))) 0:=by
 rcases h with ⟨_,h1,h2⟩ | ⟨h,_⟩
 ·rw [List.drop_eq_getElem_cons hj,putSt_ok hw] at h1 h2
  exact .inl ⟨rfl,by rw [List.append_assoc]; exact h1,h2⟩
 ·cases h
theorem PtSt.wide {x:Sv} {j:Nat} {cur:List UInt8} (h:PtSt x j cur 0) (hj:j < x.states.length) (hw:stWide x.states[j] = true) (c2:List UInt8):PtSt x (j + 1) c2 3:=by
 rcases h with ⟨_,h1,h2⟩ | ⟨h,_⟩
 ·rw [List.drop_eq_getElem_cons hj,putSt_wide hw] at h2
  exact .inr ⟨rfl,h2.symm⟩
 ·cases h
theorem PtSt.same {x:Sv} {j:Nat} {cur:List UInt8} (h:PtSt x j cur 3):PtSt x (j + 1) cur 3:=by
 rcases h with ⟨h,_⟩ | ⟨_,h⟩
 ·cases h
 ·exact .inr ⟨rfl,h⟩
theorem PtSt.done {x:Sv} {cur:List UInt8} {e:Int} (h:PtSt x x.states.length cur e):(e = 0 ∧ cur = frL 9 (bstr x.head) ++ (putSt x.states).1 ∧ (putSt x.states).2 = 0) ∨ (e = 3 ∧ (putSt x.states).2 = 3):=by
 rcases h with ⟨h0,h1,h2⟩ | h
 ·rw [List.drop_length] at h1 h2
  refine .inl ⟨h0, ?_,h2.symm⟩
  rw [← h1]
  exact (List.append_nil _).symm
 ·exact .inr h
theorem PtSt.kind {x:Sv} {j:Nat} {cur:List UInt8} {e:Int} (h:PtSt x j cur e):e = 0 ∨ e = 3:=h.elim (fun h => .inl h.1) (fun h => .inr h.1)
theorem stWide_eq {s:Sta} (h1:s.uid.size ≤ 65536) (h2:s.bytes.size ≤ 65536):stWide s = decide (65536 < (stL s).length):=by
 unfold stWide
 rw [decide_eq_false (by omega),decide_eq_false (by omega)]
 rfl
theorem cells1 (W:World) (u:ByteArray):∀ j (h:j < [u].length),(W.alloc (.cells #[.string u] 9)).cell? ⟨W.heap.size,j,none⟩ = some (.string [u][j]):=by
 intro j h
 have hj:j = 0:=by simpa using h
 subst hj
 exact (Blk.new W #[.string u] 9).cell 0
theorem cells2 (W:World) (u v:ByteArray):∀ j (h:j < [u,v].length),(W.alloc (.cells #[.string u, .string v] 9)).cell? ⟨W.heap.size,j,none⟩ = some (.string [u,v][j]):=by
 intro j h
 have hj:j < 2:=h
 rcases (show j = 0 ∨ j = 1 by omega) with rfl | rfl
 ·exact (Blk.new W #[.string u, .string v] 9).cell 0
 ·exact (Blk.new W #[.string u, .string v] 9).cell 1
theorem fr_len (k:Nat) (l:List UInt8) (h:l.length ≤ 65536):(frL k (bstr l)).length ≤ 70000:=by
 have:=(txtL_len (bstr l) (by rw [bstr_size]; exact h)).1
 rw [bstr_size] at this
 rw [frL_len]
 omega
theorem put_head {x:Sv} (hok:x.Ok) (hmay:x.job.may.2 = 0) (w:World) (SB BB:Nat) (cs:Array Value) (W:World) (h:PtAt w SB BB cs .empty W) :
  Calls Tryz.prog 95 #[.int .u8 9, .string (bstr (putL [x.n,x.cut,(x.states.length:Int)])), .slice (some ⟨W.heap.size,0,none⟩) 1 1, .pointer (some ⟨BB,0,none⟩)] (W.alloc (.cells #[.string (bstr x.job.by)] 9)) fun e w' => e = .returned (.int .i64 0) ∧ PtAt w SB BB cs (bstr (frL 9 (bstr x.head))) w':=by
 obtain ⟨hj,hh⟩:=Sv.head_size hok hmay
 have h1:=h.more ((Below.refl _ _).alloc (Nat.le_refl _) (.cells #[.string (bstr x.job.by)] 9))
 have e:putL [x.n,x.cut,(x.states.length:Int)] ++ txts [bstr x.job.by] = x.head:=by rw [txts1]; rfl
 refine (put1_ok 9 (by decide) (by decide) (putL [x.n,x.cut,(x.states.length:Int)]) [bstr x.job.by] 1 rfl (by decide) (fun u hu => by rw [List.mem_singleton.1 hu]; exact hj) W.heap.size BB .empty _ (by simp) (cells1 W _) h1.buf (by decide) (by rw [e]; rw [bstr_size] at hh; exact hh)).mono ?_
 rintro e2 w2 ⟨rfl,hb,hf⟩
 rw [e,empty_app'] at hb
 exact ⟨rfl,h1.put hf hb⟩
theorem put_state (s:Sta) (h1:s.uid.size ≤ 65536) (h2:s.bytes.size ≤ 65536) (cur:List UInt8) (hc:cur.length ≤ 10000000000000) (w:World) (SB BB:Nat) (cs:Array Value) (W:World) (h:PtAt w SB BB cs (bstr cur) W) :
  Calls Tryz.prog 95 #[.int .u8 10, .string { data:=#[] }, .slice (some ⟨W.heap.size,0,none⟩) 2 2, .pointer (some ⟨BB,0,none⟩)] (W.alloc (.cells #[.string s.uid, .string s.bytes] 9)) fun e w' => (stWide s = false ∧ e = .returned (.int .i64 0) ∧ PtAt w SB BB cs (bstr (cur ++ frL 10 (bstr (stL s)))) w') ∨ (stWide s = true ∧ e = .returned (.int .i64 3) ∧ PtAt w SB BB cs (bstr cur) w'):=by
 have h3:=h.more ((Below.refl _ _).alloc (Nat.le_refl _) (.cells #[.string s.uid, .string s.bytes] 9))
 have hu:∀ u ∈ [s.uid,s.bytes],u.size ≤ 65536:=by
  intro u hu
  simp only [List.mem_cons,List.not_mem_nil,or_false] at hu
  rcases hu with rfl | rfl <;> assumption
 have e:([]:List UInt8) ++ txts [s.uid,s.bytes] = stL s:=by rw [List.nil_append,txts2]
 have hw:=stWide_eq h1 h2
 by_cases hT:(stL s).length ≤ 65536
 ·refine (put1_ok 10 (by decide) (by decide) [] [s.uid,s.bytes] 2 rfl (by decide) hu W.heap.size BB (bstr cur) _ (by simp) (cells2 W _ _) h3.buf (by rw [bstr_size]; exact hc) (by rw [e]; exact hT)).mono ?_
  rintro e2 w2 ⟨rfl,hb,hf⟩
  rw [e,bstr_app] at hb
  exact .inl ⟨by rw [hw,decide_eq_false (by omega)],rfl,h3.put hf hb⟩
 ·refine (put1_big 10 (by decide) (by decide) [] (by simp) [s.uid,s.bytes] 2 rfl (by decide) hu W.heap.size BB (bstr cur) _ (by simp) (cells2 W _ _) h3.buf (by rw [bstr_size]; exact hc) (by rw [e]; omega)).mono ?_
  rintro e2 w2 ⟨rfl,hb,hf⟩
  exact .inr ⟨by rw [hw,decide_eq_true (by omega)],rfl,h3.put hf hb⟩
def Sv.few (x:Sv):Prop:=x.states.length ≤ 1000000 ∧ ∀ s ∈ x.states,s.uid.size ≤ 65536 ∧ s.bytes.size ≤ 65536
def SvAt (w:World) (v:Value) (x:Sv):Prop:=∃ nv sv,v = .agg (svC x nv sv) ∧ NodesAt w w.heap.size x.job.nodes nv ∧ StaRd w (· < w.heap.size) sv x.states
set_option maxRecDepth 100000 in
set_option maxHeartbeats 1000000 in
theorem SvPut_c (x:Sv) (hok:x.Ok) (hfew:x.few) (v:Value) (w:World) (hv:SvAt w v x) :
  Calls Tryz.prog 42 #[v] w fun e w' => e = .returned (.tuple #[.string (bstr (putSv x).1), .int .i64 (putSv x).2]) ∧ Below w.heap.size w w':=by
 obtain ⟨nv,sv,rfl,hnd,hst⟩:=hv
 obtain ⟨a,cap,rfl,hcap,hmx⟩:=hnd.slice
 obtain ⟨sa,scap,rfl,hsc,hsm⟩:=hst.slice
 have hmf:∀ (fn:Fn) (first cap:Array Value) (w:World),(Instr.makeFunc fn first cap).run Tryz.prog w = .ok (.func fn first cap) w:=fun _ _ _ _ => rfl
 unfold svC
 have hll:x.states.length ≤ 9223372036854775807:=hok.many
 have hb1:Below w.heap.size w (w.alloc (.cells #[.int .i64 x.n, .int .i64 x.cut, .int .i64 x.job.par, .slice a x.job.nodes.length cap, .slice sa x.states.length scap] 81)):=(Below.refl _ _).alloc (Nat.le_refl _) _
 have hbox:Blk (w.alloc (.cells #[.int .i64 x.n, .int .i64 x.cut, .int .i64 x.job.par, .slice a x.job.nodes.length cap, .slice sa x.states.length scap] 81)) w.heap.size 81 #[.int .i64 x.n, .int .i64 x.cut, .int .i64 x.job.par, .slice a x.job.nodes.length cap, .slice sa x.states.length scap]:=Blk.new w _ _
 have HL:=Lib.hid (Load_c x.job (.agg #[.int .i64 x.job.par, .slice a x.job.nodes.length cap]) x.states (.slice sa x.states.length scap) _ ⟨_,rfl,(hnd.keep hb1).mono hb1.size⟩ (hst.keep (fun b hb => Nat.lt_of_lt_of_le hb hb1.size) (fun b hb => hb1.block b hb)) (fun s hs => by have:=(hfew.2 s hs).2; omega))
 have HP:Hid (putSv x = if x.bad = true then ([],2) else if (putSt x.states).2 ≠ 0 then ([],(putSt x.states).2) else (frL 9 (bstr x.head) ++ (putSt x.states).1,0)):=rfl
 have HBD:Hid (x.bad = (decide (loadE x.job x.states ≠ 0) || (decide (x.n < 1) || decide (x.cut < 0)))):=rfl
 have HND:=Lib.hid hnd
 have HST:=Lib.hid hst
 have HB1:=Lib.hid hb1
 have HBX:=Lib.hid hbox
 generalize putSv x = PV at *
 have c0:=hbox.cell 0
 have c2:=hbox.cell 2
 have c3:=hbox.cell 3
 have c4:=hbox.cell 4
 clear hnd hst hb1
 have hlx:loadE x.job x.states = 0 → x.job.may.2 = 0:=loadE_may
 generalize loadE x.job x.states = le at *
 go_enter Tryz.func42,Tryz.ntmps42
 go_upto_region 2 with (first | (go_at_call 94; refine HL.out.mono ?_; rintro e w1 ⟨⟨p,rfl⟩,hbl⟩) | fail)
 generalize (w.alloc (.cells #[.int .i64 x.n, .int .i64 x.cut, .int .i64 x.job.par, .slice a x.job.nodes.length cap, .slice sa x.states.length scap] 81)) = W0 at *
 have hbx1:=HBX.out.below hbl HBX.out.lt
 have hb2:=HB1.out.trans (hbl.mono HB1.out.size)
 have d0:=hbx1.cell 0
 have d1:=hbx1.cell 1
 have HBX1:=Lib.hid hbx1
 have HB2:=Lib.hid hb2
 clear c0 c2 c3 c4 hbox hbx1 hb2 hbl HBX HB1 HL
 by_cases hle:le = 0
 ·have e0:(le != 0) = false:=by simpa using hle
  by_cases hn:x.n < 1
  ·have e1:decide (x.n < 1) = true:=decide_eq_true hn
   have HPP:Hid (PV = ([],2)):=by show _ = _; rw [HP.out,if_pos (by rw [HBD.out,e1,Bool.true_or,Bool.or_true])]
   clear hle hn HP
   go_wp2_with fail
   go_ret2
   exact ⟨by rw [HPP.out]; rfl,HB2.out⟩
  ·have e1:decide (x.n < 1) = false:=decide_eq_false hn
   by_cases hc:x.cut < 0
   ·have e2:decide (x.cut < 0) = true:=decide_eq_true hc
    have HPP:Hid (PV = ([],2)):=by show _ = _; rw [HP.out,if_pos (by rw [HBD.out,e2,Bool.or_true,Bool.or_true])]
    clear hle hn hc HP
    go_wp2_with fail
    go_ret2
    exact ⟨by rw [HPP.out]; rfl,HB2.out⟩
   ·have e2:decide (x.cut < 0) = false:=decide_eq_false hc
    have HPP:Hid (PV = if (putSt x.states).2 ≠ 0 then ([],(putSt x.states).2) else (frL 9 (bstr x.head) ++ (putSt x.states).1,0)):=by show _ = _; rw [HP.out,if_neg (by rw [HBD.out,e1,e2,hle]; decide)]
    have hmay:=hlx hle
    clear hle hn hc HP HBD hlx
    go_upto_region 6 with fail
    have hPA:PtAt w w.heap.size w1.heap.size #[.int .i64 x.n, .int .i64 x.cut, .int .i64 x.job.par, .slice a x.job.nodes.length cap, .slice sa x.states.length scap] .empty (w1.alloc (.cells #[.string { data:=#[] }] 9)) :=
     ⟨HB2.out.alloc HB2.out.size _,HBX1.out.alloc _,Blk.new w1 _ _,HB2.out.size,Nat.ne_of_lt HBX1.out.lt⟩
    have HPA:=Lib.hid hPA
    clear hPA HB2 HBX1 d0 d1
    generalize w1.heap.size = BB at *
    generalize (w1.alloc (.cells #[.string { data:=#[] }] 9)) = W1 at *
    have k2:=HPA.out.box.cell 2
    have k3:=HPA.out.box.cell 3
    have hput:x.job.putR = (x.job.by,0):=by unfold Jb.putR; rw [if_pos hmay]
    have HPP2:Hid (Calls Tryz.prog 98 #[.agg #[.int .i64 x.job.par, .slice a x.job.nodes.length cap]] W1 fun e w' => e = .returned (.tuple #[.string (bstr x.job.by), .int .i64 0]) ∧ Below W1.heap.size W1 w'):=by
     have:=PackPut_c x.job hok.job (.agg #[.int .i64 x.job.par, .slice a x.job.nodes.length cap]) w.heap.size W1 ⟨_,rfl,HND.out.keep HPA.out.below⟩ HPA.out.below.size
     rwa [hput] at this
    have HQ:=Lib.hid (put_head hok hmay w w.heap.size BB #[.int .i64 x.n, .int .i64 x.cut, .int .i64 x.job.par, .slice a x.job.nodes.length cap, .slice sa x.states.length scap])
    have HPL:Hid (∀ W:World,Calls Tryz.prog 99 #[.slice (some ⟨W.heap.size,0,none⟩) 3 3] (W.alloc (.cells #[.int .i64 x.n, .int .i64 x.cut, .int .i64 (x.states.length:Int)] 2)) fun e w' => e = .returned (.string (bstr (putL [x.n,x.cut,(x.states.length:Int)]))) ∧ Below W.heap.size W w'):=fun W =>
     putLit_c [x.n,x.cut,(x.states.length:Int)] 3 _ rfl rfl (by
      have:=hok.n; have:=hok.cut; have:=hok.many
      intro z hz
      simp only [List.mem_cons,List.not_mem_nil,or_false] at hz
      unfold I64 at *
      rcases hz with rfl | rfl | rfl <;> omega) (by decide) W
    have hlen0:(frL 9 (bstr x.head)).length ≤ 70000 * (0 + 1):=fr_len 9 _ (by have:=(Sv.head_size hok hmay).2; rwa [bstr_size] at this)
    clear hput hmay
    generalize bstr x.job.by = jt at *
    generalize bstr (putL [x.n,x.cut,(x.states.length:Int)]) = pt at *
    go_upto_region 7 with (first | (go_at_call 98; refine HPP2.out.mono ?_; rintro e w2 ⟨rfl,hb2⟩) | fail)
    have hA2:=HPA.out.more hb2
    have m0:=hA2.box.cell 0
    have m1:=hA2.box.cell 1
    have m4:=hA2.box.cell 4
    have HA2:=Lib.hid hA2
    clear hA2 hb2 k2 k3
    go_upto_region 8 with (first
     | (go_at_call 99; refine (HPL.out _).mono ?_; rintro e w3 ⟨rfl,hb3⟩; have hA3:=HA2.out.more hb3)
     | (go_at_call 95; refine (HQ.out _ hA3).mono ?_; rintro e w4 ⟨rfl,hA4⟩)
     | fail)
    have m5:=hA4.box.cell 4
    have HA4:=Lib.hid hA4
    clear hA4 hA3 hb3 m0 m1 m4 HQ HPL HPP2
    go_upto_region 9 with fail
    go_loopw [10,56] (fun e q wr => ∃ (j:Nat) (cur:List UInt8) (ei:Int),e = .int .i64 ei ∧ q = .int .i64 (j:Int) ∧ j ≤ x.states.length ∧ PtAt w w.heap.size BB #[.int .i64 x.n, .int .i64 x.cut, .int .i64 x.job.par, .slice a x.job.nodes.length cap, .slice sa x.states.length scap] (bstr cur) wr ∧ PtSt x j cur ei ∧ cur.length ≤ 70000 * (j + 1)) (fun _ q _ => x.states.length - (intOf q).toNat)
    case atStart => exact ⟨0,frL 9 (bstr x.head),0,rfl,rfl,Nat.zero_le _,HA4.out,PtSt.start x,hlen0⟩
    case round =>
     clear m5
     obtain ⟨j,cur,ei,rfl,rfl,hj,hA,hst,hcl⟩:=hrel
     by_cases hjl:j < x.states.length
     ·have f0:decide ((j:Int) < (x.states.length:Int)) = true:=decide_eq_true (by omega)
      obtain ⟨sb,so,sc,e9,hsb,s0,s1⟩:=HST.out.at_ j hjl
      obtain ⟨hs1,hs2⟩:=hfew.2 _ (List.getElem_mem hjl)
      simp only [Value.slice.injEq] at e9
      obtain ⟨rfl,_,rfl⟩:=e9
      have k0:=(hA.below.cell (p:=⟨sb,so + j * 2,none⟩) hsb).trans s0
      have k1:=(hA.below.cell (p:=⟨sb,so + j * 2 + 1,none⟩) hsb).trans s1
      have hA7:=hA.more ((Below.refl _ _).alloc (Nat.le_refl _) (.cells #[.string x.states[j].uid, .string x.states[j].bytes] 151))
      have hS7:Blk (wr.alloc (.cells #[.string x.states[j].uid, .string x.states[j].bytes] 151)) wr.heap.size 151 #[.string x.states[j].uid, .string x.states[j].bytes]:=Blk.new wr _ _
      have HA7:=Lib.hid hA7
      have HS7:=Lib.hid hS7
      have HJL:=Lib.hid hjl
      rcases hst.kind with rfl | rfl
      ·have hcur:cur.length ≤ 10000000000000:=by have:=hfew.1; omega
       have HQ:=Lib.hid (put_state x.states[j] hs1 hs2 cur hcur w w.heap.size BB #[.int .i64 x.n, .int .i64 x.cut, .int .i64 x.job.par, .slice a x.job.nodes.length cap, .slice (some ⟨sb,so,none⟩) x.states.length scap])
       have HOK:Hid (stWide x.states[j] = false → PtSt x (j + 1) (cur ++ frL 10 (bstr (stL x.states[j]))) 0 ∧ (cur ++ frL 10 (bstr (stL x.states[j]))).length ≤ 70000 * (j + 1 + 1)):=fun h => ⟨hst.step hjl h,by
        have h3:=fr_len 10 (stL x.states[j]) (by have:=of_decide_eq_false ((stWide_eq hs1 hs2).symm.trans h); omega)
        rw [List.length_append]
        omega⟩
       have HNO:Hid (stWide x.states[j] = true → PtSt x (j + 1) cur 3):=fun h => hst.wide hjl h cur
       have HCL:=Lib.hid hcl
       clear hA hA7 hS7 s0 s1 hst hcl hs1 hs2
       generalize x.states[j] = s at *
       go_upto_region 11 with fail
       generalize (wr.alloc (.cells #[.string s.uid, .string s.bytes] 151)) = W7 at *
       have q0:=HS7.out.cell 0
       have q1:=HS7.out.cell 1
       have HCV:Hid (∀ (e:Ending) (w4:World),((stWide s = false ∧ e = .returned (.int .i64 0) ∧ PtAt w w.heap.size BB #[.int .i64 x.n, .int .i64 x.cut, .int .i64 x.job.par, .slice a x.job.nodes.length cap, .slice (some ⟨sb,so,none⟩) x.states.length scap] (bstr (cur ++ frL 10 (bstr (stL s)))) w4) ∨ (stWide s = true ∧ e = .returned (.int .i64 3) ∧ PtAt w w.heap.size BB #[.int .i64 x.n, .int .i64 x.cut, .int .i64 x.job.par, .slice a x.job.nodes.length cap, .slice (some ⟨sb,so,none⟩) x.states.length scap] (bstr cur) w4)) →
         ∃ (ej:Int) (cj:List UInt8),e = .returned (.int .i64 ej) ∧ PtAt w w.heap.size BB #[.int .i64 x.n, .int .i64 x.cut, .int .i64 x.job.par, .slice a x.job.nodes.length cap, .slice (some ⟨sb,so,none⟩) x.states.length scap] (bstr cj) w4 ∧ PtSt x (j + 1) cj ej ∧ cj.length ≤ 70000 * (j + 1 + 1)):=fun e w4 h4 => by
        rcases h4 with ⟨h,rfl,h5⟩ | ⟨h,rfl,h5⟩
        ·exact ⟨0,_,rfl,h5,(HOK.out h).1,(HOK.out h).2⟩
        ·exact ⟨3,cur,rfl,h5,HNO.out h,by have:=HCL.out; omega⟩
       go_upto_region 13 with (first
        | (go_at_call 95; refine (HQ.out _ HA7.out).mono ?_; rintro e w4 h4; obtain ⟨ej,cj,rfl,hA8,hP8,hl8⟩:=HCV.out e w4 h4)
        | fail)
       go_wp2_with fail
       go_roundw
       case rel => exact ⟨j + 1,cj,ej,rfl,by go_num,HJL.out,hA8,hP8,hl8⟩
       case measure => have:=HJL.out; simp [intOf]; omega
      ·have HST2:=Lib.hid hst.same
       have HCL:=Lib.hid hcl
       clear hA hA7 hS7 s0 s1 hst hcl hs1 hs2
       go_wp2_with fail
       go_roundw
       case rel => exact ⟨j + 1,cur,3,rfl,by go_num,HJL.out,HA7.out,HST2.out,by have:=HCL.out; omega⟩
       case measure => have:=HJL.out; simp [intOf]; omega
     ·obtain rfl:j = x.states.length:=by omega
      have f0:decide ((x.states.length:Int) < (x.states.length:Int)) = false:=decide_eq_false (by omega)
      have b0:=hA.buf.cell 0
      rcases hst.done with ⟨rfl,rfl,h0⟩ | ⟨rfl,h0⟩
      ·have HPQ:Hid (PV = (frL 9 (bstr x.head) ++ (putSt x.states).1,0)):=by show _ = _; rw [HPP.out,if_neg (by simpa using h0)]
       have HA:=Lib.hid hA
       clear hA hst hcl h0
       go_wp2_with fail
       go_ret2
       exact ⟨by rw [HPQ.out]; rfl,HA.out.below⟩
      ·have HPQ:Hid (PV = ([],3)):=by show _ = _; rw [HPP.out,if_pos (by rw [h0]; decide),h0]
       have HA:=Lib.hid hA
       clear hA hst hcl h0
       go_wp2_with fail
       go_ret2
       exact ⟨by rw [HPQ.out]; rfl,HA.out.below⟩
 ·have e0:(le != 0) = true:=by simpa using hle
  have HPP:Hid (PV = ([],2)):=by show _ = _; rw [HP.out,if_pos (by rw [HBD.out,decide_eq_true hle,Bool.true_or])]
  clear hle HP
  go_wp2_with fail
  go_ret2
  exact ⟨by rw [HPP.out]; rfl,HB2.out⟩
structure R3 (w0:World) (be bt br:Nat) (p:Rt) (w:World):Prop where
 fr:Fr (fun k => k = be ∨ k = bt ∨ k = br) w0 w
 E:Blk w be 27 #[.int .i64 p.e]
 T:Blk w bt 9 #[.string p.text]
 R:Blk w br 9 #[.string p.rest]
 ne:be ≠ bt ∧ be ≠ br ∧ bt ≠ br
namespace R3
variable {w0 w w':World} {be bt br:Nat} {p q:Rt}
theorem setE (h:R3 w0 be bt br p w) (x:Int):R3 w0 be bt br ⟨x,p.text,p.rest⟩ (w.setCell ⟨be,0,none⟩ (.int .i64 x)) :=
 ⟨h.fr.setCell (p:=⟨be,0,none⟩) (.inl (.inl rfl)) _,h.E.set 0 _,h.T.other (p:=⟨be,0,none⟩) (Ne.symm h.ne.1) _,h.R.other (p:=⟨be,0,none⟩) (Ne.symm h.ne.2.1) _,h.ne⟩
theorem setT (h:R3 w0 be bt br p w) (x:ByteArray):R3 w0 be bt br ⟨p.e,x,p.rest⟩ (w.setCell ⟨bt,0,none⟩ (.string x)) :=
 ⟨h.fr.setCell (p:=⟨bt,0,none⟩) (.inl (.inr (.inl rfl))) _,h.E.other (p:=⟨bt,0,none⟩) h.ne.1 _,h.T.set 0 _,h.R.other (p:=⟨bt,0,none⟩) (Ne.symm h.ne.2.2) _,h.ne⟩
theorem setR (h:R3 w0 be bt br p w) (x:ByteArray):R3 w0 be bt br ⟨p.e,p.text,x⟩ (w.setCell ⟨br,0,none⟩ (.string x)) :=
 ⟨h.fr.setCell (p:=⟨br,0,none⟩) (.inl (.inr (.inr rfl))) _,h.E.other (p:=⟨br,0,none⟩) h.ne.2.1 _,h.T.other (p:=⟨br,0,none⟩) h.ne.2.2 _,h.R.set 0 _,h.ne⟩
theorem trans (h:R3 w0 be bt br p w) (h2:R3 w be bt br q w'):R3 w0 be bt br q w':=⟨h.fr.trans h2.fr,h2.E,h2.T,h2.R,h2.ne⟩
theorem refl (h:R3 w0 be bt br p w):R3 w be bt br p w:=⟨Fr.refl _ _,h.E,h.T,h.R,h.ne⟩
theorem more (h:R3 w0 be bt br p w) (hb:Below w.heap.size w w'):R3 w0 be bt br p w':=⟨h.fr.trans (Fr.of_new hb),h.E.below hb h.E.lt,h.T.below hb h.T.lt,h.R.below hb h.R.lt,h.ne⟩
theorem drew (h:R3 w0 be bt br p w):R3 w0 be bt br p w.drew:=⟨h.fr.drew,h.E.drew,h.T.drew,h.R.drew,h.ne⟩
end R3
theorem mx_max (a b:Int):Rt.mx a b = max a b:=by unfold Rt.mx; rw [Int.max_def]; split <;> split <;> omega
set_option maxRecDepth 100000 in
set_option maxHeartbeats 1000000 in
theorem take1_c (be bt br:Nat) (p:Rt) (hs:p.rest.size ≤ 140737488355328) (w:World) (h:R3 w be bt br p w) :
  Calls Tryz.prog 87 #[.pointer (some ⟨br,0,none⟩), .pointer (some ⟨be,0,none⟩), .pointer (some ⟨bt,0,none⟩)] w fun e w' => e = .returned (.tuple #[]) ∧ R3 w be bt br p.next w':=by
 have HT:=Lib.hid (FTake_c p.rest hs w)
 obtain ⟨k,hk,hks,_⟩:=takeF_le p.rest
 have HX:Hid (p.next = ⟨Rt.mx p.e (takeF p.rest).2.2.2,(takeF p.rest).2.1,p.rest.extract (takeF p.rest).2.2.1.toNat p.rest.size⟩):=rfl
 generalize p.next = N at *
 rw [hk,mx_max,Int.toNat_natCast] at HX
 rw [hk] at HT
 generalize takeF p.rest = F at *
 have r0:=h.R.cell 0
 have H:=Lib.hid h
 clear h hk
 go_enter Tryz.func87,Tryz.ntmps87
 go_upto_region 1 with (first | (go_at_call 88; refine HT.out.mono ?_; rintro e w1 ⟨rfl,hb1⟩) | fail)
 have h1:=H.out.more hb1
 have e0:=h1.E.cell 0
 have r1:=h1.R.cell 0
 have t1:=h1.T.cell 0
 obtain ⟨n1,n2,n3⟩:=h1.ne
 have m1:=Ne.symm n1
 have m2:=Ne.symm n2
 have m3:=Ne.symm n3
 have f0:=h1.E.free 0
 have f1:=h1.T.free 0
 have f2:=h1.R.free 0
 have H1:=Lib.hid h1
 clear h1 r0 hb1
 go_region
 all_goals
  go_wp2_with fail
  go_end0
  exact ⟨rfl,by rw [HX.out]; exact (((H1.out.setE _).setT _).setR _).drew⟩
set_option maxRecDepth 100000 in
set_option maxHeartbeats 1000000 in
theorem take2_c (be bt br:Nat) (p:Rt) (hs:p.text.size ≤ 140737488355328) (w:World) (h:R3 w be bt br p w) :
  Calls Tryz.prog 89 #[.pointer (some ⟨bt,0,none⟩), .pointer (some ⟨be,0,none⟩)] w fun e w' => e = .returned (.int .i64 p.num.1) ∧ R3 w be bt br p.num.2 w':=by
 have HT:=Lib.hid (Take_c p.text hs w)
 obtain ⟨k,hk,hks,_⟩:=takeS_size p.text
 have HX:Hid (p.num = ((takeS p.text).1,⟨Rt.mx p.e (takeS p.text).2.2,p.text.extract (takeS p.text).2.1.toNat p.text.size,p.rest⟩)):=rfl
 generalize p.num = N at *
 rw [hk,mx_max,Int.toNat_natCast] at HX
 rw [hk] at HT
 generalize takeS p.text = F at *
 have t0:=h.T.cell 0
 have e0:=h.E.cell 0
 obtain ⟨n1,n2,n3⟩:=h.ne
 have m1:=Ne.symm n1
 have f0:=h.E.free 0
 have f1:=h.T.free 0
 have H:=Lib.hid h
 clear h hk n2 n3
 go_enter Tryz.func89,Tryz.ntmps89
 go_upto_region 2 with (first | (go_at_call 90; refine HT.out.mono ?_; rintro e w1 ⟨rfl,rfl⟩) | fail)
 go_region
 all_goals
  go_wp2_with fail
  go_ret
  exact ⟨by rw [HX.out]; rfl,by rw [HX.out]; exact ((H.out.setE _).setT _).drew⟩
set_option maxRecDepth 100000 in
set_option maxHeartbeats 1000000 in
theorem take3_c (be bt br:Nat) (p:Rt) (hs:p.text.size ≤ 140737488355328) (w:World) (h:R3 w be bt br p w) :
  Calls Tryz.prog 91 #[.pointer (some ⟨bt,0,none⟩), .pointer (some ⟨be,0,none⟩)] w fun e w' => e = .returned (.string p.read.1) ∧ R3 w be bt br p.read.2 w':=by
 have HT:=Lib.hid (TakeText_c p.text hs w)
 obtain ⟨k,hk,hks⟩:=takeT_size p.text
 have HX:Hid (p.read = ((takeT p.text).1,⟨Rt.mx p.e (takeT p.text).2.2,p.text.extract (takeT p.text).2.1.toNat p.text.size,p.rest⟩)):=rfl
 generalize p.read = N at *
 rw [hk,mx_max,Int.toNat_natCast] at HX
 rw [hk] at HT
 generalize takeT p.text = F at *
 have t0:=h.T.cell 0
 have e0:=h.E.cell 0
 obtain ⟨n1,n2,n3⟩:=h.ne
 have m1:=Ne.symm n1
 have f0:=h.E.free 0
 have f1:=h.T.free 0
 have H:=Lib.hid h
 clear h hk n2 n3
 go_enter Tryz.func91,Tryz.ntmps91
 go_upto_region 2 with (first | (go_at_call 92; refine HT.out.mono ?_; rintro e w1 ⟨rfl,rfl⟩) | fail)
 go_region
 all_goals
  go_wp2_with fail
  go_ret
  exact ⟨by rw [HX.out]; rfl,by rw [HX.out]; exact ((H.out.setE _).setT _).drew⟩
theorem tkGo_e:∀ (l:List UInt8) (i u:Nat),0 ≤ (tkGo i u l).2.2
 | [],i,u => by simp [tkGo]
 | c :: l,i,u => by
  unfold tkGo
  repeat' split
  ·decide
  ·exact tkGo_e l _ _
  ·decide
  ·exact Int.le_refl _
theorem takeS_e (s:ByteArray):0 ≤ (takeS s).2.2:=tkGo_e _ _ _
theorem takeT_e (s:ByteArray):0 ≤ (takeT s).2.2:=by
 unfold takeT
 repeat' split
 ·exact takeS_e s
 all_goals (dsimp only; decide)
theorem ite_e {P:Prop} [Decidable P] {x y:Nat × ByteArray × Int × Int} (hx:0 ≤ x.2.2.2) (hy:0 ≤ y.2.2.2):0 ≤ (if P then x else y).2.2.2:=by
 by_cases h:P
 ·rw [if_pos h]; exact hx
 ·rw [if_neg h]; exact hy
theorem takeF_e (s:ByteArray):0 ≤ (takeF s).2.2.2:=by
 by_cases h:s.size = 0
 ·rw [takeF_zero s h]; decide
 ·rw [takeF_at s (by omega)]
  exact ite_e (by decide) (ite_e (takeT_e _) (ite_e (by decide) (ite_e (by decide) (Int.le_refl _))))
theorem takeF_small (s:ByteArray):(takeF s).2.1.size ≤ 65536:=by
 by_cases h:(takeF s).2.2.2 = 0
 ·exact (takeF_back s h).2.2.1
 ·rw [(takeF_err s h).2.1]; decide
theorem takeT_few (s:ByteArray):(takeT s).1.size ≤ 65536:=takeT_small s
namespace Rt
theorem mx_ge (a b:Int):a ≤ mx a b:=by unfold mx; split <;> omega
theorem next_size (p:Rt):p.next.text.size ≤ 65536 ∧ p.next.rest.size ≤ p.rest.size ∧ (p.e = 0 → p.next.e = 0 → p.next.rest.size + 5 < p.rest.size) ∧ p.e ≤ p.next.e:=by
 obtain ⟨k,hk,hks,h5⟩:=takeF_le p.rest
 refine ⟨takeF_small _, ?_,fun h0 h1 => ?_,mx_ge _ _⟩
 ·show (p.rest.extract _ _).size ≤ _
  rw [ByteArray.size_extract]
  omega
 ·have he:=takeF_e p.rest
  have h2:mx p.e (takeF p.rest).2.2.2 = 0:=h1
  have h3:(takeF p.rest).2.2.2 = 0:=by
   unfold mx at h2
   split at h2 <;> omega
  have:=h5 h3
  show (p.rest.extract (takeF p.rest).2.2.1.toNat p.rest.size).size + 5 < _
  rw [ByteArray.size_extract,hk,Int.toNat_natCast]
  omega
theorem read_size (p:Rt):p.read.1.size ≤ 65536 ∧ p.read.2.text.size ≤ p.text.size ∧ p.read.2.rest = p.rest ∧ p.e ≤ p.read.2.e:=by
 refine ⟨takeT_few _, ?_,rfl,mx_ge _ _⟩
 show (p.text.extract _ _).size ≤ _
 rw [ByteArray.size_extract]
 omega
theorem num_size (p:Rt):p.num.2.text.size ≤ p.text.size ∧ p.num.2.rest = p.rest ∧ p.e ≤ p.num.2.e:=by
 refine ⟨?_,rfl,mx_ge _ _⟩
 show (p.text.extract _ _).size ≤ _
 rw [ByteArray.size_extract]
 omega
theorem sta_size (p:Rt):p.sta.1.uid.size ≤ 65536 ∧ p.sta.1.bytes.size ≤ 65536 ∧ p.sta.2.rest.size ≤ p.rest.size ∧ p.e ≤ p.sta.2.e ∧ (p.e = 0 → p.sta.2.e = 0 → p.sta.2.rest.size + 5 < p.rest.size):=by
 obtain ⟨a1,a2,a3,a4⟩:=next_size p
 obtain ⟨b1,b2,b3,b4⟩:=read_size p.next
 obtain ⟨c1,c2,c3,c4⟩:=read_size p.next.read.2
 refine ⟨b1,c1, ?_, ?_,fun h0 h1 => ?_⟩
 ·show p.next.read.2.read.2.rest.size ≤ _
  rw [c3,b3]; exact a2
 ·show p.e ≤ p.next.read.2.read.2.e
  omega
 ·have h2:p.next.read.2.read.2.e = 0:=h1
  show p.next.read.2.read.2.rest.size + 5 < _
  rw [c3,b3]
  exact a3 h0 (by omega)
end Rt
theorem headR_eq (b:ByteArray):headR b = ((Rt.mk 0 .empty b).next.num.1,(Rt.mk 0 .empty b).next.num.2.num.1,(Rt.mk 0 .empty b).next.num.2.num.2.num.1,(takeJ (Rt.mk 0 .empty b).next.num.2.num.2.num.2.read.1).1,
  ⟨Rt.mx (Rt.mk 0 .empty b).next.num.2.num.2.num.2.read.2.e (takeJ (Rt.mk 0 .empty b).next.num.2.num.2.num.2.read.1).2,(Rt.mk 0 .empty b).next.num.2.num.2.num.2.read.2.text,(Rt.mk 0 .empty b).next.num.2.num.2.num.2.read.2.rest⟩):=by
 unfold headR
 dsimp only
structure TkAt (w:World) (be bt br RC:Nat) (p:Rt) (wr:World):Prop where
 below:Below w.heap.size w wr
 r3:R3 wr be bt br p wr
 res:Blk wr RC 81 #[.int .i64 0, .int .i64 0, .int .i64 0, .slice none 0 0, .slice none 0 0]
 ge:w.heap.size ≤ be ∧ w.heap.size ≤ bt ∧ w.heap.size ≤ br ∧ w.heap.size ≤ RC
 ne:RC ≠ be ∧ RC ≠ bt ∧ RC ≠ br
 lt:be < wr.heap.size ∧ bt < wr.heap.size ∧ br < wr.heap.size ∧ RC < wr.heap.size
namespace TkAt
variable {w wr wx:World} {be bt br RC:Nat} {p q:Rt}
theorem step (h:TkAt w be bt br RC p wr) (h2:R3 wr be bt br q wx):TkAt w be bt br RC q wx:=by
 obtain ⟨g1,g2,g3,g4⟩:=h.ge
 obtain ⟨n1,n2,n3⟩:=h.ne
 obtain ⟨l1,l2,l3,l4⟩:=h.lt
 have hs:=h2.fr.size
 exact ⟨h.below.trans (h2.fr.below h.below.size (fun k hk e => by omega)),h2.refl,h.res.fr h2.fr (by omega),h.ge,h.ne,by omega⟩
theorem more (h:TkAt w be bt br RC p wr) (hb:Below wr.heap.size wr wx):TkAt w be bt br RC p wx :=
 h.step (h.r3.more hb)
theorem put (h:TkAt w be bt br RC p wr) {S:Nat} (hf:Fr (fun i => i = S) wr wx) (h1:w.heap.size ≤ S) (h2:be ≠ S ∧ bt ≠ S ∧ br ≠ S ∧ RC ≠ S):TkAt w be bt br RC p wx:=by
 obtain ⟨l1,l2,l3,l4⟩:=h.lt
 have hs:=hf.size
 exact ⟨h.below.trans (hf.below h.below.size (fun k hk e => by omega)),⟨Fr.refl _ _,h.r3.E.fr hf h2.1,h.r3.T.fr hf h2.2.1,h.r3.R.fr hf h2.2.2.1,h.r3.ne⟩,h.res.fr hf h2.2.2.2,h.ge,h.ne,by omega⟩
end TkAt
def stCells (l:List Sta):List Value:=l.flatMap fun s => [.string s.uid, .string s.bytes]
theorem info_staS:(Tryz.prog.info? 151).map (fun i => (i.zero,i.size,i.bytes)) = some (some (.agg #[.string { data:=#[] }, .string { data:=#[] }]),2,32):=by kernel_rfl
theorem stCells_at:∀ (l:List Sta) (k:Nat) (h:k < l.length),(stCells l)[k * 2]? = some (.string l[k].uid) ∧ (stCells l)[k * 2 + 1]? = some (.string l[k].bytes)
 | s :: l,0,_ => ⟨rfl,rfl⟩
 | s :: l,k + 1,h => by
  have:=stCells_at l k (by simpa using h)
  have e:stCells (s :: l) = .string s.uid :: .string s.bytes :: stCells l:=rfl
  rw [e,show (k + 1) * 2 = k * 2 + 1 + 1 by omega]
  exact this
theorem staRd_own {w:World} {base:Nat} {v:Value} {l:List Sta} (h:w.ownsRow base 151 2 v l.length (stCells l)):StaRd w (fun b => base ≤ b ∧ b < w.heap.size) v l:=by
 obtain ⟨h1,h2⟩:=h
 rcases h2 with ⟨rfl,h0⟩ | ⟨g,cap,cur,rfl,hb,hg,hn,hcp,hsz,ht⟩
 ·have:l = []:=List.length_eq_zero_iff.1 h0
  subst this
  exact StaRd.nil _ _
 ·refine ⟨_,cap,rfl,hn,hcp, .inr ⟨g,0,rfl,⟨hb,(Array.getElem?_eq_some_iff.1 hg).1⟩,fun k hk => ?_⟩⟩
  obtain ⟨c0,c1⟩:=stCells_at l k hk
  have hc:∀ j,j < l.length * 2 → w.cell? ⟨g,j,none⟩ = (stCells l)[j]? := fun j hj => by
   rw [cell_of_row w g j cur _ (0,0) hg, ← ht,List.getElem?_take,if_pos hj]
   simp
  rw [Nat.zero_add,hc _ (by omega),hc _ (by omega)]
  exact ⟨c0,c1⟩
structure SvB (w:World) (S JB:Nat) (n ct par:Int) (nv:Value) (nds:List Nd) (av:Value) (l:List Sta) (wr:World):Prop where
 box:Blk wr S 81 #[.int .i64 n, .int .i64 ct, .int .i64 par,nv,av]
 nodes:NodesIn wr (fun b => S < b ∧ b < JB) nds nv
 row:wr.ownsRow (JB + 1) 151 2 av l.length (stCells l)
 lt:S < JB ∧ JB < wr.heap.size
namespace SvB
variable {w wr wx:World} {S JB:Nat} {n ct par:Int} {nv av:Value} {nds:List Nd} {l:List Sta}
theorem fr (h:SvB w S JB n ct par nv nds av l wr) {X:Nat → Prop} (hf:Fr X wr wx) (hX:∀ k,X k → k < S):SvB w S JB n ct par nv nds av l wx:=by
 have hs:=hf.size
 obtain ⟨l1,l2⟩:=h.lt
 refine ⟨h.box.fr hf (fun e => Nat.lt_irrefl _ (hX S e)),h.nodes.keep (fun _ h => h) (fun b hb => hf.block b (by have:=hb.2; omega) (fun e => by have:=hX b e; have:=hb.1; omega)), ?_,l1,by omega⟩
 exact ownsRow_fr h.row hf (fun b hb e => by have:=hX b e; omega)
end SvB
theorem TkAt.over {w wr wx:World} {be bt br RC:Nat} {p:Rt} (h:TkAt w be bt br RC p wr) {X:Nat → Prop} (hf:Fr X wr wx) (h1:∀ k,X k → w.heap.size ≤ k) (h2 : ¬ X be ∧ ¬ X bt ∧ ¬ X br ∧ ¬ X RC):TkAt w be bt br RC p wx:=by
 obtain ⟨l1,l2,l3,l4⟩:=h.lt
 have hs:=hf.size
 exact ⟨h.below.trans (hf.below h.below.size (fun k hk e => by have:=h1 k e; omega)),⟨Fr.refl _ _,h.r3.E.fr hf h2.1,h.r3.T.fr hf h2.2.1,h.r3.R.fr hf h2.2.2.1,h.r3.ne⟩,h.res.fr hf h2.2.2.2,h.ge,h.ne,by omega⟩
theorem tk_grown {w w4 w5:World} {be bt br RC S JB:Nat} {p:Rt} {n ct par:Int} {nv av v:Value} {nds:List Nd} {l:List Sta} {s:Sta} {o:Obj}
  (hA:TkAt w be bt br RC p w4) (hB:SvB w S JB n ct par nv nds av l w4) (hS:be < S ∧ bt < S ∧ br < S ∧ RC < S ∧ w.heap.size ≤ S) (hg:(w4.alloc o).grownBy w5 av.ownBlock)
  (hown:w5.ownsRow (JB + 1) 151 2 v (l.length + 1) (stCells l ++ [.string s.uid, .string s.bytes])) :
  TkAt w be bt br RC p (w5.setCell ⟨S,4,none⟩ v) ∧ SvB w S JB n ct par nv nds v (l ++ [s]) (w5.setCell ⟨S,4,none⟩ v):=by
 have hnb:∀ c,av.ownBlock = some c → JB + 1 ≤ c:=fun c hc => (hB.row.lt c hc).1
 have hlt:=hB.lt
 have hf1:Fr (fun i => i = S ∨ JB + 1 ≤ i) w4 w5:=Fr.grown ((Fr.refl _ w4).alloc o) hg (fun k e => .inl (.inr (hnb k e)))
 have hf:Fr (fun i => i = S ∨ JB + 1 ≤ i) w4 (w5.setCell ⟨S,4,none⟩ v):=hf1.setCell (p:=⟨S,4,none⟩) (.inl (.inl rfl)) v
 have hs:=hf.size
 have hb5:=(hB.box.alloc o).grown hg (fun e => by have:=hnb S e.symm; omega)
 refine ⟨hA.over hf (fun k e => by omega) (by omega),hb5.set 4 v,hB.nodes.keep (fun _ h => h) (fun b hb => hf.block b (by omega) (fun e => by have:=hb.1; have:=hb.2; omega)), ?_,hlt.1,by omega⟩
 have e:stCells (l ++ [s]) = stCells l ++ [.string s.uid, .string s.bytes]:=by
  unfold stCells
  rw [List.flatMap_append,List.flatMap_cons,List.flatMap_nil,List.append_nil]
 rw [e,List.length_append]
 exact ownsRow_setCell_below hown (a:=⟨S,4,none⟩) (by show S < JB + 1; omega) v
set_option maxRecDepth 100000 in
set_option maxHeartbeats 12000000 in
theorem SvTake_c (b:ByteArray) (hb:b.size ≤ 990000) (w:World) :
    Calls Tryz.prog 41 #[.string b] w fun e w' => (∃ v,e = .returned (.tuple #[v, .int .i64 (takeSv b).2]) ∧ SvIn w' (fun c => w.heap.size ≤ c ∧ c < w'.heap.size) v (takeSv b).1) ∧ Below w.heap.size w w':=by
  have hmf:∀ (fn:Fn) (first cap:Array Value) (w:World),(Instr.makeFunc fn first cap).run Tryz.prog w = .ok (.func fn first cap) w:=fun _ _ _ _ => rfl
  have h0:TkAt w (w.heap.size + 1) (w.heap.size + 2) (w.heap.size + 3) w.heap.size ⟨0, .empty,b⟩ ((((w.alloc (.cells #[.int .i64 0, .int .i64 0, .int .i64 0, .slice none 0 0, .slice none 0 0] 81)).alloc (.cells #[.int .i64 0] 27)).alloc (.cells #[.string { data:=#[] }] 9)).alloc (.cells #[.string b] 9)) :=
    ⟨((((Below.refl _ _).alloc (Nat.le_refl _) _).alloc (by simp) _).alloc (by simp; omega) _).alloc (by simp; omega) _,
     ⟨Fr.refl _ _,((Blk.new_at _ _ _ (by simp)).alloc _).alloc _,(Blk.new_at _ _ _ (by simp)).alloc _,Blk.new_at _ _ _ (by simp),by omega,by omega,by omega⟩,
     (((Blk.new w _ _).alloc _).alloc _).alloc _,by omega,by omega,by simp; omega⟩
  go_enter Tryz.func41,Tryz.ntmps41
  go_upto_region 5 with fail
  generalize ((((w.alloc (.cells #[.int .i64 0, .int .i64 0, .int .i64 0, .slice none 0 0, .slice none 0 0] 81)).alloc (.cells #[.int .i64 0] 27)).alloc (.cells #[.string { data:=#[] }] 9)).alloc (.cells #[.string b] 9)) = W0 at *
  have HS:=Lib.hid (headR_eq b)
  have hz0:(Rt.mk 0 .empty b).rest.size ≤ 140737488355328:=by show b.size ≤ _; omega
  have HT1:=Lib.hid (take1_c (w.heap.size + 1) (w.heap.size + 2) (w.heap.size + 3) ⟨0, .empty,b⟩ hz0 W0 h0.r3)
  have hn1:=Rt.next_size ⟨0, .empty,b⟩
  have H0:=Lib.hid h0
  clear h0 hz0
  generalize (Rt.mk 0 .empty b).next = p1 at *
  go_upto_region 6 with (first | (go_at_call 87; refine HT1.out.mono ?_; rintro e w1 ⟨rfl,h1⟩) | fail)
  have H1:=Lib.hid (H0.out.step h1)
  have HT2:=Lib.hid (take2_c (w.heap.size + 1) (w.heap.size + 2) (w.heap.size + 3) p1 (by have:=hn1.1; omega) w1 H1.out.r3)
  have hn2:=Rt.num_size p1
  clear h1 HT1 H0
  have hpe1:0 ≤ p1.e:=by have:=hn1.2.2.2; exact this
  have hpr1:p1.rest.size ≤ b.size:=hn1.2.1
  have hpt1:=hn1.1
  clear hn1
  generalize p1.num = q2 at *
  obtain ⟨n,p2⟩:=q2
  dsimp only at HT2 hn2
  go_upto_region 6 with fail
  have HN2:Hid (∀ W,TkAt w (w.heap.size + 1) (w.heap.size + 2) (w.heap.size + 3) w.heap.size p2 W → Calls Tryz.prog 89 #[.pointer (some ⟨w.heap.size + 2,0,none⟩), .pointer (some ⟨w.heap.size + 1,0,none⟩)] W fun e w' => e = .returned (.int .i64 p2.num.1) ∧ TkAt w (w.heap.size + 1) (w.heap.size + 2) (w.heap.size + 3) w.heap.size p2.num.2 w' ∧ R3 W (w.heap.size + 1) (w.heap.size + 2) (w.heap.size + 3) p2.num.2 w'):=fun W h =>
    (take2_c (w.heap.size + 1) (w.heap.size + 2) (w.heap.size + 3) p2 (by omega) W h.r3).mono fun e w' h2 => ⟨h2.1,h.step h2.2,h2.2⟩
  have hn3:=Rt.num_size p2
  generalize p2.num = q3 at *
  obtain ⟨ct,p3⟩:=q3
  dsimp only at HN2 hn3
  have HN3:Hid (∀ W,TkAt w (w.heap.size + 1) (w.heap.size + 2) (w.heap.size + 3) w.heap.size p3 W → Calls Tryz.prog 89 #[.pointer (some ⟨w.heap.size + 2,0,none⟩), .pointer (some ⟨w.heap.size + 1,0,none⟩)] W fun e w' => e = .returned (.int .i64 p3.num.1) ∧ TkAt w (w.heap.size + 1) (w.heap.size + 2) (w.heap.size + 3) w.heap.size p3.num.2 w' ∧ R3 W (w.heap.size + 1) (w.heap.size + 2) (w.heap.size + 3) p3.num.2 w'):=fun W h =>
    (take2_c (w.heap.size + 1) (w.heap.size + 2) (w.heap.size + 3) p3 (by omega) W h.r3).mono fun e w' h2 => ⟨h2.1,h.step h2.2,h2.2⟩
  have hn4:=Rt.num_size p3
  have hmi:p3.num.1 ≤ 9223372036854775807:=(num_i64 p3).2
  generalize p3.num = q4 at *
  obtain ⟨mm,p4⟩:=q4
  dsimp only at HN3 hn4 hmi
  have HN4:Hid (∀ W,TkAt w (w.heap.size + 1) (w.heap.size + 2) (w.heap.size + 3) w.heap.size p4 W → Calls Tryz.prog 91 #[.pointer (some ⟨w.heap.size + 2,0,none⟩), .pointer (some ⟨w.heap.size + 1,0,none⟩)] W fun e w' => e = .returned (.string p4.read.1) ∧ TkAt w (w.heap.size + 1) (w.heap.size + 2) (w.heap.size + 3) w.heap.size p4.read.2 w' ∧ R3 W (w.heap.size + 1) (w.heap.size + 2) (w.heap.size + 3) p4.read.2 w'):=fun W h =>
    (take3_c (w.heap.size + 1) (w.heap.size + 2) (w.heap.size + 3) p4 (by omega) W h.r3).mono fun e w' h2 => ⟨h2.1,h.step h2.2,h2.2⟩
  have hn5:=Rt.read_size p4
  generalize p4.read = q5 at *
  obtain ⟨jt,p5⟩:=q5
  dsimp only at HN4 hn5
  have HJ:Hid (∀ W:World,Calls Tryz.prog 93 #[.string jt] W (TakeJPost jt W)):=fun W => packTake_c jt (by omega) W
  unfold TakeJPost at HJ
  have hs6:=HS.out
  dsimp only at hs6
  have HS6:=Lib.hid hs6
  have hpe5:0 ≤ p5.e:=by omega
  have hpt5:p5.text.size ≤ 65536:=by omega
  have hpr5:p5.rest.size ≤ b.size:=by rw [hn5.2.2.1,hn4.2.1,hn3.2.1,hn2.2.1]; exact hpr1
  clear HS hs6 hn2 hn3 hn4 hn5
  generalize takeJ jt = J at *
  go_upto_region 7 with (first
    | (go_at_call 89; refine HT2.out.mono ?_; rintro e w2 ⟨rfl,h2⟩; have hA2:=H1.out.step h2)
    | (go_at_call 89; refine (HN2.out _ hA2).mono ?_; rintro e w3 ⟨rfl,hA3,_⟩)
    | fail)
  have hS3:Blk (w3.alloc (.cells #[.int .i64 n, .int .i64 ct, .int .i64 0, .slice none 0 0, .slice none 0 0] 81)) w3.heap.size 81 #[.int .i64 n, .int .i64 ct, .int .i64 0, .slice none 0 0, .slice none 0 0]:=Blk.new w3 _ _
  have hA3':=hA3.more ((Below.refl _ _).alloc (Nat.le_refl _) (.cells #[.int .i64 n, .int .i64 ct, .int .i64 0, .slice none 0 0, .slice none 0 0] 81))
  have hSb:w.heap.size + 3 < w3.heap.size:=hA3.lt.2.2.1
  have HA3:=Lib.hid hA3'
  have HS3:=Lib.hid hS3
  clear hA3 hA3' hS3 hA2 h2 HT2 HN2 H1
  generalize hSe:w3.heap.size = S at *
  generalize (w3.alloc (.cells #[.int .i64 n, .int .i64 ct, .int .i64 0, .slice none 0 0, .slice none 0 0] 81)) = W3 at *
  go_upto_region 9 with (first
    | (go_at_call 89; refine (HN3.out _ HA3.out).mono ?_; rintro e w4 ⟨rfl,hA4,hr4⟩; have hS4:=HS3.out.fr hr4.fr (by omega))
    | (go_at_call 91; refine (HN4.out _ hA4).mono ?_; rintro e w5 ⟨rfl,hA5,hr5⟩; have hS5:=hS4.fr hr5.fr (by omega))
    | (go_at_call 93; refine (HJ.out _).mono ?_; rintro e w6 ⟨v,rfl,⟨nv,rfl,hnod⟩,hb6⟩; have hA6:=hA5.more hb6; have hS6:=hS5.below hb6 hS5.lt; obtain ⟨na,ncap,rfl,hnc,hnm⟩:=hnod.slice)
    | fail)
  have hJb:Blk (w6.alloc (.cells #[.int .i64 J.1.par, .slice na J.1.nodes.length ncap] 26)) w6.heap.size 26 #[.int .i64 J.1.par, .slice na J.1.nodes.length ncap]:=Blk.new w6 _ _
  have hA7:=hA6.more ((Below.refl _ _).alloc (Nat.le_refl _) (.cells #[.int .i64 J.1.par, .slice na J.1.nodes.length ncap] 26))
  have hS7:=hS6.alloc (.cells #[.int .i64 J.1.par, .slice na J.1.nodes.length ncap] 26)
  have hN7:NodesIn (w6.alloc (.cells #[.int .i64 J.1.par, .slice na J.1.nodes.length ncap] 26)) (fun b => S < b ∧ b < w6.heap.size) J.1.nodes (.slice na J.1.nodes.length ncap) :=
    hnod.keep (fun b hb => ⟨by have:=hS5.lt; omega,hb.2⟩) (fun b hb => heap_alloc_old _ _ (by have:=hb.2; omega))
  have hS6lt:=hS6.lt
  clear hnod hA6 hS6 hA5 hS5 hA4 hS4 hr4 hr5 hb6 HN3 HN4 HJ HA3 HS3
  generalize w6.heap.size = JB at *
  generalize (w6.alloc (.cells #[.int .i64 J.1.par, .slice na J.1.nodes.length ncap] 26)) = W7 at *
  have j0:=hJb.cell 0
  have j1:=hJb.cell 1
  have e0:=hA7.r3.E.cell 0
  have ef:=hA7.r3.E.free 0
  have s2:=hS7.cell 2
  have s3:=hS7.cell 3
  have g2:=hS7.free 2
  have g3:=hS7.free 3
  have m1:w.heap.size + 1 ≠ S:=by omega
  have m2:S ≠ w.heap.size + 1:=by omega
  have HJb:=Lib.hid hJb
  have HA7:=Lib.hid hA7
  have HS7:=Lib.hid hS7
  have HN7:=Lib.hid hN7
  clear hJb hA7 hS7 hN7
  go_region
  have hA8:TkAt w (w.heap.size + 1) (w.heap.size + 2) (w.heap.size + 3) w.heap.size ⟨Rt.mx p5.e J.2,p5.text,p5.rest⟩ (((W7.setCell ⟨S,2,none⟩ (.int .i64 J.1.par)).setCell ⟨S,3,none⟩ (.slice na J.1.nodes.length ncap)).setCell ⟨w.heap.size + 1,0,none⟩ (.int .i64 (max p5.e J.2))).drew:=by
    have h1:=HA7.out.put (S:=S) (((Fr.refl (fun i => i = S) W7).setCell (p:=⟨S,2,none⟩) (.inl rfl) (.int .i64 J.1.par)).setCell (p:=⟨S,3,none⟩) (.inl rfl) (.slice na J.1.nodes.length ncap)) (by omega) (by omega)
    have h2:=h1.step ((h1.r3.setE (Rt.mx p5.e J.2)).drew)
    rw [mx_max] at h2 ⊢
    exact h2
  have hB8:SvB w S JB n ct J.1.par (.slice na J.1.nodes.length ncap) J.1.nodes (.slice none 0 0) [] (((W7.setCell ⟨S,2,none⟩ (.int .i64 J.1.par)).setCell ⟨S,3,none⟩ (.slice na J.1.nodes.length ncap)).setCell ⟨w.heap.size + 1,0,none⟩ (.int .i64 (max p5.e J.2))).drew:=by
    refine ⟨(((HS7.out.set 2 _).set 3 _).other (p:=⟨w.heap.size + 1,0,none⟩) (by omega) _).drew,HN7.out.keep (fun _ h => h) (fun b hb => ?_),World.ownsRow_nil _ _ _ _,hS6lt,by have:=HJb.out.lt; simpa using this⟩
    have:=hb.1
    show (((W7.setCell ⟨S,2,none⟩ _).setCell ⟨S,3,none⟩ _).setCell ⟨w.heap.size + 1,0,none⟩ _).heap[b]? = _
    rw [heap_setCell_other _ ⟨w.heap.size + 1,0,none⟩ b _ (by show b ≠ w.heap.size + 1; omega),heap_setCell_other _ ⟨S,3,none⟩ b _ (by show b ≠ S; omega),heap_setCell_other _ ⟨S,2,none⟩ b _ (by show b ≠ S; omega)]
  generalize (((W7.setCell ⟨S,2,none⟩ (.int .i64 J.1.par)).setCell ⟨S,3,none⟩ (.slice na J.1.nodes.length ncap)).setCell ⟨w.heap.size + 1,0,none⟩ (.int .i64 (max p5.e J.2))).drew = W8 at *
  have hpe8:0 ≤ Rt.mx p5.e J.2:=by have:=Rt.mx_ge p5.e J.2; omega
  clear j0 j1 e0 ef s2 s3 g2 g3 HJb HA7 HS7 HN7
  generalize Rt.mx p5.e J.2 = pe at *
  have hpe9:0 ≤ (Rt.mk pe p5.text p5.rest).e:=hpe8
  have hpt8:(Rt.mk pe p5.text p5.rest).text.size ≤ 65536:=hpt5
  have hpr8:(Rt.mk pe p5.text p5.rest).rest.size ≤ b.size:=hpr5
  have HRS:Hid (rawSv b = (⟨n,ct,J.1,(Rt.stas (b.size + 2) mm [] ⟨pe,p5.text,p5.rest⟩).1⟩,(Rt.stas (b.size + 2) mm [] ⟨pe,p5.text,p5.rest⟩).2.e)):=by
    show _ = _
    unfold rawSv
    rw [HS6.out]
  clear HS6 hpt5 hpr5 hpe5 hpe1 hpr1 hpt1
  generalize Rt.mk pe p5.text p5.rest = P0 at *
  clear hpe8
  go_upto_region 10 with fail
  go_loopw [11] (fun m wr => ∃ (mj:Int) (l:List Sta) (p:Rt) (K:Nat) (av:Value),m = .int .i64 mj ∧ mj ≤ 9223372036854775807 ∧ TkAt w (w.heap.size + 1) (w.heap.size + 2) (w.heap.size + 3) w.heap.size p wr ∧ SvB w S JB n ct J.1.par (.slice na J.1.nodes.length ncap) J.1.nodes av l wr ∧
    (∀ s ∈ l,s.uid.size ≤ 65536 ∧ s.bytes.size ≤ 65536) ∧ l.length + K ≤ b.size + 2 ∧ 1 ≤ K ∧ 0 ≤ p.e ∧ (p.e = 0 → p.rest.size + 2 ≤ K) ∧ p.text.size ≤ 65536 ∧ p.rest.size ≤ b.size ∧ Rt.stas K mj l p = Rt.stas (b.size + 2) mm [] P0) (fun m _ => (intOf m).toNat)
  case atStart => exact ⟨mm,[],P0,b.size + 2, .slice none 0 0,rfl,hmi,hA8,hB8,by simp,by simp,by omega,hpe9,fun _ => by omega,hpt8,hpr8,rfl⟩
  case round =>
    obtain ⟨mj,l,p,K,av,rfl,hmj,hA,hB,hfew,hlK,hK1,hpe,hfu,hpt,hpr,hst⟩:=hrel
    clear hA8 hB8
    have e0:=hA.r3.E.cell 0
    by_cases hgo:0 < mj ∧ p.e = 0
    · obtain ⟨hm0,hp0⟩:=hgo
      obtain ⟨K1,rfl⟩:∃ K1,K = K1 + 1:=⟨K - 1,by omega⟩
      have hst2:Rt.stas K1 (mj - 1) (l ++ [p.sta.1]) p.sta.2 = Rt.stas (b.size + 2) mm [] P0:=by
        rw [← hst]
        conv => rhs; rw [Rt.stas]
        rw [if_pos ⟨hm0,hp0⟩]
      obtain ⟨z1,z2,z3,z4,z5⟩:=Rt.sta_size p
      have hnx:=Rt.next_size p
      have hrd:=Rt.read_size p.next
      have HST:=Lib.hid hst2
      have HTX:Hid (p.sta.2.text.size ≤ 65536):=by
        have h1:=(Rt.read_size p.next.read.2).2.1
        show p.next.read.2.read.2.text.size ≤ _
        have h2:=hrd.2.1
        have h3:=hnx.1
        omega
      have HM0:Hid (0 < mj):=hm0
      have HSZ:Hid ((p.sta.1.uid.size ≤ 65536 ∧ p.sta.1.bytes.size ≤ 65536) ∧ p.sta.2.rest.size ≤ b.size ∧ 0 ≤ p.sta.2.e ∧ (p.sta.2.e = 0 → p.sta.2.rest.size + 2 ≤ K1) ∧ 1 ≤ K1):=⟨⟨z1,z2⟩,by omega,by omega,fun h => by have:=z5 hp0 h; have:=hfu hp0; omega,by have:=hfu hp0; omega⟩
      have d1:decide (0 < mj) = true:=decide_eq_true hm0
      have d2:(p.e == 0) = true:=by rw [beq_iff_eq]; exact hp0
      have HT:=Lib.hid (take1_c (w.heap.size + 1) (w.heap.size + 2) (w.heap.size + 3) p (by omega) wr hA.r3)
      have HA:=Lib.hid hA
      have HB:=Lib.hid hB
      have HFW:=Lib.hid hfew
      clear hA hB hst hst2 hm0 hp0 hfu z1 z2 z3 z4 z5 hfew HRS
      go_upto_region 13 with (first | (go_at_call 87; refine HT.out.mono ?_; rintro e w2 ⟨rfl,h2⟩) | fail)
      have hA2:=HA.out.step h2
      have hB2:=HB.out.fr h2.fr (fun k e => by omega)
      have HR1:Hid (∀ W,TkAt w (w.heap.size + 1) (w.heap.size + 2) (w.heap.size + 3) w.heap.size p.next W → Calls Tryz.prog 91 #[.pointer (some ⟨w.heap.size + 2,0,none⟩), .pointer (some ⟨w.heap.size + 1,0,none⟩)] W fun e w' => e = .returned (.string p.next.read.1) ∧ TkAt w (w.heap.size + 1) (w.heap.size + 2) (w.heap.size + 3) w.heap.size p.next.read.2 w' ∧ R3 W (w.heap.size + 1) (w.heap.size + 2) (w.heap.size + 3) p.next.read.2 w'):=fun W h =>
        (take3_c (w.heap.size + 1) (w.heap.size + 2) (w.heap.size + 3) p.next (by have:=hnx.1; omega) W h.r3).mono fun e w' h2 => ⟨h2.1,h.step h2.2,h2.2⟩
      have HR2:Hid (∀ W,TkAt w (w.heap.size + 1) (w.heap.size + 2) (w.heap.size + 3) w.heap.size p.next.read.2 W → Calls Tryz.prog 91 #[.pointer (some ⟨w.heap.size + 2,0,none⟩), .pointer (some ⟨w.heap.size + 1,0,none⟩)] W fun e w' => e = .returned (.string p.next.read.2.read.1) ∧ TkAt w (w.heap.size + 1) (w.heap.size + 2) (w.heap.size + 3) w.heap.size p.next.read.2.read.2 w' ∧ R3 W (w.heap.size + 1) (w.heap.size + 2) (w.heap.size + 3) p.next.read.2.read.2 w'):=fun W h =>
        (take3_c (w.heap.size + 1) (w.heap.size + 2) (w.heap.size + 3) p.next.read.2 (by have:=hnx.1; have:=hrd.2.1; omega) W h.r3).mono fun e w' h2 => ⟨h2.1,h.step h2.2,h2.2⟩
      have HA2:=Lib.hid hA2
      have HB2:=Lib.hid hB2
      clear hA2 hB2 h2 HT HA HB hnx hrd
      have c2:=HB2.out.box.cell 4
      have ONE:Hid (∀ u ∈ ([.string p.next.read.1, .string p.next.read.2.read.1]:List Value),u.oneCell' = true):=by
        intro u hu
        simp only [List.mem_cons,List.not_mem_nil,or_false] at hu
        rcases hu with rfl | rfl <;> rfl
      have NBV:Hid (∀ c,av.ownBlock = some c → JB + 1 ≤ c):=fun c hc => (HB2.out.row.lt c hc).1
      obtain ⟨i0,hi,hz0,hz1,hz2⟩:=info_parts info_staS
      refine wp_region_held_drew (S:=(fun w' => True)) (by kernel_rfl) ?_ (fun hHeld => ?_)
      · trivial
      refine wpAnyH_take (i:=0) (oi:=_) (v := ?_) rfl (by kernel_rfl) (by kernel_rfl) (by kernel_rfl) (fun _ _ _ h => h) (Or.inl ⟨by rfl, ?_⟩) (by assumption) ?_
      rotate_left
      · intro w' hSw
        (try dsimp only at hSw)
        go_simp
        try with_reducible rfl
      try simp only [Act.put,List.getElem_toArray,List.getElem_cons_zero,List.setIfInBounds_toArray,List.set_cons_zero,List.set_cons_succ]
      refine wpAnyH_take (i:=2) (oi:=_) (v := ?_) rfl (by kernel_rfl) (by kernel_rfl) (by kernel_rfl) (fun _ _ _ h => h) (Or.inl ⟨by rfl, ?_⟩) (by assumption) ?_
      rotate_left
      · intro w' hSw
        (try dsimp only at hSw)
        go_simp
        try with_reducible rfl
      try simp only [Act.put,List.getElem_toArray,List.getElem_cons_zero,List.getElem_cons_succ,List.setIfInBounds_toArray,List.set_cons_zero,List.set_cons_succ]
      refine wpAnyH_take (i:=4) (oi:=_) (v := ?_) rfl (by kernel_rfl) (by kernel_rfl) (by kernel_rfl) (fun _ _ _ h => h) (Or.inl ⟨by rfl, ?_⟩) (by assumption) ?_
      rotate_left
      · intro w' hSw
        (try dsimp only at hSw)
        go_simp
        try with_reducible rfl
      try simp only [Act.put,List.getElem_toArray,List.getElem_cons_zero,List.getElem_cons_succ,List.setIfInBounds_toArray,List.set_cons_zero,List.set_cons_succ]
      refine wpAnyH_ready (rs:=[1,3]) (by kernel_rfl) (by simp) ?_
      refine AllReadyH.cons rfl (fun K hK => ?_) (AllReadyH.cons rfl (fun K hK => ?_) (AllReadyH.nil))
      · go_simp
        refine hK.out _ _ ?_ (fun hHeld => ?_)
        · trivial
        clear hK K
        try simp only [Act.put,List.getElem_toArray,List.getElem_cons_zero,List.getElem_cons_succ,List.setIfInBounds_toArray,List.set_cons_zero,List.set_cons_succ]
        refine wpAnyH_ready (rs:=[3]) (by kernel_rfl) (by simp) ?_
        refine AllReadyH.cons rfl (fun K hK => ?_) AllReadyH.nil
        go_simp
        go_at_call 91
        refine (HR1.out _ (HA2.out.more (Below.refl _ _).drew)).mono ?_
        rintro e w3 ⟨rfl,hA3,hr3⟩
        have hB3:=(HB2.out.fr (X:=fun _ => False) (Fr.refl _ _).drew (fun _ h => h.elim)).fr hr3.fr (fun k e => by omega)
        have c3:=hB3.box.cell 4
        refine hK.out _ _ ?_ (fun hHeld => ?_)
        · trivial
        clear hK K
        try simp only [Act.put,List.getElem_toArray,List.getElem_cons_zero,List.getElem_cons_succ,List.setIfInBounds_toArray,List.set_cons_zero,List.set_cons_succ]
        refine wpAnyH_ready (rs:=[5]) (by kernel_rfl) (by simp) ?_
        refine AllReadyH.cons rfl (fun K hK => ?_) AllReadyH.nil
        go_simp
        go_at_call 91
        refine (HR2.out _ hA3).mono ?_
        rintro e w4 ⟨rfl,hA4,hr4⟩
        have hB4:=hB3.fr hr4.fr (fun k e => by omega)
        have c4:=hB4.box.cell 4
        refine hK.out _ _ ?_ (fun hHeld => ?_)
        · trivial
        clear hK K
        try simp only [Act.put,List.getElem_toArray,List.getElem_cons_zero,List.getElem_cons_succ,List.setIfInBounds_toArray,List.set_cons_zero,List.set_cons_succ]
        refine wpAnyH_take (i:=6) (oi:=_) (v := ?_) rfl (by kernel_rfl) (by kernel_rfl) (by kernel_rfl) (fun _ _ _ h => h) (Or.inl ⟨by rfl, ?_⟩) (by assumption) ?_
        rotate_left
        · intro w' hSw
          (try dsimp only at hSw)
          go_simp
          try with_reducible rfl
        try simp only [Act.put,List.getElem_toArray,List.getElem_cons_zero,List.getElem_cons_succ,List.setIfInBounds_toArray,List.set_cons_zero,List.set_cons_succ]
        refine wpAnyH_ready (rs:=[7]) (by kernel_rfl) (by simp) ?_
        refine AllReadyH.cons rfl (fun K hK => ?_) AllReadyH.nil
        go_simp
        have hB5:=hB4.fr (X:=fun _ => False) ((Fr.refl _ w4).alloc (.cells #[.string p.next.read.1, .string p.next.read.2.read.1] 151)) (fun _ h => h.elim)
        have c5:=hB5.box.cell 4
        have HNA:Hid (∀ i u,([.string p.next.read.1, .string p.next.read.2.read.1]:List Value)[i]? = some u → (w4.alloc (.cells #[.string p.next.read.1, .string p.next.read.2.read.1] 151)).cell? ((⟨w4.heap.size,0,none⟩:Addr).add i) = some u):=World.news_of_block (heap_alloc_new w4 _)
        refine hK.out _ _ ?_ (fun hHeld => ?_)
        · trivial
        clear hK K
        try simp only [Act.put,List.getElem_toArray,List.getElem_cons_zero,List.getElem_cons_succ,List.setIfInBounds_toArray,List.set_cons_zero,List.set_cons_succ]
        refine wpAnyH_ready (rs:=[8]) (by kernel_rfl) (by simp) ?_
        refine AllReadyH.cons rfl (fun K hK => ?_) AllReadyH.nil
        refine step_append_lies _ (by rfl) _ _ _ (by rfl) (JB + 1) 151 i0 (.agg #[.string { data:=#[] }, .string { data:=#[] }]) 2 32 Tryz.underlying79 hi hz0 hz1 hz2 rfl (by decide) av l.length (stCells l) (by rfl) hB5.row ⟨w4.heap.size,0,none⟩ 1 1 [.string p.next.read.1, .string p.next.read.2.read.1] (by rfl) (by rfl) HNA.out ONE.out (by decide) (by unfold maxLen; omega) (by omega) (by have:=hB5.lt.2; omega) _ rfl ?_
        intro g cap4 w5 hown5 hgrow5 hat5 hlt5
        have hS5:=hB5.box.grown hgrow5 (fun e => by have:=NBV.out _ e.symm; have:=hB5.lt.1; omega)
        have k5:=hS5.cell 4
        have g5:=hS5.free 4
        refine hK.out _ _ ?_ (fun hHeld => ?_)
        · trivial
        clear hK K
        try simp only [Act.put,List.getElem_toArray,List.getElem_cons_zero,List.getElem_cons_succ,List.setIfInBounds_toArray,List.set_cons_zero,List.set_cons_succ]
        refine wpAnyH_take (i:=9) (oi:=_) (v := ?_) rfl (by kernel_rfl) (by kernel_rfl) (by kernel_rfl) (fun _ _ _ h => h) (Or.inl ⟨by rfl, ?_⟩) (by assumption) ?_
        rotate_left
        · intro w' hSw
          (try dsimp only at hSw)
          go_simp
          try with_reducible rfl
        try simp only [Act.put,List.getElem_toArray,List.getElem_cons_zero,List.getElem_cons_succ,List.setIfInBounds_toArray,List.set_cons_zero,List.set_cons_succ]
        refine wpAnyH_ready (rs:=[10]) (by kernel_rfl) (by simp) ?_
        refine AllReadyH.cons rfl (fun K hK => ?_) AllReadyH.nil
        go_simp
        refine hK.out _ _ ?_ (fun hHeld => ?_)
        · trivial
        clear hK K
        try simp only [Act.put,List.getElem_toArray,List.getElem_cons_zero,List.getElem_cons_succ,List.setIfInBounds_toArray,List.set_cons_zero,List.set_cons_succ]
        refine wpAnyH_done (by kernel_rfl) ?_ _
        obtain ⟨hA6,hB6⟩:=tk_grown (s:=p.sta.1) hA4 hB4 (by omega) hgrow5 hown5
        have HA6:=Lib.hid hA6
        have HB6:=Lib.hid hB6
        clear hA6 hB6 hA4 hB4 hB5 hA3 hB3 hr3 hr4 hgrow5 hown5 hat5 hS5 k5 g5 c2 c3 c4 c5
        have hm0:=HM0.out
        go_wp2_with fail
        go_roundw
        case rel => exact ⟨mj - 1,l ++ [p.sta.1],p.sta.2,K1,_,by go_num,by omega,HA6.out,HB6.out,fun s hs => by
          rcases List.mem_append.1 hs with hs | hs
          · exact HFW.out s hs
          · rw [List.mem_singleton.1 hs]; exact HSZ.out.1,by rw [List.length_append,List.length_singleton]; omega,HSZ.out.2.2.2.2,HSZ.out.2.2.1,HSZ.out.2.2.2.1,HTX.out,HSZ.out.2.1,HST.out⟩
        case measure => have:=HM0.out; simp [intOf]; omega
      · go_simp
        go_at_call 91
        refine (HR1.out _ (HA2.out.more (Below.refl _ _).drew)).mono ?_
        rintro e w3 ⟨rfl,hA3,hr3⟩
        have hB3:=(HB2.out.fr (X:=fun _ => False) (Fr.refl _ _).drew (fun _ h => h.elim)).fr hr3.fr (fun k e => by omega)
        have c3:=hB3.box.cell 4
        refine hK.out _ _ ?_ (fun hHeld => ?_)
        · trivial
        clear hK K
        try simp only [Act.put,List.getElem_toArray,List.getElem_cons_zero,List.getElem_cons_succ,List.setIfInBounds_toArray,List.set_cons_zero,List.set_cons_succ]
        refine wpAnyH_ready (rs:=[1,5]) (by kernel_rfl) (by simp) ?_
        refine AllReadyH.cons rfl (fun K hK => ?_) (AllReadyH.cons rfl (fun K hK => ?_) (AllReadyH.nil))
        · go_simp
          refine hK.out _ _ ?_ (fun hHeld => ?_)
          · trivial
          clear hK K
          try simp only [Act.put,List.getElem_toArray,List.getElem_cons_zero,List.getElem_cons_succ,List.setIfInBounds_toArray,List.set_cons_zero,List.set_cons_succ]
          refine wpAnyH_ready (rs:=[5]) (by kernel_rfl) (by simp) ?_
          refine AllReadyH.cons rfl (fun K hK => ?_) AllReadyH.nil
          go_simp
          go_at_call 91
          refine (HR2.out _ hA3).mono ?_
          rintro e w4 ⟨rfl,hA4,hr4⟩
          have hB4:=hB3.fr hr4.fr (fun k e => by omega)
          have c4:=hB4.box.cell 4
          refine hK.out _ _ ?_ (fun hHeld => ?_)
          · trivial
          clear hK K
          try simp only [Act.put,List.getElem_toArray,List.getElem_cons_zero,List.getElem_cons_succ,List.setIfInBounds_toArray,List.set_cons_zero,List.set_cons_succ]
          refine wpAnyH_take (i:=6) (oi:=_) (v := ?_) rfl (by kernel_rfl) (by kernel_rfl) (by kernel_rfl) (fun _ _ _ h => h) (Or.inl ⟨by rfl, ?_⟩) (by assumption) ?_
          rotate_left
          · intro w' hSw
            (try dsimp only at hSw)
            go_simp
            try with_reducible rfl
          try simp only [Act.put,List.getElem_toArray,List.getElem_cons_zero,List.getElem_cons_succ,List.setIfInBounds_toArray,List.set_cons_zero,List.set_cons_succ]
          refine wpAnyH_ready (rs:=[7]) (by kernel_rfl) (by simp) ?_
          refine AllReadyH.cons rfl (fun K hK => ?_) AllReadyH.nil
          go_simp
          have hB5:=hB4.fr (X:=fun _ => False) ((Fr.refl _ w4).alloc (.cells #[.string p.next.read.1, .string p.next.read.2.read.1] 151)) (fun _ h => h.elim)
          have c5:=hB5.box.cell 4
          have HNA:Hid (∀ i u,([.string p.next.read.1, .string p.next.read.2.read.1]:List Value)[i]? = some u → (w4.alloc (.cells #[.string p.next.read.1, .string p.next.read.2.read.1] 151)).cell? ((⟨w4.heap.size,0,none⟩:Addr).add i) = some u):=World.news_of_block (heap_alloc_new w4 _)
          refine hK.out _ _ ?_ (fun hHeld => ?_)
          · trivial
          clear hK K
          try simp only [Act.put,List.getElem_toArray,List.getElem_cons_zero,List.getElem_cons_succ,List.setIfInBounds_toArray,List.set_cons_zero,List.set_cons_succ]
          refine wpAnyH_ready (rs:=[8]) (by kernel_rfl) (by simp) ?_
          refine AllReadyH.cons rfl (fun K hK => ?_) AllReadyH.nil
          refine step_append_lies _ (by rfl) _ _ _ (by rfl) (JB + 1) 151 i0 (.agg #[.string { data:=#[] }, .string { data:=#[] }]) 2 32 Tryz.underlying79 hi hz0 hz1 hz2 rfl (by decide) av l.length (stCells l) (by rfl) hB5.row ⟨w4.heap.size,0,none⟩ 1 1 [.string p.next.read.1, .string p.next.read.2.read.1] (by rfl) (by rfl) HNA.out ONE.out (by decide) (by unfold maxLen; omega) (by omega) (by have:=hB5.lt.2; omega) _ rfl ?_
          intro g cap4 w5 hown5 hgrow5 hat5 hlt5
          have hS5:=hB5.box.grown hgrow5 (fun e => by have:=NBV.out _ e.symm; have:=hB5.lt.1; omega)
          have k5:=hS5.cell 4
          have g5:=hS5.free 4
          refine hK.out _ _ ?_ (fun hHeld => ?_)
          · trivial
          clear hK K
          try simp only [Act.put,List.getElem_toArray,List.getElem_cons_zero,List.getElem_cons_succ,List.setIfInBounds_toArray,List.set_cons_zero,List.set_cons_succ]
          refine wpAnyH_take (i:=9) (oi:=_) (v := ?_) rfl (by kernel_rfl) (by kernel_rfl) (by kernel_rfl) (fun _ _ _ h => h) (Or.inl ⟨by rfl, ?_⟩) (by assumption) ?_
          rotate_left
          · intro w' hSw
            (try dsimp only at hSw)
            go_simp
            try with_reducible rfl
          try simp only [Act.put,List.getElem_toArray,List.getElem_cons_zero,List.getElem_cons_succ,List.setIfInBounds_toArray,List.set_cons_zero,List.set_cons_succ]
          refine wpAnyH_ready (rs:=[10]) (by kernel_rfl) (by simp) ?_
          refine AllReadyH.cons rfl (fun K hK => ?_) AllReadyH.nil
          go_simp
          refine hK.out _ _ ?_ (fun hHeld => ?_)
          · trivial
          clear hK K
          try simp only [Act.put,List.getElem_toArray,List.getElem_cons_zero,List.getElem_cons_succ,List.setIfInBounds_toArray,List.set_cons_zero,List.set_cons_succ]
          refine wpAnyH_done (by kernel_rfl) ?_ _
          obtain ⟨hA6,hB6⟩:=tk_grown (s:=p.sta.1) hA4 hB4 (by omega) hgrow5 hown5
          have HA6:=Lib.hid hA6
          have HB6:=Lib.hid hB6
          clear hA6 hB6 hA4 hB4 hB5 hA3 hB3 hr3 hr4 hgrow5 hown5 hat5 hS5 k5 g5 c2 c3 c4 c5
          have hm0:=HM0.out
          go_wp2_with fail
          go_roundw
          case rel => exact ⟨mj - 1,l ++ [p.sta.1],p.sta.2,K1,_,by go_num,by omega,HA6.out,HB6.out,fun s hs => by
            rcases List.mem_append.1 hs with hs | hs
            · exact HFW.out s hs
            · rw [List.mem_singleton.1 hs]; exact HSZ.out.1,by rw [List.length_append,List.length_singleton]; omega,HSZ.out.2.2.2.2,HSZ.out.2.2.1,HSZ.out.2.2.2.1,HTX.out,HSZ.out.2.1,HST.out⟩
          case measure => have:=HM0.out; simp [intOf]; omega
        · go_simp
          go_at_call 91
          refine (HR2.out _ hA3).mono ?_
          rintro e w4 ⟨rfl,hA4,hr4⟩
          have hB4:=hB3.fr hr4.fr (fun k e => by omega)
          have c4:=hB4.box.cell 4
          refine hK.out _ _ ?_ (fun hHeld => ?_)
          · trivial
          clear hK K
          try simp only [Act.put,List.getElem_toArray,List.getElem_cons_zero,List.getElem_cons_succ,List.setIfInBounds_toArray,List.set_cons_zero,List.set_cons_succ]
          refine wpAnyH_take (i:=6) (oi:=_) (v := ?_) rfl (by kernel_rfl) (by kernel_rfl) (by kernel_rfl) (fun _ _ _ h => h) (Or.inl ⟨by rfl, ?_⟩) (by assumption) ?_
          rotate_left
          · intro w' hSw
            (try dsimp only at hSw)
            go_simp
            try with_reducible rfl
          try simp only [Act.put,List.getElem_toArray,List.getElem_cons_zero,List.getElem_cons_succ,List.setIfInBounds_toArray,List.set_cons_zero,List.set_cons_succ]
          refine wpAnyH_ready (rs:=[1,7]) (by kernel_rfl) (by simp) ?_
          refine AllReadyH.cons rfl (fun K hK => ?_) (AllReadyH.cons rfl (fun K hK => ?_) (AllReadyH.nil))
          · go_simp
            refine hK.out _ _ ?_ (fun hHeld => ?_)
            · trivial
            clear hK K
            try simp only [Act.put,List.getElem_toArray,List.getElem_cons_zero,List.getElem_cons_succ,List.setIfInBounds_toArray,List.set_cons_zero,List.set_cons_succ]
            refine wpAnyH_ready (rs:=[7]) (by kernel_rfl) (by simp) ?_
            refine AllReadyH.cons rfl (fun K hK => ?_) AllReadyH.nil
            go_simp
            have hB5:=hB4.fr (X:=fun _ => False) ((Fr.refl _ w4).alloc (.cells #[.string p.next.read.1, .string p.next.read.2.read.1] 151)) (fun _ h => h.elim)
            have c5:=hB5.box.cell 4
            have HNA:Hid (∀ i u,([.string p.next.read.1, .string p.next.read.2.read.1]:List Value)[i]? = some u → (w4.alloc (.cells #[.string p.next.read.1, .string p.next.read.2.read.1] 151)).cell? ((⟨w4.heap.size,0,none⟩:Addr).add i) = some u):=World.news_of_block (heap_alloc_new w4 _)
            refine hK.out _ _ ?_ (fun hHeld => ?_)
            · trivial
            clear hK K
            try simp only [Act.put,List.getElem_toArray,List.getElem_cons_zero,List.getElem_cons_succ,List.setIfInBounds_toArray,List.set_cons_zero,List.set_cons_succ]
            refine wpAnyH_ready (rs:=[8]) (by kernel_rfl) (by simp) ?_
            refine AllReadyH.cons rfl (fun K hK => ?_) AllReadyH.nil
            refine step_append_lies _ (by rfl) _ _ _ (by rfl) (JB + 1) 151 i0 (.agg #[.string { data:=#[] }, .string { data:=#[] }]) 2 32 Tryz.underlying79 hi hz0 hz1 hz2 rfl (by decide) av l.length (stCells l) (by rfl) hB5.row ⟨w4.heap.size,0,none⟩ 1 1 [.string p.next.read.1, .string p.next.read.2.read.1] (by rfl) (by rfl) HNA.out ONE.out (by decide) (by unfold maxLen; omega) (by omega) (by have:=hB5.lt.2; omega) _ rfl ?_
            intro g cap4 w5 hown5 hgrow5 hat5 hlt5
            have hS5:=hB5.box.grown hgrow5 (fun e => by have:=NBV.out _ e.symm; have:=hB5.lt.1; omega)
            have k5:=hS5.cell 4
            have g5:=hS5.free 4
            refine hK.out _ _ ?_ (fun hHeld => ?_)
            · trivial
            clear hK K
            try simp only [Act.put,List.getElem_toArray,List.getElem_cons_zero,List.getElem_cons_succ,List.setIfInBounds_toArray,List.set_cons_zero,List.set_cons_succ]
            refine wpAnyH_take (i:=9) (oi:=_) (v := ?_) rfl (by kernel_rfl) (by kernel_rfl) (by kernel_rfl) (fun _ _ _ h => h) (Or.inl ⟨by rfl, ?_⟩) (by assumption) ?_
            rotate_left
            · intro w' hSw
              (try dsimp only at hSw)
              go_simp
              try with_reducible rfl
            try simp only [Act.put,List.getElem_toArray,List.getElem_cons_zero,List.getElem_cons_succ,List.setIfInBounds_toArray,List.set_cons_zero,List.set_cons_succ]
            refine wpAnyH_ready (rs:=[10]) (by kernel_rfl) (by simp) ?_
            refine AllReadyH.cons rfl (fun K hK => ?_) AllReadyH.nil
            go_simp
            refine hK.out _ _ ?_ (fun hHeld => ?_)
            · trivial
            clear hK K
            try simp only [Act.put,List.getElem_toArray,List.getElem_cons_zero,List.getElem_cons_succ,List.setIfInBounds_toArray,List.set_cons_zero,List.set_cons_succ]
            refine wpAnyH_done (by kernel_rfl) ?_ _
            obtain ⟨hA6,hB6⟩:=tk_grown (s:=p.sta.1) hA4 hB4 (by omega) hgrow5 hown5
            have HA6:=Lib.hid hA6
            have HB6:=Lib.hid hB6
            clear hA6 hB6 hA4 hB4 hB5 hA3 hB3 hr3 hr4 hgrow5 hown5 hat5 hS5 k5 g5 c2 c3 c4 c5
            have hm0:=HM0.out
            go_wp2_with fail
            go_roundw
            case rel => exact ⟨mj - 1,l ++ [p.sta.1],p.sta.2,K1,_,by go_num,by omega,HA6.out,HB6.out,fun s hs => by
              rcases List.mem_append.1 hs with hs | hs
              · exact HFW.out s hs
              · rw [List.mem_singleton.1 hs]; exact HSZ.out.1,by rw [List.length_append,List.length_singleton]; omega,HSZ.out.2.2.2.2,HSZ.out.2.2.1,HSZ.out.2.2.2.1,HTX.out,HSZ.out.2.1,HST.out⟩
            case measure => have:=HM0.out; simp [intOf]; omega
          · go_simp
            have hB5:=hB4.fr (X:=fun _ => False) ((Fr.refl _ w4).alloc (.cells #[.string p.next.read.1, .string p.next.read.2.read.1] 151)) (fun _ h => h.elim)
            have c5:=hB5.box.cell 4
            have HNA:Hid (∀ i u,([.string p.next.read.1, .string p.next.read.2.read.1]:List Value)[i]? = some u → (w4.alloc (.cells #[.string p.next.read.1, .string p.next.read.2.read.1] 151)).cell? ((⟨w4.heap.size,0,none⟩:Addr).add i) = some u):=World.news_of_block (heap_alloc_new w4 _)
            refine hK.out _ _ ?_ (fun hHeld => ?_)
            · trivial
            clear hK K
            try simp only [Act.put,List.getElem_toArray,List.getElem_cons_zero,List.getElem_cons_succ,List.setIfInBounds_toArray,List.set_cons_zero,List.set_cons_succ]
            refine wpAnyH_ready (rs:=[1]) (by kernel_rfl) (by simp) ?_
            refine AllReadyH.cons rfl (fun K hK => ?_) AllReadyH.nil
            go_simp
            refine hK.out _ _ ?_ (fun hHeld => ?_)
            · trivial
            clear hK K
            try simp only [Act.put,List.getElem_toArray,List.getElem_cons_zero,List.getElem_cons_succ,List.setIfInBounds_toArray,List.set_cons_zero,List.set_cons_succ]
            refine wpAnyH_ready (rs:=[8]) (by kernel_rfl) (by simp) ?_
            refine AllReadyH.cons rfl (fun K hK => ?_) AllReadyH.nil
            refine step_append_lies _ (by rfl) _ _ _ (by rfl) (JB + 1) 151 i0 (.agg #[.string { data:=#[] }, .string { data:=#[] }]) 2 32 Tryz.underlying79 hi hz0 hz1 hz2 rfl (by decide) av l.length (stCells l) (by rfl) hB5.row ⟨w4.heap.size,0,none⟩ 1 1 [.string p.next.read.1, .string p.next.read.2.read.1] (by rfl) (by rfl) HNA.out ONE.out (by decide) (by unfold maxLen; omega) (by omega) (by have:=hB5.lt.2; omega) _ rfl ?_
            intro g cap4 w5 hown5 hgrow5 hat5 hlt5
            have hS5:=hB5.box.grown hgrow5 (fun e => by have:=NBV.out _ e.symm; have:=hB5.lt.1; omega)
            have k5:=hS5.cell 4
            have g5:=hS5.free 4
            refine hK.out _ _ ?_ (fun hHeld => ?_)
            · trivial
            clear hK K
            try simp only [Act.put,List.getElem_toArray,List.getElem_cons_zero,List.getElem_cons_succ,List.setIfInBounds_toArray,List.set_cons_zero,List.set_cons_succ]
            refine wpAnyH_take (i:=9) (oi:=_) (v := ?_) rfl (by kernel_rfl) (by kernel_rfl) (by kernel_rfl) (fun _ _ _ h => h) (Or.inl ⟨by rfl, ?_⟩) (by assumption) ?_
            rotate_left
            · intro w' hSw
              (try dsimp only at hSw)
              go_simp
              try with_reducible rfl
            try simp only [Act.put,List.getElem_toArray,List.getElem_cons_zero,List.getElem_cons_succ,List.setIfInBounds_toArray,List.set_cons_zero,List.set_cons_succ]
            refine wpAnyH_ready (rs:=[10]) (by kernel_rfl) (by simp) ?_
            refine AllReadyH.cons rfl (fun K hK => ?_) AllReadyH.nil
            go_simp
            refine hK.out _ _ ?_ (fun hHeld => ?_)
            · trivial
            clear hK K
            try simp only [Act.put,List.getElem_toArray,List.getElem_cons_zero,List.getElem_cons_succ,List.setIfInBounds_toArray,List.set_cons_zero,List.set_cons_succ]
            refine wpAnyH_done (by kernel_rfl) ?_ _
            obtain ⟨hA6,hB6⟩:=tk_grown (s:=p.sta.1) hA4 hB4 (by omega) hgrow5 hown5
            have HA6:=Lib.hid hA6
            have HB6:=Lib.hid hB6
            clear hA6 hB6 hA4 hB4 hB5 hA3 hB3 hr3 hr4 hgrow5 hown5 hat5 hS5 k5 g5 c2 c3 c4 c5
            have hm0:=HM0.out
            go_wp2_with fail
            go_roundw
            case rel => exact ⟨mj - 1,l ++ [p.sta.1],p.sta.2,K1,_,by go_num,by omega,HA6.out,HB6.out,fun s hs => by
              rcases List.mem_append.1 hs with hs | hs
              · exact HFW.out s hs
              · rw [List.mem_singleton.1 hs]; exact HSZ.out.1,by rw [List.length_append,List.length_singleton]; omega,HSZ.out.2.2.2.2,HSZ.out.2.2.1,HSZ.out.2.2.2.1,HTX.out,HSZ.out.2.1,HST.out⟩
            case measure => have:=HM0.out; simp [intOf]; omega
    · have hex:Rt.stas K mj l p = (l,p):=by
        obtain ⟨K1,rfl⟩:∃ K1,K = K1 + 1:=⟨K - 1,by omega⟩
        conv => lhs; rw [Rt.stas]
        rw [if_neg hgo]
      have HRS2:Hid (rawSv b = (⟨n,ct,J.1,l⟩,p.e)):=by show _ = _; rw [HRS.out, ← hst,hex]
      have hok:(Sv.mk n ct J.1 l).Ok:=by
        have:=raw_ok b (by omega)
        rw [HRS2.out] at this
        exact this
      have HTK:Hid (takeSv b = if p.e = 0 ∧ (putSv ⟨n,ct,J.1,l⟩).2 = 0 ∧ bstr (putSv ⟨n,ct,J.1,l⟩).1 = b then (⟨n,ct,J.1,l⟩,0) else (sv0,230)):=by
        show _ = _
        unfold takeSv
        rw [HRS2.out]
      have hat:SvAt wr (.agg (svC ⟨n,ct,J.1,l⟩ (.slice na J.1.nodes.length ncap) av)) ⟨n,ct,J.1,l⟩:=⟨_,_,rfl,hB.nodes.toAt (fun c hc => by have:=hB.lt.2; omega),(staRd_own hB.row).keep (fun _ k => k.2) (fun _ _ => rfl)⟩
      have HPT:=Lib.hid (SvPut_c ⟨n,ct,J.1,l⟩ hok ⟨by show l.length ≤ 1000000; omega,hfew⟩ _ wr hat)
      unfold svC at HPT
      obtain ⟨sa,sl,scap,rfl⟩:∃ a n c,av = .slice a n c:=by
        rcases hB.row.2 with ⟨rfl,_⟩ | ⟨g,cap,cur,rfl,_⟩ <;> exact ⟨_,_,_,rfl⟩
      have s0:=hB.box.cell 0
      have s1:=hB.box.cell 1
      have s2:=hB.box.cell 2
      have s3:=hB.box.cell 3
      have s4:=hB.box.cell 4
      have HA:=Lib.hid hA
      have HB:=Lib.hid hB
      have HAT:=Lib.hid hat
      clear hA hB hat hst hex hfu hlK hfew hok HRS HRS2
      generalize putSv ⟨n,ct,J.1,l⟩ = PV at *
      have hd:(decide (0 < mj) = true ∧ (p.e == 0) = false) ∨ decide (0 < mj) = false:=by
        by_cases hm:0 < mj
        · exact .inl ⟨decide_eq_true hm,by rw [beq_eq_false_iff_ne]; exact fun e => hgo ⟨hm,e⟩⟩
        · exact .inr (decide_eq_false hm)
      clear hgo
      rcases hd with ⟨d1,d2⟩ | d1
      all_goals
        go_upto_region 15 with (first | (go_at_call 42; refine HPT.out.mono ?_; rintro e w2 ⟨rfl,hb2⟩) | fail)
        have hA2:=HA.out.more hb2
        have e0:=hA2.r3.E.cell 0
        have HA2:=Lib.hid hA2
        have HB2:Hid (SvB w S JB n ct J.1.par (.slice na J.1.nodes.length ncap) J.1.nodes (.slice sa sl scap) l w2):=HB.out.fr (X:=fun _ => False) (Fr.of_new hb2) (fun _ h => h.elim)
        clear hA2 hb2 s0 s1 s2 s3 s4 HPT HAT HA HB
        clear d1
        (try clear d2)
        go_cut [75] (fun c wx => ∃ bb:Bool,c = .bool bb ∧ (bb = false ↔ (p.e = 0 ∧ PV.2 = 0 ∧ bstr PV.1 = b)) ∧ wx = w2)
        case first =>
          by_cases h1:p.e = 0
          · have d1:(p.e != 0) = false:=by simpa using h1
            by_cases h2:PV.2 = 0
            · have d2:(PV.2 != 0) = false:=by simpa using h2
              by_cases h3:bstr PV.1 = b
              · have e9:Hid (p.e = 0 ∧ PV.2 = 0 ∧ bstr PV.1 = b):=⟨h1,h2,h3⟩
                have d3:((bstr PV.1).toList == b.toList) = true:=by rw [eql_dec]; exact decide_eq_true h3
                have d4:((bstr PV.1).toList != b.toList) = false:=by rw [bne,d3]; rfl
                clear h1 h2 h3
                go_wp2_with fail
                go_meet
                exact ⟨false,rfl,⟨fun _ => e9.out,fun _ => rfl⟩,rfl⟩
              · have e9:Hid (¬ (p.e = 0 ∧ PV.2 = 0 ∧ bstr PV.1 = b)):=fun h => h3 h.2.2
                have d3:((bstr PV.1).toList == b.toList) = false:=by rw [eql_dec]; exact decide_eq_false h3
                have d4:((bstr PV.1).toList != b.toList) = true:=by rw [bne,d3]; rfl
                clear h1 h2 h3
                go_wp2_with fail
                go_meet
                exact ⟨true,rfl,⟨fun h => (by cases h),fun h => absurd h e9.out⟩,rfl⟩
            · have e9:Hid (¬ (p.e = 0 ∧ PV.2 = 0 ∧ bstr PV.1 = b)):=fun h => h2 h.2.1
              have d2:(PV.2 != 0) = true:=by simpa using h2
              clear h1 h2
              go_wp2_with fail
              go_meet
              exact ⟨true,rfl,⟨fun h => (by cases h),fun h => absurd h e9.out⟩,rfl⟩
          · have e9:Hid (¬ (p.e = 0 ∧ PV.2 = 0 ∧ bstr PV.1 = b)):=fun h => h1 h.1
            have d1:(p.e != 0) = true:=by simpa using h1
            clear h1
            go_wp2_with fail
            go_meet
            exact ⟨true,rfl,⟨fun h => (by cases h),fun h => absurd h e9.out⟩,rfl⟩
        case rest =>
          obtain ⟨bb,rfl,hbb,rfl⟩:=hcut
          clear e0
          have r0:=HA2.out.res.cell 0
          have r1:=HA2.out.res.cell 1
          have r2:=HA2.out.res.cell 2
          have r3:=HA2.out.res.cell 3
          have r4:=HA2.out.res.cell 4
          have f0:=HA2.out.res.free 0
          have f1:=HA2.out.res.free 1
          have f2:=HA2.out.res.free 2
          have f3:=HA2.out.res.free 3
          have f4:=HA2.out.res.free 4
          cases bb
          · have hG:=hbb.1 rfl
            have HTK2:Hid (takeSv b = (⟨n,ct,J.1,l⟩,0)):=by show _ = _; rw [HTK.out,if_pos hG]
            clear hG HTK hbb
            have s0:=HB2.out.box.cell 0
            have s1:=HB2.out.box.cell 1
            have s2:=HB2.out.box.cell 2
            have s3:=HB2.out.box.cell 3
            have s4:=HB2.out.box.cell 4
            have hres:=HA2.out.res
            have g2:Blk (((((wc.setCell ⟨w.heap.size,0,none⟩ (.int .i64 n)).setCell ⟨w.heap.size,1,none⟩ (.int .i64 ct)).setCell ⟨w.heap.size,2,none⟩ (.int .i64 J.1.par)).setCell ⟨w.heap.size,3,none⟩ (.slice na J.1.nodes.length ncap)).setCell ⟨w.heap.size,4,none⟩ (.slice sa sl scap)) w.heap.size 81 #[.int .i64 n, .int .i64 ct, .int .i64 J.1.par, .slice na J.1.nodes.length ncap, .slice sa sl scap]:=((((hres.set 0 (.int .i64 n)).set 1 (.int .i64 ct)).set 2 (.int .i64 J.1.par)).set 3 (.slice na J.1.nodes.length ncap)).set 4 (.slice sa sl scap)
            have hfr:Fr (fun i => i = w.heap.size) wc (((((wc.setCell ⟨w.heap.size,0,none⟩ (.int .i64 n)).setCell ⟨w.heap.size,1,none⟩ (.int .i64 ct)).setCell ⟨w.heap.size,2,none⟩ (.int .i64 J.1.par)).setCell ⟨w.heap.size,3,none⟩ (.slice na J.1.nodes.length ncap)).setCell ⟨w.heap.size,4,none⟩ (.slice sa sl scap)):=(((((Fr.refl (fun i => i = w.heap.size) wc).setCell (p:=⟨w.heap.size,0,none⟩) (.inl rfl) _).setCell (p:=⟨w.heap.size,1,none⟩) (.inl rfl) _).setCell (p:=⟨w.heap.size,2,none⟩) (.inl rfl) _).setCell (p:=⟨w.heap.size,3,none⟩) (.inl rfl) _).setCell (p:=⟨w.heap.size,4,none⟩) (.inl rfl) _
            clear hres
            go_wp2_with fail
            refine bodyPost_ret (v := .tuple #[.agg #[_,_,_,_,_],_]) (results_cell_row2P rfl _ _ w.heap.size 81 _ (0,0) _ rfl g2 Tryz.underlying81 rfl ?_ (.int .i64 0) rfl) rfl ?_
            · as_aux_lemma => kernel_rfl
            have hB5:=HB2.out.fr hfr (fun k e => by omega)
            rw [HTK2.out]
            exact ⟨⟨_,rfl,_,_,rfl,hB5.nodes.mono (fun c hc => by have:=hB5.lt.2; omega),(staRd_own hB5.row).keep (fun c hc => by have:=hB5.lt.1; omega) (fun _ _ => rfl)⟩,HA2.out.below.trans (hfr.below HA2.out.below.size (fun k hk e => by omega))⟩
          · have hG : ¬ (p.e = 0 ∧ PV.2 = 0 ∧ bstr PV.1 = b):=fun h => by have:=hbb.2 h; cases this
            have HTK2:Hid (takeSv b = (sv0,230)):=by show _ = _; rw [HTK.out,if_neg hG]
            clear hG HTK hbb
            have hres:=HA2.out.res
            have g2:Blk (((((wc.setCell ⟨w.heap.size,0,none⟩ (.int .i64 0)).setCell ⟨w.heap.size,1,none⟩ (.int .i64 0)).setCell ⟨w.heap.size,2,none⟩ (.int .i64 0)).setCell ⟨w.heap.size,3,none⟩ (.slice none 0 0)).setCell ⟨w.heap.size,4,none⟩ (.slice none 0 0)) w.heap.size 81 #[.int .i64 0, .int .i64 0, .int .i64 0, .slice none 0 0, .slice none 0 0]:=((((hres.set 0 (.int .i64 0)).set 1 (.int .i64 0)).set 2 (.int .i64 0)).set 3 (.slice none 0 0)).set 4 (.slice none 0 0)
            have hfr:Fr (fun i => i = w.heap.size) wc (((((wc.setCell ⟨w.heap.size,0,none⟩ (.int .i64 0)).setCell ⟨w.heap.size,1,none⟩ (.int .i64 0)).setCell ⟨w.heap.size,2,none⟩ (.int .i64 0)).setCell ⟨w.heap.size,3,none⟩ (.slice none 0 0)).setCell ⟨w.heap.size,4,none⟩ (.slice none 0 0)):=(((((Fr.refl (fun i => i = w.heap.size) wc).setCell (p:=⟨w.heap.size,0,none⟩) (.inl rfl) _).setCell (p:=⟨w.heap.size,1,none⟩) (.inl rfl) _).setCell (p:=⟨w.heap.size,2,none⟩) (.inl rfl) _).setCell (p:=⟨w.heap.size,3,none⟩) (.inl rfl) _).setCell (p:=⟨w.heap.size,4,none⟩) (.inl rfl) _
            clear hres
            go_wp2_with fail
            refine bodyPost_ret (v := .tuple #[.agg #[_,_,_,_,_],_]) (results_cell_row2P rfl _ _ w.heap.size 81 _ (0,0) _ rfl g2 Tryz.underlying81 rfl ?_ (.int .i64 230) rfl) rfl ?_
            · as_aux_lemma => kernel_rfl
            rw [HTK2.out]
            exact ⟨⟨_,rfl,_,_,rfl,NodesIn.nil _ _,StaRd.nil _ _⟩,HA2.out.below.trans (hfr.below HA2.out.below.size (fun k hk e => by omega))⟩
end Go.Proofs.YtpkijdkoiecpiaaGreatDoor

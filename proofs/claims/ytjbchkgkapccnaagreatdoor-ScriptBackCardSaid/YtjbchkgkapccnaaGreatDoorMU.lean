/-
  tell.Line.
  law11's tells and works; TellKnown's texts.
-/
import Derived.Test.YtjbchkgkapccnaaGreatDoorT2
import Derived.Lib.AppendIntMem
import Derived.Test.YtjbchkgkapccnaaGreatDoorMW
import Derived.Test.YtjbchkgkapccnaaGreatDoorMX

namespace Go.Proofs.YtjbchkgkapccnaaGreatDoor
open Go.RowKit
set_option linter.unusedVariables false

theorem args1 {l : List Ex} (h : l.length = 1) : ∃ a, l = [a] := by
  match l, h with
  | [a], _ => exact ⟨a, rfl⟩
theorem args2 {l : List Ex} (h : l.length = 2) : ∃ a c, l = [a, c] := by
  match l, h with
  | [a, c], _ => exact ⟨a, c, rfl⟩
theorem args3 {l : List Ex} (h : l.length = 3) : ∃ a c e, l = [a, c, e] := by
  match l, h with
  | [a, c, e], _ => exact ⟨a, c, e, rfl⟩

theorem line_all (B b : Nat) (t : TypeId) (pv : Value) (f : FuncId) (S : World → ByteArray → Prop) (H : Wr B b t pv f S) : ∀ h, LineIH B b t pv S h
  | 0 => fun y hy => absurd hy (Nat.not_lt_zero _)
  | h + 1 => by
    intro y hy v w k acc hok hmay hv hB hS hm
    have IH : Hid (LineIH B b t pv S y.ht) := Lib.hid (fun z hz => line_all B b t pv f S H h z (by omega))
    match k, hmay with
    | 0, hmay => simp [mayB] at hmay
    | k + 1, hmay =>
      simp only [mayB, Bool.and_eq_true] at hmay
      obtain ⟨hs, hl⟩ := hmay
      have hs' := of_decide_eq_true hs
      have hon : 0 ≤ y.op ∧ -9223372036854775808 ≤ y.n ∧ y.n ≤ 9223372036854775807 ∧ Exs.ok y.args := by
        obtain ⟨o, n, l⟩ := y
        simp only [Ex.ok] at hok
        exact ⟨hok.1, hok.2.2.1, hok.2.2.2.1, hok.2.2.2.2⟩
      obtain ⟨ho0, hn0, hn1, hoa⟩ := hon
      have hmm : ∀ a ∈ y.args, a.ok ∧ mayB k a = true := fun a ha => ⟨Exs.ok_mem _ hoa a ha, List.all_eq_true.1 hl a ha⟩
      have hmn := hs'.1
      unfold manyN at hmn
      by_cases c1 : y.op = 1
      · exact line_num B b t pv f S H y v w acc hv hB hS hm c1 hs'.2.1 hn1
      by_cases c2 : y.op = 2 ∨ y.op = 3 ∨ y.op = 4
      · exact line_name B b t pv f S H y v w acc hv hB hS hm c2
      by_cases c0 : y.op = 0 ∨ 18 < y.op
      · rw [if_pos c0] at hmn; omega
      rw [if_neg c0, if_neg (by omega)] at hmn
      by_cases c5 : y.op = 5 ∨ y.op = 6
      · rw [if_pos (by omega)] at hmn
        obtain ⟨a, ha⟩ := args1 (by omega : y.args.length = 1)
        have m1 := hmm a (by simp [ha])
        exact line_neg B b t pv f S H y a IH v w k acc hv hB hS hm c5 ha m1.1 m1.2
      rw [if_neg (by omega)] at hmn
      by_cases c6 : y.op = 18
      · rw [if_pos c6] at hmn
        obtain ⟨a, c, e, ha⟩ := args3 (by omega : y.args.length = 3)
        have m1 := hmm a (by simp [ha])
        have m2 := hmm c (by simp [ha])
        have m3 := hmm e (by simp [ha])
        exact line_if B b t pv f S H y a c e IH v w k acc hv hB hS hm c6 ha m1.1 m1.2 m2.1 m2.2 m3.1 m3.2
      · rw [if_neg c6] at hmn
        obtain ⟨a, c, ha⟩ := args2 (by omega : y.args.length = 2)
        have m1 := hmm a (by simp [ha])
        have m2 := hmm c (by simp [ha])
        exact line_two B b t pv f S H y a c IH v w k acc hv hB hS hm (by omega) (by omega) ha m1.1 m1.2 m2.1 m2.2

/-- The table stands whatever is laid above B. -/
def TB (B : Nat) (w : World) : Prop := ∀ w', Below B w w' → Pow10 w'
theorem TB.below {B : Nat} {w w' : World} (h : TB B w) (hb : Below B w w') : TB B w' := fun w'' h2 => h w'' (hb.trans h2)
theorem TB.mono {B C : Nat} {w : World} (h : TB B w) (hC : B ≤ C) : TB C w := fun w' hb => h w' (hb.mono hC)
theorem TB.here {B : Nat} {w : World} (h : TB B w) : Pow10 w := h w (Below.refl _ _)
theorem TB.of {w : World} (h : Pow10 w) : TB w.heap.size w := Lib.tabBelow_of_tabIs h

theorem count_wr (B b : Nat) (hB : B ≤ b) : Wr B b 97 (.pointer (some ⟨b, 0, none⟩)) 196 (fun w acc => CtAt w b acc.size ∧ TB B w) where
  md := fun w => by kernel_rfl
  na := fun w => by kernel_rfl
  eg := enters_of Tryz.func196 (by kernel_rfl) rfl
  part := by
    rintro acc s w ⟨hS, hT⟩ hBw hm
    refine (cpart_c B b acc.size s w hS hB hm).mono ?_
    rintro e w' ⟨rfl, h1, h2⟩
    exact ⟨rfl, ⟨by rw [ByteArray.size_append]; exact h1, hT.below h2.below⟩, h2⟩
  keep := by
    rintro w w' acc ⟨hS, hT⟩ hb
    have hlt := Blk.lt hS
    exact ⟨Blk.below hS hb hlt, hT.below (hb.mono (by omega))⟩
  lt := fun w acc h => Blk.lt h.1
  tab := fun w acc h => h.2.here

theorem text_wr (B b : Nat) (hB : B ≤ b) : Wr B b 100 (.pointer (some ⟨b, 0, none⟩)) 197 (fun w acc => TtAt w B b acc ∧ TB B w) where
  md := fun w => by kernel_rfl
  na := fun w => by kernel_rfl
  eg := enters_of Tryz.func197 (by kernel_rfl) rfl
  part := by
    rintro acc s w ⟨hS, hT⟩ hBw hm
    refine (tpart_c B b acc s w hS hBw hm).mono ?_
    rintro e w' ⟨rfl, h1, h2⟩
    exact ⟨rfl, ⟨h1, hT.below h2.below⟩, h2⟩
  keep := by
    rintro w w' acc ⟨hS, hT⟩ hb
    have go : ∀ p, Lib.BuilderAtF 99 5 B b p (Lib.byteCells acc.data.toList) w → Lib.BuilderAtF 99 5 B b p (Lib.byteCells acc.data.toList) w' ∧ b < w.heap.size := by
      rintro p h
      have hlt := h.lt
      obtain ⟨h0, v, h1, h2, h3⟩ := h
      exact ⟨⟨h0, v, (hb.block b hlt).trans h1, h2.kept (row := none) ⟨hb.os, hb.tape, hb.output, hb.size, fun k hk _ => hb.block k hk⟩ (by
        rcases h2.2 with ⟨rfl, _⟩ | ⟨g, cap, cur, fz, rfl, _⟩
        · exact .inl rfl
        · exact .inr (by simp [Value.ownBlock])), h3⟩, hlt⟩
    rcases hS with h | h
    · exact ⟨.inl (go _ h).1, hT.below (hb.mono (by have := (go _ h).2; omega))⟩
    · exact ⟨.inr (go _ h).1, hT.below (hb.mono (by have := (go _ h).2; omega))⟩
  lt := fun w acc h => by rcases h.1 with h | h <;> exact h.lt
  tab := fun w acc h => h.2.here

theorem line_pos (x : Ex) : 0 < x.line.size := by
  rw [Ex.line_eq]
  unfold lineOp
  have e1 : kwOpen.size = 1 := rfl
  have e2 : kwShut.size = 1 := rfl
  have e7 : kwKey.size = 3 := rfl
  have e8 : kwVal.size = 3 := rfl
  have e9 : kwAcc.size = 3 := rfl
  split
  · rw [decB_size]
    rw [Lib.decDigits]
    split <;> simp
  · repeat' split
    all_goals first | omega | (simp only [ByteArray.size_append]; omega)

/-- What tell.Line answers. -/
def Ex.told (x : Ex) : ByteArray × Int := if x.mayT = true then (if 400 < x.line.size then (.empty, 110) else (x.line, 0)) else (.empty, 2)

set_option maxRecDepth 100000 in
set_option maxHeartbeats 2000000 in
theorem Line_c (x : Ex) (v : Value) (w : World) (hok : x.ok) (hv : ExAt w w.heap.size v x) (hT : TB w.heap.size w) :
    Calls Tryz.prog 23 #[v] w fun e w' => e = .returned (.tuple #[.string x.told.1, .int .i64 x.told.2]) ∧ Below w.heap.size w w' := by
  obtain ⟨sv, rfl, hs⟩ := hv
  have HV : Hid (ExAt w w.heap.size (.agg #[.int .u8 x.op, .int .i64 x.n, sv]) x) := ⟨_, rfl, hs⟩
  obtain ⟨ad, cap, rfl, hcap, hmx⟩ := hs.slice
  clear hs
  have hb1 : Below w.heap.size w (w.alloc (.cells #[.int .u8 x.op, .int .i64 x.n, .slice ad x.args.length cap] 47)) := (Below.refl _ _).alloc (Nat.le_refl _) _
  have hk1 := Blk.new w #[.int .u8 x.op, .int .i64 x.n, .slice ad x.args.length cap] 47
  have hz1 : (w.alloc (.cells #[.int .u8 x.op, .int .i64 x.n, .slice ad x.args.length cap] 47)).heap.size = w.heap.size + 1 := by simp
  have HOK := Lib.hid hok
  have HT := Lib.hid hT
  clear hok hT
  have HM : Hid (∀ W, Below w.heap.size w W → Calls Tryz.prog 54 #[.agg #[.int .u8 x.op, .int .i64 x.n, .slice ad x.args.length cap]] W fun e w' => e = .returned (.bool x.mayT) ∧ Below W.heap.size W w') := fun W hb => May_c x _ w.heap.size W (HV.out.keep hb) hb.size
  have HLN : Hid (∀ (b : Nat) (t : TypeId) (pv : Value) (f : FuncId) (S : World → ByteArray → Prop), Wr (w.heap.size + 1) b t pv f S → x.mayT = true → ∀ W, Below w.heap.size w W → w.heap.size + 1 ≤ W.heap.size → S W .empty →
      Calls Tryz.prog 55 #[.iface t pv, .agg #[.int .u8 x.op, .int .i64 x.n, .slice ad x.args.length cap]] W fun e w' => e = .returned (.tuple #[]) ∧ S w' x.line ∧ WF (w.heap.size + 1) b W w') := by
    intro b t pv f S H hmay W hb hB hS
    have h9 := line_size 16 x HOK.out hmay
    refine (line_all (w.heap.size + 1) b t pv f S H (x.ht + 1) x (by omega) _ W 16 .empty HOK.out hmay ((HV.out.keep hb).mono (by omega)) hB hS ?_).mono ?_
    · have e0 : ByteArray.empty.size = 0 := rfl
      rw [e0]
      have e1 : 4 ^ 16 = 4294967296 := by decide
      rw [e1] at h9
      omega
    · intro e w' h
      rwa [ByteArray.empty_append] at h
  have hln : x.line.data.toList ≠ [] := by
    have hpos := line_pos x
    intro h
    have h0 : x.line.size = 0 := by
      show x.line.data.size = 0
      rw [← Array.length_toList, h]
      rfl
    omega
  have HE : Hid (x.told = if x.mayT = true then (if 400 < x.line.size then (.empty, 110) else (x.line, 0)) else (.empty, 2)) := rfl
  generalize x.told = td at *
  generalize x.mayT = mb at *
  generalize x.line = ln at *
  generalize x.op = o at *
  generalize x.n = n at *
  generalize x.args.length = l at *
  clear hcap hmx HOK HV
  go_enter Tryz.func23, Tryz.ntmps23
  go_upto_region 1 with fail
  generalize World.alloc w _ = W1 at *
  have p0 := hk1.cell 0
  have p1 := hk1.cell 1
  have p2 := hk1.cell 2
  go_wp2_with fail
  refine (HM.out W1 hb1).mono ?_
  rintro e w2 ⟨rfl, hq⟩
  have hk2 := hk1.below hq hk1.lt
  have hb2 := hb1.trans (hq.mono hb1.size)
  have hz2 : w.heap.size + 1 ≤ w2.heap.size := by have := hq.size; omega
  clear p0 p1 p2
  cases mb with
  | false =>
    have he : td = (.empty, 2) := HE.out
    subst he
    go_wp2_with fail
    go_ret2
    exact ⟨rfl, hb2⟩
  | true =>
    have he : td = if 400 < ln.size then (.empty, 110) else (ln, 0) := HE.out
    have hb3 : Below w.heap.size w (w2.alloc (.cells #[.int .i64 0] 95)) := hb2.alloc (by omega) _
    have hk3 := hk2.alloc (.cells #[.int .i64 0] 95)
    have hc3 : CtAt (w2.alloc (.cells #[.int .i64 0] 95)) w2.heap.size 0 := Blk.new _ _ _
    have hz3 : w.heap.size + 1 ≤ (w2.alloc (.cells #[.int .i64 0] 95)).heap.size := by simp; omega
    go_upto_region 4 with fail
    generalize World.alloc w2 _ = W3 at *
    have hcall := HLN.out w2.heap.size _ _ _ _ (count_wr (w.heap.size + 1) w2.heap.size hz2) (by trivial) W3 hb3 hz3 ⟨hc3, (HT.out.below hb3).mono (by omega)⟩
    have HC := Lib.hid hcall
    have p0 := hk3.cell 0
    have p1 := hk3.cell 1
    have p2 := hk3.cell 2
    clear hcall
    go_wp2_with fail
    refine HC.out.mono ?_
    rintro e w4 ⟨rfl, ⟨h1, _⟩, h2⟩
    have hne : w.heap.size ≠ w2.heap.size := by omega
    have hk4 := h2.blk hk3 hne (by decide)
    have hb4 := hb3.trans (h2.below.mono (by omega))
    have hz4 := Nat.le_trans hz3 h2.size
    have c0 := Blk.cell h1 0
    clear p0 p1 p2 HC
    have hr : Fr (fun _ => False) w4 w4 := Fr.refl _ _
    by_cases hg : 400 < ln.size
    · have g1 : decide ((400 : Int) < (ln.size : Int)) = true := by rw [decide_eq_true_eq]; omega
      have g2 : decide (400 < ln.size) = true := by rw [decide_eq_true_eq]; omega
      rw [if_pos hg] at he
      subst he
      go_wp2_with fail
      go_ret2
      exact ⟨rfl, hb4⟩
    · have g1 : decide ((400 : Int) < (ln.size : Int)) = false := by rw [decide_eq_false_iff_not]; omega
      have g2 : decide (400 < ln.size) = false := by rw [decide_eq_false_iff_not]; omega
      rw [if_neg hg] at he
      subst he
      have hb5 : Below w.heap.size w (w4.alloc (.cells #[.pointer none, .slice none 0 0] 99)) := hb4.alloc (by omega) _
      have hk5 := hk4.alloc (.cells #[.pointer none, .slice none 0 0] 99)
      have hc5 : TtAt (w4.alloc (.cells #[.pointer none, .slice none 0 0] 99)) (w.heap.size + 1) w4.heap.size .empty :=
        .inl ⟨hz4, _, Blk.new _ _ _, World.ownsRowF_nil _ _ _ _, by simp [Value.ownBlock]⟩
      have hz5 : w.heap.size + 1 ≤ (w4.alloc (.cells #[.pointer none, .slice none 0 0] 99)).heap.size := by simp; omega
      go_upto_region 8 with fail
      generalize World.alloc w4 _ = W5 at *
      have hcall := HLN.out w4.heap.size _ _ _ _ (text_wr (w.heap.size + 1) w4.heap.size hz4) (by trivial) W5 hb5 hz5 ⟨hc5, (HT.out.below hb5).mono (by omega)⟩
      have HC := Lib.hid hcall
      have p0 := hk5.cell 0
      have p1 := hk5.cell 1
      have p2 := hk5.cell 2
      clear hcall c0 g1 g2
      go_wp2_with fail
      refine HC.out.mono ?_
      rintro e w6 ⟨rfl, ⟨h1, _⟩, h2⟩
      have hb6 := hb5.trans (h2.below.mono (by omega))
      have hstr := bstr_c (w.heap.size + 1) w4.heap.size ln.data.toList w6 h1 hln
      have HS := Lib.hid hstr
      clear hstr p0 p1 p2 HC h1 h2
      go_wp2_with fail
      refine HS.out.mono ?_
      rintro e w7 ⟨rfl, h7⟩
      go_wp2_with fail
      go_ret2
      exact ⟨rfl, hb6.trans (h7.mono (by omega))⟩

end Go.Proofs.YtjbchkgkapccnaaGreatDoor

namespace Go.Proofs.YtjbchkgkapccnaaGreatDoor
open Go.RowKit
set_option linter.unusedVariables false

/-- The line of a text's expression. -/
def tellsB (s : ByteArray) : ByteArray := (parse s).1.told.1

theorem dec_small {n : Nat} (h : n < 10) : decB n = { data := #[UInt8.ofNat (48 + n)] } := by
  unfold decB
  rw [Lib.decDigits_one h]

def tx1 : ByteArray := { data := #[49, 32, 43, 32, 50, 32, 42, 32, 107, 101, 121] }
def ln1 : ByteArray := { data := #[40, 49, 32, 43, 32, 40, 50, 32, 42, 32, 107, 101, 121, 41, 41] }
theorem told_of {x : Ex} {l : ByteArray} (h : x.mayT = true) (hl : x.line = l) (hs : l.size ≤ 400) : x.told.1 = l := by
  unfold Ex.told
  rw [if_pos h, hl, if_neg (by omega)]
theorem tells1 : tellsB tx1 = ln1 := by
  unfold tellsB
  have h : (parse tx1).1 = .mk 7 0 [(.mk 1 1 []), (.mk 9 0 [(.mk 1 2 []), (.mk 2 0 [])])] := by kernel_rfl
  rw [h]
  refine told_of (by kernel_rfl) ?_ (by decide)
  simp only [Ex.line, Exs.lines]
  have e1 : lineOp 1 1 [] = decB 1 := rfl
  have e2 : lineOp 1 2 [] = decB 2 := rfl
  rw [e1, e2, dec_small (by omega), dec_small (by omega)]
  rfl

def sameT (a b : ByteArray) : Bool := decide ((parse a).2.2 = 0) && (decide ((parse b).2.2 = 0) && (parse a).1.sameB (parse b).1)

end Go.Proofs.YtjbchkgkapccnaaGreatDoor

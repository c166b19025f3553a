/-
  Bytes that are read, and the first error (plain); the walks of pack.Take's small closures.
  The walk of pack.Take's closure that reads expressions.
  The walk of pack.Take's closure that reads expressions: a step.
-/
import Derived.Test.YtfieoehchghiiaaC0
import Derived.Test.YtfieoehchghiiaaKB
import Derived.Test.YtfieoehchghiiaaVJ
import Derived.Deep.RegionHeld3
import Derived.Deep.AppendLies

namespace Go.Proofs.Ytfieoehchghiiaa
open Go.RowKit
set_option linter.unusedVariables false

/-- What is left, and the first error. -/
structure Rd where
  s : ByteArray
  e : Int
def Rd.fail (p : Rd) (why : Int) : Rd := if p.e = 0 then ⟨p.s, why⟩ else p
def Rd.cut (p : Rd) (n : Int) : ByteArray := p.s.extract n.toNat p.s.size
def Rd.num (p : Rd) : Int × Rd := if p.e = 0 then ((takeS p.s).1, ⟨p.cut (takeS p.s).2.1, (takeS p.s).2.2⟩) else (0, p)
def Rd.many (most : Int) (p : Rd) : Int × Rd := if p.num.1 < 0 ∨ most < p.num.1 then (0, p.num.2.fail 3) else p.num
def Rd.small (p : Rd) : Int × Rd := (p.num.1 % 256, if p.num.1 < 0 ∨ 255 < p.num.1 then p.num.2.fail 2 else p.num.2)
def Rd.text (p : Rd) : ByteArray × Rd := if p.e = 0 then ((takeT p.s).1, ⟨p.cut (takeT p.s).2.1, (takeT p.s).2.2⟩) else (.empty, p)

theorem cut_size (s : ByteArray) (n : Nat) : (s.extract n s.size).size ≤ s.size := by rw [ByteArray.size_extract]; omega
theorem Rd.num_size (p : Rd) : p.num.2.s.size ≤ p.s.size := by
  unfold Rd.num
  split
  · exact cut_size _ _
  · exact Nat.le_refl _
theorem Rd.fail_s (p : Rd) (why : Int) : (p.fail why).s = p.s := by unfold Rd.fail; split <;> rfl
theorem takeS_size (s : ByteArray) : ∃ k : Nat, (takeS s).2.1 = (k : Int) ∧ k ≤ s.size ∧ -9223372036854775808 ≤ (takeS s).1 ∧ (takeS s).1 ≤ 9223372036854775807 := by
  by_cases h : (takeS s).2.2 = 0
  · have e : tkGo 0 0 s.data.toList = ((takeS s).1, (takeS s).2.1, 0) := by rw [← h]; rfl
    obtain ⟨k, h1, h2, _, _, h5, h6⟩ := take_back e
    exact ⟨k, h1, by rw [← Lib.size_eq] at h2; exact h2, h5, h6⟩
  · obtain ⟨h1, h2⟩ := tkGo_err s.data.toList 0 0 h
    refine ⟨0, h2, Nat.zero_le _, ?_⟩
    have : (takeS s).1 = 0 := h1
    omega
theorem Rd.num_ir (p : Rd) : -9223372036854775808 ≤ p.num.1 ∧ p.num.1 ≤ 9223372036854775807 := by
  unfold Rd.num
  split
  · obtain ⟨k, _, _, h3, h4⟩ := takeS_size p.s
    exact ⟨h3, h4⟩
  · dsimp only; omega
theorem takeT_size (s : ByteArray) : ∃ k : Nat, (takeT s).2.1 = (k : Int) ∧ k ≤ s.size := by
  obtain ⟨k, h1, h2, h3, h4⟩ := takeS_size s
  unfold takeT
  repeat' split
  · exact ⟨0, rfl, Nat.zero_le _⟩
  · exact ⟨0, rfl, Nat.zero_le _⟩
  · exact ⟨0, rfl, Nat.zero_le _⟩
  · exact ⟨0, rfl, Nat.zero_le _⟩
  · refine ⟨k + (takeS s).1.toNat, ?_, ?_⟩
    · dsimp only; omega
    · omega

/-- The blocks of what is left and of the error. -/
structure PS (w : World) (be bs : Nat) (p : Rd) : Prop where
  E : Blk w be 27 #[.int .i64 p.e]
  S : Blk w bs 9 #[.string p.s]
def FrS (be bs : Nat) : Nat → Prop := fun k => k = be ∨ k = bs
def failsV (be : Nat) : Value := .func (.func 43) #[] #[.pointer (some ⟨be, 0, none⟩)]
def numberV (be bs bf : Nat) : Value := .func (.func 44) #[] #[.pointer (some ⟨be, 0, none⟩), .pointer (some ⟨bs, 0, none⟩), .pointer (some ⟨bf, 0, none⟩)]
/-- A box of a function's value. -/
def Bx (w : World) (b : Nat) (v : Value) : Prop := ∃ t, Blk w b t #[v]
theorem Bx.cell {w : World} {b : Nat} {v : Value} (h : Bx w b v) : w.cell? ⟨b, 0, none⟩ = some v := by obtain ⟨t, h⟩ := h; rw [h.cell 0]; rfl
theorem Bx.fr {w w' : World} {b : Nat} {v : Value} {S : Nat → Prop} (h : Bx w b v) (hf : Fr S w w') (hs : ¬ S b) : Bx w' b v := let ⟨t, h⟩ := h; ⟨t, h.fr hf hs⟩
theorem Bx.alloc {w : World} {b : Nat} {v : Value} (h : Bx w b v) (o : Obj) : Bx (w.alloc o) b v := let ⟨t, h⟩ := h; ⟨t, h.alloc o⟩
theorem Bx.lt {w : World} {b : Nat} {v : Value} (h : Bx w b v) : b < w.heap.size := let ⟨t, h⟩ := h; h.lt

set_option maxHeartbeats 1000000 in
theorem pfails_c (be bs : Nat) (hne : be ≠ bs) (p : Rd) (why : Int) (w : World) (h : PS w be bs p) :
    Calls Try.prog 43 #[.int .i64 why, .pointer (some ⟨be, 0, none⟩)] w fun e w' => e = .returned (.tuple #[]) ∧ PS w' be bs (p.fail why) ∧ Fr (FrS be bs) w w' := by
  have c0 := h.E.cell 0
  have f0 := h.E.free 0
  by_cases he : p.e = 0
  · have he' : (p.e == 0) = true := by simpa using he
    have hf : p.fail why = ⟨p.s, why⟩ := by unfold Rd.fail; rw [if_pos he]
    rw [hf]
    go_enter Try.func43, Try.ntmps43
    go_wp2_with fail
    go_end0
    exact ⟨rfl, ⟨h.E.set 0 _, h.S.other (p := ⟨be, 0, none⟩) (Ne.symm hne) _⟩, (Fr.refl _ w).setCell (p := ⟨be, 0, none⟩) (.inl (.inl rfl)) _⟩
  · have he' : (p.e == 0) = false := by simpa using he
    have hf : p.fail why = p := by unfold Rd.fail; rw [if_neg he]
    rw [hf]
    go_enter Try.func43, Try.ntmps43
    go_wp2_with fail
    go_end0
    exact ⟨rfl, h, Fr.refl _ w⟩

set_option maxHeartbeats 1000000 in
theorem pnumber_c (be bs bf : Nat) (hne : be ≠ bs) (p : Rd) (hs : p.s.size ≤ 140737488355328) (w : World) (h : PS w be bs p) (hb : Bx w bf (failsV be)) :
    Calls Try.prog 44 #[.pointer (some ⟨be, 0, none⟩), .pointer (some ⟨bs, 0, none⟩), .pointer (some ⟨bf, 0, none⟩)] w fun e w' => e = .returned (.int .i64 p.num.1) ∧ PS w' be bs p.num.2 ∧ Fr (FrS be bs) w w' := by
  have b0 := hb.cell
  unfold failsV at b0
  have c0 := h.E.cell 0
  have d0 := h.S.cell 0
  by_cases he : p.e = 0
  · have he' : (p.e != 0) = false := by simpa using he
    have hf : p.num = ((takeS p.s).1, ⟨p.cut (takeS p.s).2.1, (takeS p.s).2.2⟩) := by unfold Rd.num; rw [if_pos he]
    obtain ⟨k, hk, hks, _, _⟩ := takeS_size p.s
    have HTK : Hid (∀ W : World, Calls Try.prog 45 #[.string p.s] W fun e w' => e = .returned (.tuple #[.int .i64 (takeS p.s).1, .int .i64 (takeS p.s).2.1, .int .i64 (takeS p.s).2.2]) ∧ W = w') := fun W => Take_c p.s hs W
    rw [hf]
    unfold Rd.cut
    rw [hk] at HTK ⊢
    generalize (takeS p.s).1 = n at *
    generalize (takeS p.s).2.2 = er at *
    have HFL := Lib.hid (pfails_c be bs hne p er w h)
    have hpf : p.fail er = ⟨p.s, er⟩ := by unfold Rd.fail; rw [if_pos he]
    rw [hpf] at HFL
    clear hf hpf hk
    go_enter Try.func44, Try.ntmps44
    go_wp2_with fail
    refine (HTK.out _).mono ?_
    rintro e w1 ⟨rfl, rfl⟩
    go_wp2_with fail
    refine HFL.out.mono ?_
    rintro e w2 ⟨rfl, h2, hf2⟩
    clear c0 d0
    have d0 := h2.S.cell 0
    have f0 := h2.S.free 0
    go_wp2_with fail
    go_ret
    exact ⟨rfl, ⟨h2.E.other (p := ⟨bs, 0, none⟩) hne _, h2.S.set 0 _⟩, hf2.setCell (p := ⟨bs, 0, none⟩) (.inl (.inr rfl)) _⟩
  · have he' : (p.e != 0) = true := by simpa using he
    have hf : p.num = (0, p) := by unfold Rd.num; rw [if_neg he]
    rw [hf]
    go_enter Try.func44, Try.ntmps44
    go_wp2_with fail
    go_ret
    exact ⟨rfl, h, Fr.refl _ w⟩

/-- The boxes of the small closures. -/
structure Cl (w : World) (be bs bf bn : Nat) : Prop where
  F : Bx w bf (failsV be)
  N : Bx w bn (numberV be bs bf)
  ne : be ≠ bs
  f1 : bf ≠ be
  f2 : bf ≠ bs
  n1 : bn ≠ be
  n2 : bn ≠ bs
theorem Cl.fr {w w' : World} {be bs bf bn : Nat} (h : Cl w be bs bf bn) (hf : Fr (FrS be bs) w w') : Cl w' be bs bf bn :=
  ⟨h.F.fr hf (fun q => by rcases q with q | q; exact h.f1 q; exact h.f2 q), h.N.fr hf (fun q => by rcases q with q | q; exact h.n1 q; exact h.n2 q), h.ne, h.f1, h.f2, h.n1, h.n2⟩
theorem Cl.alloc {w : World} {be bs bf bn : Nat} (h : Cl w be bs bf bn) (o : Obj) : Cl (w.alloc o) be bs bf bn := ⟨h.F.alloc o, h.N.alloc o, h.ne, h.f1, h.f2, h.n1, h.n2⟩
theorem PS.alloc {w : World} {be bs : Nat} {p : Rd} (h : PS w be bs p) (o : Obj) : PS (w.alloc o) be bs p := ⟨h.E.alloc o, h.S.alloc o⟩

set_option maxHeartbeats 1000000 in
theorem many_cP (be bs bf bn : Nat) (most : Int) (p : Rd) (hs : p.s.size ≤ 140737488355328) (w : World) (h : PS w be bs p) (hc : Cl w be bs bf bn) :
    Calls Try.prog 46 #[.int .i64 most, .pointer (some ⟨bn, 0, none⟩), .pointer (some ⟨bf, 0, none⟩)] w fun e w' => e = .returned (.int .i64 (p.many most).1) ∧ PS w' be bs (p.many most).2 ∧ Fr (FrS be bs) w w' := by
  have HN := Lib.hid (pnumber_c be bs bf hc.ne p hs w h hc.F)
  have hir := p.num_ir
  have HE : Hid (p.many most = if p.num.1 < 0 ∨ most < p.num.1 then (0, p.num.2.fail 3) else p.num) := rfl
  generalize p.many most = R at *
  generalize p.num = q at *
  obtain ⟨n, p2⟩ := q
  dsimp only at HE HN hir
  have b0 := hc.N.cell
  unfold numberV at b0
  by_cases hbad : n < 0 ∨ most < n
  · have HR : Hid (R = (0, p2.fail 3)) := by show _ = _; rw [HE.out, if_pos hbad]
    clear HE
    have hd : decide (n < 0) = true ∨ (decide (n < 0) = false ∧ decide (most < n) = true) := by
      by_cases h1 : n < 0
      · left; exact decide_eq_true h1
      · right; exact ⟨decide_eq_false h1, decide_eq_true (by omega)⟩
    clear hbad
    rcases hd with d1 | ⟨d1, d2⟩
    all_goals
      go_enter Try.func46, Try.ntmps46
      go_wp2_with fail
      refine HN.out.mono ?_
      rintro e w1 ⟨rfl, h1, hf1⟩
      have hc1 := hc.fr hf1
      have g0 := hc1.F.cell
      unfold failsV at g0
      clear b0
      go_wp2_with fail
      refine (pfails_c be bs hc.ne p2 3 w1 h1).mono ?_
      rintro e w2 ⟨rfl, h2, hf2⟩
      go_wp2_with fail
      go_ret
      rw [HR.out]
      exact ⟨rfl, h2, hf1.trans hf2⟩
  · have HR : Hid (R = (n, p2)) := by show _ = _; rw [HE.out, if_neg hbad]
    clear HE
    have d1 : decide (n < 0) = false := decide_eq_false (by omega)
    have d2 : decide (most < n) = false := decide_eq_false (by omega)
    clear hbad
    go_enter Try.func46, Try.ntmps46
    go_wp2_with fail
    refine HN.out.mono ?_
    rintro e w1 ⟨rfl, h1, hf1⟩
    clear b0
    go_wp2_with fail
    go_ret
    rw [HR.out]
    exact ⟨rfl, h1, hf1⟩

set_option maxHeartbeats 1000000 in
theorem small_cP (be bs bf bn : Nat) (p : Rd) (hs : p.s.size ≤ 140737488355328) (w : World) (h : PS w be bs p) (hc : Cl w be bs bf bn) :
    Calls Try.prog 47 #[.pointer (some ⟨bn, 0, none⟩), .pointer (some ⟨bf, 0, none⟩)] w fun e w' => e = .returned (.int .u8 p.small.1) ∧ PS w' be bs p.small.2 ∧ Fr (FrS be bs) w w' := by
  have HN := Lib.hid (pnumber_c be bs bf hc.ne p hs w h hc.F)
  have hir := p.num_ir
  have HE : Hid (p.small = (p.num.1 % 256, if p.num.1 < 0 ∨ 255 < p.num.1 then p.num.2.fail 2 else p.num.2)) := rfl
  generalize p.small = R at *
  generalize p.num = q at *
  obtain ⟨n, p2⟩ := q
  dsimp only at HE HN hir
  have b0 := hc.N.cell
  unfold numberV at b0
  by_cases hbad : n < 0 ∨ 255 < n
  · have HR : Hid (R = (n % 256, p2.fail 2)) := by show _ = _; rw [HE.out, if_pos hbad]
    clear HE
    have hd : decide (n < 0) = true ∨ (decide (n < 0) = false ∧ decide (255 < n) = true) := by
      by_cases h1 : n < 0
      · left; exact decide_eq_true h1
      · right; exact ⟨decide_eq_false h1, decide_eq_true (by omega)⟩
    clear hbad
    rcases hd with d1 | ⟨d1, d2⟩
    all_goals
      go_enter Try.func47, Try.ntmps47
      go_wp2_with fail
      refine HN.out.mono ?_
      rintro e w1 ⟨rfl, h1, hf1⟩
      have hc1 := hc.fr hf1
      have g0 := hc1.F.cell
      unfold failsV at g0
      clear b0
      go_wp2_with fail
      refine (pfails_c be bs hc.ne p2 2 w1 h1).mono ?_
      rintro e w2 ⟨rfl, h2, hf2⟩
      go_wp2_with fail
      go_ret
      rw [HR.out]
      exact ⟨ret_int (wrap_u8B n), h2, hf1.trans hf2⟩
  · have HR : Hid (R = (n % 256, p2)) := by show _ = _; rw [HE.out, if_neg hbad]
    clear HE
    have d1 : decide (n < 0) = false := decide_eq_false (by omega)
    have d2 : decide (255 < n) = false := decide_eq_false (by omega)
    have hn : n % 256 = n := by omega
    clear hbad
    go_enter Try.func47, Try.ntmps47
    go_wp2_with fail
    refine HN.out.mono ?_
    rintro e w1 ⟨rfl, h1, hf1⟩
    clear b0
    go_wp2_with fail
    go_ret
    rw [HR.out]
    exact ⟨ret_int hn.symm, h1, hf1⟩

set_option maxHeartbeats 1000000 in
theorem text_cP (be bs bf bn : Nat) (p : Rd) (hs : p.s.size ≤ 140737488355328) (w : World) (h : PS w be bs p) (hc : Cl w be bs bf bn) :
    Calls Try.prog 48 #[.pointer (some ⟨be, 0, none⟩), .pointer (some ⟨bs, 0, none⟩), .pointer (some ⟨bf, 0, none⟩)] w fun e w' => e = .returned (.string p.text.1) ∧ PS w' be bs p.text.2 ∧ Fr (FrS be bs) w w' := by
  have b0 := hc.F.cell
  unfold failsV at b0
  have hne := hc.ne
  have c0 := h.E.cell 0
  have d0 := h.S.cell 0
  by_cases he : p.e = 0
  · have he' : (p.e != 0) = false := by simpa using he
    have hf : p.text = ((takeT p.s).1, ⟨p.cut (takeT p.s).2.1, (takeT p.s).2.2⟩) := by unfold Rd.text; rw [if_pos he]
    obtain ⟨k, hk, hks⟩ := takeT_size p.s
    have HTK : Hid (∀ W : World, Calls Try.prog 49 #[.string p.s] W fun e w' => e = .returned (.tuple #[.string (takeT p.s).1, .int .i64 (takeT p.s).2.1, .int .i64 (takeT p.s).2.2]) ∧ W = w') := fun W => TakeText_c p.s hs W
    rw [hf]
    unfold Rd.cut
    rw [hk] at HTK ⊢
    generalize (takeT p.s).1 = n at *
    generalize (takeT p.s).2.2 = er at *
    have HFL := Lib.hid (pfails_c be bs hne p er w h)
    have hpf : p.fail er = ⟨p.s, er⟩ := by unfold Rd.fail; rw [if_pos he]
    rw [hpf] at HFL
    clear hf hpf hk
    go_enter Try.func48, Try.ntmps48
    go_wp2_with fail
    refine (HTK.out _).mono ?_
    rintro e w1 ⟨rfl, rfl⟩
    go_wp2_with fail
    refine HFL.out.mono ?_
    rintro e w2 ⟨rfl, h2, hf2⟩
    clear c0 d0 b0
    have d0 := h2.S.cell 0
    have f0 := h2.S.free 0
    go_wp2_with fail
    go_ret
    exact ⟨rfl, ⟨h2.E.other (p := ⟨bs, 0, none⟩) hne _, h2.S.set 0 _⟩, hf2.setCell (p := ⟨bs, 0, none⟩) (.inl (.inr rfl)) _⟩
  · have he' : (p.e != 0) = true := by simpa using he
    have hf : p.text = (.empty, p) := by unfold Rd.text; rw [if_neg he]
    rw [hf]
    go_enter Try.func48, Try.ntmps48
    go_wp2_with fail
    go_ret
    exact ⟨rfl, h, Fr.refl _ w⟩

end Go.Proofs.Ytfieoehchghiiaa

namespace Go.Proofs.Ytfieoehchghiiaa
open Go.RowKit
set_option linter.unusedVariables false

/-- The list of expressions l lies where the slice sv says, in blocks of P. -/
inductive ArgsP (w : World) (P : Nat → Prop) : List Ex → Value → Prop
  | nil (a : Option Addr) (cap : Nat) (hm : cap ≤ maxLen) : ArgsP w P [] (.slice a 0 cap)
  | cons (l : List Ex) (b off cap : Nat) (sv : Nat → Value) (hl : 0 < l.length) (hb : P b) (hcap : l.length ≤ cap) (hm : cap ≤ maxLen)
      (h0 : ∀ j (h : j < l.length), w.cell? ⟨b, off + j * 3, none⟩ = some (.int .u8 (l[j]'h).op)) (h1 : ∀ j (h : j < l.length), w.cell? ⟨b, off + j * 3 + 1, none⟩ = some (.int .i64 (l[j]'h).n))
      (h2 : ∀ j (h : j < l.length), w.cell? ⟨b, off + j * 3 + 2, none⟩ = some (sv j)) (hs : ∀ j (h : j < l.length), ArgsP w P (l[j]'h).args (sv j)) :
      ArgsP w P l (.slice (some ⟨b, off, none⟩) l.length cap)

namespace ArgsP
variable {w w' : World} {P : Nat → Prop} {l : List Ex} {v : Value}
theorem keep (h : ArgsP w P l v) {Q : Nat → Prop} (hPQ : ∀ b, P b → Q b) (hk : ∀ b, P b → w'.heap[b]? = w.heap[b]?) : ArgsP w' Q l v := by
  have hc : ∀ b off, P b → w'.cell? ⟨b, off, none⟩ = w.cell? ⟨b, off, none⟩ := fun b off hb => World.cell?_of_block (hk b hb)
  induction h with
  | nil a cap hm => exact .nil a cap hm
  | cons l b off cap sv hl hb hcap hm h0 h1 h2 _ ih =>
    exact .cons l b off cap sv hl (hPQ b hb) hcap hm (fun j h => (hc _ _ hb).trans (h0 j h)) (fun j h => (hc _ _ hb).trans (h1 j h)) (fun j h => (hc _ _ hb).trans (h2 j h)) ih
theorem mono (h : ArgsP w P l v) {Q : Nat → Prop} (hPQ : ∀ b, P b → Q b) : ArgsP w Q l v := h.keep hPQ fun _ _ => rfl
theorem toAt (h : ArgsP w P l v) {B : Nat} (hP : ∀ b, P b → b < B) : ArgsAt w B l v := by
  induction h with
  | nil a cap hm => exact .nil a cap hm
  | cons l b off cap sv hl hb hcap hm h0 h1 h2 _ ih => exact .cons l b off cap sv hl (hP b hb) hcap hm h0 h1 h2 ih
/-- Over a step that may turn blocks of S alone. -/
theorem fr (h : ArgsP w P l v) {S Q : Nat → Prop} (hf : Fr S w w') (hP : ∀ b, P b → b < w.heap.size ∧ ¬ S b) (hPQ : ∀ b, P b → Q b) : ArgsP w' Q l v :=
  h.keep hPQ fun b hb => hf.block b (hP b hb).1 (hP b hb).2
theorem slice (h : ArgsP w P l v) : ∃ a n cap, v = .slice a n cap := by
  cases h with
  | nil a cap hm => exact ⟨_, _, _, rfl⟩
  | cons l b off cap sv hl hb hcap hm h0 h1 h2 hs => exact ⟨_, _, _, rfl⟩
end ArgsP

def reps {α : Type} (f : Rd → α × Rd) : Nat → Rd → List α × Rd
  | 0, p => ([], p)
  | m + 1, p => ((f p).1 :: (reps f m (f p).2).1, (reps f m (f p).2).2)
/-- An expression of so many levels. -/
def Rd.ex : Nat → Rd → Ex × Rd
  | 0, p => (.mk 0 0 [], p.fail 3)
  | k + 1, p => (.mk p.small.1 p.small.2.num.1 (reps (Rd.ex k) (p.small.2.num.2.many 3).1.toNat (p.small.2.num.2.many 3).2).1, (reps (Rd.ex k) (p.small.2.num.2.many 3).1.toNat (p.small.2.num.2.many 3).2).2)

def manyV (bn bf : Nat) : Value := .func (.func 46) #[] #[.pointer (some ⟨bn, 0, none⟩), .pointer (some ⟨bf, 0, none⟩)]
def smallV (bn bf : Nat) : Value := .func (.func 47) #[] #[.pointer (some ⟨bn, 0, none⟩), .pointer (some ⟨bf, 0, none⟩)]
def takeV (bf bl bn bm bt : Nat) : Value := .func (.func 50) #[] #[.pointer (some ⟨bf, 0, none⟩), .pointer (some ⟨bl, 0, none⟩), .pointer (some ⟨bn, 0, none⟩), .pointer (some ⟨bm, 0, none⟩), .pointer (some ⟨bt, 0, none⟩)]
structure Ct (w : World) (be bs bf bn bm bl bt : Nat) : Prop where
  cl : Cl w be bs bf bn
  M : Bx w bm (manyV bn bf)
  L : Bx w bl (smallV bn bf)
  T : Bx w bt (takeV bf bl bn bm bt)
  m1 : bm ≠ be ∧ bm ≠ bs
  l1 : bl ≠ be ∧ bl ≠ bs
  t1 : bt ≠ be ∧ bt ≠ bs
theorem Ct.fr {w w' : World} {be bs bf bn bm bl bt : Nat} (h : Ct w be bs bf bn bm bl bt) (hf : Fr (FrS be bs) w w') : Ct w' be bs bf bn bm bl bt :=
  have hn : ∀ {b : Nat}, b ≠ be ∧ b ≠ bs → ¬ FrS be bs b := fun hb q => by rcases q with q | q; exact hb.1 q; exact hb.2 q
  ⟨h.cl.fr hf, h.M.fr hf (hn h.m1), h.L.fr hf (hn h.l1), h.T.fr hf (hn h.t1), h.m1, h.l1, h.t1⟩
theorem Ct.alloc {w : World} {be bs bf bn bm bl bt : Nat} (h : Ct w be bs bf bn bm bl bt) (o : Obj) : Ct (w.alloc o) be bs bf bn bm bl bt :=
  ⟨h.cl.alloc o, h.M.alloc o, h.L.alloc o, h.T.alloc o, h.m1, h.l1, h.t1⟩

/-- What is known while an expression is read. -/
structure TX (w wx : World) (be bs bf bn bm bl bt bx : Nat) (q : Rd) (o n : Int) (av : Value) : Prop where
  fr : Fr (FrS be bs) w wx
  ps : PS wx be bs q
  ct : Ct wx be bs bf bn bm bl bt
  r : Blk wx w.heap.size 35 #[.int .u8 0, .int .i64 0, .slice none 0 0]
  x : Blk wx bx 35 #[.int .u8 o, .int .i64 n, av]
  lt : w.heap.size < bx
  el : be < w.heap.size
  sl : bs < w.heap.size

theorem ex_set {w : World} {g : Nat} {cs : Array Value} (h : Blk w g 35 cs) (hc : cs.size = 3) (a b c : Value) : Blk (((w.setCell ⟨g, 0, none⟩ a).setCell ⟨g, 1, none⟩ b).setCell ⟨g, 2, none⟩ c) g 35 #[a, b, c] := by
  have := ((h.set 0 a).set 1 b).set 2 c
  obtain ⟨cs⟩ := cs
  match cs, hc with
  | [c0, c1, c2], _ => exact this

theorem Bx.drew {w : World} {b : Nat} {v : Value} (h : Bx w b v) : Bx w.drew b v := h
theorem PS.drew {w : World} {be bs : Nat} {p : Rd} (h : PS w be bs p) : PS w.drew be bs p := ⟨h.E, h.S⟩
theorem Ct.drew {w : World} {be bs bf bn bm bl bt : Nat} (h : Ct w be bs bf bn bm bl bt) : Ct w.drew be bs bf bn bm bl bt := ⟨⟨h.cl.F.drew, h.cl.N.drew, h.cl.ne, h.cl.f1, h.cl.f2, h.cl.n1, h.cl.n2⟩, h.M.drew, h.L.drew, h.T.drew, h.m1, h.l1, h.t1⟩
/-- A block apart from those of the closures. -/
structure CtFar (b be bs bf bn bm bl bt : Nat) : Prop where
  f : bf ≠ b
  n : bn ≠ b
  m : bm ≠ b
  l : bl ≠ b
  t : bt ≠ b
theorem CtFar.of {w : World} {be bs bf bn bm bl bt : Nat} (h : Ct w be bs bf bn bm bl bt) : CtFar w.heap.size be bs bf bn bm bl bt :=
  ⟨Nat.ne_of_lt h.cl.F.lt, Nat.ne_of_lt h.cl.N.lt, Nat.ne_of_lt h.M.lt, Nat.ne_of_lt h.L.lt, Nat.ne_of_lt h.T.lt⟩
theorem Bx.other {w : World} {b : Nat} {v : Value} (h : Bx w b v) {p : Addr} (hp : b ≠ p.block) (u : Value) : Bx (w.setCell p u) b v := let ⟨t, h⟩ := h; ⟨t, h.other hp u⟩
theorem Ct.far {w : World} {be bs bf bn bm bl bt : Nat} (h : Ct w be bs bf bn bm bl bt) {p : Addr} (hp : CtFar p.block be bs bf bn bm bl bt) (u : Value) : Ct (w.setCell p u) be bs bf bn bm bl bt :=
  ⟨⟨h.cl.F.other hp.f u, h.cl.N.other hp.n u, h.cl.ne, h.cl.f1, h.cl.f2, h.cl.n1, h.cl.n2⟩, h.M.other hp.m u, h.L.other hp.l u, h.T.other hp.t u, h.m1, h.l1, h.t1⟩
theorem Ct.far3 {w : World} {b be bs bf bn bm bl bt : Nat} (h : Ct w be bs bf bn bm bl bt) (hp : CtFar b be bs bf bn bm bl bt) (u v x : Value) : Ct (((w.setCell ⟨b, 0, none⟩ u).setCell ⟨b, 1, none⟩ v).setCell ⟨b, 2, none⟩ x) be bs bf bn bm bl bt :=
  ((h.far (p := ⟨b, 0, none⟩) hp u).far (p := ⟨b, 1, none⟩) hp v).far (p := ⟨b, 2, none⟩) hp x
theorem Blk.far3 {w : World} {b c : Nat} {t : TypeId} {cs : Array Value} (h : Blk w c t cs) (hp : c ≠ b) (u v x : Value) : Blk (((w.setCell ⟨b, 0, none⟩ u).setCell ⟨b, 1, none⟩ v).setCell ⟨b, 2, none⟩ x) c t cs :=
  ((h.other (p := ⟨b, 0, none⟩) hp u).other (p := ⟨b, 1, none⟩) hp v).other (p := ⟨b, 2, none⟩) hp x
theorem PS.far3 {w : World} {b be bs : Nat} {p : Rd} (h : PS w be bs p) (h1 : be ≠ b) (h2 : bs ≠ b) (u v x : Value) : PS (((w.setCell ⟨b, 0, none⟩ u).setCell ⟨b, 1, none⟩ v).setCell ⟨b, 2, none⟩ x) be bs p :=
  ⟨Blk.far3 h.E h1 u v x, Blk.far3 h.S h2 u v x⟩

set_option maxHeartbeats 2000000 in
theorem takeEx_0 (be bs bf bn bm bl bt : Nat) (p : Rd) (w : World) (h : PS w be bs p) (hc : Ct w be bs bf bn bm bl bt) :
    Calls Try.prog 50 #[.int .i64 0, .pointer (some ⟨bf, 0, none⟩), .pointer (some ⟨bl, 0, none⟩), .pointer (some ⟨bn, 0, none⟩), .pointer (some ⟨bm, 0, none⟩), .pointer (some ⟨bt, 0, none⟩)] w fun e w' =>
      e = .returned (.agg #[.int .u8 0, .int .i64 0, .slice none 0 0]) ∧ PS w' be bs (p.fail 3) ∧ Fr (FrS be bs) w w' := by
  have hel := h.E.lt
  have hsl := h.S.lt
  have h1 := h.alloc (.cells #[.int .u8 0, .int .i64 0, .slice none 0 0] 35)
  have hc1 := hc.alloc (.cells #[.int .u8 0, .int .i64 0, .slice none 0 0] 35)
  have hF1 : Fr (FrS be bs) w (w.alloc (.cells #[.int .u8 0, .int .i64 0, .slice none 0 0] 35)) := (Fr.refl _ w).alloc _
  have hr1 := Blk.new w #[.int .u8 0, .int .i64 0, .slice none 0 0] 35
  have hne := hc.cl.ne
  clear h hc
  go_enter Try.func50, Try.ntmps50
  go_upto_region 1 with fail
  generalize World.alloc w _ = W at *
  have b0 := hc1.cl.F.cell
  unfold failsV at b0
  go_wp2_with fail
  refine (pfails_c be bs hne p 3 W h1).mono ?_
  rintro e w2 ⟨rfl, h2, hf2⟩
  have hr2 := hr1.fr hf2 (fun q => by rcases q with q | q <;> omega)
  clear b0
  have z0 := hr2.free 0
  have z1 := hr2.free 1
  have z2 := hr2.free 2
  have x0 := hr2.cell 0
  have x1 := hr2.cell 1
  have x2 := hr2.cell 2
  go_wp2_with fail
  refine bodyPost_ret (v := .agg #[_, _, _]) (results_cell_row rfl _ _ w.heap.size 35 _ (0, 0) _ rfl (ex_set hr2 rfl _ _ _) Try.underlying35 rfl ?_) rfl ⟨rfl, ?_, ?_⟩
  · as_aux_lemma => kernel_rfl
  · exact ⟨((h2.E.other (p := ⟨w.heap.size, 0, none⟩) (Nat.ne_of_lt hel) _).other (p := ⟨w.heap.size, 1, none⟩) (Nat.ne_of_lt hel) _).other (p := ⟨w.heap.size, 2, none⟩) (Nat.ne_of_lt hel) _,
      ((h2.S.other (p := ⟨w.heap.size, 0, none⟩) (Nat.ne_of_lt hsl) _).other (p := ⟨w.heap.size, 1, none⟩) (Nat.ne_of_lt hsl) _).other (p := ⟨w.heap.size, 2, none⟩) (Nat.ne_of_lt hsl) _⟩
  · exact (((hF1.trans hf2).setCell (p := ⟨w.heap.size, 0, none⟩) (.inr (Nat.le_refl _)) _).setCell (p := ⟨w.heap.size, 1, none⟩) (.inr (Nat.le_refl _)) _).setCell (p := ⟨w.heap.size, 2, none⟩) (.inr (Nat.le_refl _)) _

end Go.Proofs.Ytfieoehchghiiaa

namespace Go.Proofs.Ytfieoehchghiiaa
open Go.RowKit
set_option linter.unusedVariables false

def TakePost (k : Nat) (be bs : Nat) (p : Rd) (w : World) (e : Ending) (w' : World) : Prop :=
  ∃ sv, e = .returned (.agg #[.int .u8 (Rd.ex k p).1.op, .int .i64 (Rd.ex k p).1.n, sv]) ∧ ArgsP w' (fun b => w.heap.size ≤ b ∧ b < w'.heap.size) (Rd.ex k p).1.args sv ∧ PS w' be bs (Rd.ex k p).2 ∧ Fr (FrS be bs) w w'
def TakeC (k : Nat) : Prop := ∀ (be bs bf bn bm bl bt : Nat) (p : Rd) (w : World), p.s.size ≤ 140737488355328 → PS w be bs p → Ct w be bs bf bn bm bl bt →
  Calls Try.prog 50 #[.int .i64 (k : Int), .pointer (some ⟨bf, 0, none⟩), .pointer (some ⟨bl, 0, none⟩), .pointer (some ⟨bn, 0, none⟩), .pointer (some ⟨bm, 0, none⟩), .pointer (some ⟨bt, 0, none⟩)] w (TakePost k be bs p w)

theorem Rd.small_size (p : Rd) : p.small.2.s.size ≤ p.s.size := by
  unfold Rd.small
  split
  · rw [Rd.fail_s]; exact p.num_size
  · exact p.num_size
theorem Rd.many_size (m : Int) (p : Rd) : (p.many m).2.s.size ≤ p.s.size := by
  unfold Rd.many
  split
  · show (p.num.2.fail 3).s.size ≤ _; rw [Rd.fail_s]; exact p.num_size
  · exact p.num_size
theorem Rd.many_le (m : Int) (hm : 0 ≤ m) (p : Rd) : 0 ≤ (p.many m).1 ∧ (p.many m).1 ≤ m := by
  unfold Rd.many
  split
  · exact ⟨Int.le_refl _, hm⟩
  · omega
theorem reps_size {α : Type} (f : Rd → α × Rd) (hf : ∀ q, (f q).2.s.size ≤ q.s.size) : ∀ (m : Nat) (p : Rd), (reps f m p).2.s.size ≤ p.s.size
  | 0, p => Nat.le_refl _
  | m + 1, p => by
    simp only [reps]
    exact Nat.le_trans (reps_size f hf m _) (hf p)
theorem Rd.ex_size : ∀ (k : Nat) (p : Rd), (Rd.ex k p).2.s.size ≤ p.s.size
  | 0, p => by show (p.fail 3).s.size ≤ _; rw [Rd.fail_s]; exact Nat.le_refl _
  | k + 1, p => by
    simp only [Rd.ex]
    refine Nat.le_trans (reps_size _ (Rd.ex_size k) _ _) ?_
    exact Nat.le_trans (Rd.many_size _ _) (Nat.le_trans (Rd.num_size _) (Rd.small_size _))
theorem reps_snoc {α : Type} (f : Rd → α × Rd) : ∀ (j : Nat) (p : Rd), reps f (j + 1) p = ((reps f j p).1 ++ [(f (reps f j p).2).1], (f (reps f j p).2).2)
  | 0, p => rfl
  | j + 1, p => by
    have ih := reps_snoc f j (f p).2
    rw [reps, ih]
    simp only [reps, List.cons_append]
theorem reps_len {α : Type} (f : Rd → α × Rd) : ∀ (j : Nat) (p : Rd), (reps f j p).1.length = j
  | 0, p => rfl
  | j + 1, p => by simp only [reps, List.length_cons]; rw [reps_len f j]

theorem TX.step {w wx wy : World} {be bs bf bn bm bl bt bx : Nat} {q q' : Rd} {o n : Int} {av : Value} (h : TX w wx be bs bf bn bm bl bt bx q o n av) (hf : Fr (FrS be bs) wx wy) (hp : PS wy be bs q') : TX w wy be bs bf bn bm bl bt bx q' o n av :=
  have h1 := h.el
  have h2 := h.sl
  have h3 := h.lt
  ⟨h.fr.trans hf, hp, h.ct.fr hf, h.r.fr hf (by rintro (q | q) <;> omega), h.x.fr hf (by rintro (q | q) <;> omega), h.lt, h.el, h.sl⟩

/-- A row that is grown, element by element. -/
structure ERow (B0 : Nat) (wx : World) (l : List Ex) (av : Value) (cs : List Value) (svs : Nat → Value) : Prop where
  own : wx.ownsRow B0 35 3 av l.length cs
  cells : ∀ i (hi : i < l.length), cs[i * 3]? = some (.int .u8 (l[i]'hi).op) ∧ cs[i * 3 + 1]? = some (.int .i64 (l[i]'hi).n) ∧ cs[i * 3 + 2]? = some (svs i)
  sub : ∀ i (hi : i < l.length), ArgsP wx (fun b => B0 ≤ b ∧ b < wx.heap.size ∧ some b ≠ av.ownBlock) (l[i]'hi).args (svs i)
theorem ERow.args {B0 : Nat} {wx : World} {l : List Ex} {av : Value} {cs : List Value} {svs : Nat → Value} (h : ERow B0 wx l av cs svs) : ArgsP wx (fun b => B0 ≤ b ∧ b < wx.heap.size) l av := by
  obtain ⟨⟨h1, h2⟩, hc, hs⟩ := h
  rcases h2 with ⟨rfl, h0⟩ | ⟨g, cap, cur, rfl, hb, hg, hn, hcp, hsz, ht⟩
  · obtain rfl : l = [] := List.length_eq_zero_iff.1 h0
    exact .nil _ _ (Nat.zero_le _)
  · by_cases h0 : l.length = 0
    · obtain rfl : l = [] := List.length_eq_zero_iff.1 h0
      exact .nil _ _ hcp
    · have hlt : g < wx.heap.size := (Array.getElem?_eq_some_iff.1 hg).1
      have cell : ∀ q, q < l.length * 3 → wx.cell? ⟨g, 0 + q, none⟩ = cs[q]? := fun q hq => by
        rw [Nat.zero_add, cell_of_row wx g q cur 35 (0, 0) hg, ← ht, List.getElem?_take, if_pos hq]
        simp
      exact .cons l g 0 cap svs (by omega) ⟨hb, hlt⟩ hn hcp (fun i hi => (cell (i * 3) (by omega)).trans (hc i hi).1) (fun i hi => (cell (i * 3 + 1) (by omega)).trans (hc i hi).2.1)
        (fun i hi => (cell (i * 3 + 2) (by omega)).trans (hc i hi).2.2) (fun i hi => (hs i hi).mono fun b hb => ⟨hb.1, hb.2.1⟩)
theorem ERow.fr {B0 be bs : Nat} {wx wy : World} {l : List Ex} {av : Value} {cs : List Value} {svs : Nat → Value} (h : ERow B0 wx l av cs svs) (hf : Fr (FrS be bs) wx wy) (h1 : be < B0) (h2 : bs < B0) : ERow B0 wy l av cs svs := by
  refine ⟨?_, h.cells, fun i hi => (h.sub i hi).keep (fun b hb => ⟨hb.1, Nat.lt_of_lt_of_le hb.2.1 hf.size, hb.2.2⟩) (fun b hb => hf.block b hb.2.1 (by rintro (q | q) <;> omega))⟩
  obtain ⟨q1, q2⟩ := h.own
  refine ⟨q1, q2.imp id ?_⟩
  rintro ⟨g, cap, cur, hv, hb, hg, r⟩
  exact ⟨g, cap, cur, hv, hb, hf.heap_at hg (by rintro (q | q) <;> omega), r⟩
/-- One more. -/
theorem ERow.snoc {B0 : Nat} {wx w4 w5 : World} {l : List Ex} {av : Value} {cs : List Value} {svs : Nat → Value} {g capg : Nat} {y : Ex} {sv : Value} {o : Obj} (h : ERow B0 w4 l av cs svs) (hx : ∀ q, av.ownBlock = some q → q < wx.heap.size) (hxs : wx.heap.size ≤ w4.heap.size) (hB : B0 ≤ wx.heap.size)
    (hy : ArgsP w4 (fun b => wx.heap.size ≤ b ∧ b < w4.heap.size) y.args sv) (hg : (w4.alloc o).grownBy w5 av.ownBlock) (hat : av.ownBlock = some g ∨ g = (w4.alloc o).heap.size) (hlt : g < w5.heap.size)
    (hown : w5.ownsRow B0 35 3 (.slice (some ⟨g, 0, none⟩) (l.length + 1) capg) (l.length + 1) (cs ++ [.int .u8 y.op, .int .i64 y.n, sv])) :
    ERow B0 w5 (l ++ [y]) (.slice (some ⟨g, 0, none⟩) (l.length + 1) capg) (cs ++ [.int .u8 y.op, .int .i64 y.n, sv]) (fun i => if i = l.length then sv else svs i) := by
  have hl : (l ++ [y]).length = l.length + 1 := by simp
  have hcl : cs.length = l.length * 3 := h.own.1
  have hsz : (w4.alloc o).heap.size = w4.heap.size + 1 := by simp
  have hgs := hg.size
  have keepB : ∀ b, b < w4.heap.size → some b ≠ av.ownBlock → w5.heap[b]? = w4.heap[b]? := fun b hb hn => (hg.block b (by omega) hn).trans (alloc_old w4 o b hb)
  refine ⟨by rw [hl]; exact hown, fun i hi => ?_, fun i hi => ?_⟩
  · by_cases hil : i < l.length
    · obtain ⟨c0, c1, c2⟩ := h.cells i hil
      rw [List.getElem_append_left hil, if_neg (by omega), List.getElem?_append_left (by omega), List.getElem?_append_left (by omega), List.getElem?_append_left (by omega)]
      exact ⟨c0, c1, c2⟩
    · obtain rfl : i = l.length := by omega
      rw [List.getElem_append_right (Nat.le_refl _), if_pos rfl, List.getElem?_append_right (by omega), List.getElem?_append_right (by omega), List.getElem?_append_right (by omega), hcl]
      refine ⟨?_, ?_, ?_⟩
      · simp
      · rw [show l.length * 3 + 1 - l.length * 3 = 1 by omega]; simp
      · rw [show l.length * 3 + 2 - l.length * 3 = 2 by omega]; simp
  · by_cases hil : i < l.length
    · rw [List.getElem_append_left hil, if_neg (by omega)]
      refine (h.sub i hil).keep (fun b hb => ⟨hb.1, by have := hb.2.1; omega, ?_⟩) (fun b hb => keepB b hb.2.1 hb.2.2)
      simp only [Value.ownBlock, ne_eq, Option.some.injEq]
      intro e
      rcases hat with h1 | h1
      · exact hb.2.2 (by rw [h1, e])
      · have := hb.2.1; omega
    · obtain rfl : i = l.length := by omega
      rw [List.getElem_append_right (Nat.le_refl _), if_pos rfl]
      simp only [Nat.sub_self, List.getElem_cons_zero]
      refine hy.keep (fun b hb => ⟨by have := hb.1; omega, by have := hb.2; omega, ?_⟩) (fun b hb => keepB b hb.2 (fun e => by have := hx b e.symm; have := hb.1; omega))
      simp only [Value.ownBlock, ne_eq, Option.some.injEq]
      intro e
      rcases hat with h1 | h1
      · have := hx g h1; have := hb.1; omega
      · have := hb.2; omega


structure CtLt (B be bs bf bn bm bl bt : Nat) : Prop where
  f : bf < B
  n : bn < B
  m : bm < B
  l : bl < B
  t : bt < B
theorem CtLt.of {w : World} {be bs bf bn bm bl bt : Nat} (h : Ct w be bs bf bn bm bl bt) : CtLt w.heap.size be bs bf bn bm bl bt := ⟨h.cl.F.lt, h.cl.N.lt, h.M.lt, h.L.lt, h.T.lt⟩
theorem Blk.same {w w' : World} {b : Nat} {t : TypeId} {cs : Array Value} (h : Blk w b t cs) (hk : w'.heap[b]? = w.heap[b]?) : Blk w' b t cs := hk.trans h
theorem Bx.same {w w' : World} {b : Nat} {v : Value} (h : Bx w b v) (hk : w'.heap[b]? = w.heap[b]?) : Bx w' b v := let ⟨t, h⟩ := h; ⟨t, h.same hk⟩
/-- Over a step that keeps the blocks below B. -/
theorem TX.keepB {w wx wy : World} {be bs bf bn bm bl bt bx B : Nat} {q : Rd} {o n : Int} {av : Value} (h : TX w wx be bs bf bn bm bl bt bx q o n av) (hx : bx < B) (hc : CtLt B be bs bf bn bm bl bt)
    (ho : wy.os = wx.os) (ht : wy.tape = wx.tape) (hu : wy.output = wx.output) (hs : wx.heap.size ≤ wy.heap.size) (hk : ∀ b, b < B → wy.heap[b]? = wx.heap[b]?) : TX w wy be bs bf bn bm bl bt bx q o n av :=
  have h1 := h.el
  have h2 := h.sl
  have h3 := h.lt
  ⟨⟨ho.trans h.fr.os, ht.trans h.fr.tape, hu.trans h.fr.output, Nat.le_trans h.fr.size hs, fun b hb hn => (hk b (by omega)).trans (h.fr.block b hb hn)⟩,
    ⟨h.ps.E.same (hk _ (by omega)), h.ps.S.same (hk _ (by omega))⟩,
    ⟨⟨h.ct.cl.F.same (hk _ hc.f), h.ct.cl.N.same (hk _ hc.n), h.ct.cl.ne, h.ct.cl.f1, h.ct.cl.f2, h.ct.cl.n1, h.ct.cl.n2⟩, h.ct.M.same (hk _ hc.m), h.ct.L.same (hk _ hc.l), h.ct.T.same (hk _ hc.t), h.ct.m1, h.ct.l1, h.ct.t1⟩,
    h.r.same (hk _ (by omega)), h.x.same (hk _ hx), h3, h1, h2⟩
theorem TX.drew {w wx : World} {be bs bf bn bm bl bt bx : Nat} {q : Rd} {o n : Int} {av : Value} (h : TX w wx be bs bf bn bm bl bt bx q o n av) : TX w wx.drew be bs bf bn bm bl bt bx q o n av :=
  ⟨⟨h.fr.os, h.fr.tape, h.fr.output, h.fr.size, h.fr.block⟩, h.ps.drew, h.ct.drew, h.r, h.x, h.lt, h.el, h.sl⟩
theorem TX.setX {w wx : World} {be bs bf bn bm bl bt bx : Nat} {q : Rd} {o n : Int} {av : Value} (h : TX w wx be bs bf bn bm bl bt bx q o n av) (hf : CtFar bx be bs bf bn bm bl bt) (u : Value) :
    TX w (wx.setCell ⟨bx, 2, none⟩ u) be bs bf bn bm bl bt bx q o n u :=
  have h1 := h.el
  have h2 := h.sl
  have h3 := h.lt
  ⟨h.fr.setCell (p := ⟨bx, 2, none⟩) (.inr (Nat.le_of_lt h3)) u, ⟨h.ps.E.other (p := ⟨bx, 2, none⟩) (Nat.ne_of_lt (Nat.lt_trans h1 h3)) u, h.ps.S.other (p := ⟨bx, 2, none⟩) (Nat.ne_of_lt (Nat.lt_trans h2 h3)) u⟩,
    h.ct.far (p := ⟨bx, 2, none⟩) hf u, h.r.other (p := ⟨bx, 2, none⟩) (Nat.ne_of_lt h3) u, h.x.set 2 u, h3, h1, h2⟩
theorem ERow.keepB {B0 : Nat} {wx wy : World} {l : List Ex} {av : Value} {cs : List Value} {svs : Nat → Value} (h : ERow B0 wx l av cs svs) (hs : wx.heap.size ≤ wy.heap.size) (hk : ∀ b, B0 ≤ b → b < wx.heap.size → wy.heap[b]? = wx.heap[b]?) : ERow B0 wy l av cs svs := by
  refine ⟨?_, h.cells, fun i hi => (h.sub i hi).keep (fun b hb => ⟨hb.1, Nat.lt_of_lt_of_le hb.2.1 hs, hb.2.2⟩) (fun b hb => hk b hb.1 hb.2.1)⟩
  obtain ⟨q1, q2⟩ := h.own
  refine ⟨q1, q2.imp id ?_⟩
  rintro ⟨g, cap, cur, hv, hb, hg, r⟩
  exact ⟨g, cap, cur, hv, hb, (hk g hb (Array.getElem?_eq_some_iff.1 hg).1).trans hg, r⟩
theorem ERow.drew {B0 : Nat} {wx : World} {l : List Ex} {av : Value} {cs : List Value} {svs : Nat → Value} (h : ERow B0 wx l av cs svs) : ERow B0 wx.drew l av cs svs := h.keepB (Nat.le_refl _) fun _ _ _ => rfl
theorem ERow.own_ge {B0 : Nat} {wx : World} {l : List Ex} {av : Value} {cs : List Value} {svs : Nat → Value} (h : ERow B0 wx l av cs svs) : ∀ q, av.ownBlock = some q → B0 ≤ q ∧ q < wx.heap.size := by
  intro q hq
  rcases h.own.2 with ⟨rfl, _⟩ | ⟨g, cap, cur, rfl, hb, hg, _⟩
  · cases hq
  · simp only [Value.ownBlock, Option.some.injEq] at hq
    subst hq
    exact ⟨hb, (Array.getElem?_eq_some_iff.1 hg).1⟩
theorem ERow.nil (B0 : Nat) (w : World) (svs : Nat → Value) : ERow B0 w [] (.slice none 0 0) [] svs := ⟨⟨by simp, .inl ⟨rfl, rfl⟩⟩, fun i hi => absurd hi (Nat.not_lt_zero _), fun i hi => absurd hi (Nat.not_lt_zero _)⟩
theorem info_exC : (Try.prog.info? 35).map (fun i => (i.zero, i.size, i.bytes)) = some (some (.agg #[.int .u8 0, .int .i64 0, .slice none 0 0]), 3, 40) := by kernel_rfl

end Go.Proofs.Ytfieoehchghiiaa

/-
  What is put is taken; what is taken was put (plain).
-/
import Derived.Test.YtfieoehchghiiaaC8
import Derived.Test.YtfieoehchghiiaaC2
import Derived.Test.YtfieoehchghiiaaC1
namespace Go.Proofs.Ytfieoehchghiiaa
open Go.RowKit
set_option linter.unusedVariables false

theorem bstr_list (l : List UInt8) : (bstr l).data.toList = l := by simp [bstr]
theorem bstr_of (s : ByteArray) : bstr s.data.toList = s := by apply ByteArray.ext; simp [bstr]
theorem cut_list (s : ByteArray) (k : Nat) : (s.extract k s.size).data.toList = s.data.toList.drop k := by
  have h : s.size = s.data.toList.length := by rw [Lib.size_eq]
  rw [ByteArray.data_extract, Array.toList_extract]
  show (s.data.toList.drop k).take (s.size - k) = _
  rw [List.take_of_length_le (by rw [List.length_drop]; omega)]
theorem cut_bstr (l : List UInt8) (k : Nat) : (bstr l).extract k (bstr l).size = bstr (l.drop k) := by
  rw [← bstr_of ((bstr l).extract k (bstr l).size), cut_list, bstr_list]
theorem takeS_bstr (l : List UInt8) : takeS (bstr l) = tkGo 0 0 l := by unfold takeS; rw [bstr_list]
theorem num_bstr (l : List UInt8) : Rd.num ⟨bstr l, 0⟩ = ((tkGo 0 0 l).1, ⟨bstr (l.drop (tkGo 0 0 l).2.1.toNat), (tkGo 0 0 l).2.2⟩) := by
  unfold Rd.num Rd.cut
  rw [if_pos rfl]
  dsimp only
  rw [takeS_bstr, cut_bstr]

theorem tkGo_short : ∀ (k d u i a : Nat), i + d = 9 → u < 2 ^ (64 - 7 * i) → k < (vby u).length → tkGo i a ((vby u).take k) = (0, 0, 20)
  | 0, d, u, i, a, _, _, _ => by simp [tkGo]
  | k + 1, d, u, i, a, hd, hu, hk => by
    have h : ¬ u < 128 := fun h => by rw [vby_lt h] at hk; simp at hk
    have hc : (UInt8.ofNat (u % 128 + 128)).toNat = u % 128 + 128 := by simp; omega
    have hi : i ≠ 9 := by
      rintro rfl
      have : u < 2 ^ 1 := by simpa using hu
      omega
    rw [vby_ge h] at hk ⊢
    rw [List.take_succ_cons]
    simp only [tkGo, hc]
    rw [if_neg (by omega), if_pos (by omega)]
    obtain ⟨d', rfl⟩ : ∃ d', d = d' + 1 := ⟨d - 1, by omega⟩
    have hu' : u / 128 < 2 ^ (64 - 7 * (i + 1)) := by
      have e : 64 - 7 * i = (64 - 7 * (i + 1)) + 7 := by omega
      rw [e, Nat.pow_add] at hu
      exact Nat.div_lt_of_lt_mul (by rw [Nat.mul_comm]; exact hu)
    exact tkGo_short k d' (u / 128) (i + 1) _ (by omega) hu' (by simpa using hk)
theorem take_short (n : Int) (h1 : -9223372036854775808 ≤ n) (h2 : n ≤ 9223372036854775807) (k : Nat) (hk : k < (putN n).length) : tkGo 0 0 ((putN n).take k) = (0, 0, 20) := by
  have h := zig_lt n h1 h2
  exact tkGo_short k 9 _ 0 0 rfl (by omega) hk

/-- The reader f reads the bytes B as a. -/
structure Rds {α : Type} (f : Rd → α × Rd) (B : List UInt8) (a : α) : Prop where
  ok : ∀ rest : List UInt8, f ⟨bstr (B ++ rest), 0⟩ = (a, ⟨bstr rest, 0⟩)
  short : ∀ k, k < B.length → (f ⟨bstr (B.take k), 0⟩).2.e = 20
/-- Behind an error it stays. -/
def Stk {α : Type} (f : Rd → α × Rd) : Prop := ∀ p, p.e ≠ 0 → (f p).2.e = p.e
/-- What f reads without an error are bytes of what it tells. -/
def Bck {α : Type} (f : Rd → α × Rd) (b : α → List UInt8) (Q : α → Prop) : Prop :=
  ∀ p, (f p).2.e = 0 → p.e = 0 ∧ Q (f p).1 ∧ p.s.data.toList = b (f p).1 ++ (f p).2.s.data.toList
def rdBnd {α β : Type} (f : Rd → α × Rd) (g : α → Rd → β × Rd) : Rd → β × Rd := fun p => g (f p).1 (f p).2
def rdRet {α : Type} (a : α) : Rd → α × Rd := fun p => (a, p)

theorem Rds.bnd {α β : Type} {f : Rd → α × Rd} {g : α → Rd → β × Rd} {B C : List UInt8} {a : α} {c : β} (h : Rds f B a) (k : Rds (g a) C c) (hs : ∀ a, Stk (g a)) : Rds (rdBnd f g) (B ++ C) c where
  ok rest := by
    unfold rdBnd
    rw [List.append_assoc, h.ok]
    exact k.ok rest
  short n hn := by
    unfold rdBnd
    by_cases hb : n < B.length
    · rw [List.take_append_of_le_length (Nat.le_of_lt hb)]
      have e := h.short n hb
      rw [hs _ _ (by rw [e]; decide)]
      exact e
    · rw [List.take_append, List.take_of_length_le (by omega : B.length ≤ n), h.ok]
      exact k.short _ (by rw [List.length_append] at hn; omega)
theorem Rds.ret {α : Type} (a : α) : Rds (rdRet a) [] a := ⟨fun rest => rfl, fun k hk => absurd hk (Nat.not_lt_zero _)⟩
theorem Stk.bnd {α β : Type} {f : Rd → α × Rd} {g : α → Rd → β × Rd} (h : Stk f) (k : ∀ a, Stk (g a)) : Stk (rdBnd f g) := fun p hp => by
  unfold rdBnd
  have e := h p hp
  rw [k _ _ (by rw [e]; exact hp)]
  exact e
theorem Stk.ret {α : Type} (a : α) : Stk (rdRet a) := fun p hp => rfl

theorem Rd.fail_of {p : Rd} (h : p.e ≠ 0) (why : Int) : p.fail why = p := by unfold Rd.fail; rw [if_neg h]
theorem Rd.num_err {p : Rd} (h : p.e ≠ 0) : p.num = (0, p) := by unfold Rd.num; rw [if_neg h]
theorem num_stk : Stk Rd.num := fun p hp => by rw [Rd.num_err hp]
theorem many_stk (m : Int) : Stk (Rd.many m) := fun p hp => by
  unfold Rd.many
  rw [Rd.num_err hp]
  split
  · show (p.fail 3).e = p.e; rw [Rd.fail_of hp]
  · rfl
theorem small_stk : Stk Rd.small := fun p hp => by
  unfold Rd.small
  rw [Rd.num_err hp]
  dsimp only
  split
  · rw [Rd.fail_of hp]
  · rfl
theorem text_stk : Stk Rd.text := fun p hp => by
  unfold Rd.text
  rw [if_neg hp]
theorem reps_stk {α : Type} {f : Rd → α × Rd} (h : Stk f) : ∀ m, Stk (reps f m)
  | 0, p, hp => rfl
  | m + 1, p, hp => by
    simp only [reps]
    have e := h p hp
    rw [reps_stk h m _ (by rw [e]; exact hp)]
    exact e
theorem ex_succ (k : Nat) : Rd.ex (k + 1) = rdBnd Rd.small fun o => rdBnd Rd.num fun n => rdBnd (Rd.many 3) fun m => rdBnd (reps (Rd.ex k) m.toNat) fun l => rdRet (.mk o n l) := rfl
theorem ex_stk : ∀ k, Stk (Rd.ex k)
  | 0 => fun p hp => by show (p.fail 3).e = _; rw [Rd.fail_of hp]
  | k + 1 => by
    rw [ex_succ]
    exact small_stk.bnd fun _ => num_stk.bnd fun _ => (many_stk 3).bnd fun _ => (reps_stk (ex_stk k) _).bnd fun _ => Stk.ret _
theorem nd_eq : Rd.nd = rdBnd Rd.text fun u => rdBnd Rd.small fun kd => rdBnd Rd.num fun n => rdBnd (Rd.many 12) fun m => rdBnd (reps Rd.num m.toNat) fun ins => rdBnd (Rd.ex 17) fun x => rdRet (⟨u, kd, ins, x, n⟩ : Nd) := rfl
theorem nd_stk : Stk Rd.nd := by
  rw [nd_eq]
  exact text_stk.bnd fun _ => small_stk.bnd fun _ => num_stk.bnd fun _ => (many_stk 12).bnd fun _ => (reps_stk num_stk _).bnd fun _ => (ex_stk 17).bnd fun _ => Stk.ret _
theorem takeNds_stk : ∀ m, Stk (takeNds m)
  | 0, p, hp => rfl
  | m + 1, p, hp => by
    simp only [takeNds]
    have e := nd_stk p hp
    rw [if_pos (by rw [e]; exact hp)]
    exact e

/-- What is put is read. -/
theorem num_rds (n : Int) (h1 : -9223372036854775808 ≤ n) (h2 : n ≤ 9223372036854775807) : Rds Rd.num (putN n) n where
  ok rest := by
    rw [num_bstr, take_put n h1 h2 rest]
    simp
  short k hk := by
    rw [num_bstr, take_short n h1 h2 k hk]
theorem many_rds (m n : Int) (h0 : 0 ≤ n) (h1 : n ≤ m) (hm : m ≤ 1000) : Rds (Rd.many m) (putN n) n where
  ok rest := by
    unfold Rd.many
    rw [(num_rds n (by omega) (by omega)).ok rest, if_neg (by dsimp only; omega)]
  short k hk := by
    have e := (num_rds n (by omega) (by omega)).short k hk
    unfold Rd.many
    split
    · show (Rd.fail _ 3).e = 20
      rw [Rd.fail_of (by rw [e]; decide)]
      exact e
    · exact e
theorem small_rds (n : Int) (h0 : 0 ≤ n) (h1 : n ≤ 255) : Rds Rd.small (putN n) n where
  ok rest := by
    unfold Rd.small
    rw [(num_rds n (by omega) (by omega)).ok rest]
    dsimp only
    rw [if_neg (by omega), Int.emod_eq_of_lt h0 (by omega)]
  short k hk := by
    have e := (num_rds n (by omega) (by omega)).short k hk
    unfold Rd.small
    dsimp only
    split
    · rw [Rd.fail_of (by rw [e]; decide)]
      exact e
    · exact e
theorem text_bstr (l : List UInt8) : Rd.text ⟨bstr l, 0⟩ = ((takeT (bstr l)).1, ⟨bstr (l.drop (takeT (bstr l)).2.1.toNat), (takeT (bstr l)).2.2⟩) := by
  unfold Rd.text Rd.cut
  rw [if_pos rfl]
  dsimp only
  rw [cut_bstr]
theorem extract_list (s : ByteArray) (a n : Nat) : (s.extract a (a + n)).data.toList = (s.data.toList.drop a).take n := by
  rw [ByteArray.data_extract, Array.toList_extract]
  simp [List.extract]
theorem text_rds (u : ByteArray) (hu : u.size ≤ 65536) : Rds Rd.text (txtL u) u where
  ok rest := by
    have hl := Lib.size_eq u
    have e : takeS (bstr (txtL u ++ rest)) = ((u.size : Int), ((putN (u.size : Int)).length : Int), 0) := by
      rw [takeS_bstr]
      unfold txtL
      rw [List.append_assoc]
      exact take_put _ (by omega) (by omega) _
    have hz : (bstr (txtL u ++ rest)).size = (putN (u.size : Int)).length + u.size + rest.length := by
      rw [bstr_size]; unfold txtL; simp only [List.length_append]; omega
    have e2 : takeT (bstr (txtL u ++ rest)) = (u, (((putN (u.size : Int)).length + u.size : Nat) : Int), 0) := by
      unfold takeT
      rw [e]
      dsimp only
      rw [if_neg (by simp), if_neg (by omega), if_neg (by omega), if_neg (by omega)]
      refine Prod.ext ?_ (Prod.ext ?_ rfl)
      · dsimp only
        rw [← bstr_of (ByteArray.extract _ _ _), Int.toNat_natCast, Int.toNat_natCast, extract_list, bstr_list]
        unfold txtL
        rw [List.append_assoc, List.drop_left, List.take_left' hl.symm, bstr_of]
      · dsimp only; omega
    rw [text_bstr, e2]
    dsimp only
    rw [Int.toNat_natCast]
    unfold txtL
    rw [List.drop_left' (by rw [List.length_append, hl])]
  short k hk := by
    have hl := Lib.size_eq u
    rw [text_bstr]
    by_cases hb : k < (putN (u.size : Int)).length
    · have e : takeS (bstr ((txtL u).take k)) = (0, 0, 20) := by
        rw [takeS_bstr]
        unfold txtL
        rw [List.take_append_of_le_length (Nat.le_of_lt hb)]
        exact take_short _ (by omega) (by omega) k hb
      unfold takeT
      rw [e]
      rfl
    · have hk2 : k < (putN (u.size : Int)).length + u.data.toList.length := by unfold txtL at hk; rw [List.length_append] at hk; exact hk
      have e : takeS (bstr ((txtL u).take k)) = ((u.size : Int), ((putN (u.size : Int)).length : Int), 0) := by
        rw [takeS_bstr]
        unfold txtL
        rw [List.take_append, List.take_of_length_le (by omega : (putN (u.size : Int)).length ≤ k)]
        exact take_put _ (by omega) (by omega) _
      have hz : (bstr ((txtL u).take k)).size = k := by
        rw [bstr_size, List.length_take]; omega
      unfold takeT
      rw [e, hz]
      dsimp only
      rw [if_neg (by simp), if_neg (by omega), if_neg (by omega), if_pos (by omega)]
theorem reps_rds {α : Type} {f : Rd → α × Rd} {b : α → List UInt8} (hs : Stk f) : ∀ (l : List α), (∀ x ∈ l, Rds f (b x) x) → Rds (reps f l.length) (l.flatMap b) l
  | [], _ => Rds.ret []
  | x :: l, h => by
    have e : reps f (x :: l).length = rdBnd f fun y => rdBnd (reps f l.length) fun m => rdRet (y :: m) := rfl
    have e2 : (x :: l).flatMap b = b x ++ (l.flatMap b ++ []) := by simp
    rw [e, e2]
    exact (h x (by simp)).bnd ((reps_rds hs l (fun y hy => h y (by simp [hy]))).bnd (Rds.ret _) fun _ => Stk.ret _) fun _ => (reps_stk hs _).bnd fun _ => Stk.ret _
/-- An expression of at most so many levels, of at most three parts each. -/
def fitE : Nat → Ex → Prop
  | 0, _ => False
  | k + 1, x => x.args.length ≤ 3 ∧ ∀ a ∈ x.args, fitE k a
theorem shape_args {x : Ex} (h : shapeB x = true) : x.args.length ≤ 3 := by
  have h1 : manyN x.op = x.args.length ∧ 0 ≤ x.n ∧ (x.n = 0 ∨ x.op = 1) := of_decide_eq_true h
  have := h1.1
  unfold manyN at this
  repeat' split at this
  all_goals omega
theorem fit_of_may : ∀ (k : Nat) (x : Ex), mayB k x = true → fitE (k + 1) x
  | 0, x, h => by simp [mayB] at h
  | k + 1, x, h => by
    simp only [mayB, Bool.and_eq_true, List.all_eq_true] at h
    exact ⟨shape_args h.1, fun a ha => fit_of_may k a (h.2 a ha)⟩
theorem Exs.by_flat : ∀ l : List Ex, Exs.by l = l.flatMap Ex.by
  | [] => rfl
  | x :: l => by simp only [Exs.by, List.flatMap_cons]; rw [Exs.by_flat l]
theorem Exs.ok_mem : ∀ {l : List Ex}, Exs.ok l → ∀ x ∈ l, x.ok
  | y :: l, h, x, hx => by
    rcases List.mem_cons.1 hx with rfl | hx
    · exact h.1
    · exact Exs.ok_mem h.2 x hx
theorem ex_rds : ∀ (k : Nat) (x : Ex), fitE k x → x.ok → Rds (Rd.ex k) x.by x
  | 0, x, h, _ => h.elim
  | k + 1, x, h, hok => by
    obtain ⟨h1, h2⟩ := h
    obtain ⟨o1, o2, o3, o4, o5⟩ := Ex.okC hok
    obtain ⟨o, n, l⟩ := x
    have e2 : (Ex.mk o n l).by = putN o ++ (putN n ++ (putN (l.length : Int) ++ (l.flatMap Ex.by ++ []))) := by
      simp only [Ex.by, putL, List.flatMap_cons, List.flatMap_nil, List.append_nil, List.append_assoc, Exs.by_flat]
    rw [ex_succ, e2]
    simp only [Ex.args] at h1 h2 o5
    refine (small_rds o o1 o2).bnd ((num_rds n o3 o4).bnd ((many_rds 3 (l.length : Int) (by omega) (by omega) (by omega)).bnd (Rds.bnd (a := l) ?_ (Rds.ret _) fun _ => Stk.ret _) ?_) ?_) ?_
    · rw [Int.toNat_natCast]
      exact reps_rds (ex_stk k) l fun a ha => ex_rds k a (h2 a ha) (Exs.ok_mem o5 a ha)
    · exact fun _ => (reps_stk (ex_stk k) _).bnd fun _ => Stk.ret _
    · exact fun _ => (many_stk 3).bnd fun _ => (reps_stk (ex_stk k) _).bnd fun _ => Stk.ret _
    · exact fun _ => num_stk.bnd fun _ => (many_stk 3).bnd fun _ => (reps_stk (ex_stk k) _).bnd fun _ => Stk.ret _
/-- A node that can be told. -/
structure NdFit (d : Nd) : Prop where
  uid : d.uid.size ≤ 65536
  ins : d.ins.length ≤ 12
  x : fitE 17 d.x
  ok : d.ok
theorem nd_rds (d : Nd) (h : NdFit d) : Rds Rd.nd d.by d := by
  obtain ⟨h1, h2, h3, o1, o2, o3, o4, o5, o6⟩ := h
  obtain ⟨u, kd, ins, x, n⟩ := d
  dsimp only at *
  have e2 : (Nd.mk u kd ins x n).by = txtL u ++ (putN kd ++ (putN n ++ (putN (ins.length : Int) ++ (ins.flatMap putN ++ (x.by ++ []))))) := by
    simp only [Nd.by, putL, List.flatMap_cons, List.flatMap_nil, List.append_nil, List.append_assoc]
  rw [nd_eq, e2]
  refine (text_rds u h1).bnd ((small_rds kd o1 o2).bnd ((num_rds n o5 o6).bnd ((many_rds 12 (ins.length : Int) (by omega) (by omega) (by omega)).bnd (Rds.bnd (a := ins) ?_ ((ex_rds 17 x h3 o4).bnd (Rds.ret _) fun _ => Stk.ret _) ?_) ?_) ?_) ?_) ?_
  · rw [Int.toNat_natCast]
    exact reps_rds num_stk ins fun z hz => num_rds z (o3 z hz).1 (o3 z hz).2
  · exact fun _ => (ex_stk 17).bnd fun _ => Stk.ret _
  · exact fun _ => (reps_stk num_stk _).bnd fun _ => (ex_stk 17).bnd fun _ => Stk.ret _
  · exact fun _ => (many_stk 12).bnd fun _ => (reps_stk num_stk _).bnd fun _ => (ex_stk 17).bnd fun _ => Stk.ret _
  · exact fun _ => num_stk.bnd fun _ => (many_stk 12).bnd fun _ => (reps_stk num_stk _).bnd fun _ => (ex_stk 17).bnd fun _ => Stk.ret _
  · exact fun _ => small_stk.bnd fun _ => num_stk.bnd fun _ => (many_stk 12).bnd fun _ => (reps_stk num_stk _).bnd fun _ => (ex_stk 17).bnd fun _ => Stk.ret _
theorem takeNds_rds : ∀ (l : List Nd), (∀ d ∈ l, NdFit d) → Rds (takeNds l.length) (nodesBy l) l
  | [], _ => ⟨fun rest => rfl, fun k hk => absurd hk (Nat.not_lt_zero _)⟩
  | d :: l, h => by
    have h1 := nd_rds d (h d (by simp))
    have h2 := takeNds_rds l (fun e he => h e (by simp [he]))
    have e : nodesBy (d :: l) = d.by ++ nodesBy l := rfl
    refine ⟨fun rest => ?_, fun k hk => ?_⟩
    · rw [e, List.append_assoc, List.length_cons]
      simp only [takeNds]
      rw [h1.ok, if_neg (by simp)]
      dsimp only
      rw [h2.ok]
    · rw [e] at hk ⊢
      rw [List.length_cons]
      simp only [takeNds]
      by_cases hb : k < d.by.length
      · rw [List.take_append_of_le_length (Nat.le_of_lt hb)]
        have e := h1.short k hb
        rw [if_pos (by rw [e]; decide)]
        exact e
      · rw [List.take_append, List.take_of_length_le (by omega : d.by.length ≤ k), h1.ok, if_neg (by simp)]
        exact h2.short _ (by rw [List.length_append] at hk; omega)

/-- What is read was put. -/
theorem num_bck : Bck Rd.num putN (fun n => -9223372036854775808 ≤ n ∧ n ≤ 9223372036854775807) := fun p h => by
  by_cases hp : p.e = 0
  · unfold Rd.num at h ⊢
    rw [if_pos hp] at h ⊢
    dsimp only at h ⊢
    have e : tkGo 0 0 p.s.data.toList = ((takeS p.s).1, (takeS p.s).2.1, 0) := by rw [← h]; rfl
    obtain ⟨k, h1, h2, _, h4, h5, h6⟩ := take_back e
    refine ⟨hp, ⟨h5, h6⟩, ?_⟩
    unfold Rd.cut
    rw [h1, Int.toNat_natCast, cut_list, ← h4, List.take_append_drop]
  · rw [Rd.num_err hp] at h
    exact absurd h hp
theorem fail_pos {p : Rd} {why : Int} (hw : why ≠ 0) : (p.fail why).e ≠ 0 := by
  unfold Rd.fail
  split
  · exact hw
  · assumption
theorem many_bck (m : Int) : Bck (Rd.many m) putN (fun n => 0 ≤ n ∧ n ≤ m) := fun p h => by
  unfold Rd.many at h ⊢
  split at h
  · exact absurd h (fail_pos (by decide))
  · rename_i hc
    rw [if_neg hc]
    obtain ⟨h0, _, h2⟩ := num_bck p h
    exact ⟨h0, ⟨by omega, by omega⟩, h2⟩
theorem small_bck : Bck Rd.small putN (fun n => 0 ≤ n ∧ n ≤ 255) := fun p h => by
  unfold Rd.small at h ⊢
  dsimp only at h ⊢
  split at h
  · exact absurd h (fail_pos (by decide))
  · rename_i hc
    rw [if_neg hc]
    obtain ⟨h0, _, h2⟩ := num_bck p h
    have e : p.num.1 % 256 = p.num.1 := Int.emod_eq_of_lt (by omega) (by omega)
    rw [e]
    exact ⟨h0, ⟨by omega, by omega⟩, h2⟩
theorem text_bck : Bck Rd.text txtL (fun u => u.size ≤ 65536) := fun p h => by
  by_cases hp : p.e = 0
  · unfold Rd.text at h ⊢
    rw [if_pos hp] at h ⊢
    dsimp only at h ⊢
    unfold takeT at h ⊢
    by_cases e0 : (takeS p.s).2.2 = 0
    · rw [if_neg (by simpa using e0)] at h ⊢
      by_cases e1 : (takeS p.s).1 < 0
      · rw [if_pos e1] at h; exact absurd h (by decide)
      rw [if_neg e1] at h ⊢
      by_cases e2 : 65536 < (takeS p.s).1
      · rw [if_pos e2] at h; exact absurd h (by decide)
      rw [if_neg e2] at h ⊢
      by_cases e3 : (p.s.size : Int) < (takeS p.s).2.1 + (takeS p.s).1
      · rw [if_pos e3] at h; exact absurd h (by decide)
      rw [if_neg e3]
      dsimp only
      have e : tkGo 0 0 p.s.data.toList = ((takeS p.s).1, (takeS p.s).2.1, 0) := by rw [← e0]; rfl
      obtain ⟨k, h1, h2, _, h4, h5, h6⟩ := take_back e
      obtain ⟨n, hn⟩ : ∃ n : Nat, (takeS p.s).1 = (n : Int) := ⟨(takeS p.s).1.toNat, by omega⟩
      rw [hn] at h4
      rw [h1, hn] at e3 ⊢
      have hl := Lib.size_eq p.s
      have hz : (p.s.extract k (k + n)).size = n := by rw [ByteArray.size_extract]; omega
      refine ⟨hp, ?_, ?_⟩
      · rw [Int.toNat_natCast, Int.toNat_natCast, hz]; omega
      · unfold Rd.cut txtL
        rw [Int.toNat_natCast, Int.toNat_natCast, hz, extract_list, ← h4, show ((k : Int) + (n : Int)).toNat = k + n by omega, cut_list, List.append_assoc, ← List.drop_drop, List.take_append_drop, List.take_append_drop]
    · rw [if_pos e0] at h
      exact absurd h e0
  · unfold Rd.text at h
    rw [if_neg hp] at h
    exact absurd h hp
theorem reps_bck {α : Type} {f : Rd → α × Rd} {b : α → List UInt8} {Q : α → Prop} (h : Bck f b Q) : ∀ m, Bck (reps f m) (fun l => l.flatMap b) (fun l => l.length = m ∧ ∀ x ∈ l, Q x)
  | 0, p, hp => ⟨hp, ⟨rfl, fun x hx => by cases hx⟩, rfl⟩
  | m + 1, p, hp => by
    simp only [reps] at hp ⊢
    obtain ⟨h1, ⟨h2, h3⟩, h4⟩ := reps_bck h m _ hp
    obtain ⟨g1, g2, g3⟩ := h p h1
    refine ⟨g1, ⟨by rw [List.length_cons, h2], fun x hx => ?_⟩, ?_⟩
    · rcases List.mem_cons.1 hx with rfl | hx
      · exact g2
      · exact h3 x hx
    · rw [g3, h4, List.flatMap_cons, List.append_assoc]
theorem exs_ok_of : ∀ {l : List Ex}, (∀ x ∈ l, x.ok) → Exs.ok l
  | [], _ => trivial
  | y :: l, h => ⟨h y (by simp), exs_ok_of fun x hx => h x (by simp [hx])⟩
theorem ex_bck : ∀ k, Bck (Rd.ex k) Ex.by Ex.ok
  | 0, p, h => absurd h (fail_pos (by decide))
  | k + 1, p, h => by
    simp only [Rd.ex] at h ⊢
    obtain ⟨h3, ⟨q3, r3⟩, e3⟩ := reps_bck (ex_bck k) _ _ h
    obtain ⟨h2, q2, e2⟩ := many_bck 3 _ h3
    obtain ⟨h1, q1, e1⟩ := num_bck _ h2
    obtain ⟨h0, q0, e0⟩ := small_bck _ h1
    refine ⟨h0, ⟨q0.1, q0.2, q1.1, q1.2, exs_ok_of r3⟩, ?_⟩
    have hl : (((reps (Rd.ex k) (p.small.2.num.2.many 3).1.toNat (p.small.2.num.2.many 3).2).1.length : Nat) : Int) = (p.small.2.num.2.many 3).1 := by rw [q3]; omega
    rw [e0, e1, e2, e3]
    simp only [Ex.by, putL, List.flatMap_cons, List.flatMap_nil, List.append_nil, List.append_assoc, Exs.by_flat, hl]
theorem nd_bck : Bck Rd.nd Nd.by (fun d => d.ok ∧ d.uid.size ≤ 65536) := fun p h => by
  have h' : (Rd.ex 17 (reps Rd.num p.nd3.1.toNat p.nd3.2).2).2.e = 0 := h
  obtain ⟨h5, q5, e5⟩ := ex_bck 17 _ h'
  obtain ⟨h4, ⟨q4, r4⟩, e4⟩ := reps_bck num_bck _ _ h5
  obtain ⟨h3, q3, e3⟩ := many_bck 12 _ h4
  obtain ⟨h2, q2, e2⟩ := num_bck _ h3
  obtain ⟨h1, q1, e1⟩ := small_bck _ h2
  obtain ⟨h0, q0, e0⟩ := text_bck _ h1
  refine ⟨h0, ⟨⟨q1.1, q1.2, r4, q5, q2.1, q2.2⟩, q0⟩, ?_⟩
  have hl : (((reps Rd.num p.nd3.1.toNat p.nd3.2).1.length : Nat) : Int) = p.nd3.1 := by rw [q4]; have := q3.1; exact Int.toNat_of_nonneg this
  have e3' : p.text.2.small.2.num.2.s.data.toList = putN p.nd3.1 ++ p.nd3.2.s.data.toList := e3
  rw [e0, e1, e2, e3', e4, e5]
  show _ = Nd.by ⟨p.text.1, p.text.2.small.1, (reps Rd.num p.nd3.1.toNat p.nd3.2).1, (Rd.ex 17 (reps Rd.num p.nd3.1.toNat p.nd3.2).2).1, p.text.2.small.2.num.1⟩ ++ (Rd.ex 17 (reps Rd.num p.nd3.1.toNat p.nd3.2).2).2.s.data.toList
  simp only [Nd.by, putL, List.flatMap_cons, List.flatMap_nil, List.append_nil, List.append_assoc, hl]
theorem takeNds_bck : ∀ m, Bck (takeNds m) nodesBy (fun l => l.length = m ∧ ∀ d ∈ l, d.ok ∧ d.uid.size ≤ 65536)
  | 0, p, hp => ⟨hp, ⟨rfl, fun x hx => by cases hx⟩, rfl⟩
  | m + 1, p, hp => by
    simp only [takeNds] at hp ⊢
    by_cases hn : p.nd.2.e = 0
    · rw [if_neg (by simpa using hn)] at hp ⊢
      obtain ⟨h1, ⟨h2, h3⟩, h4⟩ := takeNds_bck m _ hp
      obtain ⟨g1, g2, g3⟩ := nd_bck p h1
      refine ⟨g1, ⟨by rw [List.length_cons, h2], fun x hx => ?_⟩, ?_⟩
      · rcases List.mem_cons.1 hx with rfl | hx
        · exact g2
        · exact h3 x hx
      · rw [g3, h4]
        show _ = (p.nd.1 :: (takeNds m p.nd.2).1).flatMap Nd.by ++ _
        rw [List.flatMap_cons, List.append_assoc]
        rfl
    · rw [if_pos hn] at hp
      exact absurd hp hn

/-- What pack.Take tells. -/
def takeJ (s : ByteArray) : Jb × Int :=
  let r := Rd.jb s
  let p := if r.2.s.size = 0 then r.2 else r.2.fail 2
  let q := if r.1.may.2 = 0 then p else p.fail 2
  if q.e = 0 then (r.1, 0) else (⟨0, []⟩, q.e)
theorem jb_rds (j : Jb) (hok : j.ok) (hn : j.nodes.length ≤ 12) (hf : ∀ d ∈ j.nodes, NdFit d) :
    (∀ rest, Rd.jb (bstr (j.by ++ rest)) = (j, ⟨bstr rest, 0⟩)) ∧ ∀ k, k < j.by.length → (Rd.jb (bstr (j.by.take k))).2.e = 20 := by
  have e : ∀ s, Rd.jb s = rdBnd Rd.num (fun p => rdBnd (Rd.many 12) fun m => rdBnd (takeNds m.toNat) fun l => rdRet (⟨p, l⟩ : Jb)) ⟨s, 0⟩ := fun s => rfl
  have e2 : j.by = putN j.par ++ (putN (j.nodes.length : Int) ++ (nodesBy j.nodes ++ [])) := by
    simp only [Jb.by, putL, List.flatMap_cons, List.flatMap_nil, List.append_nil, List.append_assoc]
  have h : Rds (rdBnd Rd.num fun p => rdBnd (Rd.many 12) fun m => rdBnd (takeNds m.toNat) fun l => rdRet (⟨p, l⟩ : Jb)) j.by j := by
    rw [e2]
    refine (num_rds j.par hok.1 hok.2.1).bnd ((many_rds 12 (j.nodes.length : Int) (by omega) (by omega) (by omega)).bnd (Rds.bnd (a := j.nodes) ?_ (Rds.ret j) fun _ => Stk.ret _) ?_) ?_
    · rw [Int.toNat_natCast]
      exact takeNds_rds j.nodes hf
    · exact fun _ => (takeNds_stk _).bnd fun _ => Stk.ret _
    · exact fun _ => (many_stk 12).bnd fun _ => (takeNds_stk _).bnd fun _ => Stk.ret _
  exact ⟨fun rest => by rw [e]; exact h.ok rest, fun k hk => by rw [e]; exact h.short k hk⟩
theorem jb_bck (s : ByteArray) (h : (Rd.jb s).2.e = 0) : (Rd.jb s).1.ok ∧ (∀ d ∈ (Rd.jb s).1.nodes, d.uid.size ≤ 65536) ∧ s.data.toList = (Rd.jb s).1.by ++ (Rd.jb s).2.s.data.toList := by
  have h' : (takeNds ((Rd.num ⟨s, 0⟩).2.many 12).1.toNat ((Rd.num ⟨s, 0⟩).2.many 12).2).2.e = 0 := h
  obtain ⟨h2, ⟨q2, r2⟩, e2⟩ := takeNds_bck _ _ h'
  obtain ⟨h1, q1, e1⟩ := many_bck 12 _ h2
  obtain ⟨_, q0, e0⟩ := num_bck _ h1
  refine ⟨⟨q0.1, q0.2, fun d hd => (r2 d hd).1⟩, fun d hd => (r2 d hd).2, ?_⟩
  have hl : (((takeNds ((Rd.num ⟨s, 0⟩).2.many 12).1.toNat ((Rd.num ⟨s, 0⟩).2.many 12).2).1.length : Nat) : Int) = ((Rd.num ⟨s, 0⟩).2.many 12).1 := by rw [q2]; exact Int.toNat_of_nonneg q1.1
  have e0' : s.data.toList = putN (Rd.num ⟨s, 0⟩).1 ++ (Rd.num ⟨s, 0⟩).2.s.data.toList := e0
  rw [e0', e1, e2]
  show _ = Jb.by ⟨(Rd.num ⟨s, 0⟩).1, (takeNds ((Rd.num ⟨s, 0⟩).2.many 12).1.toNat ((Rd.num ⟨s, 0⟩).2.many 12).2).1⟩ ++ (takeNds ((Rd.num ⟨s, 0⟩).2.many 12).1.toNat ((Rd.num ⟨s, 0⟩).2.many 12).2).2.s.data.toList
  simp only [Jb.by, putL, List.flatMap_cons, List.flatMap_nil, List.append_nil, List.append_assoc, hl]

theorem bstr_nil_size {l : List UInt8} : (bstr l).size = 0 ↔ l = [] := by rw [bstr_size]; exact List.length_eq_zero_iff
theorem takeJ_back (s : ByteArray) (h : (takeJ s).2 = 0) : (takeJ s).1.ok ∧ (∀ d ∈ (takeJ s).1.nodes, d.uid.size ≤ 65536) ∧ (takeJ s).1.may.2 = 0 ∧ s = bstr (takeJ s).1.by := by
  unfold takeJ at h ⊢
  dsimp only at h ⊢
  by_cases hm : (Rd.jb s).1.may.2 = 0
  · rw [if_pos hm] at h ⊢
    by_cases hz : (Rd.jb s).2.s.size = 0
    · rw [if_pos hz] at h ⊢
      by_cases he : (Rd.jb s).2.e = 0
      · rw [if_pos he] at h ⊢
        obtain ⟨h1, h2, h3⟩ := jb_bck s he
        refine ⟨h1, h2, hm, ?_⟩
        have h0 : (Rd.jb s).2.s.data.toList = [] := List.length_eq_zero_iff.1 (by rw [← Lib.size_eq]; exact hz)
        dsimp only
        rw [h0, List.append_nil] at h3
        rw [← h3, bstr_of]
      · rw [if_neg he] at h
        exact absurd h he
    · rw [if_neg hz, if_neg (fail_pos (by decide))] at h
      exact absurd h (fail_pos (by decide))
  · rw [if_neg hm, if_neg (fail_pos (by decide))] at h
    exact absurd h (fail_pos (by decide))
theorem takeJ_err (s : ByteArray) (h : (takeJ s).2 ≠ 0) : (takeJ s).1 = ⟨0, []⟩ := by
  have e : ∀ q : Rd, (if q.e = 0 then ((Rd.jb s).1, (0 : Int)) else (⟨0, []⟩, q.e)).2 ≠ 0 → (if q.e = 0 then ((Rd.jb s).1, (0 : Int)) else (⟨0, []⟩, q.e)).1 = ⟨0, []⟩ := fun q h => by
    by_cases hq : q.e = 0
    · rw [if_pos hq] at h; exact absurd rfl h
    · rw [if_neg hq]
  exact e _ h

end Go.Proofs.Ytfieoehchghiiaa

/-
  Plain: a job's text is read as the job.
-/
import Derived.Test.YtjbchkgkapccnaaGreatDoorNI
import Derived.Test.YtjbchkgkapccnaaGreatDoorJ14
import Derived.Test.YtjbchkgkapccnaaGreatDoorTE
import Derived.Test.YtjbchkgkapccnaaGreatDoorNE
namespace Go.Proofs.YtjbchkgkapccnaaGreatDoor
open Go.RowKit
set_option linter.unusedVariables false

/-! ### an expression's line -/
theorem dig_bytes (u : Nat) : ∀ b ∈ Lib.decDigits u, 48 ≤ b.toNat ∧ b.toNat ≤ 57 := by
  induction u using Nat.strongRecOn with
  | ind u ih =>
    intro b hb
    rw [Lib.decDigits] at hb
    split at hb
    · simp only [List.mem_singleton] at hb
      subst hb
      have : (UInt8.ofNat (48 + u)).toNat = (48 + u) % 256 := rfl
      omega
    · rcases List.mem_append.1 hb with hb | hb
      · exact ih _ (by omega) b hb
      · simp only [List.mem_singleton] at hb
        subst hb
        have : (UInt8.ofNat (48 + u % 10)).toNat = (48 + u % 10) % 256 := rfl
        omega
theorem dig_ne (u : Nat) : Lib.decDigits u ≠ [] := by
  rw [Lib.decDigits]
  split <;> simp
def Bs (s : ByteArray) : Prop := ∀ b ∈ s.data.toList, 32 ≤ b.toNat
theorem Bs.app {s t : ByteArray} (hs : Bs s) (ht : Bs t) : Bs (s ++ t) := by
  intro b hb
  rw [ByteArray.data_append, Array.toList_append] at hb
  exact (List.mem_append.1 hb).elim (hs b) (ht b)
theorem sgn_bs (op : Int) : Bs (sgnB op) := by
  have h : ∀ (c : Prop) [Decidable c] (a b : ByteArray), Bs a → Bs b → Bs (if c then a else b) := fun c _ a b ha hb => by
    by_cases h : c
    · rw [if_pos h]; exact ha
    · rw [if_neg h]; exact hb
  unfold sgnB
  repeat' (first | apply h | (unfold Bs; decide))
theorem lineOp_bs (op n : Int) (l : List ByteArray) (h : ∀ s ∈ l, Bs s) : Bs (lineOp op n l) ∧ ∃ b r, (lineOp op n l).data.toList = b :: r ∧ b ≠ 32 ∧ b ≠ 9 := by
  have ho : Bs kwOpen := by unfold Bs kwOpen; decide
  have hs : Bs kwShut := by unfold Bs kwShut; decide
  have hb : Bs kwBlank := by unfold Bs kwBlank; decide
  have h1 : Bs kwIf := by unfold Bs kwIf; decide
  have h2 : Bs kwThen := by unfold Bs kwThen; decide
  have h3 : Bs kwElse := by unfold Bs kwElse; decide
  have hd : ∀ i, Bs (l.getD i kwOpen) := fun i => by
    rw [List.getD_eq_getElem?_getD]
    cases hi : l[i]? with
    | none => exact ho
    | some s => exact h s (List.mem_of_getElem? hi)
  have hop : ∀ s : ByteArray, ∃ b r, (kwOpen ++ s).data.toList = b :: r ∧ b ≠ 32 ∧ b ≠ 9 := fun s => ⟨40, s.data.toList, by rw [ByteArray.data_append, Array.toList_append]; rfl, by decide, by decide⟩
  unfold lineOp
  split
  · refine ⟨fun b hb => ?_, ?_⟩
    · have := dig_bytes _ b hb; omega
    · cases hc : Lib.decDigits n.toNat with
      | nil => exact absurd hc (dig_ne _)
      | cons b r =>
        have := dig_bytes n.toNat b (by rw [hc]; simp)
        refine ⟨b, r, hc, ?_, ?_⟩ <;> (rintro rfl; exact absurd this.1 (by decide))
  · split
    · exact ⟨by unfold Bs kwKey; decide, 107, _, rfl, by decide, by decide⟩
    · split
      · exact ⟨by unfold Bs kwVal; decide, 118, _, rfl, by decide, by decide⟩
      · split
        · exact ⟨by unfold Bs kwAcc; decide, 97, _, rfl, by decide, by decide⟩
        · split
          · refine ⟨((ho.app (sgn_bs op)).app (hd 0)).app hs, ?_⟩
            rw [ByteArray.append_assoc, ByteArray.append_assoc]
            exact hop _
          · split
            · refine ⟨((((((ho.app h1).app (hd 0)).app h2).app (hd 1)).app h3).app (hd 2)).app hs, ?_⟩
              rw [ByteArray.append_assoc, ByteArray.append_assoc, ByteArray.append_assoc, ByteArray.append_assoc, ByteArray.append_assoc, ByteArray.append_assoc]
              exact hop _
            · refine ⟨(((ho.app (hd 0)).app ((hb.app (sgn_bs op)).app hb)).app (hd 1)).app hs, ?_⟩
              rw [ByteArray.append_assoc, ByteArray.append_assoc, ByteArray.append_assoc]
              exact hop _
mutual
theorem line_bs : ∀ x : Ex, Bs x.line
  | .mk o n l => by
    simp only [Ex.line]
    exact (lineOp_bs o n _ (lines_bs l)).1
theorem lines_bs : ∀ l : List Ex, ∀ s ∈ Exs.lines l, Bs s
  | [], s, h => by cases h
  | x :: l, s, h => by
    simp only [Exs.lines] at h
    rcases List.mem_cons.1 h with rfl | h
    · exact line_bs x
    · exact lines_bs l s h
end
theorem line_head (x : Ex) : ∃ b r, x.line.data.toList = b :: r ∧ b ≠ 32 ∧ b ≠ 9 := by
  obtain ⟨o, n, l⟩ := x
  simp only [Ex.line]
  exact (lineOp_bs o n _ (lines_bs l)).2

/-! ### a node's line -/
theorem ints_map (j2 : Jb) : ∀ (l : List Int) (f : Int → ByteArray) (acc : List Int), (∀ z ∈ l, j2.find (f z) = z ∧ 0 ≤ z) → insGo j2 acc (l.map f) = some (acc ++ l)
  | [], f, acc, h => by rw [List.append_nil]; rfl
  | z :: l, f, acc, h => by
    obtain ⟨h1, h2⟩ := h z (by simp)
    rw [List.map_cons, insGo, h1, if_neg (by omega), ints_map j2 l f (acc ++ [z]) (fun y hy => h y (by simp [hy])), List.append_assoc]
    rfl
theorem idxZ_ge {α : Type} (p : α → Bool) : ∀ (l : List α) (k : Nat), idxZ p l k = -1 ∨ (k : Int) ≤ idxZ p l k
  | [], k => .inl rfl
  | y :: l, k => by
    have := idxZ_ge p l (k + 1)
    simp only [idxZ]
    cases p y <;> simp only [cond_true, cond_false] <;> omega
theorem idx_take {α : Type} (p : α → Bool) : ∀ (l : List α) (m k i : Nat), idxZ p l m = ((m + i : Nat) : Int) → i < k → idxZ p (l.take k) m = ((m + i : Nat) : Int)
  | [], m, k, i, h, hk => by simp only [idxZ] at h; omega
  | y :: l, m, 0, i, h, hk => by omega
  | y :: l, m, k + 1, i, h, hk => by
    rw [List.take_succ_cons]
    simp only [idxZ] at h ⊢
    cases hp : p y
    · rw [hp, cond_false] at h
      rw [cond_false]
      have hg := idxZ_lt p l (m + 1)
      cases i with
      | zero =>
        have := idxZ_ge p l (m + 1)
        omega
      | succ i =>
        have := idx_take p l (m + 1) k i (by rw [h]; congr 1; omega) (by omega)
        rw [this]; congr 1; omega
    · rw [hp, cond_true] at h
      rw [cond_true]; exact h
theorem kindOf_word (k : Int) (h1 : 1 ≤ k) (h9 : k ≤ 9) : kindOf (wordK k) = k := by
  have : k = 1 ∨ k = 2 ∨ k = 3 ∨ k = 4 ∨ k = 5 ∨ k = 6 ∨ k = 7 ∨ k = 8 ∨ k = 9 := by omega
  rcases this with rfl | rfl | rfl | rfl | rfl | rfl | rfl | rfl | rfl <;> decide +kernel
theorem num2_dec : ∀ n : Nat, n < 20 → numB (decB n) 2 = ((n : Int), true) := by decide +kernel
theorem num1_dec : ∀ n : Nat, n < 10 → numB (decB n) 1 = ((n : Int), true) := by decide +kernel

theorem takeWhile_all {p : UInt8 → Bool} : ∀ l : List UInt8, (∀ b ∈ l, p b = true) → l.takeWhile p = l
  | [], _ => rfl
  | a :: l, h => by rw [List.takeWhile_cons, h a (by simp), if_pos rfl, takeWhile_all l (fun b hb => h b (by simp [hb]))]
theorem ahead_all (s : ByteArray) (h : ∀ b ∈ s.data.toList, b ≠ 58) : ba (aheadL s) = s ∧ hasColon s = false := by
  refine ⟨?_, ?_⟩
  · unfold aheadL
    rw [takeWhile_all _ (fun b hb => by simpa using h b hb)]
    exact ba_of s
  · unfold hasColon
    rw [List.any_eq_false]
    intro b hb
    simpa using h b hb
theorem ahead_at (s a t : ByteArray) (h : ∀ b ∈ a.data.toList, b ≠ 58) (hs : s.data.toList = a.data.toList ++ 58 :: t.data.toList) : ba (aheadL s) = a ∧ hasColon s = true ∧ behindL s = t.data.toList := by
  have hp : ∀ b ∈ a.data.toList, (!(b == 58)) = true := fun b hb => by simpa using h b hb
  refine ⟨?_, ?_, ?_⟩
  · unfold aheadL
    rw [hs, List.takeWhile_append_of_pos hp]
    simp
    exact ba_of a
  · unfold hasColon
    rw [hs]; simp
  · unfold behindL
    rw [hs, List.dropWhile_append_of_pos hp]
    simp
theorem trimL_head (b : UInt8) (r : List UInt8) (h1 : b ≠ 32) (h2 : b ≠ 9) : Lib.trimLeftS (32 :: b :: r) [32, 9] = b :: r := by
  unfold Lib.trimLeftS
  rw [in_blank, List.dropWhile_cons, if_pos (show blankU 32 = true from rfl), List.dropWhile_cons, if_neg]
  unfold blankU
  simp [h1, h2]

/-- The words of a node's line are its node's. -/
theorem head_node {j : Jb} {d : Nd} (k : Nat) (g : NdG j d) (hf : ∀ z ∈ d.ins, (⟨j.par, j.nodes.take k⟩ : Jb).find (uidAt j z) = z ∧ 0 ≤ z) :
    pNd ⟨j.par, j.nodes.take k⟩ (headW j d) = some ⟨d.uid, d.kind, d.ins, Ex.zero, d.n⟩ := by
  have hw := kindOf_word d.kind g.k1 g.k9
  have hi := ints_map ⟨j.par, j.nodes.take k⟩ d.ins (uidAt j) [] hf
  rw [List.nil_append] at hi
  obtain ⟨nn, hnn⟩ : ∃ m : Nat, d.n = (m : Int) := ⟨d.n.toNat, by have := g.n0; omega⟩
  have hn16 : nn ≤ 16 := by have := g.n16; omega
  have e : headW j d = d.uid :: wordK d.kind :: (d.ins.map (uidAt j) ++ if d.kind = 7 then [decB d.n.toNat] else []) := rfl
  have ht : ndTail d.kind (d.ins.map (uidAt j) ++ if d.kind = 7 then [decB d.n.toNat] else []) = some (d.n, d.ins.map (uidAt j)) := by
    unfold ndTail
    by_cases h7 : d.kind = 7
    · rw [if_pos h7, if_pos h7, hnn, Int.toNat_natCast]
      have hl : (d.ins.map (uidAt j) ++ [decB nn]).length = (d.ins.map (uidAt j)).length + 1 := by rw [List.length_append]; rfl
      rw [if_neg (by omega)]
      have hg : (d.ins.map (uidAt j) ++ [decB nn]).getD ((d.ins.map (uidAt j) ++ [decB nn]).length - 1) .empty = decB nn := by
        rw [hl, Nat.add_sub_cancel, List.getD_eq_getElem?_getD, List.getElem?_append_right (Nat.le_refl _), Nat.sub_self]
        rfl
      rw [hg, num2_dec nn (by omega), cond_true, hl, Nat.add_sub_cancel, List.take_left']
      rfl
    · rw [if_neg h7, if_neg h7, List.append_nil, g.n7 h7]
  rw [e]
  unfold pNd
  simp only [hw, ht, hi]
  rw [if_neg (by have := g.k1; omega)]
theorem good_head {j : Jb} {d : Nd} (g : NdG j d) (hall : ∀ e ∈ j.nodes, NdG j e) : ∀ u ∈ headW j d, GoodW u := by
  intro u hu
  unfold headW at hu
  simp only [List.cons_append, List.nil_append, List.mem_cons, List.mem_append, List.mem_map] at hu
  rcases hu with rfl | rfl | ⟨z, hz, rfl⟩ | hu
  · exact good_name g.name
  · exact good_word d.kind g.k1 g.k9
  · have h1 := g.insAt z hz
    obtain ⟨zn, rfl⟩ : ∃ m : Nat, z = (m : Int) := ⟨z.toNat, by omega⟩
    have := uidAt_nat j zn (by omega)
    unfold uidAt at this
    rw [this]
    exact good_name (hall _ (List.getElem_mem _)).name
  · split at hu
    · simp at hu
      subst hu
      exact good_dec _ (by have := g.n0; have := g.n16; omega)
    · cases hu

theorem ex_zero_of (x : Ex) (h : x.sameB (.mk 0 0 []) = true) : x = Ex.zero := by
  obtain ⟨o, n, l⟩ := x
  cases l with
  | nil =>
    simp only [Ex.sameB, Exs.sameB] at h
    simp at h
    obtain ⟨rfl, rfl⟩ := h
    rfl
  | cons a l =>
    simp only [Ex.sameB] at h
    simp [Exs.sameB] at h
theorem typ_may {x : Ex} {acc : Bool} {ty : Int} (h : x.isB acc ty = true) : x.mayT = true := by
  unfold Ex.isB at h
  have h1 := (of_decide_eq_true h).1
  unfold Ex.typ at h1
  cases hm : x.mayT
  · rw [hm, if_neg (fun h => by cases h)] at h1
    exact absurd h1 (show ¬ (2 : Int) = 0 by decide)
  · rfl
theorem told_of_ok {x : Ex} (hm : x.mayT = true) (h : x.told.2 = 0) : x.told.1 = x.line ∧ x.line.size ≤ 400 := by
  unfold Ex.told at h ⊢
  rw [if_pos hm] at h ⊢
  by_cases hs : 400 < x.line.size
  · rw [if_pos hs] at h; exact absurd h (by decide)
  · rw [if_neg hs]; exact ⟨rfl, by omega⟩
def sumS : List ByteArray → Nat
  | [] => 0
  | a :: l => a.size + 1 + sumS l
theorem sumS_app : ∀ l m : List ByteArray, sumS (l ++ m) = sumS l + sumS m
  | [], m => by simp [sumS]
  | a :: l, m => by rw [List.cons_append, sumS, sumS, sumS_app l m]; omega
theorem sumS_le (c : Nat) : ∀ l : List ByteArray, (∀ x ∈ l, x.size ≤ c) → sumS l ≤ (c + 1) * l.length
  | [], _ => Nat.zero_le _
  | a :: l, h => by
    have h1 := h a (by simp)
    have h2 := sumS_le c l (fun x hx => h x (by simp [hx]))
    rw [sumS, List.length_cons, Nat.mul_succ]
    omega
theorem join_sum : ∀ ws : List ByteArray, ws ≠ [] → (joinB ws).size + 1 = sumS ws
  | [a], _ => by rw [joinB_one]; rfl
  | a :: b :: r, _ => by
    rw [joinB_cons, sumS, ← join_sum (b :: r) (by simp), ByteArray.size_append, ByteArray.size_append]
    show a.size + (1 + _) + 1 = _
    omega
theorem head_size {j : Jb} {d : Nd} (g : NdG j d) (hall : ∀ e ∈ j.nodes, NdG j e) : (joinB (headW j d)).size ≤ 399 := by
  have hne : headW j d ≠ [] := by unfold headW; simp
  have h := join_sum _ hne
  have hu := g.uid
  have hk := wordK_size d.kind g.k1 g.k9
  have hi : sumS (d.ins.map (uidAt j)) ≤ 97 * (d.ins.map (uidAt j)).length := sumS_le 96 _ (fun x hx => by
    obtain ⟨z, hz, rfl⟩ := List.mem_map.1 hx
    have h1 := g.insAt z hz
    obtain ⟨zn, rfl⟩ : ∃ m : Nat, z = (m : Int) := ⟨z.toNat, by omega⟩
    rw [uidAt_nat j zn (by omega)]
    exact (hall _ (List.getElem_mem _)).uid)
  rw [List.length_map] at hi
  have hl := g.ins
  have ht : sumS (if d.kind = 7 then [decB d.n.toNat] else []) ≤ 3 := by
    split
    · have := dec_size d.n.toNat (by have := g.n0; have := g.n16; omega)
      simp only [sumS]; omega
    · exact Nat.zero_le _
  have e : sumS (headW j d) = (d.uid.size + 1 + ((wordK d.kind).size + 1)) + sumS (d.ins.map (uidAt j)) + sumS (if d.kind = 7 then [decB d.n.toNat] else []) := by
    unfold headW
    rw [sumS_app, sumS_app]
    rfl
  omega

/-- A node's line is read as the node. -/
theorem line_node_read {j : Jb} {d : Nd} (k : Nat) (g : NdG j d) (hall : ∀ e ∈ j.nodes, NdG j e) (hok : d.x.ok) (hto : hasK d.kind = true → d.x.told.2 = 0) (hf : ∀ z ∈ d.ins, (⟨j.par, j.nodes.take k⟩ : Jb).find (uidAt j z) = z ∧ 0 ≤ z) :
    pLine ⟨j.par, j.nodes.take k⟩ (joinB (tellW j d)) false = (⟨j.par, j.nodes.take k ++ [d]⟩, 0) ∧ (∀ b ∈ (joinB (tellW j d)).data.toList, b ≠ 10) := by
  have hne : headW j d ≠ [] := by unfold headW; simp
  have hg := good_head g hall
  have hs := head_size g hall
  have hn := head_node k g hf
  have hb := join_bytes _ hne hg
  cases hk : hasK d.kind
  · have e : tellW j d = headW j d := by unfold tellW; rw [hk, if_neg (fun h => by cases h), List.append_nil]
    have hx : d.x = Ex.zero := ex_zero_of _ (g.x0 ((rTy_hasK _ g.k1 g.k9).2 hk))
    obtain ⟨h1, h2⟩ := ahead_all (joinB (headW j d)) (fun b hb' => (hb b hb').2)
    rw [e]
    refine ⟨?_, fun b hb' => (hb b hb').1⟩
    unfold pLine
    rw [h1, words_join _ hne hg (by omega), h2, hn]
    simp only [ne_eq, not_true_eq_false, if_false, Bool.false_eq_true, hk]
    rw [← hx]
  · have hm : d.x.mayT = true := typ_may (g.x1 (fun h => by have := (rTy_hasK _ g.k1 g.k9).1 h; rw [hk] at this; cases this))
    obtain ⟨ht1, ht2⟩ := told_of_ok hm (hto hk)
    have e : tellW j d = headW j d ++ [colS, d.x.line] := by unfold tellW; rw [hk, if_pos rfl, ht1]
    have e2 : joinB (tellW j d) = (joinB (headW j d) ++ { data := #[32, 58, 32] }) ++ d.x.line := by
      have := cat_two .empty (headW j d) d.x.line (by unfold headW; simp)
      rw [e]
      have e0 : ∀ s : ByteArray, ByteArray.empty ++ s = s := fun s => by apply ba_ext; rw [ByteArray.data_append, Array.toList_append]; rfl
      rw [e0, e0] at this
      exact this.symm
    obtain ⟨b, r, hbr, hb1, hb2⟩ := line_head d.x
    have hd : (joinB (tellW j d)).data.toList = (joinB (headW j d) ++ ⟨#[32]⟩ : ByteArray).data.toList ++ 58 :: (⟨#[32]⟩ ++ d.x.line : ByteArray).data.toList := by
      rw [e2]
      simp only [ByteArray.data_append, Array.toList_append]
      simp
    have hnc : ∀ c ∈ (joinB (headW j d) ++ ⟨#[32]⟩ : ByteArray).data.toList, c ≠ 58 := fun c hc => by
      rw [ByteArray.data_append, Array.toList_append] at hc
      rcases List.mem_append.1 hc with hc | hc
      · exact (hb c hc).2
      · simp at hc; subst hc; decide
    obtain ⟨h1, h2, h3⟩ := ahead_at _ _ _ hnc hd
    have h4 : (⟨#[32]⟩ ++ d.x.line : ByteArray).data.toList = 32 :: b :: r := by
      rw [ByteArray.data_append, Array.toList_append, hbr]
      rfl
    have h5 : ba (Lib.trimLeftS (behindL (joinB (tellW j d))) [32, 9]) = d.x.line := by
      rw [h3, h4, trimL_head b r hb1 hb2, ← hbr]
      exact ba_of _
    refine ⟨?_, fun c hc => ?_⟩
    · unfold pLine
      rw [h1, words_join_sp _ hne hg hs, h2, hn, h5, parse_line d.x hok hm ht2]
      simp only [ne_eq, not_true_eq_false, if_false, Bool.false_eq_true, hk, if_true]
    · rw [hd] at hc
      rcases List.mem_append.1 hc with hc | hc
      · rw [ByteArray.data_append, Array.toList_append] at hc
        rcases List.mem_append.1 hc with hc | hc
        · exact (hb c hc).1
        · simp at hc; subst hc; decide
      · rcases List.mem_cons.1 hc with rfl | hc
        · decide
        · rw [ByteArray.data_append, Array.toList_append] at hc
          rcases List.mem_append.1 hc with hc | hc
          · simp at hc; subst hc; decide
          · have := line_bs d.x c hc
            rintro rfl
            exact absurd this (by decide)

/-! ### the text -/
def bodyL (j : Jb) : List Nd → ByteArray
  | [] => ⟨#[]⟩
  | d :: l => (joinB (tellW j d) ++ nlS) ++ bodyL j l
theorem tell_body (j : Jb) : ∀ (l : List Nd) (s : ByteArray), (tellGo j l s).2 = 0 → (tellGo j l s).1 = s ++ bodyL j l ∧ ∀ d ∈ l, hasK d.kind = true → d.x.told.2 = 0
  | [], s, h => ⟨by apply ba_ext; simp [tellGo, bodyL], fun d hd => by cases hd⟩
  | d :: l, s, h => by
    simp only [tellGo] at h ⊢
    by_cases hc : hasK d.kind = true ∧ d.x.told.2 ≠ 0
    · rw [if_pos hc] at h; exact absurd h hc.2
    · rw [if_neg hc] at h ⊢
      obtain ⟨h1, h2⟩ := tell_body j l _ h
      refine ⟨by rw [h1, bodyL, ByteArray.append_assoc], fun e he hk => ?_⟩
      rcases List.mem_cons.1 he with rfl | he
      · by_cases h0 : e.x.told.2 = 0
        · exact h0
        · exact absurd ⟨hk, h0⟩ hc
      · exact h2 e he hk
theorem body_lines (j : Jb) : ∀ l : List Nd, (∀ d ∈ l, ∀ b ∈ (joinB (tellW j d)).data.toList, b ≠ 10) → linesB (bodyL j l) = l.map (fun d => joinB (tellW j d)) ++ [⟨#[]⟩]
  | [], _ => lines_one _ (fun b hb => by cases hb)
  | d :: l, h => by
    rw [bodyL, List.map_cons, List.cons_append, ← body_lines j l (fun e he => h e (by simp [he]))]
    exact lines_cons (joinB (tellW j d)) (bodyL j l) (h d (by simp))
theorem body_size (j : Jb) : ∀ l : List Nd, (∀ d ∈ l, (joinB (tellW j d)).size ≤ 3208) → (bodyL j l).size ≤ 3209 * l.length
  | [], _ => Nat.zero_le _
  | d :: l, h => by
    have h1 := h d (by simp)
    have h2 := body_size j l (fun e he => h e (by simp [he]))
    rw [bodyL, ByteArray.size_append, ByteArray.size_append, List.length_cons, Nat.mul_succ]
    show _ + 1 + _ ≤ _
    omega
theorem tellW_size {j : Jb} {d : Nd} (g : NdG j d) (hall : ∀ e ∈ j.nodes, NdG j e) : (joinB (tellW j d)).size ≤ 3208 := by
  have hg : ∀ x ∈ headW j d, x.size ≤ 400 := fun x hx => by
    unfold headW at hx
    simp only [List.cons_append, List.nil_append, List.mem_cons, List.mem_append, List.mem_map] at hx
    rcases hx with rfl | rfl | ⟨z, hz, rfl⟩ | hx
    · have := g.uid; omega
    · have := wordK_size d.kind g.k1 g.k9; omega
    · have h1 := g.insAt z hz
      obtain ⟨zn, rfl⟩ : ∃ m : Nat, z = (m : Int) := ⟨z.toNat, by omega⟩
      have := uidAt_nat j zn (by omega)
      unfold uidAt at this
      rw [this]
      have := (hall _ (List.getElem_mem (by omega : zn < j.nodes.length))).uid
      omega
    · split at hx
      · simp at hx
        subst hx
        have := dec_size d.n.toNat (by have := g.n0; have := g.n16; omega)
        omega
      · cases hx
  have hl : (headW j d).length ≤ 6 := by
    unfold headW
    simp only [List.length_append, List.length_map, List.length_cons, List.length_nil]
    have := g.ins
    split
    · simp only [List.length_cons, List.length_nil]; omega
    · simp only [List.length_nil]; omega
  have ha : ∀ x ∈ tellW j d, x.size ≤ 400 := fun x hx => by
    unfold tellW at hx
    rcases List.mem_append.1 hx with hx | hx
    · exact hg x hx
    · split at hx
      · simp at hx
        rcases hx with rfl | rfl
        · decide
        · exact told_size d.x
      · cases hx
  have hl2 : (tellW j d).length ≤ 8 := by
    unfold tellW
    rw [List.length_append]
    split
    · simp only [List.length_cons, List.length_nil]; omega
    · simp only [List.length_nil]; omega
  exact Nat.le_trans (joinB_size _ ha) (by omega)
/-- A node's line says something. -/
theorem line_loud {j : Jb} {d : Nd} (g : NdG j d) : silentB (joinB (tellW j d)) = false := by
  have hg := good_name g.name
  have hb := good_blank hg
  cases hu : d.uid.data.toList with
  | nil => exact absurd hu hb.2
  | cons b r =>
    have h1 := hb.1 b (by rw [hu]; simp)
    have h2 := (hg.bytes b (by rw [hu]; simp)).2.2.2.2
    have e : ∃ q, (joinB (tellW j d)).data.toList = b :: q := by
      unfold tellW headW
      simp only [List.cons_append, List.nil_append]
      rw [joinB_cons, data_sp, hu]
      exact ⟨_, rfl⟩
    obtain ⟨q, e⟩ := e
    unfold silentB
    rw [e, List.all_cons, h1]
    simpa using h2
theorem pGo_nodes {j : Jb} (hok : j.ok) (hg : j.Good) (hall : ∀ e ∈ j.nodes, NdG j e) (hto : ∀ d ∈ j.nodes, hasK d.kind = true → d.x.told.2 = 0) :
    ∀ (l : List Nd) (k i : Nat) (a : List Int), j.nodes.drop k = l → k + l.length = j.nodes.length → ∃ a2, pGo (l.map (fun d => joinB (tellW j d)) ++ [⟨#[]⟩]) i ⟨j.par, j.nodes.take k⟩ a false = .ok (⟨j.par, j.nodes⟩, a2, false)
  | [], k, i, a, hd, hl => by
    refine ⟨a, ?_⟩
    have : j.nodes.take k = j.nodes := List.take_of_length_le (by simp at hl; omega)
    rw [this]
    rfl
  | d :: l, k, i, a, hd, hl => by
    have hk : k < j.nodes.length := by rw [List.length_cons] at hl; omega
    have hdk : d = j.nodes[k] ∧ j.nodes.drop (k + 1) = l := by
      rw [List.drop_eq_getElem_cons hk] at hd
      injection hd with h1 h2
      exact ⟨h1.symm, h2⟩
    have hm : d ∈ j.nodes := by rw [hdk.1]; exact List.getElem_mem hk
    have g := hall d hm
    have hin : ∀ z ∈ d.ins, 0 ≤ z ∧ z < (k : Int) := by
      have hn := hg.node k hk
      rw [← hdk.1] at hn
      exact (nodeB_in d k hn).2.2.2
    have hf : ∀ z ∈ d.ins, (⟨j.par, j.nodes.take k⟩ : Jb).find (uidAt j z) = z ∧ 0 ≤ z := fun z hz => by
      have h1 := hin z hz
      obtain ⟨zn, rfl⟩ : ∃ m : Nat, z = (m : Int) := ⟨z.toNat, by omega⟩
      refine ⟨?_, by omega⟩
      rw [uidAt_nat j zn (by omega)]
      have hfi := hg.finds zn (by omega)
      unfold Jb.find at hfi ⊢
      have := idx_take (fun d : Nd => decide (d.uid = (j.nodes[zn]'(by omega)).uid)) j.nodes 0 k zn (by rw [hfi]; simp) (by omega)
      rw [this]; simp
    have hl1 := (line_node_read k g hall (hok.2.2 d hm).2.2.2.1 (hto d hm) hf).1
    have hs : j.nodes.take k ++ [d] = j.nodes.take (k + 1) := by rw [List.take_succ_eq_append_getElem hk, hdk.1]
    rw [hs] at hl1
    obtain ⟨a2, h2⟩ := pGo_nodes hok hg hall hto l (k + 1) (i + 1) (a ++ [((i + 1 : Nat) : Int)]) hdk.2 (by rw [List.length_cons] at hl; omega)
    refine ⟨a2, ?_⟩
    rw [List.map_cons, List.cons_append, pGo, line_loud g, cond_false, hl1]
    simp only [ne_eq, not_true_eq_false, if_false, cond_false]
    exact h2
theorem first_lines : ∀ p : Nat, p < 5 → 1 ≤ p → silentB (parS ++ decB p) = false ∧ pLine Jb.zero (parS ++ decB p) true = (⟨(p : Int), []⟩, 0) ∧ ((parS ++ decB p).data.toList.all fun b => b != 10) = true := by
  intro p h1 h2
  have : p = 1 ∨ p = 2 ∨ p = 3 ∨ p = 4 := by omega
  rcases this with rfl | rfl | rfl | rfl
  all_goals exact ⟨by kernel_rfl, by kernel_rfl, by kernel_rfl⟩
/-- A JOB IS READ AS IT WAS TOLD. -/
theorem script_back {j : Jb} (hok : j.ok) (h : (tellJ j).2 = 0) : pScript (tellJ j).1 = (j, 0, 0) := by
  have hm : j.may.2 = 0 := by
    unfold tellJ at h
    by_cases h0 : j.may.2 = 0
    · exact h0
    · rw [if_pos h0] at h; exact absurd h (by decide)
  have hg := may_good j hm
  have hall := good_nd hm
  obtain ⟨pn, hpn⟩ : ∃ k : Nat, j.par = (k : Int) := ⟨j.par.toNat, by have := hg.p1; omega⟩
  have hp1 := hg.p1
  have hp2 := hg.p2
  obtain ⟨f1, f2, f3⟩ := first_lines pn (by omega) (by omega)
  have ht : (tellJ j) = tellGo j j.nodes ((parS ++ decB pn) ++ nlS) := by
    unfold tellJ
    rw [if_neg (fun e => e hm), hpn, Int.toNat_natCast]
  rw [ht] at h ⊢
  obtain ⟨hb, hto⟩ := tell_body j j.nodes _ h
  rw [hb]
  have hlf : ∀ d ∈ j.nodes, ∀ b ∈ (joinB (tellW j d)).data.toList, b ≠ 10 := fun d hd => by
    obtain ⟨k, hk, rfl⟩ := List.mem_iff_getElem.1 hd
    have g := hall _ hd
    refine (line_node_read j.nodes.length g hall (hok.2.2 _ hd).2.2.2.1 (hto _ hd) (fun z hz => ?_)).2
    have h1 := g.insAt z hz
    obtain ⟨zn, rfl⟩ : ∃ m : Nat, z = (m : Int) := ⟨z.toNat, by omega⟩
    rw [List.take_length, uidAt_nat j zn (by omega)]
    exact ⟨hg.finds zn (by omega), by omega⟩
  have hsz : (((parS ++ decB pn) ++ nlS) ++ bodyL j j.nodes).size ≤ 65536 := by
    have h1 := body_size j j.nodes (fun d hd => tellW_size (hall d hd) hall)
    have h2 := dec_size pn (by omega)
    have h3 := hg.n2
    rw [ByteArray.size_append, ByteArray.size_append, ByteArray.size_append]
    show 4 + (decB pn).size + 1 + _ ≤ _
    omega
  have hln : linesB (((parS ++ decB pn) ++ nlS) ++ bodyL j j.nodes) = (parS ++ decB pn) :: (j.nodes.map (fun d => joinB (tellW j d)) ++ [⟨#[]⟩]) := by
    rw [← body_lines j j.nodes hlf]
    exact lines_cons (parS ++ decB pn) (bodyL j j.nodes) (fun b hb => by
      have := List.all_eq_true.1 f3 b hb
      simpa using this)
  obtain ⟨a2, h2⟩ := pGo_nodes hok hg hall hto j.nodes 0 1 [] (List.drop_zero ..) (Nat.zero_add _)
  rw [List.take_zero] at h2
  have hmay := good_may j hg
  unfold pScript
  rw [if_neg (by omega), hln, pGo, f1, cond_false, f2]
  simp only [ne_eq, not_true_eq_false, if_false, cond_true]
  rw [← hpn, h2]
  have hj : (⟨j.par, j.nodes⟩ : Jb) = j := rfl
  simp only [pRes, pEnd, cond_false]
  rw [hj, hmay]
  simp
/-- What is read is told, or its text would be too wide. -/
theorem tell_wide {j : Jb} (hm : j.may.2 = 0) : (tellJ j).2 = 0 ∨ (tellJ j).2 = 110 := by
  have hall := good_nd hm
  have go : ∀ (l : List Nd) (s : ByteArray), (∀ d ∈ l, NdG j d) → (tellGo j l s).2 = 0 ∨ (tellGo j l s).2 = 110 := by
    intro l
    induction l with
    | nil => intro s _; exact .inl rfl
    | cons d l ih =>
      intro s hl
      simp only [tellGo]
      by_cases hc : hasK d.kind = true ∧ d.x.told.2 ≠ 0
      · rw [if_pos hc]
        right
        have g := hl d (by simp)
        have hmx : d.x.mayT = true := typ_may (g.x1 (fun h => by have := (rTy_hasK _ g.k1 g.k9).1 h; rw [hc.1] at this; cases this))
        have h2 := hc.2
        unfold Ex.told at h2 ⊢
        rw [if_pos hmx] at h2 ⊢
        by_cases hs : 400 < d.x.line.size
        · rw [if_pos hs]
        · rw [if_neg hs] at h2; exact absurd rfl h2
      · rw [if_neg hc]
        exact ih _ (fun e he => hl e (by simp [he]))
  unfold tellJ
  rw [if_neg (fun e => e hm)]
  exact go j.nodes _ hall
theorem parse_may {s : ByteArray} (h : (pScript s).2.2 = 0) : (pScript s).1.may.2 = 0 := by
  have go : ∀ x, (pRes x).2.2 = 0 → (∀ q, x = .error q → q.2 ≠ 0) → (pRes x).1.may.2 = 0 := by
    intro x hx he
    match x, hx, he with
    | .error q, hx, he => exact absurd hx (he q rfl)
    | .ok (j, a, true), hx, _ => exact absurd hx (show ¬ (130 : Int) = 0 by decide)
    | .ok (j, a, false), hx, _ =>
      have e1 : pRes (.ok (j, a, false)) = if j.may.2 = 2 then (Jb.zero, 0, 2) else if j.may.2 ≠ 0 then (Jb.zero, a.getD j.may.1.toNat 0, j.may.2) else (j, 0, 0) := rfl
      rw [e1] at hx ⊢
      by_cases c2 : j.may.2 = 2
      · rw [if_pos c2] at hx; exact absurd hx (show ¬ (2 : Int) = 0 by decide)
      · rw [if_neg c2] at hx ⊢
        by_cases c0 : j.may.2 = 0
        · rw [if_neg (fun h => h c0)]; exact c0
        · rw [if_pos c0] at hx; exact absurd hx c0
  have err : ∀ (L : List ByteArray) (i : Nat) (j : Jb) (a : List Int) (f : Bool) q, pGo L i j a f = .error q → q.2 ≠ 0 := by
    intro L
    induction L with
    | nil => intro i j a f q h; cases h
    | cons t L ih =>
      intro i j a f q h
      simp only [pGo] at h
      cases hs : silentB t
      · rw [hs, cond_false] at h
        split at h
        · simp only [Except.error.injEq] at h
          subst h; assumption
        · exact ih _ _ _ _ _ h
      · rw [hs, cond_true] at h
        exact ih _ _ _ _ _ h
  unfold pScript at h ⊢
  split at h
  · exact absurd h (show ¬ (3 : Int) = 0 by decide)
  · rename_i hc
    rw [if_neg hc]
    exact go _ h (fun q hq => err _ _ _ _ _ q hq)
end Go.Proofs.YtjbchkgkapccnaaGreatDoor

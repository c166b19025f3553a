/-
  Walk: kind.rules.
-/
import Derived.Test.YtfieoehchghiiaaK4
import Derived.Carry
namespace Go.Proofs.Ytfieoehchghiiaa
open Go.RowKit
set_option linter.unusedVariables false

def kv1 := rowsOf 1 0 0 0 [1, 2, 3, 4]
def kv2 := kv1 ++ rowsOf 1 1 0 0 [5]
def kv3 := kv2 ++ rowsOf 1 1 1 0 [7, 8, 9, 10, 11]
def kv4 := kv3 ++ rowsOf 2 2 0 0 [6]
def kv5 := kv4 ++ rowsOf 2 2 2 0 [16, 17, 14, 15]
def kv6 := kv5 ++ rowsOf 2 1 1 0 [12, 13, 14, 15]
def kv7 := kv6 ++ rowsOf 1 2 1 1 [18]
def kv8 := kv7 ++ rowsOf 2 2 2 2 [18]

structure Kd (w W : World) (kv : List (Row × Int)) : Prop where
  map : MapIs W w.heap.size kv
  cell : W.cell? ⟨w.heap.size + 1, 0, none⟩ = some (.map (some w.heap.size))
  size : w.heap.size + 2 ≤ W.heap.size
  below : Below w.heap.size w W

theorem put_k (w W : World) (kv : List (Row × Int)) (h : Kd w W kv) (ty A B C : Int) (ops : List Int) (n : Nat) (cells : Array Value) (ts : TypeId) (bs : Nat) (hc : cells = (ops.map (Value.int .u8)).toArray) (hn : ops.length = n) (hn2 : n ≤ 1000)
    (hb : bs = W.heap.size) (hnew : ∀ j (h : j < ops.length), findRow ⟨ops[j], A, B, C⟩ (kv ++ rowsOf ty A B C (ops.take j)) 0 = none) :
    Calls Try.prog 112 #[.int .u8 ty, .agg #[.int .u8 A, .int .u8 B, .int .u8 C], .slice (some ⟨bs, 0, none⟩) n n, .pointer (some ⟨w.heap.size + 1, 0, none⟩)] (W.alloc (.cells cells ts))
      fun e w' => e = .returned (.tuple #[]) ∧ Kd w w' (kv ++ rowsOf ty A B C ops) := by
  subst hc
  subst hb
  have hs := h.size
  have hcell : (W.alloc (.cells (ops.map (Value.int .u8)).toArray ts)).cell? ⟨w.heap.size + 1, 0, none⟩ = some (.map (some w.heap.size)) :=
    (((Below.refl _ W).alloc (Nat.le_refl _) _).cell (p := ⟨w.heap.size + 1, 0, none⟩) (by show w.heap.size + 1 < _; omega)).trans h.cell
  refine (put_c ty A B C ops n W.heap.size ts (w.heap.size + 1) w.heap.size kv _ hn hn2 (Blk.new _ _ _) hcell (by omega) (by simp; omega) (by omega) (h.map.alloc _) hnew).mono ?_
  rintro e w' ⟨rfl, hm, hf⟩
  refine ⟨rfl, hm, ?_, ?_, ?_⟩
  · exact (World.cell?_of_block (a := ⟨w.heap.size + 1, 0, none⟩) (hf.block (w.heap.size + 1) (by simp; omega) (by omega))).trans hcell
  · have := hf.size
    simp at this
    omega
  · exact (h.below.alloc (by omega) _).trans (hf.below (by simp; omega) (fun k hk => by omega))

theorem new1 : ∀ j (h : j < ([1, 2, 3, 4] : List Int).length), findRow ⟨([1, 2, 3, 4] : List Int)[j], 0, 0, 0⟩ ([] ++ rowsOf 1 0 0 0 (([1, 2, 3, 4] : List Int).take j)) 0 = none := by decide
theorem new2 : ∀ j (h : j < ([5] : List Int).length), findRow ⟨([5] : List Int)[j], 1, 0, 0⟩ (kv1 ++ rowsOf 1 1 0 0 (([5] : List Int).take j)) 0 = none := by decide
theorem new3 : ∀ j (h : j < ([7, 8, 9, 10, 11] : List Int).length), findRow ⟨([7, 8, 9, 10, 11] : List Int)[j], 1, 1, 0⟩ (kv2 ++ rowsOf 1 1 1 0 (([7, 8, 9, 10, 11] : List Int).take j)) 0 = none := by decide
theorem new4 : ∀ j (h : j < ([6] : List Int).length), findRow ⟨([6] : List Int)[j], 2, 0, 0⟩ (kv3 ++ rowsOf 2 2 0 0 (([6] : List Int).take j)) 0 = none := by decide
theorem new5 : ∀ j (h : j < ([16, 17, 14, 15] : List Int).length), findRow ⟨([16, 17, 14, 15] : List Int)[j], 2, 2, 0⟩ (kv4 ++ rowsOf 2 2 2 0 (([16, 17, 14, 15] : List Int).take j)) 0 = none := by decide
theorem new6 : ∀ j (h : j < ([12, 13, 14, 15] : List Int).length), findRow ⟨([12, 13, 14, 15] : List Int)[j], 1, 1, 0⟩ (kv5 ++ rowsOf 2 1 1 0 (([12, 13, 14, 15] : List Int).take j)) 0 = none := by decide
theorem new7 : ∀ j (h : j < ([18] : List Int).length), findRow ⟨([18] : List Int)[j], 2, 1, 1⟩ (kv6 ++ rowsOf 1 2 1 1 (([18] : List Int).take j)) 0 = none := by decide
theorem new8 : ∀ j (h : j < ([18] : List Int).length), findRow ⟨([18] : List Int)[j], 2, 2, 2⟩ (kv7 ++ rowsOf 2 2 2 2 (([18] : List Int).take j)) 0 = none := by decide

set_option maxRecDepth 100000 in
set_option maxHeartbeats 2000000 in
theorem rules_c (w : World) : Calls Try.prog 93 #[] w fun e w' => e = .returned (.map (some w.heap.size)) ∧ MapIs w' w.heap.size kv8 ∧ Below w.heap.size w w' := by
  have hmm := @run_makeMap Try.prog
  have hmf : ∀ (fn : Fn) (first cap : Array Value) (w : World), (Instr.makeFunc fn first cap).run Try.prog w = .ok (.func fn first cap) w := fun _ _ _ _ => rfl
  have h0 : Kd w ((w.alloc (.map #[] 0)).alloc (.cells #[.map (some w.heap.size)] 118)) [] := by
    refine ⟨MapIs.alloc (kv := []) ⟨#[], 0, heap_alloc_new w _, rfl⟩ _, ?_, by simp, ((Below.refl _ _).alloc (Nat.le_refl _) _).alloc (by simp) _⟩
    have := (Blk.new_at (w.alloc (.map #[] 0)) #[.map (some w.heap.size)] 118 (k := w.heap.size + 1) (by simp)).cell 0
    exact this
  go_enter Try.func93, Try.ntmps93
  go_wp2_with fail
  generalize hWW : World.alloc (World.alloc w _) _ = W at *
  go_wp2_with (first
    | (go_at_call 112; refine (put_k w W [] h0 1 0 0 0 [1, 2, 3, 4] 4 _ _ _ rfl rfl (by omega) (by rw [← hWW]; simp) new1).mono ?_; rintro e w1 ⟨rfl, h1⟩; have c1 := h1.cell; clear h0 hWW)
    | (go_at_call 112; refine (put_k w _ kv1 h1 1 1 0 0 [5] 1 _ _ _ rfl rfl (by omega) rfl new2).mono ?_; rintro e w2 ⟨rfl, h2⟩; have c2 := h2.cell; clear h1 c1)
    | (go_at_call 112; refine (put_k w _ kv2 h2 1 1 1 0 [7, 8, 9, 10, 11] 5 _ _ _ rfl rfl (by omega) rfl new3).mono ?_; rintro e w3 ⟨rfl, h3⟩; have c3 := h3.cell; clear h2 c2)
    | (go_at_call 112; refine (put_k w _ kv3 h3 2 2 0 0 [6] 1 _ _ _ rfl rfl (by omega) rfl new4).mono ?_; rintro e w4 ⟨rfl, h4⟩; have c4 := h4.cell; clear h3 c3)
    | (go_at_call 112; refine (put_k w _ kv4 h4 2 2 2 0 [16, 17, 14, 15] 4 _ _ _ rfl rfl (by omega) rfl new5).mono ?_; rintro e w5 ⟨rfl, h5⟩; have c5 := h5.cell; clear h4 c4)
    | (go_at_call 112; refine (put_k w _ kv5 h5 2 1 1 0 [12, 13, 14, 15] 4 _ _ _ rfl rfl (by omega) rfl new6).mono ?_; rintro e w6 ⟨rfl, h6⟩; have c6 := h6.cell; clear h5 c5)
    | (go_at_call 112; refine (put_k w _ kv6 h6 1 2 1 1 [18] 1 _ _ _ rfl rfl (by omega) rfl new7).mono ?_; rintro e w7 ⟨rfl, h7⟩; have c7 := h7.cell; clear h6 c6)
    | (go_at_call 112; refine (put_k w _ kv7 h7 2 2 2 2 [18] 1 _ _ _ rfl rfl (by omega) rfl new8).mono ?_; rintro e w8 ⟨rfl, h8⟩; have c8 := h8.cell; clear h7 c7))
  go_ret
  exact ⟨rfl, h8.map, h8.below⟩

end Go.Proofs.Ytfieoehchghiiaa

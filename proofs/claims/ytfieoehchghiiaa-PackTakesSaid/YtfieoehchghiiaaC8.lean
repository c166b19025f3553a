/-
  What pack.Take's closure for expressions reads, at each level.
-/
import Derived.Test.YtfieoehchghiiaaC7
namespace Go.Proofs.Ytfieoehchghiiaa
open Go.RowKit

theorem takeEx_c : ∀ (k : Nat), k ≤ 100 → TakeC k
  | 0, _ => by
    intro be bs bf bn bm bl bt p w _ h hc
    refine (takeEx_0 be bs bf bn bm bl bt p w h hc).mono ?_
    rintro e w' ⟨rfl, h2, f2⟩
    exact ⟨.slice none 0 0, rfl, .nil _ _ (Nat.zero_le _), h2, f2⟩
  | k + 1, hk => takeEx_step k (by omega) (Lib.hid (takeEx_c k (by omega)))

/-- How many In a node has. -/
def Rd.nd3 (p : Rd) : Int × Rd := p.text.2.small.2.num.2.many 12
/-- A node. -/
def Rd.nd (p : Rd) : Nd × Rd :=
  (⟨p.text.1, p.text.2.small.1, (reps Rd.num p.nd3.1.toNat p.nd3.2).1, (Rd.ex 17 (reps Rd.num p.nd3.1.toNat p.nd3.2).2).1, p.text.2.small.2.num.1⟩, (Rd.ex 17 (reps Rd.num p.nd3.1.toNat p.nd3.2).2).2)
/-- So many nodes, till one tells an error. -/
def takeNds : Nat → Rd → List Nd × Rd
  | 0, p => ([], p)
  | m + 1, p => if p.nd.2.e ≠ 0 then ([p.nd.1], p.nd.2) else (p.nd.1 :: (takeNds m p.nd.2).1, (takeNds m p.nd.2).2)
/-- What pack.Take reads, before it asks whether bytes are left and whether the job may be. -/
def Rd.jb (s : ByteArray) : Jb × Rd :=
  let q := Rd.num ⟨s, 0⟩
  let m := q.2.many 12
  (⟨q.1, (takeNds m.1.toNat m.2).1⟩, (takeNds m.1.toNat m.2).2)

theorem Rd.text_size (p : Rd) : p.text.2.s.size ≤ p.s.size := by
  unfold Rd.text
  split
  · exact cut_size _ _
  · exact Nat.le_refl _
theorem Rd.nd3_size (p : Rd) : p.nd3.2.s.size ≤ p.s.size := Nat.le_trans (Rd.many_size 12 _) (Nat.le_trans (Rd.num_size _) (Nat.le_trans (Rd.small_size _) p.text_size))
theorem Rd.nd_size (p : Rd) : p.nd.2.s.size ≤ p.s.size := Nat.le_trans (Rd.ex_size 17 _) (Nat.le_trans (reps_size _ Rd.num_size _ _) p.nd3_size)
theorem takeNds_size : ∀ (m : Nat) (p : Rd), (takeNds m p).2.s.size ≤ p.s.size
  | 0, p => Nat.le_refl _
  | m + 1, p => by
    simp only [takeNds]
    split
    · exact p.nd_size
    · exact Nat.le_trans (takeNds_size m _) p.nd_size

end Go.Proofs.Ytfieoehchghiiaa

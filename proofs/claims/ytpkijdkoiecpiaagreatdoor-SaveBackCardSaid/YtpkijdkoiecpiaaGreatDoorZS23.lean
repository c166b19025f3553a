/-
  Parts of the proof: A0 J1.
-/
import Derived.Test.YtpkijdkoiecpiaaGreatDoorChecked
import Derived.ProofKit
import Derived.Lib.SmallJoins
import Derived.Test.YtpkijdkoiecpiaaGreatDoorZS8
import Derived.Test.YtpkijdkoiecpiaaGreatDoorZS12
namespace Go.Proofs.YtpkijdkoiecpiaaGreatDoor
open Go.RowKit
set_option linter.unusedVariables false
set_option linter.unusedSimpArgs false
section
open Go.RowKit Go.ChangeShapes Go.WideShapes
section
variable {H:Type} {enc:TypeId × Value → H} {w:World}
end
end
section
open Go.RowKit Go.ChangeShapes Go.WideShapes
theorem addr_add (b off k:Nat):(⟨b,off,none⟩:Addr).add k = ⟨b,off + k,none⟩:=by
 unfold Addr.add; split
 ·rename_i h; rw [h]; rfl
 ·rfl
section
variable {H:Type} {enc:TypeId × Value → H} {w:World}
theorem wf_i64r {k:Int} (h:(Lit.int .i64 k).wf = true) : -9223372036854775808 ≤ k ∧ k ≤ 9223372036854775807:=by
 simp only [Lit.wf,IntKind.min,IntKind.max,IntKind.signed,IntKind.bits,Bool.and_eq_true] at h
 have h1:=h.1
 have h2:=h.2
 simp at h1 h2
 omega
end
end
end Go.Proofs.YtpkijdkoiecpiaaGreatDoor

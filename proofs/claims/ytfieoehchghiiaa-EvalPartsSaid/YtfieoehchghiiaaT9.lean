/-
  Expressions that are written out: how their arguments lie.
-/
import Derived.Test.YtfieoehchghiiaaE6
namespace Go.Proofs.Ytfieoehchghiiaa
open Go.RowKit
set_option linter.unusedVariables false

theorem ArgsAt.toIn {w : World} {B : Nat} {l : List Ex} {v : Value} (h : ArgsAt w B l v) : ArgsIn w (fun b => b < B) l v := by
  induction h with
  | nil a cap hm => exact .nil a cap hm
  | cons l b off cap sv hl hb hcap hm h0 h1 h2 _ ih => exact .cons l b off cap sv hl hb hcap hm h0 h1 h2 ih
theorem ArgsAt.step {w w' : World} {l : List Ex} {v : Value} (h : ArgsAt w w.heap.size l v) (hb : Below w.heap.size w w') : ArgsAt w' w'.heap.size l v := (h.keep hb).mono hb.size
theorem ArgsAt.one {w : World} {B b : Nat} {t : TypeId} {x : Ex} {sv : Value} (hb : Blk w b t #[.int .u8 x.op, .int .i64 x.n, sv]) (hB : b < B) (hs : ArgsAt w B x.args sv) : ArgsAt w B [x] (.slice (some ⟨b, 0, none⟩) 1 1) :=
  (ArgsIn.one hb (P := fun b => b < B) hB hs.toIn).toAt fun _ h => h
theorem ArgsAt.two {w : World} {B b : Nat} {t : TypeId} {x y : Ex} {sv su : Value} (hb : Blk w b t #[.int .u8 x.op, .int .i64 x.n, sv, .int .u8 y.op, .int .i64 y.n, su]) (hB : b < B) (hs : ArgsAt w B x.args sv) (hu : ArgsAt w B y.args su) :
    ArgsAt w B [x, y] (.slice (some ⟨b, 0, none⟩) 2 2) :=
  (ArgsIn.two hb (P := fun b => b < B) hB hs.toIn hu.toIn).toAt fun _ h => h
theorem ArgsAt.three {w : World} {B b : Nat} {t : TypeId} {x y z : Ex} {sv su st : Value} (hb : Blk w b t #[.int .u8 x.op, .int .i64 x.n, sv, .int .u8 y.op, .int .i64 y.n, su, .int .u8 z.op, .int .i64 z.n, st]) (hB : b < B) (hs : ArgsAt w B x.args sv) (hu : ArgsAt w B y.args su)
    (ht : ArgsAt w B z.args st) : ArgsAt w B [x, y, z] (.slice (some ⟨b, 0, none⟩) 3 3) :=
  (ArgsIn.three hb (P := fun b => b < B) hB hs.toIn hu.toIn ht.toIn).toAt fun _ h => h

end Go.Proofs.Ytfieoehchghiiaa

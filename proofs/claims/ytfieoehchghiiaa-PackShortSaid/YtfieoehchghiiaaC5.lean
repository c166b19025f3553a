/-
  The walk of pack.Take's closure that reads expressions.
-/
import Derived.Test.YtfieoehchghiiaaC4
import Derived.Test.YtfieoehchghiiaaVJ
import Derived.Deep.RegionHeld3
namespace Go.Proofs.Ytfieoehchghiiaa
open Go.RowKit
set_option linter.unusedVariables false

/-- The list of expressions l lies where the slice sv says, in blocks of P. -/
inductive ArgsP (w : World) (P : Nat → Prop) : List Ex → Value → Prop
  | nil (a : Option Addr) (cap : Nat) (hm : cap ≤ maxLen) : ArgsP w P [] (.slice a 0 cap)
  | cons (l : List Ex) (b off cap : Nat) (sv : Nat → Value) (hl : 0 < l.length) (hb : P b) (hcap : l.length ≤ cap) (hm : cap ≤ maxLen)
      (h0 : ∀ j (h : j < l.length), w.cell? ⟨b, off + j * 3, none⟩ = some (.int .u8 (l[j]'h).op)) (h1 : ∀ j (h : j < l.length), w.cell? ⟨b, off + j * 3 + 1, none⟩ = some (.int .i64 (l[j]'h).n))
      (h2 : ∀ j (h : j < l.length), w.cell? ⟨b, off + j * 3 + 2, none⟩ = some (sv j)) (hs : ∀ j (h : j < l.length), ArgsP w P (l[j]'h).args (sv j)) :
      ArgsP w P l (.slice (some ⟨b, off, none⟩) l.length cap)

namespace ArgsP
variable {w w' : World} {P : Nat → Prop} {l : List Ex} {v : Value}
theorem keep (h : ArgsP w P l v) {Q : Nat → Prop} (hPQ : ∀ b, P b → Q b) (hk : ∀ b, P b → w'.heap[b]? = w.heap[b]?) : ArgsP w' Q l v := by
  have hc : ∀ b off, P b → w'.cell? ⟨b, off, none⟩ = w.cell? ⟨b, off, none⟩ := fun b off hb => World.cell?_of_block (hk b hb)
  induction h with
  | nil a cap hm => exact .nil a cap hm
  | cons l b off cap sv hl hb hcap hm h0 h1 h2 _ ih =>
    exact .cons l b off cap sv hl (hPQ b hb) hcap hm (fun j h => (hc _ _ hb).trans (h0 j h)) (fun j h => (hc _ _ hb).trans (h1 j h)) (fun j h => (hc _ _ hb).trans (h2 j h)) ih
theorem mono (h : ArgsP w P l v) {Q : Nat → Prop} (hPQ : ∀ b, P b → Q b) : ArgsP w Q l v := h.keep hPQ fun _ _ => rfl
theorem toAt (h : ArgsP w P l v) {B : Nat} (hP : ∀ b, P b → b < B) : ArgsAt w B l v := by
  induction h with
  | nil a cap hm => exact .nil a cap hm
  | cons l b off cap sv hl hb hcap hm h0 h1 h2 _ ih => exact .cons l b off cap sv hl (hP b hb) hcap hm h0 h1 h2 ih
/-- Over a step that may turn blocks of S alone. -/
theorem fr (h : ArgsP w P l v) {S Q : Nat → Prop} (hf : Fr S w w') (hP : ∀ b, P b → b < w.heap.size ∧ ¬ S b) (hPQ : ∀ b, P b → Q b) : ArgsP w' Q l v :=
  h.keep hPQ fun b hb => hf.block b (hP b hb).1 (hP b hb).2
theorem slice (h : ArgsP w P l v) : ∃ a n cap, v = .slice a n cap := by
  cases h with
  | nil a cap hm => exact ⟨_, _, _, rfl⟩
  | cons l b off cap sv hl hb hcap hm h0 h1 h2 hs => exact ⟨_, _, _, rfl⟩
end ArgsP

def reps {α : Type} (f : Rd → α × Rd) : Nat → Rd → List α × Rd
  | 0, p => ([], p)
  | m + 1, p => ((f p).1 :: (reps f m (f p).2).1, (reps f m (f p).2).2)
/-- An expression of so many levels. -/
def Rd.ex : Nat → Rd → Ex × Rd
  | 0, p => (.mk 0 0 [], p.fail 3)
  | k + 1, p => (.mk p.small.1 p.small.2.num.1 (reps (Rd.ex k) (p.small.2.num.2.many 3).1.toNat (p.small.2.num.2.many 3).2).1, (reps (Rd.ex k) (p.small.2.num.2.many 3).1.toNat (p.small.2.num.2.many 3).2).2)

def manyV (bn bf : Nat) : Value := .func (.func 46) #[] #[.pointer (some ⟨bn, 0, none⟩), .pointer (some ⟨bf, 0, none⟩)]
def smallV (bn bf : Nat) : Value := .func (.func 47) #[] #[.pointer (some ⟨bn, 0, none⟩), .pointer (some ⟨bf, 0, none⟩)]
def takeV (bf bl bn bm bt : Nat) : Value := .func (.func 50) #[] #[.pointer (some ⟨bf, 0, none⟩), .pointer (some ⟨bl, 0, none⟩), .pointer (some ⟨bn, 0, none⟩), .pointer (some ⟨bm, 0, none⟩), .pointer (some ⟨bt, 0, none⟩)]
structure Ct (w : World) (be bs bf bn bm bl bt : Nat) : Prop where
  cl : Cl w be bs bf bn
  M : Bx w bm (manyV bn bf)
  L : Bx w bl (smallV bn bf)
  T : Bx w bt (takeV bf bl bn bm bt)
  m1 : bm ≠ be ∧ bm ≠ bs
  l1 : bl ≠ be ∧ bl ≠ bs
  t1 : bt ≠ be ∧ bt ≠ bs
theorem Ct.fr {w w' : World} {be bs bf bn bm bl bt : Nat} (h : Ct w be bs bf bn bm bl bt) (hf : Fr (FrS be bs) w w') : Ct w' be bs bf bn bm bl bt :=
  have hn : ∀ {b : Nat}, b ≠ be ∧ b ≠ bs → ¬ FrS be bs b := fun hb q => by rcases q with q | q; exact hb.1 q; exact hb.2 q
  ⟨h.cl.fr hf, h.M.fr hf (hn h.m1), h.L.fr hf (hn h.l1), h.T.fr hf (hn h.t1), h.m1, h.l1, h.t1⟩
theorem Ct.alloc {w : World} {be bs bf bn bm bl bt : Nat} (h : Ct w be bs bf bn bm bl bt) (o : Obj) : Ct (w.alloc o) be bs bf bn bm bl bt :=
  ⟨h.cl.alloc o, h.M.alloc o, h.L.alloc o, h.T.alloc o, h.m1, h.l1, h.t1⟩

/-- What is known while an expression is read. -/
structure TX (w wx : World) (be bs bf bn bm bl bt bx : Nat) (q : Rd) (o n : Int) (av : Value) : Prop where
  fr : Fr (FrS be bs) w wx
  ps : PS wx be bs q
  ct : Ct wx be bs bf bn bm bl bt
  r : Blk wx w.heap.size 35 #[.int .u8 0, .int .i64 0, .slice none 0 0]
  x : Blk wx bx 35 #[.int .u8 o, .int .i64 n, av]
  lt : w.heap.size < bx
  el : be < w.heap.size
  sl : bs < w.heap.size

theorem ex_set {w : World} {g : Nat} {cs : Array Value} (h : Blk w g 35 cs) (hc : cs.size = 3) (a b c : Value) : Blk (((w.setCell ⟨g, 0, none⟩ a).setCell ⟨g, 1, none⟩ b).setCell ⟨g, 2, none⟩ c) g 35 #[a, b, c] := by
  have := ((h.set 0 a).set 1 b).set 2 c
  obtain ⟨cs⟩ := cs
  match cs, hc with
  | [c0, c1, c2], _ => exact this

theorem Bx.drew {w : World} {b : Nat} {v : Value} (h : Bx w b v) : Bx w.drew b v := h
theorem PS.drew {w : World} {be bs : Nat} {p : Rd} (h : PS w be bs p) : PS w.drew be bs p := ⟨h.E, h.S⟩
theorem Ct.drew {w : World} {be bs bf bn bm bl bt : Nat} (h : Ct w be bs bf bn bm bl bt) : Ct w.drew be bs bf bn bm bl bt := ⟨⟨h.cl.F.drew, h.cl.N.drew, h.cl.ne, h.cl.f1, h.cl.f2, h.cl.n1, h.cl.n2⟩, h.M.drew, h.L.drew, h.T.drew, h.m1, h.l1, h.t1⟩
/-- A block apart from those of the closures. -/
structure CtFar (b be bs bf bn bm bl bt : Nat) : Prop where
  f : bf ≠ b
  n : bn ≠ b
  m : bm ≠ b
  l : bl ≠ b
  t : bt ≠ b
theorem CtFar.of {w : World} {be bs bf bn bm bl bt : Nat} (h : Ct w be bs bf bn bm bl bt) : CtFar w.heap.size be bs bf bn bm bl bt :=
  ⟨Nat.ne_of_lt h.cl.F.lt, Nat.ne_of_lt h.cl.N.lt, Nat.ne_of_lt h.M.lt, Nat.ne_of_lt h.L.lt, Nat.ne_of_lt h.T.lt⟩
theorem Bx.other {w : World} {b : Nat} {v : Value} (h : Bx w b v) {p : Addr} (hp : b ≠ p.block) (u : Value) : Bx (w.setCell p u) b v := let ⟨t, h⟩ := h; ⟨t, h.other hp u⟩
theorem Ct.far {w : World} {be bs bf bn bm bl bt : Nat} (h : Ct w be bs bf bn bm bl bt) {p : Addr} (hp : CtFar p.block be bs bf bn bm bl bt) (u : Value) : Ct (w.setCell p u) be bs bf bn bm bl bt :=
  ⟨⟨h.cl.F.other hp.f u, h.cl.N.other hp.n u, h.cl.ne, h.cl.f1, h.cl.f2, h.cl.n1, h.cl.n2⟩, h.M.other hp.m u, h.L.other hp.l u, h.T.other hp.t u, h.m1, h.l1, h.t1⟩
theorem Ct.far3 {w : World} {b be bs bf bn bm bl bt : Nat} (h : Ct w be bs bf bn bm bl bt) (hp : CtFar b be bs bf bn bm bl bt) (u v x : Value) : Ct (((w.setCell ⟨b, 0, none⟩ u).setCell ⟨b, 1, none⟩ v).setCell ⟨b, 2, none⟩ x) be bs bf bn bm bl bt :=
  ((h.far (p := ⟨b, 0, none⟩) hp u).far (p := ⟨b, 1, none⟩) hp v).far (p := ⟨b, 2, none⟩) hp x
theorem Blk.far3 {w : World} {b c : Nat} {t : TypeId} {cs : Array Value} (h : Blk w c t cs) (hp : c ≠ b) (u v x : Value) : Blk (((w.setCell ⟨b, 0, none⟩ u).setCell ⟨b, 1, none⟩ v).setCell ⟨b, 2, none⟩ x) c t cs :=
  ((h.other (p := ⟨b, 0, none⟩) hp u).other (p := ⟨b, 1, none⟩) hp v).other (p := ⟨b, 2, none⟩) hp x
theorem PS.far3 {w : World} {b be bs : Nat} {p : Rd} (h : PS w be bs p) (h1 : be ≠ b) (h2 : bs ≠ b) (u v x : Value) : PS (((w.setCell ⟨b, 0, none⟩ u).setCell ⟨b, 1, none⟩ v).setCell ⟨b, 2, none⟩ x) be bs p :=
  ⟨Blk.far3 h.E h1 u v x, Blk.far3 h.S h2 u v x⟩

set_option maxHeartbeats 2000000 in
theorem takeEx_0 (be bs bf bn bm bl bt : Nat) (p : Rd) (w : World) (h : PS w be bs p) (hc : Ct w be bs bf bn bm bl bt) :
    Calls Try.prog 50 #[.int .i64 0, .pointer (some ⟨bf, 0, none⟩), .pointer (some ⟨bl, 0, none⟩), .pointer (some ⟨bn, 0, none⟩), .pointer (some ⟨bm, 0, none⟩), .pointer (some ⟨bt, 0, none⟩)] w fun e w' =>
      e = .returned (.agg #[.int .u8 0, .int .i64 0, .slice none 0 0]) ∧ PS w' be bs (p.fail 3) ∧ Fr (FrS be bs) w w' := by
  have hel := h.E.lt
  have hsl := h.S.lt
  have h1 := h.alloc (.cells #[.int .u8 0, .int .i64 0, .slice none 0 0] 35)
  have hc1 := hc.alloc (.cells #[.int .u8 0, .int .i64 0, .slice none 0 0] 35)
  have hF1 : Fr (FrS be bs) w (w.alloc (.cells #[.int .u8 0, .int .i64 0, .slice none 0 0] 35)) := (Fr.refl _ w).alloc _
  have hr1 := Blk.new w #[.int .u8 0, .int .i64 0, .slice none 0 0] 35
  have hne := hc.cl.ne
  clear h hc
  go_enter Try.func50, Try.ntmps50
  go_upto_region 1 with fail
  generalize World.alloc w _ = W at *
  have b0 := hc1.cl.F.cell
  unfold failsV at b0
  go_wp2_with fail
  refine (pfails_c be bs hne p 3 W h1).mono ?_
  rintro e w2 ⟨rfl, h2, hf2⟩
  have hr2 := hr1.fr hf2 (fun q => by rcases q with q | q <;> omega)
  clear b0
  have z0 := hr2.free 0
  have z1 := hr2.free 1
  have z2 := hr2.free 2
  have x0 := hr2.cell 0
  have x1 := hr2.cell 1
  have x2 := hr2.cell 2
  go_wp2_with fail
  refine bodyPost_ret (v := .agg #[_, _, _]) (results_cell_row rfl _ _ w.heap.size 35 _ (0, 0) _ rfl (ex_set hr2 rfl _ _ _) Try.underlying35 rfl ?_) rfl ⟨rfl, ?_, ?_⟩
  · as_aux_lemma => kernel_rfl
  · exact ⟨((h2.E.other (p := ⟨w.heap.size, 0, none⟩) (Nat.ne_of_lt hel) _).other (p := ⟨w.heap.size, 1, none⟩) (Nat.ne_of_lt hel) _).other (p := ⟨w.heap.size, 2, none⟩) (Nat.ne_of_lt hel) _,
      ((h2.S.other (p := ⟨w.heap.size, 0, none⟩) (Nat.ne_of_lt hsl) _).other (p := ⟨w.heap.size, 1, none⟩) (Nat.ne_of_lt hsl) _).other (p := ⟨w.heap.size, 2, none⟩) (Nat.ne_of_lt hsl) _⟩
  · exact (((hF1.trans hf2).setCell (p := ⟨w.heap.size, 0, none⟩) (.inr (Nat.le_refl _)) _).setCell (p := ⟨w.heap.size, 1, none⟩) (.inr (Nat.le_refl _)) _).setCell (p := ⟨w.heap.size, 2, none⟩) (.inr (Nat.le_refl _)) _

end Go.Proofs.Ytfieoehchghiiaa

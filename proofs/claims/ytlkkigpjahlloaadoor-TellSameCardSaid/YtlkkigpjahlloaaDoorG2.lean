/-
  What stands at each point of the reference's rules; how they end.
-/
import Derived.Test.YtlkkigpjahlloaaDoorG1
import Derived.Test.YtlkkigpjahlloaaDoorE9
namespace Go.Proofs.YtlkkigpjahlloaaDoor
open Go.RowKit
set_option linter.unusedVariables false

/-- At a point of a rule: its result's block is still zero; the reader's state. -/
structure TR (w W : World) (bt : Nat) (E : Int) (L : List Tok) (st : PSt) : Prop where
  fr : Fr (fun k => k = bt) w W
  res : Blk W w.heap.size 24 #[.int .u8 0, .int .i64 0, .slice none 0 0]
  tx : TxAt W bt E L st
  lt : bt < w.heap.size

namespace TR
variable {w W W' : World} {bt : Nat} {E : Int} {L : List Tok} {st st' : PSt}
theorem size (h : TR w W bt E L st) : w.heap.size < W.heap.size := h.res.lt
theorem start (h : TxAt w bt E L st) : TR w (w.alloc (.cells #[.int .u8 0, .int .i64 0, .slice none 0 0] 24)) bt E L st :=
  ⟨(Fr.refl _ _).alloc _, Blk.new _ _ _, h.keep ((Below.refl _ _).alloc (Nat.le_refl _) _), h.lt⟩
theorem call (h : TR w W bt E L st) (hf : Fr (fun k => k = bt) W W') (ht : TxAt W' bt E L st') : TR w W' bt E L st' :=
  ⟨h.fr.trans hf, h.res.fr hf (by have := h.lt; omega), ht, h.lt⟩
theorem same (h : TR w W bt E L st) (hb : Below W.heap.size W W') : TR w W' bt E L st := h.call (Fr.of_new hb) (h.tx.keep hb)
end TR

/-- A kept expression in a block of its own. -/
structure KX (w W : World) (bx : Nat) (x : Ex) (a : Option Addr) (n c : Nat) : Prop where
  blk : Blk W bx 24 #[.int .u8 x.op, .int .i64 x.n, .slice a n c]
  low : w.heap.size < bx
  args : ArgsIn W (fun b => w.heap.size < b ∧ b ≠ bx ∧ b < W.heap.size) x.args (.slice a n c)

namespace KX
variable {w W W' : World} {bt bx : Nat} {x : Ex} {a : Option Addr} {n c : Nat}
theorem step (h : KX w W bx x a n c) (hbt : bt < w.heap.size) (hf : Fr (fun k => k = bt) W W') : KX w W' bx x a n c :=
  ⟨h.blk.fr hf (by have := h.low; omega), h.low, h.args.fr hf (fun b hb => ⟨hb.2.2, by omega⟩) (fun b hb => ⟨hb.1, hb.2.1, Nat.lt_of_lt_of_le hb.2.2 hf.size⟩)⟩
theorem mk_ {B : Nat} (hB : w.heap.size < B) (hBW : B ≤ W.heap.size) (ha : ArgsIn W (fun b => B ≤ b ∧ b < W.heap.size) x.args (.slice a n c)) :
    KX w (W.alloc (.cells #[.int .u8 x.op, .int .i64 x.n, .slice a n c] 24)) W.heap.size x a n c := by
  have hz : (W.alloc (.cells #[.int .u8 x.op, .int .i64 x.n, .slice a n c] 24)).heap.size = W.heap.size + 1 := by simp
  refine ⟨Blk.new _ _ _, by omega, ?_⟩
  exact ha.fr (S := fun _ => False) ((Fr.refl _ _).alloc _) (fun b hb => ⟨hb.2, id⟩) (fun b hb => ⟨by omega, by omega, by omega⟩)
end KX

theorem tPost_pass {w W : World} {bt : Nat} {E : Int} {L : List Tok} {st : PSt} (h : TR w W bt E L st) {x : Ex} {sv : Value} (ha : ArgsIn W (fun b => w.heap.size < b ∧ b < W.heap.size) x.args sv) :
    PrPost w (fun w st => TxAt w bt E L st) bt (x, st) (.returned (.agg #[.int .u8 x.op, .int .i64 x.n, sv])) (((W.setCell ⟨w.heap.size, 0, none⟩ (.int .u8 x.op)).setCell ⟨w.heap.size, 1, none⟩ (.int .i64 x.n)).setCell ⟨w.heap.size, 2, none⟩ sv) ∧
      Blk (((W.setCell ⟨w.heap.size, 0, none⟩ (.int .u8 x.op)).setCell ⟨w.heap.size, 1, none⟩ (.int .i64 x.n)).setCell ⟨w.heap.size, 2, none⟩ sv) w.heap.size 24 #[.int .u8 x.op, .int .i64 x.n, sv] :=
  prPost_mk (fun w1 w2 h1 hf => h1.fr hf (fun k hk => by have := h.lt; omega)) h.res rfl (Nat.le_refl _) (ha.mono fun b hb => ⟨by omega, by omega, hb.2⟩) h.tx h.fr

/-- A result made of a new row. -/
theorem tPost_new {w W : World} {bt : Nat} {E : Int} {L : List Tok} {st : PSt} (h : TR w W bt E L st) {cs : Array Value} {l : List Ex} {n : Nat} {op : Int}
    (hl : ∀ (W2 : World) (P : Nat → Prop), Blk W2 W.heap.size 24 cs → P W.heap.size → (∀ l v, ArgsIn W (fun b => w.heap.size < b ∧ b < W.heap.size) l v → ArgsIn W2 P l v) → ArgsIn W2 P l (.slice (some ⟨W.heap.size, 0, none⟩) n n)) :
    PrPost w (fun w st => TxAt w bt E L st) bt (.mk op 0 l, st) (.returned (.agg #[.int .u8 op, .int .i64 0, .slice (some ⟨W.heap.size, 0, none⟩) n n]))
      ((((W.setCell ⟨w.heap.size, 0, none⟩ (.int .u8 op)).setCell ⟨w.heap.size, 1, none⟩ (.int .i64 0)).setCell ⟨w.heap.size, 2, none⟩ (.slice (some ⟨W.heap.size, 0, none⟩) n n)).alloc (.cells cs 24)) ∧
    Blk ((((W.setCell ⟨w.heap.size, 0, none⟩ (.int .u8 op)).setCell ⟨w.heap.size, 1, none⟩ (.int .i64 0)).setCell ⟨w.heap.size, 2, none⟩ (.slice (some ⟨W.heap.size, 0, none⟩) n n)).alloc (.cells cs 24)) w.heap.size 24 #[.int .u8 op, .int .i64 0, .slice (some ⟨W.heap.size, 0, none⟩) n n] := by
  have hlt := h.size
  have hbt := h.lt
  have hF : Fr (fun k => k = w.heap.size) W ((((W.setCell ⟨w.heap.size, 0, none⟩ (.int .u8 op)).setCell ⟨w.heap.size, 1, none⟩ (.int .i64 0)).setCell ⟨w.heap.size, 2, none⟩ (.slice (some ⟨W.heap.size, 0, none⟩) n n)).alloc (.cells cs 24)) :=
    ((((Fr.refl (fun k => k = w.heap.size) W).setCell (p := ⟨w.heap.size, 0, none⟩) (.inl rfl) _).setCell (p := ⟨w.heap.size, 1, none⟩) (.inl rfl) _).setCell (p := ⟨w.heap.size, 2, none⟩) (.inl rfl) _).alloc _
  have hN := Blk.new_at (((W.setCell ⟨w.heap.size, 0, none⟩ (.int .u8 op)).setCell ⟨w.heap.size, 1, none⟩ (.int .i64 0)).setCell ⟨w.heap.size, 2, none⟩ (.slice (some ⟨W.heap.size, 0, none⟩) n n)) cs 24 (k := W.heap.size) (by simp [World.setCell])
  have hC := ((((h.res.set 0 (.int .u8 op)).set 1 (.int .i64 0)).set 2 (.slice (some ⟨W.heap.size, 0, none⟩) n n)).alloc (.cells cs 24))
  have hfr := (((h.fr.setCell (p := ⟨w.heap.size, 0, none⟩) (.inr (Nat.le_refl _)) (.int .u8 op)).setCell (p := ⟨w.heap.size, 1, none⟩) (.inr (Nat.le_refl _)) (.int .i64 0)).setCell (p := ⟨w.heap.size, 2, none⟩) (.inr (Nat.le_refl _)) (.slice (some ⟨W.heap.size, 0, none⟩) n n)).alloc (.cells cs 24)
  have hsz : W.heap.size + 1 = ((((W.setCell ⟨w.heap.size, 0, none⟩ (.int .u8 op)).setCell ⟨w.heap.size, 1, none⟩ (.int .i64 0)).setCell ⟨w.heap.size, 2, none⟩ (.slice (some ⟨W.heap.size, 0, none⟩) n n)).alloc (.cells cs 24)).heap.size := by simp [World.setCell]
  have hx := h.tx
  generalize World.alloc _ _ = W3 at *
  refine ⟨⟨_, rfl, hl W3 _ hN ⟨by omega, by omega⟩ fun l v ha => ha.fr hF (fun b hb => ⟨hb.2, by omega⟩) (fun b hb => ⟨by omega, by omega⟩), hx.fr hF (fun k hk => by omega), hfr⟩, hC⟩

/-- What a rule's call is: from every state of no more than n tokens. -/
def TrC (F : FuncId) (args : Nat → Array Value) (bt : Nat) (E : Int) (L : List Tok) (f : PSt → Ex × PSt) (n : Nat) : Prop :=
  ∀ (st' : PSt) (w' : World), st'.l.length ≤ n → TxAt w' bt E L st' → Calls Tryd.prog F (args bt) w' (PrPost w' (fun w st => TxAt w bt E L st) bt (f st'))
def ptr (bt : Nat) : Array Value := #[.pointer (some ⟨bt, 0, none⟩)]
def ptrL (lv : Int) (bt : Nat) : Array Value := #[.pointer (some ⟨bt, 0, none⟩), .int .i64 lv]

theorem tis_l {bt : Nat} {E : Int} {L : List Tok} (hL : TkOk L) {st : PSt} {s : ByteArray} {l : List UInt8} (hs : s.toList = l) {b : Bool} (hb : st.isB l = b) (w : World) (h : TxAt w bt E L st) :
    Calls Tryd.prog 60 #[.pointer (some ⟨bt, 0, none⟩), .string s] w fun e w' => e = .returned (.bool b) ∧ Below w.heap.size w w' := by
  subst hs
  rw [← hb]
  exact tis_c bt E L hL st s w h

theorem isB_some {L : List Tok} {I : Nat} {st : PSt} (hl : st.l = L.drop I) {s : List UInt8} (h : st.isB s = true) : I < L.length := by
  obtain ⟨l, bad⟩ := st
  dsimp only at hl
  subst hl
  by_cases hlt : I < L.length
  · exact hlt
  · rw [List.drop_of_length_le (by omega)] at h
    simp [PSt.isB] at h

end Go.Proofs.YtlkkigpjahlloaaDoor

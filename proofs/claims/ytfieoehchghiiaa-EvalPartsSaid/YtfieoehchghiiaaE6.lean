/-
  Expressions that lie in blocks of a set; what the readers leave; walks: the closure of row, slices.IndexFunc at signs.
-/
import Derived.Test.YtfieoehchghiiaaE5
namespace Go.Proofs.Ytfieoehchghiiaa
open Go.RowKit
set_option linter.unusedVariables false

/-- The list of expressions l lies where the slice sv says, in blocks of P. -/
inductive ArgsIn (w : World) (P : Nat → Prop) : List Ex → Value → Prop
  | nil (a : Option Addr) (cap : Nat) (hm : cap ≤ maxLen) : ArgsIn w P [] (.slice a 0 cap)
  | cons (l : List Ex) (b off cap : Nat) (sv : Nat → Value) (hl : 0 < l.length) (hb : P b) (hcap : l.length ≤ cap) (hm : cap ≤ maxLen)
      (h0 : ∀ j (h : j < l.length), w.cell? ⟨b, off + j * 3, none⟩ = some (.int .u8 (l[j]'h).op)) (h1 : ∀ j (h : j < l.length), w.cell? ⟨b, off + j * 3 + 1, none⟩ = some (.int .i64 (l[j]'h).n))
      (h2 : ∀ j (h : j < l.length), w.cell? ⟨b, off + j * 3 + 2, none⟩ = some (sv j)) (hs : ∀ j (h : j < l.length), ArgsIn w P (l[j]'h).args (sv j)) :
      ArgsIn w P l (.slice (some ⟨b, off, none⟩) l.length cap)

namespace ArgsIn
variable {w w' : World} {P : Nat → Prop} {l : List Ex} {v : Value}
theorem keep (h : ArgsIn w P l v) {Q : Nat → Prop} (hPQ : ∀ b, P b → Q b) (hk : ∀ b, P b → w'.heap[b]? = w.heap[b]?) : ArgsIn w' Q l v := by
  have hc : ∀ b off, P b → w'.cell? ⟨b, off, none⟩ = w.cell? ⟨b, off, none⟩ := fun b off hb => World.cell?_of_block (hk b hb)
  induction h with
  | nil a cap hm => exact .nil a cap hm
  | cons l b off cap sv hl hb hcap hm h0 h1 h2 _ ih =>
    exact .cons l b off cap sv hl (hPQ b hb) hcap hm (fun j h => (hc _ _ hb).trans (h0 j h)) (fun j h => (hc _ _ hb).trans (h1 j h)) (fun j h => (hc _ _ hb).trans (h2 j h)) ih
theorem mono (h : ArgsIn w P l v) {Q : Nat → Prop} (hPQ : ∀ b, P b → Q b) : ArgsIn w Q l v := h.keep hPQ fun _ _ => rfl
theorem toAt (h : ArgsIn w P l v) {B : Nat} (hP : ∀ b, P b → b < B) : ArgsAt w B l v := by
  induction h with
  | nil a cap hm => exact .nil a cap hm
  | cons l b off cap sv hl hb hcap hm h0 h1 h2 _ ih => exact .cons l b off cap sv hl (hP b hb) hcap hm h0 h1 h2 ih
/-- Over a step that may turn blocks of S alone. -/
theorem fr (h : ArgsIn w P l v) {S Q : Nat → Prop} (hf : Fr S w w') (hP : ∀ b, P b → b < w.heap.size ∧ ¬ S b) (hPQ : ∀ b, P b → Q b) : ArgsIn w' Q l v :=
  h.keep hPQ fun b hb => hf.block b (hP b hb).1 (hP b hb).2
theorem slice (h : ArgsIn w P l v) : ∃ a n cap, v = .slice a n cap := by
  cases h with
  | nil a cap hm => exact ⟨_, _, _, rfl⟩
  | cons l b off cap sv hl hb hcap hm h0 h1 h2 hs => exact ⟨_, _, _, rfl⟩
/-- Out of a block that is known whole. -/
theorem of_block {b : Nat} {t : TypeId} {cs : Array Value} (hb : Blk w b t cs) (hP : P b) (l : List Ex) (sv : Nat → Value)
    (hc : ∀ j (h : j < l.length), cs[j * 3]? = some (.int .u8 (l[j]'h).op) ∧ cs[j * 3 + 1]? = some (.int .i64 (l[j]'h).n) ∧ cs[j * 3 + 2]? = some (sv j)) (hs : ∀ j (h : j < l.length), ArgsIn w P (l[j]'h).args (sv j)) (hl : l.length ≤ maxLen) :
    ArgsIn w P l (.slice (some ⟨b, 0, none⟩) l.length l.length) := by
  by_cases h0 : l.length = 0
  · have : l = [] := List.length_eq_zero_iff.1 h0
    subst this
    exact .nil _ _ (Nat.zero_le _)
  · exact .cons l b 0 l.length sv (by omega) hP (Nat.le_refl _) hl (fun j h => by rw [Nat.zero_add, hb.cell]; exact (hc j h).1) (fun j h => by rw [Nat.zero_add, hb.cell]; exact (hc j h).2.1) (fun j h => by rw [Nat.zero_add, hb.cell]; exact (hc j h).2.2) hs
theorem one {b : Nat} {t : TypeId} {x : Ex} {sv : Value} (hb : Blk w b t #[.int .u8 x.op, .int .i64 x.n, sv]) (hP : P b) (hs : ArgsIn w P x.args sv) : ArgsIn w P [x] (.slice (some ⟨b, 0, none⟩) 1 1) :=
  of_block hb hP [x] (fun _ => sv) (fun j hj => by match j, hj with | 0, _ => exact ⟨rfl, rfl, rfl⟩) (fun j hj => by match j, hj with | 0, _ => exact hs) (show (1 : Nat) ≤ maxLen by decide)
theorem two {b : Nat} {t : TypeId} {x y : Ex} {sv su : Value} (hb : Blk w b t #[.int .u8 x.op, .int .i64 x.n, sv, .int .u8 y.op, .int .i64 y.n, su]) (hP : P b) (hs : ArgsIn w P x.args sv) (hu : ArgsIn w P y.args su) : ArgsIn w P [x, y] (.slice (some ⟨b, 0, none⟩) 2 2) :=
  of_block hb hP [x, y] (fun j => if j = 0 then sv else su) (fun j hj => by match j, hj with | 0, _ => exact ⟨rfl, rfl, rfl⟩ | 1, _ => exact ⟨rfl, rfl, rfl⟩) (fun j hj => by match j, hj with | 0, _ => exact hs | 1, _ => exact hu) (show (2 : Nat) ≤ maxLen by decide)
theorem three {b : Nat} {t : TypeId} {x y z : Ex} {sv su st : Value} (hb : Blk w b t #[.int .u8 x.op, .int .i64 x.n, sv, .int .u8 y.op, .int .i64 y.n, su, .int .u8 z.op, .int .i64 z.n, st]) (hP : P b) (hs : ArgsIn w P x.args sv) (hu : ArgsIn w P y.args su)
    (ht : ArgsIn w P z.args st) : ArgsIn w P [x, y, z] (.slice (some ⟨b, 0, none⟩) 3 3) :=
  of_block hb hP [x, y, z] (fun j => if j = 0 then sv else if j = 1 then su else st) (fun j hj => by match j, hj with | 0, _ => exact ⟨rfl, rfl, rfl⟩ | 1, _ => exact ⟨rfl, rfl, rfl⟩ | 2, _ => exact ⟨rfl, rfl, rfl⟩)
    (fun j hj => by match j, hj with | 0, _ => exact hs | 1, _ => exact hu | 2, _ => exact ht) (show (3 : Nat) ≤ maxLen by decide)
end ArgsIn

/-- What a rule's call leaves: an expression of new blocks, the reader's state. -/
def PrPost (w : World) (R : World → PSt → Prop) (br : Nat) (p : Ex × PSt) (e : Ending) (w' : World) : Prop :=
  ∃ sv, e = .returned (.agg #[.int .u8 p.1.op, .int .i64 p.1.n, sv]) ∧ ArgsIn w' (fun b => w.heap.size ≤ b ∧ b < w'.heap.size) p.1.args sv ∧ R w' p.2 ∧ Fr (fun k => k = br) w w'

/-- The result is laid into its block s0. -/
theorem prPost_mk {w w3 : World} {R : World → PSt → Prop} {br s0 : Nat} {st : PSt} {x : Ex} {sv : Value} {cs : Array Value} (hR : ∀ w1 w2, R w1 st → Fr (fun k => k = s0) w1 w2 → R w2 st) (h0 : Blk w3 s0 35 cs) (hcs : cs.size = 3)
    (hs0 : w.heap.size ≤ s0) (ha : ArgsIn w3 (fun b => w.heap.size ≤ b ∧ b ≠ s0 ∧ b < w3.heap.size) x.args sv) (hr : R w3 st) (hf : Fr (fun k => k = br) w w3) :
    PrPost w R br (x, st) (.returned (.agg #[.int .u8 x.op, .int .i64 x.n, sv])) (((w3.setCell ⟨s0, 0, none⟩ (.int .u8 x.op)).setCell ⟨s0, 1, none⟩ (.int .i64 x.n)).setCell ⟨s0, 2, none⟩ sv) ∧
      Blk (((w3.setCell ⟨s0, 0, none⟩ (.int .u8 x.op)).setCell ⟨s0, 1, none⟩ (.int .i64 x.n)).setCell ⟨s0, 2, none⟩ sv) s0 35 #[.int .u8 x.op, .int .i64 x.n, sv] := by
  have hF : Fr (fun k => k = s0) w3 (((w3.setCell ⟨s0, 0, none⟩ (.int .u8 x.op)).setCell ⟨s0, 1, none⟩ (.int .i64 x.n)).setCell ⟨s0, 2, none⟩ sv) :=
    (((Fr.refl (fun k => k = s0) w3).setCell (p := ⟨s0, 0, none⟩) (.inl rfl) _).setCell (p := ⟨s0, 1, none⟩) (.inl rfl) _).setCell (p := ⟨s0, 2, none⟩) (.inl rfl) _
  have hB := ((h0.set 0 (.int .u8 x.op)).set 1 (.int .i64 x.n)).set 2 sv
  obtain ⟨cs⟩ := cs
  match cs, hcs with
  | [c0, c1, c2], _ =>
    refine ⟨⟨sv, rfl, ?_, hR _ _ hr hF, ?_⟩, hB⟩
    · exact ha.fr hF (fun b hb => ⟨hb.2.2, hb.2.1⟩) (fun b hb => ⟨hb.1, Nat.lt_of_lt_of_le hb.2.2 hF.size⟩)
    · exact ((hf.setCell (p := ⟨s0, 0, none⟩) (.inr hs0) _).setCell (p := ⟨s0, 1, none⟩) (.inr hs0) _).setCell (p := ⟨s0, 2, none⟩) (.inr hs0) _

set_option maxHeartbeats 400000 in
theorem rowis_c (br bt : Nat) (E : Int) (st : PSt) (s : ByteArray) (o : Int) (w : World) (h : RdAt w br E st) (hb : Blk w bt 137 #[.pointer (some ⟨br, 0, none⟩)]) :
    Calls Try.prog 134 #[.agg #[.string s, .int .u8 o], .pointer (some ⟨bt, 0, none⟩)] w fun e w' => e = .returned (.bool (st.isB s.toList)) ∧ RdAt w' br E (st.took s.toList) ∧ Fr (fun k => k = br) w w' := by
  have H := Lib.hid h
  have hlt := hb.lt
  have c0 := hb.cell 0
  clear h
  go_enter Try.func134, Try.ntmps134
  go_wp2_with (go_at_call 135; refine (is_c br E st s _ (H.out.keep ((Below.refl _ _).alloc (Nat.le_refl _) _))).mono ?_; rintro e w1 ⟨rfl, h1, hf1⟩)
  go_ret
  exact ⟨rfl, h1, ((Fr.refl (fun k => k = br) w).alloc _).trans hf1⟩

def sgCells (sg : List (ByteArray × Int)) : List Value := sg.flatMap fun p => [.string p.1, .int .u8 p.2]
theorem sgCells_length (sg : List (ByteArray × Int)) : (sgCells sg).length = sg.length * 2 := by
  induction sg with
  | nil => rfl
  | cons p l ih => simp only [sgCells, List.flatMap_cons, List.length_append, List.length_cons] at *; rw [ih]; simp; omega
theorem sgCells_at (l : List (ByteArray × Int)) (k : Nat) (h : k < l.length) : (sgCells l)[k * 2]? = some (.string (l[k]'h).1) ∧ (sgCells l)[k * 2 + 1]? = some (.int .u8 (l[k]'h).2) := by
  induction l generalizing k with
  | nil => simp at h
  | cons t l ih =>
    cases k with
    | zero => simp [sgCells]
    | succ k =>
      have hk : k < l.length := by simpa using h
      have e : sgCells (t :: l) = .string t.1 :: .int .u8 t.2 :: sgCells l := rfl
      rw [e, show (k + 1) * 2 = k * 2 + 1 + 1 by omega]
      simp only [List.getElem?_cons_succ, List.getElem_cons_succ]
      exact ih k hk
/-- The signs lie in block bs. -/
def SgAt (w : World) (bs : Nat) (sg : List (ByteArray × Int)) : Prop := Blk w bs 157 (sgCells sg).toArray ∧ sg.length ≤ 1000
theorem SgAt.at_ {w : World} {bs : Nat} {sg : List (ByteArray × Int)} (h : SgAt w bs sg) (k : Nat) (hk : k < sg.length) :
    w.cell? ⟨bs, k * 2, none⟩ = some (.string (sg[k]'hk).1) ∧ w.cell? ⟨bs, k * 2 + 1, none⟩ = some (.int .u8 (sg[k]'hk).2) := by
  obtain ⟨e0, e1⟩ := sgCells_at sg k hk
  rw [h.1.cell, h.1.cell]
  simpa using ⟨e0, e1⟩

set_option maxHeartbeats 1000000 in
theorem idx_none (br bt bs : Nat) (E : Int) (st : PSt) (sg : List (ByteArray × Int)) (w : World) (h : RdAt w br E st) (hb : Blk w bt 137 #[.pointer (some ⟨br, 0, none⟩)]) (hs : SgAt w bs sg) (hbt : bt ≠ br) (hbs : bs ≠ br)
    (hno : ∀ i (hi : i < sg.length), st.isB (sg[i]'hi).1.toList = false) :
    Calls Try.prog 133 #[.slice (some ⟨bs, 0, none⟩) sg.length sg.length, .func (.func 134) #[] #[.pointer (some ⟨bt, 0, none⟩)]] w
      fun e w' => e = .returned (.int .i64 (-1)) ∧ RdAt w' br E st ∧ Fr (fun k => k = br) w w' := by
  have H := Lib.hid h
  have HB := Lib.hid hb
  have HS := Lib.hid hs
  have HNO := Lib.hid hno
  have hn := hs.2
  have hlb := hb.lt
  have hls := hs.1.lt
  have hlr := h.lt
  obtain ⟨N, hN⟩ : ∃ N, sg.length = N := ⟨_, rfl⟩
  rw [hN] at hn ⊢
  have HN := Lib.hid hN
  clear h hb hs hno hN
  go_enter Try.func133, Try.ntmps133
  go_wp2
  go_loopw [8] (fun q wr => ∃ k : Nat, q = .int .i64 k ∧ k ≤ N ∧ RdAt wr br E st ∧ Fr (fun k => k = br) w wr) (fun q _ => N - (intOf q).toNat)
  case atStart => exact ⟨0, rfl, Nat.zero_le _, H.out, Fr.refl _ _⟩
  case round =>
    obtain ⟨k, rfl, hk, hr, hf⟩ := hrel
    have HR := Lib.hid hr
    clear hr
    by_cases hlt : k < N
    · have hlk : k < sg.length := by rw [HN.out]; exact hlt
      have hsr : SgAt wr bs sg := ⟨HS.out.1.fr hf hbs, HS.out.2⟩
      obtain ⟨c0, c1⟩ := hsr.at_ k hlk
      have hno := HNO.out k hlk
      generalize sg[k] = p at *
      obtain ⟨s, o⟩ := p
      have HNK := Lib.hid hno
      have HBR := Lib.hid (HB.out.fr hf hbt)
      clear hno hsr
      have hsz := hf.size
      go_wp2_with (go_at_call 134; refine (rowis_c br bt E st s o _ HR.out HBR.out).mono ?_; rintro e w1 ⟨rfl, h1, hf1⟩; rw [PSt.took] at h1; rw [HNK.out] at h1 ⊢; have H1 := Lib.hid h1; clear h1)
      go_roundw
      case rel => exact ⟨k + 1, by go_num, by omega, H1.out, hf.trans hf1⟩
      case measure => simp [intOf]; omega
    · go_wp2
      go_ret
      exact ⟨rfl, HR.out, hf⟩

set_option maxHeartbeats 1000000 in
theorem idx_some (br bt bs : Nat) (E : Int) (st : PSt) (sg : List (ByteArray × Int)) (w : World) (h : RdAt w br E st) (hb : Blk w bt 137 #[.pointer (some ⟨br, 0, none⟩)]) (hs : SgAt w bs sg) (hbt : bt ≠ br) (hbs : bs ≠ br)
    (j : Nat) (hj : j < sg.length) (hno : ∀ i (hi : i < j), st.isB (sg[i]'(by omega)).1.toList = false) (hyes : st.isB (sg[j]'hj).1.toList = true) :
    Calls Try.prog 133 #[.slice (some ⟨bs, 0, none⟩) sg.length sg.length, .func (.func 134) #[] #[.pointer (some ⟨bt, 0, none⟩)]] w
      fun e w' => e = .returned (.int .i64 j) ∧ RdAt w' br E st.next ∧ Fr (fun k => k = br) w w' := by
  have H := Lib.hid h
  have HB := Lib.hid hb
  have HS := Lib.hid hs
  have HNO := Lib.hid hno
  have HYES := Lib.hid hyes
  have hn := hs.2
  have hlb := hb.lt
  have hls := hs.1.lt
  have hlr := h.lt
  obtain ⟨N, hN⟩ : ∃ N, sg.length = N := ⟨_, rfl⟩
  rw [hN] at hn ⊢
  have hj2 : j < N := by omega
  have HJ := Lib.hid hj
  have HN := Lib.hid hN
  clear h hb hs hno hN hyes
  go_enter Try.func133, Try.ntmps133
  go_wp2
  go_loopw [8] (fun q wr => ∃ k : Nat, q = .int .i64 k ∧ k ≤ j ∧ RdAt wr br E st ∧ Fr (fun k => k = br) w wr) (fun q _ => N - (intOf q).toNat)
  case atStart => exact ⟨0, rfl, Nat.zero_le _, H.out, Fr.refl _ _⟩
  case round =>
    obtain ⟨k, rfl, hk, hr, hf⟩ := hrel
    have HR := Lib.hid hr
    clear hr
    have hlk : k < sg.length := by rw [HN.out]; omega
    have hltN : k < N := by omega
    have hsr : SgAt wr bs sg := ⟨HS.out.1.fr hf hbs, HS.out.2⟩
    obtain ⟨c0, c1⟩ := hsr.at_ k hlk
    have HBR := Lib.hid (HB.out.fr hf hbt)
    have hsz := hf.size
    by_cases hlt : k < j
    · have hno := HNO.out k hlt
      generalize sg[k] = p at *
      obtain ⟨s, o⟩ := p
      have HNK := Lib.hid hno
      clear hno hsr
      go_wp2_with (go_at_call 134; refine (rowis_c br bt E st s o _ HR.out HBR.out).mono ?_; rintro e w1 ⟨rfl, h1, hf1⟩; rw [PSt.took] at h1; rw [HNK.out] at h1 ⊢; have H1 := Lib.hid h1; clear h1)
      go_roundw
      case rel => exact ⟨k + 1, by go_num, by omega, H1.out, hf.trans hf1⟩
      case measure => simp [intOf]; omega
    · obtain rfl : k = j := by omega
      have hno := HYES.out
      generalize sg[k] = p at *
      obtain ⟨s, o⟩ := p
      have HNK := Lib.hid hno
      clear hno hsr
      go_wp2_with (go_at_call 134; refine (rowis_c br bt E st s o _ HR.out HBR.out).mono ?_; rintro e w1 ⟨rfl, h1, hf1⟩; rw [PSt.took] at h1; rw [HNK.out] at h1 ⊢; have H1 := Lib.hid h1; clear h1)
      go_ret
      exact ⟨rfl, H1.out, hf.trans hf1⟩

end Go.Proofs.Ytfieoehchghiiaa

/-
  law11's tells and works; TellKnown's texts.
-/
import Derived.Test.YtlkkigpjahlloaaDoorT3
import Derived.Test.YtlkkigpjahlloaaDoorT4
import Derived.Test.YtlkkigpjahlloaaDoorE11
namespace Go.Proofs.YtlkkigpjahlloaaDoor
open Go.RowKit
set_option linter.unusedVariables false

/-- The line of a text's expression. -/
def tellsB (s : ByteArray) : ByteArray := (parse s).1.told.1

set_option maxRecDepth 100000 in
set_option maxHeartbeats 1000000 in
theorem tells_c (s : ByteArray) (w : World) (hT : TB w.heap.size w) :
    Calls Tryd.prog 15 #[.string s] w fun e w' => e = .returned (.string (tellsB s)) ∧ Below w.heap.size w w' := by
  have hPA := Parse_c s w
  unfold ParsePost at hPA
  have HE : Hid (tellsB s = (parse s).1.told.1) := rfl
  have HOK := Lib.hid (parse_ok s)
  have HT := Lib.hid hT
  generalize tellsB s = r at *
  generalize parse s = p at *
  obtain ⟨y, at_, err⟩ := p
  dsimp only at HE HOK
  have HP := Lib.hid hPA
  clear hPA hT
  go_enter Tryd.func15, Tryd.ntmps15
  go_upto_region 2 with (go_at_call 13; refine HP.out.mono ?_; rintro e w1 ⟨sv, rfl, ha, hb⟩; obtain ⟨a1, c1, rfl, _, _⟩ := ha.slice)
  have hY := Blk.new w1 #[.int .u8 y.op, .int .i64 y.n, .slice a1 y.args.length c1] 24
  have hB2 := hb.alloc hb.size (.cells #[.int .u8 y.op, .int .i64 y.n, .slice a1 y.args.length c1] 24)
  have hL := Line_c y _ _ HOK.out (⟨_, rfl, (ha.keep ((Below.refl _ _).alloc (Nat.le_refl _) _)).mono (by simp)⟩ : ExAt (w1.alloc (.cells #[.int .u8 y.op, .int .i64 y.n, .slice a1 y.args.length c1] 24)) (w1.alloc (.cells #[.int .u8 y.op, .int .i64 y.n, .slice a1 y.args.length c1] 24)).heap.size (.agg #[.int .u8 y.op, .int .i64 y.n, .slice a1 y.args.length c1]) y) ((HT.out.below hB2).mono hB2.size)
  have HL := Lib.hid hL
  generalize w1.alloc _ = W at *
  have y0 := hY.cell 0
  have y1 := hY.cell 1
  have y2 := hY.cell 2
  clear hL ha hb HP
  go_wp2_with (go_at_call 10; refine HL.out.mono ?_; rintro e w2 ⟨rfl, hb2⟩)
  go_ret
  exact ⟨by rw [HE.out]; rfl, hB2.trans (hb2.mono hB2.size)⟩

theorem dec_small {n : Nat} (h : n < 10) : decB n = { data := #[UInt8.ofNat (48 + n)] } := by
  unfold decB
  rw [Lib.decDigits_one h]

def tx1 : ByteArray := { data := #[49, 32, 43, 32, 50, 32, 42, 32, 107, 101, 121] }
def ln1 : ByteArray := { data := #[40, 49, 32, 43, 32, 40, 50, 32, 42, 32, 107, 101, 121, 41, 41] }
theorem told_of {x : Ex} {l : ByteArray} (h : x.mayT = true) (hl : x.line = l) (hs : l.size ≤ 400) : x.told.1 = l := by
  unfold Ex.told
  rw [if_pos h, hl, if_neg (by omega)]
theorem tells1 : tellsB tx1 = ln1 := by
  unfold tellsB
  have h : (parse tx1).1 = .mk 7 0 [(.mk 1 1 []), (.mk 9 0 [(.mk 1 2 []), (.mk 2 0 [])])] := by kernel_rfl
  rw [h]
  refine told_of (by kernel_rfl) ?_ (by decide)
  simp only [Ex.line, Exs.lines]
  have e1 : lineOp 1 1 [] = decB 1 := rfl
  have e2 : lineOp 1 2 [] = decB 2 := rfl
  rw [e1, e2, dec_small (by omega), dec_small (by omega)]
  rfl

set_option maxHeartbeats 400000 in
theorem tworks_c (w : World) (hT : TB w.heap.size w) : Calls Tryd.prog 9 #[] w fun e w' => e = .returned (.bool true) ∧ Below w.heap.size w w' := by
  have h := tells_c tx1 w hT
  rw [tells1] at h
  have H := Lib.hid h
  clear h hT
  go_enter Tryd.func9, Tryd.ntmps9
  go_wp2_with (go_at_call 15; refine H.out.mono ?_; rintro e w2 ⟨rfl, hb2⟩)
  go_ret
  exact ⟨ret_bool (by kernel_rfl), hb2⟩

/-- What tell.Same answers. -/
def sameT (a b : ByteArray) : Bool := decide ((parse a).2.2 = 0) && (decide ((parse b).2.2 = 0) && (parse a).1.sameB (parse b).1)

end Go.Proofs.YtlkkigpjahlloaaDoor

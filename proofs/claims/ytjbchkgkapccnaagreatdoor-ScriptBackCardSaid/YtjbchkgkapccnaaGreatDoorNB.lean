/-
  law13's works; ScriptKnown.
-/
import Derived.Test.YtjbchkgkapccnaaGreatDoorMS
import Derived.Test.YtjbchkgkapccnaaGreatDoorNA
import Derived.Test.YtjbchkgkapccnaaGreatDoorMU
import Derived.Test.YtjbchkgkapccnaaGreatDoorMN
namespace Go.Proofs.YtjbchkgkapccnaaGreatDoor
open Go.RowKit
set_option linter.unusedVariables false
set_option linter.unusedSimpArgs false

--HEAD
def smallB : ByteArray := { data := #[112, 97, 114, 32, 50, 10, 115, 32, 115, 111, 117, 114, 99, 101, 10, 109, 32, 109, 97, 112, 32, 115, 32, 58, 32, 118, 97, 108, 32, 43, 32, 49, 10, 116, 32, 115, 105, 110, 107, 32, 109] }
def smallTB : ByteArray := { data := #[112, 97, 114, 32, 50, 10, 115, 32, 115, 111, 117, 114, 99, 101, 10, 109, 32, 109, 97, 112, 32, 115, 32, 58, 32, 40, 118, 97, 108, 32, 43, 32, 49, 41, 10, 116, 32, 115, 105, 110, 107, 32, 109, 10] }
def kn1B : ByteArray := { data := #[112, 97, 114, 32, 49, 10, 115, 32, 115, 111, 117, 114, 99, 101, 10, 116, 32, 115, 105, 110, 107, 32, 120] }
def kn2B : ByteArray := { data := #[112, 97, 114, 32, 49, 10, 115, 32, 115, 111, 117, 114, 99, 101, 10, 116, 32, 115, 105, 110, 107, 32, 115, 32, 58, 32, 49] }
def kn4B : ByteArray := { data := #[112, 97, 114, 32, 49, 10, 10, 35, 32, 120, 10, 115, 32, 115, 111, 117, 114, 99, 101, 10, 109, 32, 109, 97, 112, 32, 115, 32, 58, 32, 49, 32, 60, 32, 50, 10, 116, 32, 115, 105, 110, 107, 32, 109] }
def smallJ : Jb := ⟨2, [⟨{ data := #[115] }, 1, [], Ex.zero, 0⟩, ⟨{ data := #[109] }, 2, [0], .mk 7 0 [.mk 3 0 [], .mk 1 1 []], 0⟩, ⟨{ data := #[116] }, 9, [1], Ex.zero, 0⟩]⟩
theorem smallT_list : smallTB.toList = [112, 97, 114, 32, 50, 10, 115, 32, 115, 111, 117, 114, 99, 101, 10, 109, 32, 109, 97, 112, 32, 115, 32, 58, 32, 40, 118, 97, 108, 32, 43, 32, 49, 41, 10, 116, 32, 115, 105, 110, 107, 32, 109, 10] := by kernel_rfl
--HEADEND
set_option maxRecDepth 100000 in
theorem small_parse : pScript smallB = (smallJ, 0, 0) := by kernel_rfl
set_option maxRecDepth 100000 in
theorem kn1_parse : pScript kn1B = (Jb.zero, 3, 130) := by kernel_rfl
set_option maxRecDepth 100000 in
theorem kn2_parse : pScript kn2B = (Jb.zero, 3, 130) := by kernel_rfl
theorem kn3_parse : pScript { data := #[] } = (Jb.zero, 0, 130) := by kernel_rfl
set_option maxRecDepth 100000 in
theorem kn4_parse : pScript kn4B = (Jb.zero, 5, 120) := by kernel_rfl
set_option maxRecDepth 100000 in
theorem small_tell : tellJ smallJ = (smallTB, 0) := by kernel_rfl

/-- What the calls of script need of the world. -/
structure Env (w : World) : Prop where
  h0 : 0 < w.heap.size
  ml : ∃ m, w.cell? ⟨0, 0, none⟩ = some (.int .i64 m)
  tb : TB w.heap.size w
theorem Env.keep {w w' : World} (h : Env w) (hb : Below w.heap.size w w') : Env w' :=
  ⟨Nat.lt_of_lt_of_le h.h0 hb.size, let ⟨m, hm⟩ := h.ml; ⟨m, (hb.cell (p := ⟨0, 0, none⟩) h.h0).trans hm⟩, (h.tb.below hb).mono hb.size⟩
/-- script.Parse, its slice written out. -/
def PPost (p : Jb × Int × Int) (w : World) (e : Ending) (w' : World) : Prop :=
  ∃ a c, e = .returned (.tuple #[.agg #[.int .i64 p.1.par, .slice a p.1.nodes.length c], .int .i64 p.2.1, .int .i64 p.2.2]) ∧ NodesAt w' w'.heap.size p.1.nodes (.slice a p.1.nodes.length c) ∧ Below w.heap.size w w'
theorem sp_c (s : ByteArray) (hs : s.size ≤ 140737488351232) (w : World) (h : Env w) : Calls Tryz.prog 7 #[.string s] w (PPost (pScript s) w) := by
  obtain ⟨m, hm⟩ := h.ml
  refine (sParse_c s m w hs h.h0 hm).mono ?_
  rintro e w' ⟨sv, rfl, hn, hb⟩
  obtain ⟨a, c, rfl, _, _⟩ := hn.slice
  exact ⟨a, c, rfl, hn, hb⟩
/-- Of a text that is known. -/
theorem sp_known {s : ByteArray} {j : Jb} {a e : Int} (hp : pScript s = (j, a, e)) (hs : s.size ≤ 140737488351232) (w : World) (h : Env w) : Calls Tryz.prog 7 #[.string s] w fun x w' =>
    ∃ d c, x = .returned (.tuple #[.agg #[.int .i64 j.par, .slice d j.nodes.length c], .int .i64 a, .int .i64 e]) ∧ NodesAt w' w'.heap.size j.nodes (.slice d j.nodes.length c) ∧ Below w.heap.size w w' := by
  have := sp_c s hs w h
  rw [hp] at this
  exact this

set_option maxRecDepth 100000 in
set_option maxHeartbeats 1000000 in
theorem sworks_c (w : World) (h : Env w) : Calls Tryz.prog 8 #[] w fun e w' => e = .returned (.bool true) ∧ Below w.heap.size w w' := by
  have HP := Lib.hid (sp_known small_parse (by decide) w h)
  have HTX : Hid (∀ (v : Value) (W : World), JbAt W W.heap.size v smallJ → Env W → Calls Tryz.prog 10 #[v] W fun e w' => e = .returned (.tuple #[.string smallTB, .int .i64 0]) ∧ Below W.heap.size W w') := fun v W hv hE => by
    have hk := pScript_ok smallB
    rw [small_parse] at hk
    have := Text_c smallJ v W hv hk hE.tb
    rw [small_tell] at this
    exact this
  have HE := Lib.hid h
  have hpar : smallJ.par = 2 := rfl
  have hlen : smallJ.nodes.length = 3 := rfl
  rw [hpar, hlen] at HP
  have HSJ : Hid (∃ l : List Nd, smallJ.nodes = l ∧ smallJ = ⟨2, l⟩) := ⟨_, rfl, rfl⟩
  clear h
  go_enter Tryz.func8, Tryz.ntmps8
  go_upto_region 2 with (go_at_call 7; refine HP.out.mono ?_; rintro e w1 ⟨d, c, rfl, hn, hb⟩)
  have hY := Blk.new w1 #[.int .i64 2, .slice d 3 c] 24
  have hB2 := hb.alloc hb.size (.cells #[.int .i64 2, .slice d 3 c] 24)
  have hV := Lib.hid (HTX.out (.agg #[.int .i64 2, .slice d 3 c]) (w1.alloc (.cells #[.int .i64 2, .slice d 3 c] 24)) ⟨_, rfl, (hn.keep ((Below.refl _ _).alloc (Nat.le_refl _) _)).mono (by simp)⟩ (HE.out.keep hB2))
  generalize World.alloc w1 _ = W at *
  have y0 := hY.cell 0
  have y1 := hY.cell 1
  clear hn hb HP HTX
  go_wp2_with fail
  refine hV.out.mono ?_
  rintro e w2 ⟨rfl, hb2⟩
  have hY2 := hY.below hb2 hY.lt
  have y0 := hY2.cell 0
  have y1 := hY2.cell 1
  have hq := smallT_list
  clear hY hY2 hV
  go_wp2_with fail
  go_ret
  exact ⟨ret_bool (by kernel_rfl), hB2.trans (hb2.mono hB2.size)⟩

set_option maxRecDepth 100000 in
set_option maxHeartbeats 1000000 in
theorem sKnown_c (w : World) (h : Env w) : Calls Tryz.prog 3 #[] w fun e w' => e = .returned (.bool true) ∧ Below w.heap.size w w' := by
  have HE := Lib.hid h
  have H1 : Hid (∀ w, Env w → _) := fun w h => sp_known kn1_parse (by decide) w h
  have H2 : Hid (∀ w, Env w → _) := fun w h => sp_known kn2_parse (by decide) w h
  have H3 : Hid (∀ w, Env w → _) := fun w h => sp_known kn3_parse (by decide) w h
  have H4 : Hid (∀ w, Env w → _) := fun w h => sp_known kn4_parse (by decide) w h
  have hpar : Jb.zero.par = 0 := rfl
  have hlen : Jb.zero.nodes.length = 0 := rfl
  rw [hpar, hlen] at H1 H2 H3 H4
  clear h hpar hlen
  go_enter Tryz.func3, Tryz.ntmps3
  go_wp2_with fail
  refine (H1.out w HE.out).mono ?_
  rintro e w1 ⟨d1, c1, rfl, _, hb1⟩
  have hB1 := hb1.alloc hb1.size (.cells #[.int .i64 0, .slice d1 0 c1] 24)
  have HC2 := Lib.hid (H2.out _ (HE.out.keep hB1))
  go_wp2_with fail
  refine HC2.out.mono ?_
  rintro e w2 ⟨d2, c2, rfl, _, hb2⟩
  have hB2 := hB1.trans ((hb2.alloc hb2.size (.cells #[.int .i64 0, .slice d2 0 c2] 24)).mono hB1.size)
  have HC3 := Lib.hid (H3.out _ (HE.out.keep hB2))
  clear HC2
  go_wp2_with fail
  refine HC3.out.mono ?_
  rintro e w3 ⟨d3, c3, rfl, _, hb3⟩
  have hB3 := hB2.trans ((hb3.alloc hb3.size (.cells #[.int .i64 0, .slice d3 0 c3] 24)).mono hB2.size)
  have HC4 := Lib.hid (H4.out _ (HE.out.keep hB3))
  clear HC3
  go_wp2_with fail
  refine HC4.out.mono ?_
  rintro e w4 ⟨d4, c4, rfl, _, hb4⟩
  have hB4 := hB3.trans ((hb4.alloc hb4.size (.cells #[.int .i64 0, .slice d4 0 c4] 24)).mono hB3.size)
  have HW := Lib.hid (sworks_c _ (HE.out.keep hB4))
  clear HC4
  go_wp2_with fail
  refine HW.out.mono ?_
  rintro e w5 ⟨rfl, hb5⟩
  go_wp2_with fail
  go_ret
  exact ⟨rfl, hB4.trans (hb5.mono hB4.size)⟩
end Go.Proofs.YtjbchkgkapccnaaGreatDoor

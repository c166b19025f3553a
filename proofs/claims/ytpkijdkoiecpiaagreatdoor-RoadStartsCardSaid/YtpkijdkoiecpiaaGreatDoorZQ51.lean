/-
  Parts of the proof: PU PN.
-/
import Derived.Deep.DeepAppendWide
import Derived.Test.YtpkijdkoiecpiaaGreatDoorZQ17
import Derived.Test.YtpkijdkoiecpiaaGreatDoorZQ33
import Derived.Test.YtpkijdkoiecpiaaGreatDoorZQ50
namespace Go.Proofs.YtpkijdkoiecpiaaGreatDoor
open Go.RowKit
set_option linter.unusedVariables false
set_option linter.unusedSimpArgs false
structure StartR (w : World) (n R L D k last : Nat) (up : Value) (M : Nat → Prop) (r : Rdw) (d : Dk) (wr : World) : Prop where
 rm : RM w n M wr R L D r d
 own : Rdw.Own d r k
 room : d.room = 4194304
 last : r.phase = (if last = 1 then 1 else if last = 2 then 2 else if last = 3 then 3 else 0)
 idle : r.phase = 0 → up = .pointer none
 under : r.phase ≠ 0 → ∃ (B : Nat) (la lb : List St) (s : St) (a : Option Addr) (c : Nat), up = px B ∧ n ≤ B ∧ B < wr.heap.size ∧ ¬ M B ∧ Blk wr B 29 (stC s (.slice a s.job.nodes.length c)) ∧ NodesIn wr (· < w.heap.size) s.job.nodes (.slice a s.job.nodes.length c) ∧ r.l = la ++ s :: lb ∧ s.kind = 1 ∧ ∀ y ∈ lb, y.kind ≠ 1
theorem StartR.below {w W W' : World} {n R L D k last : Nat} {up : Value} {M : Nat → Prop} {r : Rdw} {d : Dk} (h : StartR w n R L D k last up M r d W) (hb : Below W.heap.size W W') : StartR w n R L D k last up M r d W' :=
 ⟨h.rm.keep hb, h.own, h.room, h.last, h.idle, fun hp => by
  obtain ⟨B, la, lb, s, a, c, h1, h2, h3, h4, h5, h6, h7⟩ := h.under hp
  exact ⟨B, la, lb, s, a, c, h1, h2, Nat.lt_of_lt_of_le h3 hb.size, h4, h5.below hb h3, h6.keep (fun _ q => q) (fun b q => hb.block b (Nat.lt_of_lt_of_le q h.rm.below.size)), h7⟩⟩
theorem StartR.skip {w W W' : World} {n R L D k last : Nat} {up : Value} {M N : Nat → Prop} {r : Rdw} {d : Dk} (h : StartR w n R L D k last up M r d W) (hf : Fr M W W') (hN : ∀ b, N b → M b ∨ W.heap.size ≤ b) (hr : RM w n N W' R L D r d) : StartR w n R L D (k + 1) last up N r d W' :=
 ⟨hr, h.own.mono (Nat.le_succ _), h.room, h.last, h.idle, fun hp => by
  obtain ⟨B, la, lb, s, a, c, h1, h2, h3, h4, h5, h6, h7⟩ := h.under hp
  refine ⟨B, la, lb, s, a, c, h1, h2, Nat.lt_of_lt_of_le h3 hf.size, fun q => ?_, (hf.block B h3 h4).trans h5, h6.keep (fun _ q => q) (fun b q => hf.block b (Nat.lt_of_lt_of_le q h.rm.below.size) (fun hm => by have := h.rm.hM b hm; omega)), h7⟩
  rcases hN B q with e | e
  ·exact h4 e
  ·omega⟩
theorem nextP_fst (p k : Nat) : (nextP p k).1 = (if k = 1 then 1 else if k = 2 then 2 else if k = 3 then 3 else 0) := rfl
theorem nextP_2 {p k : Nat} (h : (nextP p k).2 = true) (hk : k = 2 ∨ k = 3) : p = 1 := by
 unfold nextP at h
 dsimp only at h
 rcases hk with rfl | rfl
 all_goals
  by_cases h0 : p = 0
  ·rw [if_pos h0] at h; exact absurd h (by decide)
  rw [if_neg h0] at h
  by_cases h1 : p = 1
  ·exact h1
  rw [if_neg h1] at h
  split at h <;> exact absurd h (by decide)
theorem nextP_4 {p : Nat} (h : (nextP p 4).2 = true) : p = 2 := by
 unfold nextP at h
 dsimp only at h
 by_cases h0 : p = 0
 ·rw [if_pos h0] at h; exact absurd h (by decide)
 rw [if_neg h0] at h
 by_cases h1 : p = 1
 ·rw [if_pos h1] at h; exact absurd h (by decide)
 rw [if_neg h1] at h
 by_cases h2 : p = 2
 ·exact h2
 ·rw [if_neg h2] at h; exact absurd h (by decide)
section
variable {w W W' : World} {n R L D k last BX : Nat} {up : Value} {M N : Nat → Prop} {r r2 : Rdw} {d d2 : Dk} {x : St} {sa : Option Addr} {sc : Nat}
theorem StartR.one (h : StartR w n R L D k last up M r d W) (hf : Fr M W W') (hN : ∀ b, N b → M b ∨ W.heap.size ≤ b) (hr : RM w n N W' R L D r2 d2) (ho : Rdw.Own d2 r2 (k + 1)) (hroom : d2.room = 4194304) (hl : r2.l = r.l ++ [x]) (hp : r2.phase = (nextP r.phase x.kind).1) (hk : x.kind = 1)
  (hbx : Blk W BX 29 (stC x (.slice sa x.job.nodes.length sc))) (hnd : NodesIn W (· < w.heap.size) x.job.nodes (.slice sa x.job.nodes.length sc)) (hn : n ≤ BX) (hm : ¬ M BX) : StartR w n R L D (k + 1) x.kind (px BX) N r2 d2 W' :=
 ⟨hr, ho, hroom, by rw [hp, nextP_fst], fun h0 => by rw [hp, nextP_fst, hk] at h0; exact absurd h0 (by decide), fun _ => by
  refine ⟨BX, r.l, [], x, sa, sc, rfl, hn, Nat.lt_of_lt_of_le hbx.lt hf.size, fun q => ?_, (hf.block BX hbx.lt hm).trans hbx, hnd.keep (fun _ q => q) (fun b q => hf.block b (Nat.lt_of_lt_of_le q h.rm.below.size) (fun hm => by have := h.rm.hM b hm; omega)), hl, hk, by simp⟩
  rcases hN BX q with e | e
  ·exact hm e
  ·have := hbx.lt; omega⟩
theorem StartR.two (h : StartR w n R L D k last up M r d W) (hf : Fr M W W') (hN : ∀ b, N b → M b ∨ W.heap.size ≤ b) (hr : RM w n N W' R L D r2 d2) (ho : Rdw.Own d2 r2 (k + 1)) (hroom : d2.room = 4194304) (hl : r2.l = r.l ++ [x]) (hp : r2.phase = (nextP r.phase x.kind).1) (hnx : (nextP r.phase x.kind).2 = true) (hk : x.kind = 2 ∨ x.kind = 3) :
  StartR w n R L D (k + 1) x.kind up N r2 d2 W' := by
 have h1 := nextP_2 hnx hk
 obtain ⟨B, la, lb, s, a, c, g1, g2, g3, g4, g5, g6, g7, g8, g9⟩ := h.under (by rw [h1]; decide)
 refine ⟨hr, ho, hroom, by rw [hp, nextP_fst], fun h0 => ?_, fun _ => ⟨B, la, lb ++ [x], s, a, c, g1, g2, Nat.lt_of_lt_of_le g3 hf.size, fun q => ?_, (hf.block B g3 g4).trans g5, g6.keep (fun _ q => q) (fun b q => hf.block b (Nat.lt_of_lt_of_le q h.rm.below.size) (fun hm => by have := h.rm.hM b hm; omega)), by rw [hl, g7]; simp, g8, fun y hy => ?_⟩⟩
 ·rw [hp, nextP_fst] at h0
  rcases hk with hk | hk <;> rw [hk] at h0 <;> exact absurd h0 (by decide)
 ·rcases hN B q with e | e
  ·exact g4 e
  ·omega
 ·rcases List.mem_append.1 hy with hy | hy
  ·exact g9 y hy
  ·rw [List.mem_singleton.1 hy]; omega
theorem StartR.end_ (h : StartR w n R L D k last up M r d W) (hr : RM w n N W' R L D r2 d2) (ho : Rdw.Own d2 r2 (k + 1)) (hroom : d2.room = 4194304) (hp : r2.phase = (nextP r.phase x.kind).1) (hk : 4 ≤ x.kind) : StartR w n R L D (k + 1) x.kind (.pointer none) N r2 d2 W' :=
 ⟨hr, ho, hroom, by rw [hp, nextP_fst], fun _ => rfl, fun h0 => by rw [hp, nextP_fst, if_neg (by omega), if_neg (by omega), if_neg (by omega)] at h0; exact absurd rfl h0⟩
theorem StartR.last2 (h : StartR w n R L D k last up M r d W) (hp : r.phase = 2) : last = 2 := by
 have := h.last
 rw [hp] at this
 by_cases h1 : last = 1
 ·rw [if_pos h1] at this; exact absurd this (by decide)
 rw [if_neg h1] at this
 by_cases h2 : last = 2
 ·exact h2
 rw [if_neg h2] at this
 split at this <;> exact absurd this (by decide)
end
set_option maxRecDepth 100000 in
set_option maxHeartbeats 4000000 in
theorem roStarts_w (w : World) (l : List St) (v : Value) (g : StsRd w (· < w.heap.size) v l) (kk : ∀ x ∈ l, x.Ok) (hbl : l.length * 88 ≤ 140737488355328) (hE : Env w) : Calls Tryz.prog 4 #[v] w fun e w' => e = .returned (.bool true) ∧ Below w.heap.size w w' := by
 obtain ⟨a, cap, rfl, hcap, hmx⟩ := g.slice
 obtain ⟨N, hn⟩ : ∃ N, l.length = N := ⟨_, rfl⟩
 rw [hn] at hcap ⊢
 rw [hn] at hbl
 have HNL : Hid (N ≤ 1599289640401) := by show _ ≤ _; omega
 have HN := Lib.hid hn
 have HG := Lib.hid g
 have HKK := Lib.hid kk
 have HWK : Hid (∀ W, Below w.heap.size w W → Calls Tryz.prog 14 #[] W fun e w' => e = .returned (.bool true) ∧ Below W.heap.size W w') := fun W hb => roWorks_c W (hE.keep hb)
 have HNW : Hid (∀ W, Calls Tryz.prog 15 #[.int .i64 4194304] W fun e w' => e = .returned (.tuple #[px W.heap.size, .int .i64 0]) ∧ Below W.heap.size W w' ∧ DkAt w' (· = W.heap.size) W.heap.size (Dk.new 4194304)) := fun W => newDk_c 4194304 (by decide) (by decide) W
 have HOP := Lib.hid (fun W D h => openDk_c 4194304 W D h)
 have hlN : (N : Int) ≤ 9223372036854775807 := by have := HNL.out; omega
 unfold px at HNW HOP
 clear hcap hmx hn g kk hE
 go_enter Tryz.func4, Tryz.ntmps4
 go_wp2_with fail
 go_loopw [3, 19] (fun s q wr => ∃ k : Nat, q = .int .i64 (k : Int) ∧ k ≤ N ∧ OpsR w l k s wr) (fun _ q _ => N - (intOf q).toNat)
 case atStart => exact ⟨0, rfl, Nat.zero_le _, OpsR.start w l⟩
 case round =>
  obtain ⟨k, rfl, hk, hO⟩ := hrel
  by_cases hlt : k < N
  ·have hkl : k < l.length := by have := HN.out; omega
   obtain ⟨b, off, cp, sv, e1, hb, hnd, hc⟩ := (HG.out.keep (Q := (· < w.heap.size)) (fun _ k => k) (fun b hb => hO.below.block b hb)).at_ k hkl
   rw [HN.out] at e1
   simp only [Value.slice.injEq, true_and] at e1
   obtain ⟨rfl, rfl⟩ := e1
   obtain ⟨sa, sc, rfl, _, _⟩ := hnd.slice
   obtain ⟨ps, hp1, hp2, hp3⟩ := hO.ex
   have hsn := fun (W2 w3 : World) (v' : Value) => OpsR.snoc (W2 := W2) (w3 := w3) (v' := v') hO.below hkl hp1 hp2 hp3 hnd
   have hbw := hO.below.size
   generalize l[k]'hkl = x at *
   unfold stC at hc
   have c0 := hc 0 (by omega)
   have c1 := hc 1 (by omega)
   have c2 := hc 2 (by omega)
   have c3 := hc 3 (by omega)
   have c4 := hc 4 (by omega)
   have c5 := hc 5 (by omega)
   have c6 := hc 6 (by omega)
   have c7 := hc 7 (by omega)
   have c8 := hc 8 (by omega)
   rw [Nat.add_zero] at c0
   have hkI : (k : Int) < (N : Int) := by omega
   have hbx := Blk.new wr #[.int .u8 (x.kind : Int), .int .i64 x.n, .int .i64 x.cut, .int .i64 x.too, .int .i64 x.job.par, .slice sa x.job.nodes.length sc, .int .i64 x.part, .int .i64 x.at_, .int .i64 x.why] 29
   have hB2 := (Below.refl wr.heap.size wr).alloc (Nat.le_refl _) (.cells #[.int .u8 (x.kind : Int), .int .i64 x.n, .int .i64 x.cut, .int .i64 x.too, .int .i64 x.job.par, .slice sa x.job.nodes.length sc, .int .i64 x.part, .int .i64 x.at_, .int .i64 x.why] 29)
   have hA2 := hp2.alloc (.cells #[.int .u8 (x.kind : Int), .int .i64 x.n, .int .i64 x.cut, .int .i64 x.too, .int .i64 x.job.par, .slice sa x.job.nodes.length sc, .int .i64 x.part, .int .i64 x.at_, .int .i64 x.why] 29)
   have HSN := Lib.hid hsn
   rename_i hy1 hy2
   clear hy1 hy2 hc hnd hp1 hp3 hsn hO hb hp2
   go_upto_region 5 with fail
   generalize World.alloc wr _ = W2 at *
   have x0 := hbx.cell 0
   have x1 := hbx.cell 1
   have x2 := hbx.cell 2
   have x3 := hbx.cell 3
   have x4 := hbx.cell 4
   have x5 := hbx.cell 5
   have x6 := hbx.cell 6
   have x7 := hbx.cell 7
   have x8 := hbx.cell 8
   obtain ⟨i0, hi, hz0, hz1, hzb⟩ := info_parts info_op
   have HA2 := Lib.hid hA2
   have HB2 := Lib.hid hB2
   have hNL := HNL.out
   have hW2 : w.heap.size ≤ W2.heap.size := Nat.le_trans hbw HB2.out.size
   clear c0 c1 c2 c3 c4 c5 c6 c7 c8 hA2 hB2 hbx
   go_wp2_with (at_builtin; refine wpList_append_own_wide _ rfl _ _ 23 rfl w.heap.size 31 i0 (.agg #[.int .i64 0, .int .i64 0, .int .i64 0, .int .u8 0, .int .i64 0, .int .i64 0, .int .i64 0, .int .i64 0, .slice none 0 0, .int .i64 0, .int .i64 0, .int .i64 0]) 12 112 Tryz.underlying23 hi hz0 hz1 hzb rfl (by decide) u3 k (rowO ps) rfl (HA2.out.alloc _) ⟨W2.heap.size, 0, none⟩ 1 1 [.int .i64 0, .int .i64 0, .int .i64 0, .int .u8 (x.kind : Int), .int .i64 x.n, .int .i64 x.cut, .int .i64 x.too, .int .i64 x.job.par, .slice sa x.job.nodes.length sc, .int .i64 x.part, .int .i64 x.at_, .int .i64 x.why] rfl rfl (World.news_of_block (heap_alloc_new W2 _)) (opC_one x sa sc) (by unfold maxLen; omega) (by omega) (by simp; omega) ?_; intro v' w3 hown3 hgrow3 _)
   go_roundw
   case rel => exact ⟨k + 1, by go_num, by omega, HSN.out _ w3 v' (HB2.out.alloc HB2.out.size _) hgrow3 hown3⟩
   case measure => simp [intOf]; omega
  ·have hkN : N = k := by omega
   subst hkN
   have hOR := hO
   rw [← HN.out] at hO
   have hrd := hO.rd
   have HH := Lib.hid (opHeavy_c (l.map opOf) _ wr _ hrd (fun _ h => h))
   have HOB := Lib.hid hO.below
   clear hrd hO hOR hk hlt
   cases hh : heavyOps (l.map opOf)
   ·rw [hh] at HH
    have HHF := Lib.hid hh
    clear hh
    go_upto_region 16 with (first
     | (go_at_call 13; refine HH.out.mono ?_; rintro e w3 ⟨rfl, hb3⟩; have hB3 := HOB.out.trans (hb3.mono HOB.out.size))
     | (go_at_call 15; refine (HNW.out _).mono ?_; rintro e w4 ⟨rfl, hb4, hd4⟩; have hB4 := hB3.trans (hb4.mono hB3.size))
     | (go_at_call 16; refine (HOP.out _ _ hd4).mono ?_; rintro e w5 ⟨R, L, M, P, rfl, hf5, hR5, hM5⟩; have HRM := Lib.hid (RM.opened hB4 (M := (· = w3.heap.size)) (fun b q => by rw [q]; exact hB3.size) hf5 hR5 hM5); clear hR5 hf5)
     | fail)
    have hN100 : N ≤ 100 := by
     have h1 := HHF.out
     unfold heavyOps at h1
     simp only [Bool.or_eq_false_iff, decide_eq_false_iff_not, List.length_map] at h1
     have h2 := HN.out
     omega
    have H100 := Lib.hid hN100
    have hST : StartR w w5.heap.size R L w3.heap.size 0 0 (.pointer none) M road0 (Dk.new 4194304) w5 := ⟨HRM.out, Rdw.Own.new 4194304 (by decide) (by decide), rfl, rfl, fun _ => rfl, fun h => absurd rfl h⟩
    have HST := Lib.hid hST
    have hB5 := Lib.hid HRM.out.below
    clear hST hM5 hd4 hb4 hb3 hB3 hB4 HRM HH hbl HOB HNW HOP hN100
    generalize w5.heap.size = n at *
    generalize w3.heap.size = D at *
    go_loopw [10, 11, 45] (fun up ls q wr => ∃ (k last : Nat) (M : Nat → Prop) (r : Rdw) (d : Dk), q = .int .i64 (k : Int) ∧ ls = .int .u8 (last : Int) ∧ k ≤ N ∧ StartR w n R L D k last up M r d wr) (fun _ _ q _ => N - (intOf q).toNat)
    case atStart => exact ⟨0, 0, _, _, _, rfl, rfl, Nat.zero_le _, HST.out⟩
    case round =>
     obtain ⟨k, last, M1, r, d, rfl, rfl, hk, hS⟩ := hrel
     have HS := Lib.hid hS
     by_cases hlt : k < N
     ·have hkl : k < l.length := by have := HN.out; omega
      obtain ⟨b, off, cp, sv, e1, hb, hnd, hc⟩ := (HG.out.keep (Q := (· < w.heap.size)) (fun _ k => k) (fun b hb => hS.rm.below.block b hb)).at_ k hkl
      rw [HN.out] at e1
      simp only [Value.slice.injEq, true_and] at e1
      obtain ⟨rfl, rfl⟩ := e1
      obtain ⟨sa, sc, rfl, _, _⟩ := hnd.slice
      have hxok := HKK.out _ (List.getElem_mem hkl)
      generalize l[k]'hkl = x at *
      unfold stC at hc
      have c0 := hc 0 (by omega)
      have c1 := hc 1 (by omega)
      have c2 := hc 2 (by omega)
      have c3 := hc 3 (by omega)
      have c4 := hc 4 (by omega)
      have c5 := hc 5 (by omega)
      have c6 := hc 6 (by omega)
      have c7 := hc 7 (by omega)
      have c8 := hc 8 (by omega)
      rw [Nat.add_zero] at c0
      have hkI : (k : Int) < (N : Int) := by omega
      have hbx := Blk.new wr #[.int .u8 (x.kind : Int), .int .i64 x.n, .int .i64 x.cut, .int .i64 x.too, .int .i64 x.job.par, .slice sa x.job.nodes.length sc, .int .i64 x.part, .int .i64 x.at_, .int .i64 x.why] 29
      have hB2 := (Below.refl wr.heap.size wr).alloc (Nat.le_refl _) (.cells #[.int .u8 (x.kind : Int), .int .i64 x.n, .int .i64 x.cut, .int .i64 x.too, .int .i64 x.job.par, .slice sa x.job.nodes.length sc, .int .i64 x.part, .int .i64 x.at_, .int .i64 x.why] 29)
      have hS2 := hS.below hB2
      have HPU := Lib.hid (hS2.rm.put_c x (.agg (stC x (.slice sa x.job.nodes.length sc))) ⟨_, rfl, hnd.keep (fun _ k => k) (fun b q => alloc_old wr _ b (Nat.lt_of_lt_of_le q hS.rm.below.size))⟩ hxok (by rw [hS.own.kp.loose]; exact Nat.zero_le _) _ rfl)
      have HND := Lib.hid (hnd.keep (w' := wr.alloc (.cells #[.int .u8 (x.kind : Int), .int .i64 x.n, .int .i64 x.cut, .int .i64 x.too, .int .i64 x.job.par, .slice sa x.job.nodes.length sc, .int .i64 x.part, .int .i64 x.at_, .int .i64 x.why] 29)) (Q := (· < w.heap.size)) (fun _ k => k) (fun b q => alloc_old wr _ b (Nat.lt_of_lt_of_le q hS.rm.below.size)))
      have hOP := hS.own.put hS.room (by have := H100.out; omega) x hxok
      have HS2 := Lib.hid hS2
      have HXB := Lib.hid hbx
      have hwn : n ≤ wr.heap.size := hS.rm.hN
      have hbl2 : ¬ M1 wr.heap.size := fun hm => by have := (hS.rm.lt _ hm).2; omega
      unfold px stC at HPU
      rename_i hy1 hy2
      clear hy1 hy2 hc hnd hS hS2 hb
      go_upto_region 18 with fail
      generalize hBX : wr.heap.size = BX at *
      generalize World.alloc wr _ = W2 at *
      have x0 := hbx.cell 0
      have x1 := hbx.cell 1
      have x2 := hbx.cell 2
      have x3 := hbx.cell 3
      have x4 := hbx.cell 4
      have x5 := hbx.cell 5
      have x6 := hbx.cell 6
      have x7 := hbx.cell 7
      have x8 := hbx.cell 8
      clear c0 c1 c2 c3 c4 c5 c6 c7 c8 hbx
      generalize hq : Rdw.put d r x = q at *
      obtain ⟨d2, r2, qe⟩ := q
      dsimp only at hOP HPU
      rcases hOP with ⟨rfl, ho2, hroom2, hl2, hp2, hmay, hnx⟩ | ⟨hqe, rfl, rfl, _⟩
      ·have hmk := St.may_kind hmay
       have HMK := Lib.hid hmk
       have HNX := Lib.hid hnx
       have HQ := Lib.hid hq
       have hk4 : x.kind = 4 → last = 2 := fun e => HS2.out.last2 (nextP_4 (by rw [e] at hnx; exact hnx))
       have hcs : x.kind = 1 ∨ (x.kind = 2 ∨ x.kind = 3) ∨ 4 ≤ x.kind := by omega
       clear hq hnx hmk
       rcases hcs with hk | hk | hk
       ·have e4 : ((x.kind : Int) == 4) = false := by rw [beq_eq_false_iff_ne]; omega
        have e1 : ((x.kind : Int) == 1) = true := by rw [beq_iff_eq]; omega
        have hone := fun (N6 : Nat → Prop) (w6 : World) h1 h2 h3 => HS2.out.one (W' := w6) (N := N6) h1 h2 h3 ho2 hroom2 hl2 hp2 hk HXB.out HND.out hwn hbl2
        have HONE := Lib.hid hone
        have HK1 := Lib.hid hk
        clear hk hk4 hone ho2 hroom2 hl2 hp2
        go_upto_region 30 with (first | (go_at_call 19; refine HPU.out.mono ?_; rintro e w6 ⟨rfl, hf6, N6, hN6, hR6⟩; have hx6 := (hf6.block BX HXB.out.lt hbl2).trans HXB.out; have y0 := Blk.cell hx6 0) | fail)
        have HS6 := Lib.hid (HONE.out N6 w6 hf6 hN6 hR6)
        have HPZ : Hid (r2.phase ≠ 0) := by show _ ≠ _; rw [HS6.out.last, if_pos HK1.out]; decide
        obtain ⟨B, la, lb, s, a1, c1, gB, g2, g3, g4, g5, g6, g7, g8, g9⟩ := HS6.out.under HPZ.out
        obtain rfl : BX = B := by simpa [px] using gB
        clear gB hx6 y0
        have hph : r2.phase ≠ 0 := HPZ.out
        have HSC := Lib.hid (HS6.out.rm.start_c hph la lb s g7 g8 g9)
        have hpb : ((r2.phase : Int) == 0) = false := by rw [beq_eq_false_iff_ne]; omega
        have hBs := g5
        have hns := g6.mono (Q := (· < n)) (fun b q => Nat.lt_of_lt_of_le q HS6.out.rm.hn)
        have hBlt := g3
        have HNB := Lib.hid g2
        unfold px at HSC
        unfold stC at hBs
        clear g2 g3 g4 g5 g6 g7 g8 g9 hph
        go_upto_region 31 with (first | (go_at_call 22; refine HSC.out.mono ?_; rintro e w7 ⟨a7, c7, rfl, hn7, hb7⟩; unfold stC) | fail)
        have hx7 := Blk.new w7 #[.int .u8 (s.kind : Int), .int .i64 s.n, .int .i64 s.cut, .int .i64 s.too, .int .i64 s.job.par, .slice a7 s.job.nodes.length c7, .int .i64 s.part, .int .i64 s.at_, .int .i64 s.why] 29
        have hB8 := hb7.alloc hb7.size (.cells #[.int .u8 (s.kind : Int), .int .i64 s.n, .int .i64 s.cut, .int .i64 s.too, .int .i64 s.job.par, .slice a7 s.job.nodes.length c7, .int .i64 s.part, .int .i64 s.at_, .int .i64 s.why] 29)
        have hz8 := hBs.below hB8 hBlt
        have hR8 := HS6.out.rm.keep hB8
        have hN7 := hn7.keep (w' := w7.alloc (.cells #[.int .u8 (s.kind : Int), .int .i64 s.n, .int .i64 s.cut, .int .i64 s.too, .int .i64 s.job.par, .slice a7 s.job.nodes.length c7, .int .i64 s.part, .int .i64 s.at_, .int .i64 s.why] 29)) (Q := (· < n)) (fun _ k => k) (fun b q => alloc_old w7 _ b (Nat.lt_of_lt_of_le q (Nat.le_trans HS6.out.rm.hN hb7.size)))
        have hN8 := hns.keep (w' := w7.alloc (.cells #[.int .u8 (s.kind : Int), .int .i64 s.n, .int .i64 s.cut, .int .i64 s.too, .int .i64 s.job.par, .slice a7 s.job.nodes.length c7, .int .i64 s.part, .int .i64 s.at_, .int .i64 s.why] 29)) (Q := (· < n)) (fun _ k => k) (fun b q => hB8.block b (Nat.lt_of_lt_of_le q HS6.out.rm.hN))
        generalize World.alloc w7 _ = W8 at *
        have HSM : Hid (∀ W, Below W8.heap.size W8 W → Calls Tryz.prog 23 #[.agg #[.int .u8 (s.kind : Int), .int .i64 s.n, .int .i64 s.cut, .int .i64 s.too, .int .i64 s.job.par, .slice a7 s.job.nodes.length c7, .int .i64 s.part, .int .i64 s.at_, .int .i64 s.why], .agg #[.int .u8 (s.kind : Int), .int .i64 s.n, .int .i64 s.cut, .int .i64 s.too, .int .i64 s.job.par, .slice a1 s.job.nodes.length c1, .int .i64 s.part, .int .i64 s.at_, .int .i64 s.why]] W fun e w' => e = .returned (.bool true) ∧ Below W.heap.size W w') := fun W hb => by
         have := roSame_c s s _ _ W (· < n) ⟨_, rfl, hN7.keep (w' := W) (Q := (· < n)) (fun _ k => k) (fun b q => hb.block b (Nat.lt_of_lt_of_le q hR8.hN))⟩ ⟨_, rfl, hN8.keep (w' := W) (Q := (· < n)) (fun _ k => k) (fun b q => hb.block b (Nat.lt_of_lt_of_le q hR8.hN))⟩ (fun b q => Nat.lt_of_lt_of_le q (Nat.le_trans hR8.hN hb.size))
         rw [St.sameB_refl] at this
         exact this
        have HPH : Hid (∀ W, Below W8.heap.size W8 W → Calls Tryz.prog 17 #[.pointer (some ⟨R, 0, none⟩)] W fun e w' => e = .returned (.int .u8 (r2.phase : Int)) ∧ W = w') := fun W hb => (hR8.keep hb).phase_c
        have HX7 := Lib.hid hx7
        have HZ8 := Lib.hid hz8
        have HR8 := Lib.hid hR8
        have HB8 := Lib.hid hB8
        clear hx7 hz8 hR8 hN7 hN8 hB8 hns hBs hn7
        refine wp_region_held_drew (S := (fun w' => Below W8.heap.size W8 w')) (by kernel_rfl) ?_ (fun hHeld => ?_)
        ·exact (Below.refl _ _).drew
        refine wpAnyH_take (i := 0) (oi := _) (v := ?_) rfl (by kernel_rfl) (by kernel_rfl) (by kernel_rfl) (fun _ _ _ h => h) (Or.inl ⟨by rfl, ?_⟩) (by assumption) ?_
        rotate_left
        ·intro w' hSw
         (try dsimp only at hSw)
         clear hSw
         go_simp
         try with_reducible rfl
        try simp only [Act.put, List.getElem_toArray, List.getElem_cons_zero, List.setIfInBounds_toArray, List.set_cons_zero, List.set_cons_succ]
        refine wpAnyH_take (i := 1) (oi := _) (v := ?_) rfl (by kernel_rfl) (by kernel_rfl) (by kernel_rfl) (fun _ _ _ h => h) (Or.inl ⟨by rfl, ?_⟩) (by assumption) ?_
        rotate_left
        ·intro w' hSw
         (try dsimp only at hSw)
         clear hSw
         go_simp
         try with_reducible rfl
        try simp only [Act.put, List.getElem_toArray, List.getElem_cons_zero, List.getElem_cons_succ, List.setIfInBounds_toArray, List.set_cons_zero, List.set_cons_succ]
        refine wpAnyH_take (i := 2) (oi := _) (v := ?_) rfl (by kernel_rfl) (by kernel_rfl) (by kernel_rfl) (fun _ _ _ h => h) (Or.inl ⟨by rfl, ?_⟩) (by assumption) ?_
        rotate_left
        ·intro w' hSw
         (try dsimp only at hSw)
         clear hSw
         go_simp
         try with_reducible rfl
        try simp only [Act.put, List.getElem_toArray, List.getElem_cons_zero, List.getElem_cons_succ, List.setIfInBounds_toArray, List.set_cons_zero, List.set_cons_succ]
        refine wpAnyH_take (i := 3) (oi := _) (v := ?_) rfl (by kernel_rfl) (by kernel_rfl) (by kernel_rfl) (fun _ _ _ h => h) (Or.inl ⟨by rfl, ?_⟩) (by assumption) ?_
        rotate_left
        ·intro w' hSw
         (try dsimp only at hSw)
         clear hSw
         go_simp
         try with_reducible rfl
        try simp only [Act.put, List.getElem_toArray, List.getElem_cons_zero, List.getElem_cons_succ, List.setIfInBounds_toArray, List.set_cons_zero, List.set_cons_succ]
        refine wpAnyH_take (i := 4) (oi := _) (v := ?_) rfl (by kernel_rfl) (by kernel_rfl) (by kernel_rfl) (fun _ _ _ h => h) (Or.inl ⟨by rfl, ?_⟩) (by assumption) ?_
        rotate_left
        ·intro w' hSw
         (try dsimp only at hSw)
         clear hSw
         go_simp
         try with_reducible rfl
        try simp only [Act.put, List.getElem_toArray, List.getElem_cons_zero, List.getElem_cons_succ, List.setIfInBounds_toArray, List.set_cons_zero, List.set_cons_succ]
        refine wpAnyH_take (i := 5) (oi := _) (v := ?_) rfl (by kernel_rfl) (by kernel_rfl) (by kernel_rfl) (fun _ _ _ h => h) (Or.inl ⟨by rfl, ?_⟩) (by assumption) ?_
        rotate_left
        ·intro w' hSw
         (try dsimp only at hSw)
         clear hSw
         go_simp
         try with_reducible rfl
        try simp only [Act.put, List.getElem_toArray, List.getElem_cons_zero, List.getElem_cons_succ, List.setIfInBounds_toArray, List.set_cons_zero, List.set_cons_succ]
        refine wpAnyH_take (i := 6) (oi := _) (v := ?_) rfl (by kernel_rfl) (by kernel_rfl) (by kernel_rfl) (fun _ _ _ h => h) (Or.inl ⟨by rfl, ?_⟩) (by assumption) ?_
        rotate_left
        ·intro w' hSw
         (try dsimp only at hSw)
         clear hSw
         go_simp
         try with_reducible rfl
        try simp only [Act.put, List.getElem_toArray, List.getElem_cons_zero, List.getElem_cons_succ, List.setIfInBounds_toArray, List.set_cons_zero, List.set_cons_succ]
        refine wpAnyH_take (i := 7) (oi := _) (v := ?_) rfl (by kernel_rfl) (by kernel_rfl) (by kernel_rfl) (fun _ _ _ h => h) (Or.inl ⟨by rfl, ?_⟩) (by assumption) ?_
        rotate_left
        ·intro w' hSw
         (try dsimp only at hSw)
         have y0 := (HX7.out.below hSw HX7.out.lt).cell 0
         have y1 := (HX7.out.below hSw HX7.out.lt).cell 1
         have y2 := (HX7.out.below hSw HX7.out.lt).cell 2
         have y3 := (HX7.out.below hSw HX7.out.lt).cell 3
         have y4 := (HX7.out.below hSw HX7.out.lt).cell 4
         have y5 := (HX7.out.below hSw HX7.out.lt).cell 5
         have y6 := (HX7.out.below hSw HX7.out.lt).cell 6
         have y7 := (HX7.out.below hSw HX7.out.lt).cell 7
         have y8 := (HX7.out.below hSw HX7.out.lt).cell 8
         clear hSw
         go_simp
         try with_reducible rfl
        try simp only [Act.put, List.getElem_toArray, List.getElem_cons_zero, List.getElem_cons_succ, List.setIfInBounds_toArray, List.set_cons_zero, List.set_cons_succ]
        refine wpAnyH_take (i := 8) (oi := _) (v := ?_) rfl (by kernel_rfl) (by kernel_rfl) (by kernel_rfl) (fun _ _ _ h => h) (Or.inl ⟨by rfl, ?_⟩) (by assumption) ?_
        rotate_left
        ·intro w' hSw
         (try dsimp only at hSw)
         clear hSw
         go_simp
         try with_reducible rfl
        try simp only [Act.put, List.getElem_toArray, List.getElem_cons_zero, List.getElem_cons_succ, List.setIfInBounds_toArray, List.set_cons_zero, List.set_cons_succ]
        refine wpAnyH_take (i := 9) (oi := _) (v := ?_) rfl (by kernel_rfl) (by kernel_rfl) (by kernel_rfl) (fun _ _ _ h => h) (Or.inl ⟨by rfl, ?_⟩) (by assumption) ?_
        rotate_left
        ·intro w' hSw
         (try dsimp only at hSw)
         clear hSw
         go_simp
         try with_reducible rfl
        try simp only [Act.put, List.getElem_toArray, List.getElem_cons_zero, List.getElem_cons_succ, List.setIfInBounds_toArray, List.set_cons_zero, List.set_cons_succ]
        refine wpAnyH_take (i := 10) (oi := _) (v := ?_) rfl (by kernel_rfl) (by kernel_rfl) (by kernel_rfl) (fun _ _ _ h => h) (Or.inl ⟨by rfl, ?_⟩) (by assumption) ?_
        rotate_left
        ·intro w' hSw
         (try dsimp only at hSw)
         have z0 := (HZ8.out.below hSw HZ8.out.lt).cell 0
         have z1 := (HZ8.out.below hSw HZ8.out.lt).cell 1
         have z2 := (HZ8.out.below hSw HZ8.out.lt).cell 2
         have z3 := (HZ8.out.below hSw HZ8.out.lt).cell 3
         have z4 := (HZ8.out.below hSw HZ8.out.lt).cell 4
         have z5 := (HZ8.out.below hSw HZ8.out.lt).cell 5
         have z6 := (HZ8.out.below hSw HZ8.out.lt).cell 6
         have z7 := (HZ8.out.below hSw HZ8.out.lt).cell 7
         have z8 := (HZ8.out.below hSw HZ8.out.lt).cell 8
         clear hSw
         go_simp
         try with_reducible rfl
        try simp only [Act.put, List.getElem_toArray, List.getElem_cons_zero, List.getElem_cons_succ, List.setIfInBounds_toArray, List.set_cons_zero, List.set_cons_succ]
        refine wpAnyH_ready (rs := [11]) (by kernel_rfl) (by simp) ?_
        refine AllReadyH.cons rfl (fun K hK => ?_) AllReadyH.nil
        go_simp
        go_at_call 23
        refine (HSM.out _ hHeld).mono ?_
        rintro e w9 ⟨rfl, hb9⟩
        have hH9 := hHeld.trans (hb9.mono hHeld.size)
        refine hK.out _ _ ?_ (fun hHeld => ?_)
        ·exact hH9
        clear hK K
        try simp only [Act.put, List.getElem_toArray, List.getElem_cons_zero, List.getElem_cons_succ, List.setIfInBounds_toArray, List.set_cons_zero, List.set_cons_succ]
        refine wpAnyH_take (i := 12) (oi := _) (v := ?_) rfl (by kernel_rfl) (by kernel_rfl) (by kernel_rfl) (fun _ _ _ h => h) (Or.inl ⟨by rfl, ?_⟩) (by assumption) ?_
        rotate_left
        ·intro w' hSw
         (try dsimp only at hSw)
         clear hSw
         go_simp
         try with_reducible rfl
        try simp only [Act.put, List.getElem_toArray, List.getElem_cons_zero, List.getElem_cons_succ, List.setIfInBounds_toArray, List.set_cons_zero, List.set_cons_succ]
        refine wpAnyH_take (i := 13) (oi := _) (v := ?_) rfl (by kernel_rfl) (by kernel_rfl) (by kernel_rfl) (fun _ _ _ h => h) (Or.inl ⟨by rfl, ?_⟩) (by assumption) ?_
        rotate_left
        ·intro w' hSw
         (try dsimp only at hSw)
         clear hSw
         go_simp
         try with_reducible rfl
        try simp only [Act.put, List.getElem_toArray, List.getElem_cons_zero, List.getElem_cons_succ, List.setIfInBounds_toArray, List.set_cons_zero, List.set_cons_succ]
        refine wpAnyH_take (i := 14) (oi := _) (v := ?_) rfl (by kernel_rfl) (by kernel_rfl) (by kernel_rfl) (fun _ _ _ h => h) (Or.inl ⟨by rfl, ?_⟩) (by assumption) ?_
        rotate_left
        ·intro w' hSw
         (try dsimp only at hSw)
         clear hSw
         go_simp
         try with_reducible rfl
        try simp only [Act.put, List.getElem_toArray, List.getElem_cons_zero, List.getElem_cons_succ, List.setIfInBounds_toArray, List.set_cons_zero, List.set_cons_succ]
        refine wpAnyH_take (i := 15) (oi := _) (v := ?_) rfl (by kernel_rfl) (by kernel_rfl) (by kernel_rfl) (fun _ _ _ h => h) (Or.inl ⟨by rfl, ?_⟩) (by assumption) ?_
        rotate_left
        ·intro w' hSw
         (try dsimp only at hSw)
         clear hSw
         go_simp
         try with_reducible rfl
        try simp only [Act.put, List.getElem_toArray, List.getElem_cons_zero, List.getElem_cons_succ, List.setIfInBounds_toArray, List.set_cons_zero, List.set_cons_succ]
        refine wpAnyH_take (i := 16) (oi := _) (v := ?_) rfl (by kernel_rfl) (by kernel_rfl) (by kernel_rfl) (fun _ _ _ h => h) (Or.inl ⟨by rfl, ?_⟩) (by assumption) ?_
        rotate_left
        ·intro w' hSw
         (try dsimp only at hSw)
         clear hSw
         go_simp
         try with_reducible rfl
        try simp only [Act.put, List.getElem_toArray, List.getElem_cons_zero, List.getElem_cons_succ, List.setIfInBounds_toArray, List.set_cons_zero, List.set_cons_succ]
        refine wpAnyH_take (i := 17) (oi := _) (v := ?_) rfl (by kernel_rfl) (by kernel_rfl) (by kernel_rfl) (fun _ _ _ h => h) (Or.inl ⟨by rfl, ?_⟩) (by assumption) ?_
        rotate_left
        ·intro w' hSw
         (try dsimp only at hSw)
         clear hSw
         go_simp
         try with_reducible rfl
        try simp only [Act.put, List.getElem_toArray, List.getElem_cons_zero, List.getElem_cons_succ, List.setIfInBounds_toArray, List.set_cons_zero, List.set_cons_succ]
        refine wpAnyH_ready (rs := [18]) (by kernel_rfl) (by simp) ?_
        refine AllReadyH.cons rfl (fun K hK => ?_) AllReadyH.nil
        go_simp
        go_at_call 17
        refine (HPH.out _ hHeld).mono ?_
        rintro e w10 ⟨rfl, rfl⟩
        have hH10 := hHeld
        refine hK.out _ _ ?_ (fun hHeld => ?_)
        ·exact hH10
        clear hK K
        try simp only [Act.put, List.getElem_toArray, List.getElem_cons_zero, List.getElem_cons_succ, List.setIfInBounds_toArray, List.set_cons_zero, List.set_cons_succ]
        refine wpAnyH_take (i := 19) (oi := _) (v := ?_) rfl (by kernel_rfl) (by kernel_rfl) (by kernel_rfl) (fun _ _ _ h => h) (Or.inl ⟨by rfl, ?_⟩) (by assumption) ?_
        rotate_left
        ·intro w' hSw
         (try dsimp only at hSw)
         clear hSw
         go_simp
         try with_reducible rfl
        try simp only [Act.put, List.getElem_toArray, List.getElem_cons_zero, List.getElem_cons_succ, List.setIfInBounds_toArray, List.set_cons_zero, List.set_cons_succ]
        refine wpAnyH_take (i := 20) (oi := _) (v := ?_) rfl (by kernel_rfl) (by kernel_rfl) (by kernel_rfl) (fun _ _ _ h => h) (Or.inl ⟨by rfl, ?_⟩) (by assumption) ?_
        rotate_left
        ·intro w' hSw
         (try dsimp only at hSw)
         clear hSw
         go_simp
         try with_reducible rfl
        try simp only [Act.put, List.getElem_toArray, List.getElem_cons_zero, List.getElem_cons_succ, List.setIfInBounds_toArray, List.set_cons_zero, List.set_cons_succ]
        refine wpAnyH_take (i := 21) (oi := _) (v := ?_) rfl (by kernel_rfl) (by kernel_rfl) (by kernel_rfl) (fun _ _ _ h => h) (Or.inl ⟨by rfl, ?_⟩) (by assumption) ?_
        rotate_left
        ·intro w' hSw
         (try dsimp only at hSw)
         clear hSw
         go_simp
         try with_reducible rfl
        try simp only [Act.put, List.getElem_toArray, List.getElem_cons_zero, List.getElem_cons_succ, List.setIfInBounds_toArray, List.set_cons_zero, List.set_cons_succ]
        refine wpAnyH_done (by kernel_rfl) ?_ _
        go_wp2_with fail
        go_roundw
        case rel => exact ⟨k + 1, x.kind, N6, r2, d2, by go_num, rfl, hlt, HS6.out.below (HB8.out.trans (hHeld.mono HB8.out.size))⟩
        case measure => simp [intOf]; omega
       ·have e4 : ((x.kind : Int) == 4) = false := by rw [beq_eq_false_iff_ne]; omega
        have e1 : ((x.kind : Int) == 1) = false := by rw [beq_eq_false_iff_ne]; omega
        have e5 : ((x.kind : Int) == 5) = false := by rw [beq_eq_false_iff_ne]; omega
        have e6 : ((x.kind : Int) == 6) = false := by rw [beq_eq_false_iff_ne]; omega
        have htwo := fun (N6 : Nat → Prop) (w6 : World) h1 h2 h3 => HS2.out.two (W' := w6) (N := N6) h1 h2 h3 ho2 hroom2 hl2 hp2 HNX.out hk
        have HTWO := Lib.hid htwo
        have HK1 := Lib.hid hk
        clear hk hk4 htwo ho2 hroom2 hl2 hp2
        go_upto_region 30 with (first | (go_at_call 19; refine HPU.out.mono ?_; rintro e w6 ⟨rfl, hf6, N6, hN6, hR6⟩; have hx6 := (hf6.block BX HXB.out.lt hbl2).trans HXB.out; have y0 := Blk.cell hx6 0) | fail)
        have HS6 := Lib.hid (HTWO.out N6 w6 hf6 hN6 hR6)
        have HPZ : Hid (r2.phase ≠ 0) := by
         show _ ≠ _
         rw [HS6.out.last]
         rcases HK1.out with e | e <;> rw [e] <;> decide
        obtain ⟨B, la, lb, s, a1, c1, gB, g2, g3, g4, g5, g6, g7, g8, g9⟩ := HS6.out.under HPZ.out
        unfold px at gB
        subst gB
        clear hx6 y0
        have hph : r2.phase ≠ 0 := HPZ.out
        have HSC := Lib.hid (HS6.out.rm.start_c hph la lb s g7 g8 g9)
        have hpb : ((r2.phase : Int) == 0) = false := by rw [beq_eq_false_iff_ne]; omega
        have hBs := g5
        have hns := g6.mono (Q := (· < n)) (fun b q => Nat.lt_of_lt_of_le q HS6.out.rm.hn)
        have hBlt := g3
        have HNB := Lib.hid g2
        unfold px at HSC
        unfold stC at hBs
        clear g2 g3 g4 g5 g6 g7 g8 g9 hph
        go_upto_region 31 with (first | (go_at_call 22; refine HSC.out.mono ?_; rintro e w7 ⟨a7, c7, rfl, hn7, hb7⟩; unfold stC) | fail)
        have hx7 := Blk.new w7 #[.int .u8 (s.kind : Int), .int .i64 s.n, .int .i64 s.cut, .int .i64 s.too, .int .i64 s.job.par, .slice a7 s.job.nodes.length c7, .int .i64 s.part, .int .i64 s.at_, .int .i64 s.why] 29
        have hB8 := hb7.alloc hb7.size (.cells #[.int .u8 (s.kind : Int), .int .i64 s.n, .int .i64 s.cut, .int .i64 s.too, .int .i64 s.job.par, .slice a7 s.job.nodes.length c7, .int .i64 s.part, .int .i64 s.at_, .int .i64 s.why] 29)
        have hz8 := hBs.below hB8 hBlt
        have hR8 := HS6.out.rm.keep hB8
        have hN7 := hn7.keep (w' := w7.alloc (.cells #[.int .u8 (s.kind : Int), .int .i64 s.n, .int .i64 s.cut, .int .i64 s.too, .int .i64 s.job.par, .slice a7 s.job.nodes.length c7, .int .i64 s.part, .int .i64 s.at_, .int .i64 s.why] 29)) (Q := (· < n)) (fun _ k => k) (fun b q => alloc_old w7 _ b (Nat.lt_of_lt_of_le q (Nat.le_trans HS6.out.rm.hN hb7.size)))
        have hN8 := hns.keep (w' := w7.alloc (.cells #[.int .u8 (s.kind : Int), .int .i64 s.n, .int .i64 s.cut, .int .i64 s.too, .int .i64 s.job.par, .slice a7 s.job.nodes.length c7, .int .i64 s.part, .int .i64 s.at_, .int .i64 s.why] 29)) (Q := (· < n)) (fun _ k => k) (fun b q => hB8.block b (Nat.lt_of_lt_of_le q HS6.out.rm.hN))
        generalize World.alloc w7 _ = W8 at *
        have HSM : Hid (∀ W, Below W8.heap.size W8 W → Calls Tryz.prog 23 #[.agg #[.int .u8 (s.kind : Int), .int .i64 s.n, .int .i64 s.cut, .int .i64 s.too, .int .i64 s.job.par, .slice a7 s.job.nodes.length c7, .int .i64 s.part, .int .i64 s.at_, .int .i64 s.why], .agg #[.int .u8 (s.kind : Int), .int .i64 s.n, .int .i64 s.cut, .int .i64 s.too, .int .i64 s.job.par, .slice a1 s.job.nodes.length c1, .int .i64 s.part, .int .i64 s.at_, .int .i64 s.why]] W fun e w' => e = .returned (.bool true) ∧ Below W.heap.size W w') := fun W hb => by
         have := roSame_c s s _ _ W (· < n) ⟨_, rfl, hN7.keep (w' := W) (Q := (· < n)) (fun _ k => k) (fun b q => hb.block b (Nat.lt_of_lt_of_le q hR8.hN))⟩ ⟨_, rfl, hN8.keep (w' := W) (Q := (· < n)) (fun _ k => k) (fun b q => hb.block b (Nat.lt_of_lt_of_le q hR8.hN))⟩ (fun b q => Nat.lt_of_lt_of_le q (Nat.le_trans hR8.hN hb.size))
         rw [St.sameB_refl] at this
         exact this
        have HPH : Hid (∀ W, Below W8.heap.size W8 W → Calls Tryz.prog 17 #[.pointer (some ⟨R, 0, none⟩)] W fun e w' => e = .returned (.int .u8 (r2.phase : Int)) ∧ W = w') := fun W hb => (hR8.keep hb).phase_c
        have HX7 := Lib.hid hx7
        have HZ8 := Lib.hid hz8
        have HR8 := Lib.hid hR8
        have HB8 := Lib.hid hB8
        clear hx7 hz8 hR8 hN7 hN8 hB8 hns hBs hn7
        refine wp_region_held_drew (S := (fun w' => Below W8.heap.size W8 w')) (by kernel_rfl) ?_ (fun hHeld => ?_)
        ·exact (Below.refl _ _).drew
        refine wpAnyH_take (i := 0) (oi := _) (v := ?_) rfl (by kernel_rfl) (by kernel_rfl) (by kernel_rfl) (fun _ _ _ h => h) (Or.inl ⟨by rfl, ?_⟩) (by assumption) ?_
        rotate_left
        ·intro w' hSw
         (try dsimp only at hSw)
         clear hSw
         go_simp
         try with_reducible rfl
        try simp only [Act.put, List.getElem_toArray, List.getElem_cons_zero, List.setIfInBounds_toArray, List.set_cons_zero, List.set_cons_succ]
        refine wpAnyH_take (i := 1) (oi := _) (v := ?_) rfl (by kernel_rfl) (by kernel_rfl) (by kernel_rfl) (fun _ _ _ h => h) (Or.inl ⟨by rfl, ?_⟩) (by assumption) ?_
        rotate_left
        ·intro w' hSw
         (try dsimp only at hSw)
         clear hSw
         go_simp
         try with_reducible rfl
        try simp only [Act.put, List.getElem_toArray, List.getElem_cons_zero, List.getElem_cons_succ, List.setIfInBounds_toArray, List.set_cons_zero, List.set_cons_succ]
        refine wpAnyH_take (i := 2) (oi := _) (v := ?_) rfl (by kernel_rfl) (by kernel_rfl) (by kernel_rfl) (fun _ _ _ h => h) (Or.inl ⟨by rfl, ?_⟩) (by assumption) ?_
        rotate_left
        ·intro w' hSw
         (try dsimp only at hSw)
         clear hSw
         go_simp
         try with_reducible rfl
        try simp only [Act.put, List.getElem_toArray, List.getElem_cons_zero, List.getElem_cons_succ, List.setIfInBounds_toArray, List.set_cons_zero, List.set_cons_succ]
        refine wpAnyH_take (i := 3) (oi := _) (v := ?_) rfl (by kernel_rfl) (by kernel_rfl) (by kernel_rfl) (fun _ _ _ h => h) (Or.inl ⟨by rfl, ?_⟩) (by assumption) ?_
        rotate_left
        ·intro w' hSw
         (try dsimp only at hSw)
         clear hSw
         go_simp
         try with_reducible rfl
        try simp only [Act.put, List.getElem_toArray, List.getElem_cons_zero, List.getElem_cons_succ, List.setIfInBounds_toArray, List.set_cons_zero, List.set_cons_succ]
        refine wpAnyH_take (i := 4) (oi := _) (v := ?_) rfl (by kernel_rfl) (by kernel_rfl) (by kernel_rfl) (fun _ _ _ h => h) (Or.inl ⟨by rfl, ?_⟩) (by assumption) ?_
        rotate_left
        ·intro w' hSw
         (try dsimp only at hSw)
         clear hSw
         go_simp
         try with_reducible rfl
        try simp only [Act.put, List.getElem_toArray, List.getElem_cons_zero, List.getElem_cons_succ, List.setIfInBounds_toArray, List.set_cons_zero, List.set_cons_succ]
        refine wpAnyH_take (i := 5) (oi := _) (v := ?_) rfl (by kernel_rfl) (by kernel_rfl) (by kernel_rfl) (fun _ _ _ h => h) (Or.inl ⟨by rfl, ?_⟩) (by assumption) ?_
        rotate_left
        ·intro w' hSw
         (try dsimp only at hSw)
         clear hSw
         go_simp
         try with_reducible rfl
        try simp only [Act.put, List.getElem_toArray, List.getElem_cons_zero, List.getElem_cons_succ, List.setIfInBounds_toArray, List.set_cons_zero, List.set_cons_succ]
        refine wpAnyH_take (i := 6) (oi := _) (v := ?_) rfl (by kernel_rfl) (by kernel_rfl) (by kernel_rfl) (fun _ _ _ h => h) (Or.inl ⟨by rfl, ?_⟩) (by assumption) ?_
        rotate_left
        ·intro w' hSw
         (try dsimp only at hSw)
         clear hSw
         go_simp
         try with_reducible rfl
        try simp only [Act.put, List.getElem_toArray, List.getElem_cons_zero, List.getElem_cons_succ, List.setIfInBounds_toArray, List.set_cons_zero, List.set_cons_succ]
        refine wpAnyH_take (i := 7) (oi := _) (v := ?_) rfl (by kernel_rfl) (by kernel_rfl) (by kernel_rfl) (fun _ _ _ h => h) (Or.inl ⟨by rfl, ?_⟩) (by assumption) ?_
        rotate_left
        ·intro w' hSw
         (try dsimp only at hSw)
         have y0 := (HX7.out.below hSw HX7.out.lt).cell 0
         have y1 := (HX7.out.below hSw HX7.out.lt).cell 1
         have y2 := (HX7.out.below hSw HX7.out.lt).cell 2
         have y3 := (HX7.out.below hSw HX7.out.lt).cell 3
         have y4 := (HX7.out.below hSw HX7.out.lt).cell 4
         have y5 := (HX7.out.below hSw HX7.out.lt).cell 5
         have y6 := (HX7.out.below hSw HX7.out.lt).cell 6
         have y7 := (HX7.out.below hSw HX7.out.lt).cell 7
         have y8 := (HX7.out.below hSw HX7.out.lt).cell 8
         clear hSw
         go_simp
         try with_reducible rfl
        try simp only [Act.put, List.getElem_toArray, List.getElem_cons_zero, List.getElem_cons_succ, List.setIfInBounds_toArray, List.set_cons_zero, List.set_cons_succ]
        refine wpAnyH_take (i := 8) (oi := _) (v := ?_) rfl (by kernel_rfl) (by kernel_rfl) (by kernel_rfl) (fun _ _ _ h => h) (Or.inl ⟨by rfl, ?_⟩) (by assumption) ?_
        rotate_left
        ·intro w' hSw
         (try dsimp only at hSw)
         clear hSw
         go_simp
         try with_reducible rfl
        try simp only [Act.put, List.getElem_toArray, List.getElem_cons_zero, List.getElem_cons_succ, List.setIfInBounds_toArray, List.set_cons_zero, List.set_cons_succ]
        refine wpAnyH_take (i := 9) (oi := _) (v := ?_) rfl (by kernel_rfl) (by kernel_rfl) (by kernel_rfl) (fun _ _ _ h => h) (Or.inl ⟨by rfl, ?_⟩) (by assumption) ?_
        rotate_left
        ·intro w' hSw
         (try dsimp only at hSw)
         clear hSw
         go_simp
         try with_reducible rfl
        try simp only [Act.put, List.getElem_toArray, List.getElem_cons_zero, List.getElem_cons_succ, List.setIfInBounds_toArray, List.set_cons_zero, List.set_cons_succ]
        refine wpAnyH_take (i := 10) (oi := _) (v := ?_) rfl (by kernel_rfl) (by kernel_rfl) (by kernel_rfl) (fun _ _ _ h => h) (Or.inl ⟨by rfl, ?_⟩) (by assumption) ?_
        rotate_left
        ·intro w' hSw
         (try dsimp only at hSw)
         have z0 := (HZ8.out.below hSw HZ8.out.lt).cell 0
         have z1 := (HZ8.out.below hSw HZ8.out.lt).cell 1
         have z2 := (HZ8.out.below hSw HZ8.out.lt).cell 2
         have z3 := (HZ8.out.below hSw HZ8.out.lt).cell 3
         have z4 := (HZ8.out.below hSw HZ8.out.lt).cell 4
         have z5 := (HZ8.out.below hSw HZ8.out.lt).cell 5
         have z6 := (HZ8.out.below hSw HZ8.out.lt).cell 6
         have z7 := (HZ8.out.below hSw HZ8.out.lt).cell 7
         have z8 := (HZ8.out.below hSw HZ8.out.lt).cell 8
         clear hSw
         go_simp
         try with_reducible rfl
        try simp only [Act.put, List.getElem_toArray, List.getElem_cons_zero, List.getElem_cons_succ, List.setIfInBounds_toArray, List.set_cons_zero, List.set_cons_succ]
        refine wpAnyH_ready (rs := [11]) (by kernel_rfl) (by simp) ?_
        refine AllReadyH.cons rfl (fun K hK => ?_) AllReadyH.nil
        go_simp
        go_at_call 23
        refine (HSM.out _ hHeld).mono ?_
        rintro e w9 ⟨rfl, hb9⟩
        have hH9 := hHeld.trans (hb9.mono hHeld.size)
        refine hK.out _ _ ?_ (fun hHeld => ?_)
        ·exact hH9
        clear hK K
        try simp only [Act.put, List.getElem_toArray, List.getElem_cons_zero, List.getElem_cons_succ, List.setIfInBounds_toArray, List.set_cons_zero, List.set_cons_succ]
        refine wpAnyH_take (i := 12) (oi := _) (v := ?_) rfl (by kernel_rfl) (by kernel_rfl) (by kernel_rfl) (fun _ _ _ h => h) (Or.inl ⟨by rfl, ?_⟩) (by assumption) ?_
        rotate_left
        ·intro w' hSw
         (try dsimp only at hSw)
         clear hSw
         go_simp
         try with_reducible rfl
        try simp only [Act.put, List.getElem_toArray, List.getElem_cons_zero, List.getElem_cons_succ, List.setIfInBounds_toArray, List.set_cons_zero, List.set_cons_succ]
        refine wpAnyH_take (i := 13) (oi := _) (v := ?_) rfl (by kernel_rfl) (by kernel_rfl) (by kernel_rfl) (fun _ _ _ h => h) (Or.inl ⟨by rfl, ?_⟩) (by assumption) ?_
        rotate_left
        ·intro w' hSw
         (try dsimp only at hSw)
         clear hSw
         go_simp
         try with_reducible rfl
        try simp only [Act.put, List.getElem_toArray, List.getElem_cons_zero, List.getElem_cons_succ, List.setIfInBounds_toArray, List.set_cons_zero, List.set_cons_succ]
        refine wpAnyH_take (i := 14) (oi := _) (v := ?_) rfl (by kernel_rfl) (by kernel_rfl) (by kernel_rfl) (fun _ _ _ h => h) (Or.inl ⟨by rfl, ?_⟩) (by assumption) ?_
        rotate_left
        ·intro w' hSw
         (try dsimp only at hSw)
         clear hSw
         go_simp
         try with_reducible rfl
        try simp only [Act.put, List.getElem_toArray, List.getElem_cons_zero, List.getElem_cons_succ, List.setIfInBounds_toArray, List.set_cons_zero, List.set_cons_succ]
        refine wpAnyH_take (i := 15) (oi := _) (v := ?_) rfl (by kernel_rfl) (by kernel_rfl) (by kernel_rfl) (fun _ _ _ h => h) (Or.inl ⟨by rfl, ?_⟩) (by assumption) ?_
        rotate_left
        ·intro w' hSw
         (try dsimp only at hSw)
         clear hSw
         go_simp
         try with_reducible rfl
        try simp only [Act.put, List.getElem_toArray, List.getElem_cons_zero, List.getElem_cons_succ, List.setIfInBounds_toArray, List.set_cons_zero, List.set_cons_succ]
        refine wpAnyH_take (i := 16) (oi := _) (v := ?_) rfl (by kernel_rfl) (by kernel_rfl) (by kernel_rfl) (fun _ _ _ h => h) (Or.inl ⟨by rfl, ?_⟩) (by assumption) ?_
        rotate_left
        ·intro w' hSw
         (try dsimp only at hSw)
         clear hSw
         go_simp
         try with_reducible rfl
        try simp only [Act.put, List.getElem_toArray, List.getElem_cons_zero, List.getElem_cons_succ, List.setIfInBounds_toArray, List.set_cons_zero, List.set_cons_succ]
        refine wpAnyH_take (i := 17) (oi := _) (v := ?_) rfl (by kernel_rfl) (by kernel_rfl) (by kernel_rfl) (fun _ _ _ h => h) (Or.inl ⟨by rfl, ?_⟩) (by assumption) ?_
        rotate_left
        ·intro w' hSw
         (try dsimp only at hSw)
         clear hSw
         go_simp
         try with_reducible rfl
        try simp only [Act.put, List.getElem_toArray, List.getElem_cons_zero, List.getElem_cons_succ, List.setIfInBounds_toArray, List.set_cons_zero, List.set_cons_succ]
        refine wpAnyH_ready (rs := [18]) (by kernel_rfl) (by simp) ?_
        refine AllReadyH.cons rfl (fun K hK => ?_) AllReadyH.nil
        go_simp
        go_at_call 17
        refine (HPH.out _ hHeld).mono ?_
        rintro e w10 ⟨rfl, rfl⟩
        have hH10 := hHeld
        refine hK.out _ _ ?_ (fun hHeld => ?_)
        ·exact hH10
        clear hK K
        try simp only [Act.put, List.getElem_toArray, List.getElem_cons_zero, List.getElem_cons_succ, List.setIfInBounds_toArray, List.set_cons_zero, List.set_cons_succ]
        refine wpAnyH_take (i := 19) (oi := _) (v := ?_) rfl (by kernel_rfl) (by kernel_rfl) (by kernel_rfl) (fun _ _ _ h => h) (Or.inl ⟨by rfl, ?_⟩) (by assumption) ?_
        rotate_left
        ·intro w' hSw
         (try dsimp only at hSw)
         clear hSw
         go_simp
         try with_reducible rfl
        try simp only [Act.put, List.getElem_toArray, List.getElem_cons_zero, List.getElem_cons_succ, List.setIfInBounds_toArray, List.set_cons_zero, List.set_cons_succ]
        refine wpAnyH_take (i := 20) (oi := _) (v := ?_) rfl (by kernel_rfl) (by kernel_rfl) (by kernel_rfl) (fun _ _ _ h => h) (Or.inl ⟨by rfl, ?_⟩) (by assumption) ?_
        rotate_left
        ·intro w' hSw
         (try dsimp only at hSw)
         clear hSw
         go_simp
         try with_reducible rfl
        try simp only [Act.put, List.getElem_toArray, List.getElem_cons_zero, List.getElem_cons_succ, List.setIfInBounds_toArray, List.set_cons_zero, List.set_cons_succ]
        refine wpAnyH_take (i := 21) (oi := _) (v := ?_) rfl (by kernel_rfl) (by kernel_rfl) (by kernel_rfl) (fun _ _ _ h => h) (Or.inl ⟨by rfl, ?_⟩) (by assumption) ?_
        rotate_left
        ·intro w' hSw
         (try dsimp only at hSw)
         clear hSw
         go_simp
         try with_reducible rfl
        try simp only [Act.put, List.getElem_toArray, List.getElem_cons_zero, List.getElem_cons_succ, List.setIfInBounds_toArray, List.set_cons_zero, List.set_cons_succ]
        refine wpAnyH_done (by kernel_rfl) ?_ _
        go_wp2_with fail
        go_roundw
        case rel => exact ⟨k + 1, x.kind, N6, r2, d2, by go_num, rfl, hlt, HS6.out.below (HB8.out.trans (hHeld.mono HB8.out.size))⟩
        case measure => simp [intOf]; omega
       ·have e1 : ((x.kind : Int) == 1) = false := by rw [beq_eq_false_iff_ne]; omega
        have e4 : (((x.kind : Int) == 4) = true ∧ last = 2) ∨ (((x.kind : Int) == 4) = false ∧ ((x.kind : Int) == 5) = true) ∨ (((x.kind : Int) == 4) = false ∧ ((x.kind : Int) == 5) = false ∧ ((x.kind : Int) == 6) = true) := by
         have h6 := HMK.out.2
         by_cases h4 : x.kind = 4
         ·exact .inl ⟨by rw [beq_iff_eq]; omega, hk4 h4⟩
         ·by_cases h5 : x.kind = 5
          ·exact .inr (.inl ⟨by rw [beq_eq_false_iff_ne]; omega, by rw [beq_iff_eq]; omega⟩)
          ·exact .inr (.inr ⟨by rw [beq_eq_false_iff_ne]; omega, by rw [beq_eq_false_iff_ne]; omega, by rw [beq_iff_eq]; omega⟩)
        have hend := fun (N6 : Nat → Prop) (w6 : World) (h3 : RM w n N6 w6 R L D r2 d2) => HS2.out.end_ (W' := w6) (N := N6) h3 ho2 hroom2 hp2 hk
        have HEND := Lib.hid hend
        have HK1 := Lib.hid hk
        have HP0 : Hid (r2.phase = 0) := by show _ = _; rw [hp2, nextP_fst, if_neg (by omega), if_neg (by omega), if_neg (by omega)]
        clear hk hk4 hend ho2 hroom2 hl2 hp2
        rcases e4 with ⟨e4, rfl⟩ | ⟨e4, e5⟩ | ⟨e4, e5, e6⟩
        all_goals
         go_upto_region 30 with (first | (go_at_call 19; refine HPU.out.mono ?_; rintro e w6 ⟨rfl, hf6, N6, hN6, hR6⟩; have hx6 := (hf6.block BX HXB.out.lt hbl2).trans HXB.out; have y0 := Blk.cell hx6 0) | fail)
         have HS6 := Lib.hid (HEND.out N6 w6 hR6)
         have HSC := Lib.hid (HS6.out.rm.start_idle HP0.out)
         have hpb : ((r2.phase : Int) == 0) = true := by rw [HP0.out]; rfl
         unfold px at HSC
         clear hx6 y0
         go_upto_region 31 with (first | (go_at_call 22; refine HSC.out.mono ?_; rintro e w7 ⟨rfl, hb7⟩; unfold stC) | fail)
         have hB8 := hb7.alloc hb7.size (.cells (stC (stOf 0 [] ⟨0, []⟩) (.slice none 0 0)) 29)
         unfold stC at hB8
         have hR8 := HS6.out.rm.keep hB8
         generalize World.alloc w7 _ = W8 at *
         have HPH : Hid (∀ W, Below W8.heap.size W8 W → Calls Tryz.prog 17 #[.pointer (some ⟨R, 0, none⟩)] W fun e w' => e = .returned (.int .u8 (r2.phase : Int)) ∧ W = w') := fun W hb => (hR8.keep hb).phase_c
         have HB8 := Lib.hid hB8
         clear hR8 hB8
         refine wp_region_held_drew (S := (fun w' => Below W8.heap.size W8 w')) (by kernel_rfl) ?_ (fun hHeld => ?_)
         ·exact (Below.refl _ _).drew
         refine wpAnyH_take (i := 0) (oi := _) (v := ?_) rfl (by kernel_rfl) (by kernel_rfl) (by kernel_rfl) (fun _ _ _ h => h) (Or.inl ⟨by rfl, ?_⟩) (by assumption) ?_
         rotate_left
         ·intro w' hSw
          (try dsimp only at hSw)
          clear hSw
          go_simp
          try with_reducible rfl
         try simp only [Act.put, List.getElem_toArray, List.getElem_cons_zero, List.setIfInBounds_toArray, List.set_cons_zero, List.set_cons_succ]
         refine wpAnyH_take (i := 1) (oi := _) (v := ?_) rfl (by kernel_rfl) (by kernel_rfl) (by kernel_rfl) (fun _ _ _ h => h) (Or.inl ⟨by rfl, ?_⟩) (by assumption) ?_
         rotate_left
         ·intro w' hSw
          (try dsimp only at hSw)
          clear hSw
          go_simp
          try with_reducible rfl
         try simp only [Act.put, List.getElem_toArray, List.getElem_cons_zero, List.getElem_cons_succ, List.setIfInBounds_toArray, List.set_cons_zero, List.set_cons_succ]
         refine wpAnyH_take (i := 2) (oi := _) (v := ?_) rfl (by kernel_rfl) (by kernel_rfl) (by kernel_rfl) (fun _ _ _ h => h) (Or.inl ⟨by rfl, ?_⟩) (by assumption) ?_
         rotate_left
         ·intro w' hSw
          (try dsimp only at hSw)
          clear hSw
          go_simp
          try with_reducible rfl
         try simp only [Act.put, List.getElem_toArray, List.getElem_cons_zero, List.getElem_cons_succ, List.setIfInBounds_toArray, List.set_cons_zero, List.set_cons_succ]
         refine wpAnyH_take (i := 3) (oi := _) (v := ?_) rfl (by kernel_rfl) (by kernel_rfl) (by kernel_rfl) (fun _ _ _ h => h) (Or.inl ⟨by rfl, ?_⟩) (by assumption) ?_
         rotate_left
         ·intro w' hSw
          (try dsimp only at hSw)
          clear hSw
          go_simp
          try with_reducible rfl
         try simp only [Act.put, List.getElem_toArray, List.getElem_cons_zero, List.getElem_cons_succ, List.setIfInBounds_toArray, List.set_cons_zero, List.set_cons_succ]
         refine wpAnyH_take (i := 4) (oi := _) (v := ?_) rfl (by kernel_rfl) (by kernel_rfl) (by kernel_rfl) (fun _ _ _ h => h) (Or.inl ⟨by rfl, ?_⟩) (by assumption) ?_
         rotate_left
         ·intro w' hSw
          (try dsimp only at hSw)
          clear hSw
          go_simp
          try with_reducible rfl
         try simp only [Act.put, List.getElem_toArray, List.getElem_cons_zero, List.getElem_cons_succ, List.setIfInBounds_toArray, List.set_cons_zero, List.set_cons_succ]
         refine wpAnyH_take (i := 5) (oi := _) (v := ?_) rfl (by kernel_rfl) (by kernel_rfl) (by kernel_rfl) (fun _ _ _ h => h) (Or.inl ⟨by rfl, ?_⟩) (by assumption) ?_
         rotate_left
         ·intro w' hSw
          (try dsimp only at hSw)
          clear hSw
          go_simp
          try with_reducible rfl
         try simp only [Act.put, List.getElem_toArray, List.getElem_cons_zero, List.getElem_cons_succ, List.setIfInBounds_toArray, List.set_cons_zero, List.set_cons_succ]
         refine wpAnyH_take (i := 6) (oi := _) (v := ?_) rfl (by kernel_rfl) (by kernel_rfl) (by kernel_rfl) (fun _ _ _ h => h) (Or.inl ⟨by rfl, ?_⟩) (by assumption) ?_
         rotate_left
         ·intro w' hSw
          (try dsimp only at hSw)
          clear hSw
          go_simp
          try with_reducible rfl
         try simp only [Act.put, List.getElem_toArray, List.getElem_cons_zero, List.getElem_cons_succ, List.setIfInBounds_toArray, List.set_cons_zero, List.set_cons_succ]
         refine wpAnyH_take (i := 7) (oi := _) (v := undef) rfl (by kernel_rfl) (by kernel_rfl) (by kernel_rfl) (fun _ _ _ h => h) (Or.inr ⟨by rfl, rfl⟩) (by assumption) ?_
         try simp only [Act.put, List.getElem_toArray, List.getElem_cons_zero, List.getElem_cons_succ, List.setIfInBounds_toArray, List.set_cons_zero, List.set_cons_succ]
         refine wpAnyH_take (i := 8) (oi := _) (v := undef) rfl (by kernel_rfl) (by kernel_rfl) (by kernel_rfl) (fun _ _ _ h => h) (Or.inr ⟨by rfl, rfl⟩) (by assumption) ?_
         try simp only [Act.put, List.getElem_toArray, List.getElem_cons_zero, List.getElem_cons_succ, List.setIfInBounds_toArray, List.set_cons_zero, List.set_cons_succ]
         refine wpAnyH_take (i := 9) (oi := _) (v := undef) rfl (by kernel_rfl) (by kernel_rfl) (by kernel_rfl) (fun _ _ _ h => h) (Or.inr ⟨by rfl, rfl⟩) (by assumption) ?_
         try simp only [Act.put, List.getElem_toArray, List.getElem_cons_zero, List.getElem_cons_succ, List.setIfInBounds_toArray, List.set_cons_zero, List.set_cons_succ]
         refine wpAnyH_take (i := 10) (oi := _) (v := undef) rfl (by kernel_rfl) (by kernel_rfl) (by kernel_rfl) (fun _ _ _ h => h) (Or.inr ⟨by rfl, rfl⟩) (by assumption) ?_
         try simp only [Act.put, List.getElem_toArray, List.getElem_cons_zero, List.getElem_cons_succ, List.setIfInBounds_toArray, List.set_cons_zero, List.set_cons_succ]
         refine wpAnyH_take (i := 11) (oi := _) (v := undef) rfl (by kernel_rfl) (by kernel_rfl) (by kernel_rfl) (fun _ _ _ h => h) (Or.inr ⟨by rfl, rfl⟩) (by assumption) ?_
         try simp only [Act.put, List.getElem_toArray, List.getElem_cons_zero, List.getElem_cons_succ, List.setIfInBounds_toArray, List.set_cons_zero, List.set_cons_succ]
         refine wpAnyH_take (i := 12) (oi := _) (v := undef) rfl (by kernel_rfl) (by kernel_rfl) (by kernel_rfl) (fun _ _ _ h => h) (Or.inr ⟨by rfl, rfl⟩) (by assumption) ?_
         try simp only [Act.put, List.getElem_toArray, List.getElem_cons_zero, List.getElem_cons_succ, List.setIfInBounds_toArray, List.set_cons_zero, List.set_cons_succ]
         refine wpAnyH_take (i := 13) (oi := _) (v := ?_) rfl (by kernel_rfl) (by kernel_rfl) (by kernel_rfl) (fun _ _ _ h => h) (Or.inl ⟨by rfl, ?_⟩) (by assumption) ?_
         rotate_left
         ·intro w' hSw
          (try dsimp only at hSw)
          clear hSw
          go_simp
          try with_reducible rfl
         try simp only [Act.put, List.getElem_toArray, List.getElem_cons_zero, List.getElem_cons_succ, List.setIfInBounds_toArray, List.set_cons_zero, List.set_cons_succ]
         refine wpAnyH_take (i := 14) (oi := _) (v := ?_) rfl (by kernel_rfl) (by kernel_rfl) (by kernel_rfl) (fun _ _ _ h => h) (Or.inl ⟨by rfl, ?_⟩) (by assumption) ?_
         rotate_left
         ·intro w' hSw
          (try dsimp only at hSw)
          clear hSw
          go_simp
          try with_reducible rfl
         try simp only [Act.put, List.getElem_toArray, List.getElem_cons_zero, List.getElem_cons_succ, List.setIfInBounds_toArray, List.set_cons_zero, List.set_cons_succ]
         refine wpAnyH_take (i := 15) (oi := _) (v := ?_) rfl (by kernel_rfl) (by kernel_rfl) (by kernel_rfl) (fun _ _ _ h => h) (Or.inl ⟨by rfl, ?_⟩) (by assumption) ?_
         rotate_left
         ·intro w' hSw
          (try dsimp only at hSw)
          clear hSw
          go_simp
          try with_reducible rfl
         try simp only [Act.put, List.getElem_toArray, List.getElem_cons_zero, List.getElem_cons_succ, List.setIfInBounds_toArray, List.set_cons_zero, List.set_cons_succ]
         refine wpAnyH_take (i := 16) (oi := _) (v := ?_) rfl (by kernel_rfl) (by kernel_rfl) (by kernel_rfl) (fun _ _ _ h => h) (Or.inl ⟨by rfl, ?_⟩) (by assumption) ?_
         rotate_left
         ·intro w' hSw
          (try dsimp only at hSw)
          clear hSw
          go_simp
          try with_reducible rfl
         try simp only [Act.put, List.getElem_toArray, List.getElem_cons_zero, List.getElem_cons_succ, List.setIfInBounds_toArray, List.set_cons_zero, List.set_cons_succ]
         refine wpAnyH_take (i := 17) (oi := _) (v := ?_) rfl (by kernel_rfl) (by kernel_rfl) (by kernel_rfl) (fun _ _ _ h => h) (Or.inl ⟨by rfl, ?_⟩) (by assumption) ?_
         rotate_left
         ·intro w' hSw
          (try dsimp only at hSw)
          clear hSw
          go_simp
          try with_reducible rfl
         try simp only [Act.put, List.getElem_toArray, List.getElem_cons_zero, List.getElem_cons_succ, List.setIfInBounds_toArray, List.set_cons_zero, List.set_cons_succ]
         refine wpAnyH_ready (rs := [18]) (by kernel_rfl) (by simp) ?_
         refine AllReadyH.cons rfl (fun K hK => ?_) AllReadyH.nil
         go_simp
         go_at_call 17
         refine (HPH.out _ hHeld).mono ?_
         rintro e w10 ⟨rfl, rfl⟩
         have hH10 := hHeld
         refine hK.out _ _ ?_ (fun hHeld => ?_)
         ·exact hH10
         clear hK K
         try simp only [Act.put, List.getElem_toArray, List.getElem_cons_zero, List.getElem_cons_succ, List.setIfInBounds_toArray, List.set_cons_zero, List.set_cons_succ]
         refine wpAnyH_take (i := 19) (oi := _) (v := ?_) rfl (by kernel_rfl) (by kernel_rfl) (by kernel_rfl) (fun _ _ _ h => h) (Or.inl ⟨by rfl, ?_⟩) (by assumption) ?_
         rotate_left
         ·intro w' hSw
          (try dsimp only at hSw)
          clear hSw
          go_simp
          try with_reducible rfl
         try simp only [Act.put, List.getElem_toArray, List.getElem_cons_zero, List.getElem_cons_succ, List.setIfInBounds_toArray, List.set_cons_zero, List.set_cons_succ]
         refine wpAnyH_take (i := 20) (oi := _) (v := ?_) rfl (by kernel_rfl) (by kernel_rfl) (by kernel_rfl) (fun _ _ _ h => h) (Or.inl ⟨by rfl, ?_⟩) (by assumption) ?_
         rotate_left
         ·intro w' hSw
          (try dsimp only at hSw)
          clear hSw
          go_simp
          try with_reducible rfl
         try simp only [Act.put, List.getElem_toArray, List.getElem_cons_zero, List.getElem_cons_succ, List.setIfInBounds_toArray, List.set_cons_zero, List.set_cons_succ]
         refine wpAnyH_take (i := 21) (oi := _) (v := ?_) rfl (by kernel_rfl) (by kernel_rfl) (by kernel_rfl) (fun _ _ _ h => h) (Or.inl ⟨by rfl, ?_⟩) (by assumption) ?_
         rotate_left
         ·intro w' hSw
          (try dsimp only at hSw)
          clear hSw
          go_simp
          try with_reducible rfl
         try simp only [Act.put, List.getElem_toArray, List.getElem_cons_zero, List.getElem_cons_succ, List.setIfInBounds_toArray, List.set_cons_zero, List.set_cons_succ]
         refine wpAnyH_done (by kernel_rfl) ?_ _
         go_wp2_with fail
         go_roundw
         case rel => exact ⟨k + 1, x.kind, N6, r2, d2, by go_num, rfl, hlt, HS6.out.below (HB8.out.trans (hHeld.mono HB8.out.size))⟩
         case measure => simp [intOf]; omega
      ·have hqb : (qe != 0) = true := by rw [bne_iff_ne]; exact hqe
       have HQ := Lib.hid hq
       clear hq hqe
       go_wp2_with (first | (go_at_call 19; refine HPU.out.mono ?_; rintro e w6 ⟨rfl, hf6, N6, hN6, hR6⟩) | fail)
       go_roundw
       case rel => exact ⟨k + 1, last, N6, _, _, by go_num, rfl, hlt, HS2.out.skip hf6 hN6 hR6⟩
       case measure => simp [intOf]; omega
     ·go_wp2_with (first | (go_at_call 14; refine (HWK.out wr hS.rm.below).mono ?_; rintro e w6 ⟨rfl, hb6⟩) | fail)
      go_ret
      exact ⟨rfl, hS.rm.below.trans (hb6.mono hS.rm.below.size)⟩
   ·rw [hh] at HH
    go_wp2_with (first
     | (go_at_call 13; refine HH.out.mono ?_; rintro e w3 ⟨rfl, hb3⟩)
     | (go_at_call 14; refine (HWK.out w3 (HOB.out.trans (hb3.mono HOB.out.size))).mono ?_; rintro e w4 ⟨rfl, hb4⟩)
     | fail)
    go_ret
    exact ⟨rfl, (HOB.out.trans (hb3.mono HOB.out.size)).trans (hb4.mono (HOB.out.trans (hb3.mono HOB.out.size)).size)⟩
section
open Go.RowKit Go.ChangeShapes Go.WideShapes
theorem cellsStep : Tryz.prog.cellsOf 29 = 9 := by kernel_rfl
section
variable {H : Type} {enc : TypeId × Value → H} {w : World}
set_option maxRecDepth 100000 in
theorem open_step9 (m : Nat) (c0 c1 c2 c3 c4 c5 c6 c7 c8 : Value) (y : DataW H × List MemPlace) (h : DataW.trod enc Tryz.prog w 0 (fun _ => true) true m 29 [c0, c1, c2, c3, c4, c5, c6, c7, c8] = some y) :
  ∃ (x : St) (sv : Value), [c0, c1, c2, c3, c4, c5, c6, c7, c8] = (stC x sv).toList ∧ NodesAt w w.heap.size x.job.nodes sv ∧ x.Ok := by
 obtain ⟨xs, m1, hm2, _, _, hxl, hfs⟩ := DataW.trod_struct Tryz.underlying29 h
 have q0 := hfs 0 _ rfl
 have q1 := hfs 1 _ rfl
 have q2 := hfs 2 _ rfl
 have q3 := hfs 3 _ rfl
 have q4 := hfs 4 _ rfl
 have q5 := hfs 5 _ rfl
 have q6 := hfs 6 _ rfl
 have q7 := hfs 7 _ rfl
 have hxl : xs.length = 8 := by assumption
 obtain ⟨y0, y1, y2, y3, y4, y5, y6, y7, rfl⟩ : ∃ y0 y1 y2 y3 y4 y5 y6 y7, xs = [y0, y1, y2, y3, y4, y5, y6, y7] := by
  match xs, hxl with
  | [y0, y1, y2, y3, y4, y5, y6, y7], _ => exact ⟨y0, y1, y2, y3, y4, y5, y6, y7, rfl⟩
 have e0 : DataW.trod enc Tryz.prog w 0 (fun _ => true) true m1 5 [c0] = some y0 := q0
 have e1 : DataW.trod enc Tryz.prog w 0 (fun _ => true) true m1 2 [c1] = some y1 := q1
 have e2 : DataW.trod enc Tryz.prog w 0 (fun _ => true) true m1 2 [c2] = some y2 := q2
 have e3 : DataW.trod enc Tryz.prog w 0 (fun _ => true) true m1 2 [c3] = some y3 := q3
 have e4 : DataW.trod enc Tryz.prog w 0 (fun _ => true) true m1 26 [c4, c5] = some y4 := q4
 have e5 : DataW.trod enc Tryz.prog w 0 (fun _ => true) true m1 3 [c6] = some y5 := q5
 have e6 : DataW.trod enc Tryz.prog w 0 (fun _ => true) true m1 3 [c7] = some y6 := q6
 have e7 : DataW.trod enc Tryz.prog w 0 (fun _ => true) true m1 27 [c8] = some y7 := q7
 obtain ⟨k0, h0, _, w0⟩ := DataW.trod_int Tryz.underlying5 e0
 obtain ⟨k1, h1, _, w1⟩ := DataW.trod_int Tryz.underlying2 e1
 obtain ⟨k2, h2, _, w2⟩ := DataW.trod_int Tryz.underlying2 e2
 obtain ⟨k3, h3, _, w3⟩ := DataW.trod_int Tryz.underlying2 e3
 obtain ⟨k5, h5, _, w5⟩ := DataW.trod_int Tryz.underlying3 e5
 obtain ⟨k6, h6, _, w6⟩ := DataW.trod_int Tryz.underlying3 e6
 obtain ⟨k7, h7, _, w7⟩ := DataW.trod_int Tryz.underlying27 e7
 obtain ⟨zs, m2, _, _, _, hzl, hgs⟩ := DataW.trod_struct Tryz.underlying26 e4
 have p0 := hgs 0 _ rfl
 have p1 := hgs 1 _ rfl
 have hzl : zs.length = 2 := by assumption
 obtain ⟨z0, z1, rfl⟩ : ∃ z0 z1, zs = [z0, z1] := by
  match zs, hzl with
  | [z0, z1], _ => exact ⟨z0, z1, rfl⟩
 have f0 : DataW.trod enc Tryz.prog w 0 (fun _ => true) true m2 3 [c4] = some z0 := p0
 have f1 : DataW.trod enc Tryz.prog w 0 (fun _ => true) true m2 24 [c5] = some z1 := p1
 obtain ⟨k4, h4, _, w4⟩ := DataW.trod_int Tryz.underlying3 f0
 obtain ⟨l, hl1, hl2⟩ := open_nodes m2 c5 z1 f1
 simp only [List.cons.injEq, and_true] at h0 h1 h2 h3 h4 h5 h6 h7
 subst h0 h1 h2 h3 h4 h5 h6 h7
 have r0 := wf_u8r w0
 have r4 := wf_i64r w4
 obtain ⟨n, rfl⟩ : ∃ n : Nat, k0 = (n : Int) := ⟨k0.toNat, by omega⟩
 exact ⟨⟨n, k1, k2, k3, ⟨k4, l⟩, k5, k6, k7⟩, c5, rfl, hl1, by show n < 256; omega, wf_i64r w1, wf_i64r w2, wf_i64r w3, ⟨r4.1, r4.2, hl2⟩, wf_i64r w5, wf_i64r w6, wf_i64r w7⟩
set_option maxRecDepth 100000 in
theorem open_stepRow (fuel : Nat) (sv : Value) (x : DataW H × List MemPlace) (h : DataW.trod enc Tryz.prog w 0 (fun _ => true) true fuel 22 [sv] = some x) :
  ∃ l : List St, StsRd w (· < w.heap.size) sv l ∧ (∀ x ∈ l, x.Ok) ∧ (l.length = 0 ∨ ∃ es sp, x.1 = .slice es sp ∧ es.length = l.length) := by
 rcases DataW.trod_slice Tryz.underlying22 h with ⟨h0, _⟩ | ⟨a, len, cap, elems, rest, n, hf, hcs, hx, hb, hl, hm, hlen, hel, _, _⟩
 ·simp only [List.cons.injEq, and_true] at h0
  subst h0
  exact ⟨[], ⟨none, 0, rfl, Nat.zero_le _, Nat.zero_le _, .inl rfl⟩, by simp, .inl rfl⟩
 ·simp only [List.cons.injEq, and_true] at hcs
  subst hcs
  rw [cellsStep] at hel
  have hex : ∀ i, i < len → ∃ (y : St) (sv : Value), (∀ j, j < 9 → w.cell? (a.add (i * 9 + j)) = (stC y sv)[j]?) ∧ NodesAt w w.heap.size y.job.nodes sv ∧ y.Ok := by
   intro i hi
   have hi2 : i < elems.length := by omega
   have h1 := hel i hi
   rw [List.getElem?_eq_getElem hi2] at h1
   obtain ⟨cs, h2, h3⟩ := Option.bind_eq_some_iff.1 h1
   obtain ⟨_, hcl, hcell⟩ := World.cells?_some h2
   match cs, hcl with
   | [c0, c1, c2, c3, c4, c5, c6, c7, c8], _ =>
    obtain ⟨y, sv, hy, hn, hok⟩ := open_step9 _ c0 c1 c2 c3 c4 c5 c6 c7 c8 _ h3
    refine ⟨y, sv, fun j hj => ?_, hn, hok⟩
    have g := hcell j (by omega)
    rw [Go.Deep.add_add, hy] at g
    rw [g, Array.getElem?_toList]
  by_cases h0 : len = 0
  ·subst h0
   exact ⟨[], ⟨_, cap, rfl, Nat.zero_le _, hm, .inl rfl⟩, by simp, .inl rfl⟩
  ·obtain ⟨Y, hY⟩ := @Go.Deep.choose_lt St ⟨⟨0, 0, 0, 0, ⟨0, []⟩, 0, 0, 0⟩⟩ len _ hex
   obtain ⟨V, hV⟩ := Go.Deep.choose_lt hY
   have h00 : w.cell? a = some (.int .u8 ((Y 0).kind : Int)) := by
    have := (hV 0 (by omega)).1 0 (by omega)
    simpa [Addr.add, stC] using this
   obtain ⟨b, off, rfl⟩ : ∃ b off, a = ⟨b, off, none⟩ := ⟨_, _, add_spot h00⟩
   have hlt : b < w.heap.size := World.block_lt_of_cell? _ _ h00
   refine ⟨(List.range len).map Y, ⟨some ⟨b, off, none⟩, cap, by simp, by simpa using hl, hm, .inr ⟨b, off, rfl, hlt, fun j hj => ?_⟩⟩, ?_, .inr ⟨_, _, by rw [hx], by simpa using hlen⟩⟩
   ·have hj' : j < len := by simpa using hj
    obtain ⟨hc, hn, _⟩ := hV j hj'
    have hg : ((List.range len).map Y)[j]'hj = Y j := by simp
    rw [hg]
    refine ⟨V j, NodesIn.of_at hn, fun k hk => ?_⟩
    have := hc k hk
    rw [addr_add, ← Nat.add_assoc] at this
    exact this
   ·intro z hz
    obtain ⟨i, hi, rfl⟩ := List.mem_map.1 hz
    exact (hV i (by simpa using hi)).2.2
set_option maxRecDepth 100000 in
theorem open_steps {r : Reach} {b0 : Nat} {v : Value} {d : DataW H} {p : List MemPlace} (hv : Value.okWide Tryz.prog w r b0 22 v) (h : DataW.Trod enc Tryz.prog w 0 (fun _ => true) true 22 v d p) :
  ∃ l : List St, StsRd w (· < w.heap.size) v l ∧ (∀ x ∈ l, x.Ok) ∧ (l.length = 0 ∨ ∃ es sp, d = .slice es sp ∧ es.length = l.length) := by
 obtain ⟨a, len, cap, rfl⟩ := okWide_slice Tryz.underlying22 hv
 obtain ⟨n, h2⟩ := Go.Joins.field_of_Trod h rfl
 exact open_stepRow n _ _ h2
end
end
end Go.Proofs.YtpkijdkoiecpiaaGreatDoor

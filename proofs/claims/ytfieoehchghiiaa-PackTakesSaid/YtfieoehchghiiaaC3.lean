/-
  The walk of pack.Put.
-/
import Derived.Test.YtfieoehchghiiaaC1
import Derived.Test.YtfieoehchghiiaaC2
import Derived.Test.YtfieoehchghiiaaKB
namespace Go.Proofs.Ytfieoehchghiiaa
open Go.RowKit
set_option linter.unusedVariables false

theorem putLit_c (zs : List Int) (m : Nat) (cs : Array Value) (hcs : cs.toList = zs.map (Value.int .i64)) (hm : zs.length = m) (hr : ∀ z ∈ zs, -9223372036854775808 ≤ z ∧ z ≤ 9223372036854775807) (hl : m ≤ 1000) (W : World) :
    Calls Try.prog 51 #[.slice (some ⟨W.heap.size, 0, none⟩) m m] (W.alloc (.cells cs 2)) fun e w' => e = .returned (.string (bstr (putL zs))) ∧ Below W.heap.size W w' := by
  have hsz : cs.size = m := by rw [← Array.length_toList, hcs, List.length_map, hm]
  have hsl : Sl (W.alloc (.cells cs 2)) (W.alloc (.cells cs 2)).heap.size 1 (.slice (some ⟨W.heap.size, 0, none⟩) m m) m (zs.map (Value.int .i64)) :=
    ⟨by rw [List.length_map, hm]; omega, _, m, rfl, Nat.le_refl _, by unfold maxLen; omega, .inr ⟨W.heap.size, 0, rfl, by simp, fun j hj => by
      rw [Nat.zero_add, (Blk.new W cs 2).cell j, ← hcs]
      simp⟩⟩
  refine (PutB_c zs m _ _ _ hsl hm (Nat.le_refl _) hr hl).mono ?_
  rintro e w1 ⟨rfl, hb1⟩
  exact ⟨rfl, ((Below.refl W.heap.size W).alloc (Nat.le_refl _) _).trans (hb1.mono (by simp))⟩

theorem ArgsAt.across {a b w : World} {B : Nat} {l : List Ex} {v : Value} (h : ArgsAt a B l v) (h1 : Below B w a) (h2 : Below B w b) : ArgsAt b B l v := by
  induction h with
  | nil a cap hm => exact .nil a cap hm
  | cons l b off cap sv hl hb hcap hm q0 q1 q2 _ ih =>
    have e : ∀ o, World.cell? _ ⟨b, o, none⟩ = World.cell? _ ⟨b, o, none⟩ := fun o => (h2.cell (p := ⟨b, o, none⟩) hb).trans (h1.cell (p := ⟨b, o, none⟩) hb).symm
    exact .cons l b off cap sv hl hb hcap hm (fun j h => (e _).trans (q0 j h)) (fun j h => (e _).trans (q1 j h)) (fun j h => (e _).trans (q2 j h)) ih

theorem nodesBy_take (l : List Nd) (k : Nat) (hk : k < l.length) : nodesBy (l.take (k + 1)) = nodesBy (l.take k) ++ (l[k]'hk).by := by
  unfold nodesBy
  rw [List.take_succ_eq_append_getElem hk, List.flatMap_append, List.flatMap_cons, List.flatMap_nil, List.append_nil]
theorem nodesBy_len (l : List Nd) (h : ∀ d ∈ l, NdSmall d) (hok : ∀ d ∈ l, d.ok) : (nodesBy l).length ≤ 40000 * l.length := by
  induction l with
  | nil => simp [nodesBy]
  | cons d l ih =>
    have h1 := ih (fun e he => h e (by simp [he])) (fun e he => hok e (by simp [he]))
    have h2 := Nd.by_len (h d (by simp)) (hok d (by simp))
    have e : nodesBy (d :: l) = d.by ++ nodesBy l := rfl
    rw [e, List.length_append, List.length_cons]
    omega

/-- What pack.Put tells. -/
def Jb.putR (j : Jb) : List UInt8 × Int := if j.may.2 = 0 then (j.by, 0) else ([], 2)

set_option maxRecDepth 100000 in
set_option maxHeartbeats 8000000 in
theorem PackPut_c (jb : Jb) (hok : jb.ok) (v : Value) (B : Nat) (w : World) (hv : JbAt w B v jb) (hB : B ≤ w.heap.size) :
    Calls Try.prog 18 #[v] w fun e w' => e = .returned (.tuple #[.string (bstr jb.putR.1), .int .i64 jb.putR.2]) ∧ Below w.heap.size w w' := by
  have HV := Lib.hid hv
  obtain ⟨sv, rfl, hs⟩ := hv
  obtain ⟨a, cap, rfl, hcap, hmx⟩ := hs.slice
  have HS := Lib.hid hs
  have hK := (KB.start w).push #[.int .i64 jb.par, .slice a jb.nodes.length cap] 24
  have HMY : Hid (∀ W, Below w.heap.size w W → Calls Try.prog 13 #[.agg #[.int .i64 jb.par, .slice a jb.nodes.length cap]] W fun e w' => e = .returned (.tuple #[.int .i64 jb.may.1, .int .i64 jb.may.2]) ∧ Below W.heap.size W w') := fun W h => May_c1 jb _ B W (HV.out.keep (h.mono hB)) (Nat.le_trans hB h.size)
  have HE : Hid (jb.putR = if jb.may.2 = 0 then (jb.by, 0) else ([], 2)) := rfl
  have HGS := Lib.hid (fun h => good_small hok h)
  have HNO := Lib.hid hok.2.2
  have HBE : Hid (jb.by = putL [jb.par, (jb.nodes.length : Int)] ++ nodesBy jb.nodes) := rfl
  generalize jb.putR = R at *
  generalize jb.may = m at *
  obtain ⟨m1, m2⟩ := m
  dsimp only at HMY HE HGS
  generalize jb.by = jby at *
  generalize jb.par = jp at *
  generalize jb.nodes = nds at *
  clear hs hcap hok
  by_cases hm : m2 = 0
  · obtain ⟨hsm, hn12, hp1, hp2⟩ := HGS.out hm
    have hm' : (m2 != 0) = false := by rw [hm]; rfl
    have HR : Hid (R = (jby, 0)) := by show _ = _; rw [HE.out, if_pos hm]
    have HSM := Lib.hid hsm
    have HPR : Hid (∀ z ∈ [jp, (nds.length : Int)], -9223372036854775808 ≤ z ∧ z ≤ 9223372036854775807) := by
      intro z hz
      simp only [List.mem_cons, List.not_mem_nil, or_false] at hz
      rcases hz with rfl | rfl <;> omega
    have HNL : Hid (∀ k, k ≤ nds.length → (nodesBy (nds.take k)).length ≤ 480000) := fun k hk => by
      have := nodesBy_len (nds.take k) (fun e he => hsm e (List.mem_of_mem_take he)) (fun e he => HNO.out e (List.mem_of_mem_take he))
      have h2 : (nds.take k).length ≤ 12 := by rw [List.length_take]; omega
      omega
    have hpl := putL_len [jp, (nds.length : Int)] HPR.out
    generalize hP : putL [jp, (nds.length : Int)] = P at *
    have HP := Lib.hid hP
    clear hP
    clear hsm HE HGS
    go_enter Try.func18, Try.ntmps18
    go_upto_region 1 with fail
    generalize World.alloc w _ = W at *
    have p0 := hK.hd.cell 0
    have p1 := hK.hd.cell 1
    go_wp2_with fail
    refine (HMY.out W hK.below).mono ?_
    rintro e w1 ⟨rfl, hq⟩
    replace hK := hK.keep hq
    clear p0 p1 hq
    have p0 := hK.hd.cell 0
    have p1 := hK.hd.cell 1
    go_wp2_with fail
    refine (putLit_c [jp, (nds.length : Int)] 2 _ rfl rfl HPR.out (by omega) _).mono ?_
    rintro e w2 ⟨rfl, hq⟩
    replace hK := hK.keep hq
    rw [HP.out]
    clear p0 p1 hq
    have p0 := hK.hd.cell 0
    have p1 := hK.hd.cell 1
    have hPe : bstr P = bstr (P ++ nodesBy (nds.take 0)) := by simp [nodesBy]
    rw [hPe]
    clear hPe
    go_wp2_with fail
    have hb2 := hK.below
    clear p0 p1 hK
    go_loopw [6, 30] (fun s q wr => ∃ k : Nat, q = .int .i64 k ∧ k ≤ nds.length ∧ s = .string (bstr (P ++ nodesBy (nds.take k))) ∧ Below w.heap.size w wr) (fun _ q _ => nds.length - (intOf q).toNat)
    case atStart => exact ⟨0, rfl, Nat.zero_le _, rfl, hb2⟩
    case round =>
      obtain ⟨k, rfl, hk, rfl, hBr⟩ := hrel
      by_cases hlt : k < nds.length
      · obtain ⟨b, off, cp, e1, hb, hu, iv, sv, c0, c1, c2, c3, c4, c5, c6, hin⟩ := ((HS.out.mono hB).keep hBr).at_ k hlt
        simp only [Value.slice.injEq, true_and] at e1
        obtain ⟨rfl, rfl⟩ := e1
        obtain ⟨a2, cap2, rfl, _, _⟩ := hin.2.slice
        obtain ⟨_, ai, capi, rfl, _, hmi, hrest⟩ := id hin.1
        clear hrest
        have hd := HSM.out _ (List.getElem_mem hlt)
        have hdok := HNO.out _ (List.getElem_mem hlt)
        have HTK := Lib.hid (nodesBy_take nds k hlt)
        have hnl := HNL.out k hk
        have hnl2 := HNL.out (k + 1) (by omega)
        rw [HTK.out, List.length_append] at hnl2
        generalize nds[k] = d at *
        have HDB : Hid (d.by = txtL d.uid ++ putL [d.kind, d.n, (d.ins.length : Int)] ++ putL d.ins ++ d.x.by) := rfl
        have hus := hd.uid
        have hii := hd.ins
        have hxl := hd.x
        obtain ⟨k1, k2, k3, k4, k5, k6⟩ := hdok
        have HIO := Lib.hid k3
        have HXO := Lib.hid k4
        have hpi := putL_len d.ins k3
        have HP3 : Hid (∀ z ∈ [d.kind, d.n, (d.ins.length : Int)], -9223372036854775808 ≤ z ∧ z ≤ 9223372036854775807) := by
          intro z hz
          simp only [List.mem_cons, List.not_mem_nil, or_false] at hz
          rcases hz with rfl | rfl | rfl <;> omega
        have hp3 := putL_len [d.kind, d.n, (d.ins.length : Int)] HP3.out
        have htx : (txtL d.uid).length ≤ 200 := by
          have h6 := putN_len (d.uid.size : Int) (by omega) (by omega)
          have h7 := Lib.size_eq d.uid
          unfold txtL
          rw [List.length_append]
          omega
        have HI1 := Lib.hid hin.1
        have HI2 := Lib.hid hin.2
        clear hin hd k3 k4
        have HTT : Hid (∀ W : World, Calls Try.prog 52 #[.string d.uid] W fun e w' => e = .returned (.tuple #[.string (bstr (txtL d.uid)), .int .i64 0]) ∧ Below W.heap.size W w') := fun W => PutText_c d.uid (by omega) W
        generalize nodesBy (nds.take k) = N0 at *
        generalize hdx : d.x = x at *
        generalize hdi : d.ins = ins at *
        generalize hdn : d.n = dn at *
        generalize hdk : d.kind = dk at *
        generalize hdu : d.uid = u at *
        generalize txtL u = tu at *
        generalize d.by = dby at *
        clear hdx hdi hdn hdk hdu hu
        have hil : ins.length ≤ 9223372036854775807 := by omega
        have hK := (⟨hBr, by simp⟩ : KB w wr []).push #[.string u, .int .u8 dk, .slice ai ins.length capi, .int .u8 x.op, .int .i64 x.n, .slice a2 x.args.length cap2, .int .i64 dn] 37
        go_upto_region 8 with fail
        generalize hnb : wr.heap.size = nb at *
        generalize hw7 : wr.alloc (.cells #[.string u, .int .u8 dk, .slice ai ins.length capi, .int .u8 x.op, .int .i64 x.n, .slice a2 x.args.length cap2, .int .i64 dn] 37) = W7 at *
        clear c0 c1 c2 c3 c4 c5 c6
        have p0 := hK.hd.cell 0
        have p1 := hK.hd.cell 1
        have p2 := hK.hd.cell 2
        have p3 := hK.hd.cell 3
        have p4 := hK.hd.cell 4
        have p5 := hK.hd.cell 5
        have p6 := hK.hd.cell 6
        go_wp2_with fail
        refine (HTT.out _).mono ?_
        rintro e w3 ⟨rfl, hq⟩
        replace hK := hK.keep hq
        clear hq p0 p1 p2 p3 p4 p5 p6
        have hs0 := bstr_size (P ++ N0)
        rw [List.length_append] at hs0
        have hst := bstr_size tu
        have hs3 := bstr_size (putL [dk, dn, (ins.length : Int)])
        have HC3 := Lib.hid (putLit_c [dk, dn, (ins.length : Int)] 3 #[.int .i64 dk, .int .i64 dn, .int .i64 (ins.length : Int)] rfl rfl HP3.out (by omega))
        have HA1 : Hid (bstr (P ++ N0) ++ (bstr tu ++ bstr (putL [dk, dn, (ins.length : Int)])) = bstr ((P ++ N0) ++ (tu ++ putL [dk, dn, (ins.length : Int)]) ++ putL (ins.take 0))) := by
          show _ = _
          rw [bstr_app, bstr_app]
          simp [putL]
        have hl3 : [dk, dn, (ins.length : Int)].length = 3 := rfl
        rw [hl3] at hp3
        have hl2 : [jp, (nds.length : Int)].length = 2 := rfl
        have hpl2 : P.length ≤ 20 := by rw [hl2] at hpl; omega
        generalize putL [dk, dn, (ins.length : Int)] = q3 at *
        generalize hX0 : (P ++ N0) ++ (tu ++ q3) = X0 at *
        have HX0 := Lib.hid hX0
        have hX0l : X0.length ≤ 480000 + 20 + 200 + 30 := by rw [← hX0, List.length_append, List.length_append, List.length_append]; omega
        clear hX0
        generalize bstr (P ++ N0) = S0 at *
        generalize bstr tu = ST at *
        generalize bstr q3 = S3 at *
        have p0 := hK.hd.cell 0
        have p1 := hK.hd.cell 1
        have p2 := hK.hd.cell 2
        have p3 := hK.hd.cell 3
        have p4 := hK.hd.cell 4
        have p5 := hK.hd.cell 5
        have p6 := hK.hd.cell 6
        go_wp2_with fail
        refine (HC3.out _).mono ?_
        rintro e w4 ⟨rfl, hq⟩
        replace hK := hK.keep hq
        clear hq p0 p1 p2 p3 p4 p5 p6
        have p0 := hK.hd.cell 0
        have p1 := hK.hd.cell 1
        have p2 := hK.hd.cell 2
        have p3 := hK.hd.cell 3
        have p4 := hK.hd.cell 4
        have p5 := hK.hd.cell 5
        have p6 := hK.hd.cell 6
        go_upto_region 10 with fail
        rw [HA1.out]
        go_wp2_with fail
        clear p0 p1 p2 p3 p4 p5 p6
        go_loopw [6, 57] (fun s q wx => ∃ j : Nat, q = .int .i64 j ∧ j ≤ ins.length ∧ s = .string (bstr (X0 ++ putL (ins.take j))) ∧ KB w wx [(nb, 37, #[.string u, .int .u8 dk, .slice ai ins.length capi, .int .u8 x.op, .int .i64 x.n, .slice a2 x.args.length cap2, .int .i64 dn])]) (fun _ q _ => ins.length - (intOf q).toNat)
        case atStart => exact ⟨0, rfl, Nat.zero_le _, rfl, hK⟩
        case round =>
          obtain ⟨j, rfl, hj, rfl, hKx⟩ := hrel
          by_cases hjl : j < ins.length
          · obtain ⟨bi, oi, ci, e2, hbi, hjl', d0⟩ := (HI1.out.across hBr hKx.below).int j hjl
            simp only [Value.slice.injEq, true_and] at e2
            obtain ⟨rfl, rfl⟩ := e2
            have HTI := Lib.hid (putL_take ins j hjl')
            have hzr := HIO.out _ (List.getElem_mem hjl')
            have hbj : (putL (ins.take j)).length ≤ 30 := by
              have := putL_len (ins.take j) (fun y hy => HIO.out y (List.mem_of_mem_take hy))
              have h2 : (ins.take j).length ≤ 3 := by rw [List.length_take]; omega
              omega
            generalize ins[j] = z at *
            have HCZ := Lib.hid (putLit_c [z] 1 #[.int .i64 z] rfl rfl (by intro y hy; simp at hy; subst hy; exact hzr) (by omega))
            have hz1 : (putL [z]).length ≤ 10 := putL_len [z] (by intro y hy; simp at hy; subst hy; exact hzr)
            have hse := bstr_size (X0 ++ putL (ins.take j))
            rw [List.length_append] at hse
            have hsz := bstr_size (putL [z])
            have HAZ : Hid (bstr (X0 ++ putL (ins.take j)) ++ bstr (putL [z]) = bstr (X0 ++ putL (ins.take (j + 1)))) := by
              show _ = _
              rw [bstr_app, HTI.out, List.append_assoc]
              simp [putL]
            generalize bstr (X0 ++ putL (ins.take j)) = E0 at *
            generalize bstr (putL [z]) = EZ at *
            go_wp2_with fail
            refine (HCZ.out _).mono ?_
            rintro e w5 ⟨rfl, hq⟩
            go_wp2_with fail
            go_roundw
            case rel =>
              (repeat apply Exists.intro)
              exact ⟨⟨j + 1, by go_num, by omega, by rw [HAZ.out], hKx.keep hq⟩, rfl⟩
            case measure => simp [intOf]; omega
          · obtain rfl : j = ins.length := by omega
            rw [List.take_of_length_le (Nat.le_refl _)]
            have HX : Hid (ExAt wr wr.heap.size (.agg #[.int .u8 x.op, .int .i64 x.n, .slice a2 x.args.length cap2]) x) := ⟨_, rfl, (HI2.out.across hBr hKx.below).mono hKx.below.size⟩
            have HCX := Lib.hid (putEx_all x.ht x _ _ wr (Nat.le_refl _) HXO.out (by omega) HX.out (Nat.le_refl _))
            have hse := bstr_size (X0 ++ putL ins)
            rw [List.length_append] at hse
            have hsx := bstr_size x.by
            have HAX : Hid (bstr (X0 ++ putL ins) ++ bstr x.by = bstr (P ++ nodesBy (nds.take (k + 1)))) := by
              show _ = _
              rw [bstr_app, HTK.out, HDB.out, ← HX0.out]
              simp only [List.append_assoc]
            generalize bstr (X0 ++ putL ins) = E0 at *
            generalize bstr x.by = EX at *
            have p0 := hKx.hd.cell 0
            have p1 := hKx.hd.cell 1
            have p2 := hKx.hd.cell 2
            have p3 := hKx.hd.cell 3
            have p4 := hKx.hd.cell 4
            have p5 := hKx.hd.cell 5
            have p6 := hKx.hd.cell 6
            go_wp2_with fail
            refine HCX.out.mono ?_
            rintro e w6 ⟨rfl, hq⟩
            go_wp2_with fail
            go_roundw
            case rel => exact ⟨k + 1, by go_num, by omega, by rw [HAX.out], (hKx.keep hq).below⟩
            case measure => simp [intOf]; omega
      · obtain rfl : k = nds.length := by omega
        rw [List.take_of_length_le (Nat.le_refl _)]
        go_wp2_with fail
        go_ret2
        rw [HR.out, HBE.out]
        exact ⟨rfl, hBr⟩
  · have hm' : (m2 != 0) = true := by simpa using hm
    have HR : Hid (R = ([], 2)) := by show _ = _; rw [HE.out, if_neg hm]
    clear HE HGS
    go_enter Try.func18, Try.ntmps18
    go_upto_region 1 with fail
    generalize World.alloc w _ = W at *
    have p0 := hK.hd.cell 0
    have p1 := hK.hd.cell 1
    go_wp2_with fail
    refine (HMY.out W hK.below).mono ?_
    rintro e w1 ⟨rfl, hq⟩
    go_wp2_with fail
    go_ret2
    rw [HR.out]
    exact ⟨rfl, (hK.keep hq).below⟩

end Go.Proofs.Ytfieoehchghiiaa

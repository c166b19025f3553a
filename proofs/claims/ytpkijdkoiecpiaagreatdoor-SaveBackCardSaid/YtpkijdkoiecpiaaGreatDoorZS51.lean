/-
  Parts of the proof: HN.
-/
import Derived.Test.YtpkijdkoiecpiaaGreatDoorZS46
namespace Go.Proofs.YtpkijdkoiecpiaaGreatDoor
open Go.RowKit
set_option linter.unusedVariables false
set_option linter.unusedSimpArgs false
theorem Blk.c5 {w:World} {g:Nat} {t:TypeId} {a0 a1 a2 a3 a4:Value} (h:Blk w g t #[a0,a1,a2,a3,a4]):w.cell? ⟨g,0,none⟩ = some a0 ∧ w.cell? ⟨g,1,none⟩ = some a1 ∧ w.cell? ⟨g,2,none⟩ = some a2 ∧ w.cell? ⟨g,3,none⟩ = some a3 ∧ w.cell? ⟨g,4,none⟩ = some a4 :=
 ⟨h.cell 0,h.cell 1,h.cell 2,h.cell 3,h.cell 4⟩
theorem bstr_to (l:List UInt8) (k:Nat):(bstr l).extract 0 k = bstr (l.take k):=by
 have h:=extract_list (bstr l) 0 k
 rw [Nat.zero_add,List.drop_zero,bstr_list] at h
 rw [← bstr_of ((bstr l).extract 0 k),h]
theorem back_ok {x:Sv} (hok:x.Ok) (hh:x.heavyB = false) (more:ByteArray) (hm:more.size ≤ 1000) (h:(putSv x).2 = 0) :
  takeSv (bstr (putSv x).1) = (x,0) ∧ (∀ k,k < (bstr (putSv x).1).size → takeSv ((bstr (putSv x).1).extract 0 k) = (sv0,230)) ∧ (more.toList.isEmpty = true → (takeSv (bstr (putSv x).1 ++ more)).2 = 0) ∧ (more.toList.isEmpty = false → (takeSv (bstr (putSv x).1 ++ more)).2 ≠ 0):=by
 have hl:=putSv_small hok hh
 have hml:more.data.toList.length ≤ 1000:=by rw [← Lib.size_eq]; exact hm
 refine ⟨takeSv_put hok h,fun k hk => ?_,fun hq => ?_,fun hq => ?_⟩
 ·rw [bstr_size] at hk
  rw [bstr_to]
  exact takeSv_short hok h k hk (raw_ok _ (by rw [bstr_size,List.length_take]; omega))
 all_goals
  have e:=takeSv_more hok h more.data.toList (raw_ok _ (by rw [bstr_size,List.length_append]; omega))
  rw [← bstr_app,bstr_of] at e
  rw [ByteArray.toList_eq] at hq
 ·exact e.2 (List.isEmpty_iff.1 hq)
 ·intro k
  rw [e.1 k] at hq
  cases hq
theorem sta_few (p:Rt):p.sta.1.uid.size ≤ 65536 ∧ p.sta.1.bytes.size ≤ 65536:=⟨takeT_small _,takeT_small _⟩
theorem stas_few:∀ (k:Nat) (m:Int) (l:List Sta) (p:Rt),(∀ s ∈ l,s.uid.size ≤ 65536 ∧ s.bytes.size ≤ 65536) → ∀ s ∈ (Rt.stas k m l p).1,s.uid.size ≤ 65536 ∧ s.bytes.size ≤ 65536
 | 0,_,l,_,h => h
 | k + 1,m,l,p,h => by
  unfold Rt.stas
  split
  ·refine stas_few k _ _ _ (fun s hs => ?_)
   rcases List.mem_append.1 hs with hs | hs
   ·exact h s hs
   ·rw [List.mem_singleton.1 hs]; exact sta_few p
  ·exact h
theorem raw_few (b:ByteArray) (h:b.size ≤ 990000):(rawSv b).1.few:=by
 have h1:=Rt.stas_len (b.size + 2) (headR b).2.2.1 [] (headR b).2.2.2.2
 have h2:=stas_few (b.size + 2) (headR b).2.2.1 [] (headR b).2.2.2.2 (fun s hs => by cases hs)
 unfold rawSv Sv.few
 dsimp only
 simp only [List.length_nil] at h1
 exact ⟨by omega,h2⟩
set_option maxRecDepth 100000 in
set_option maxHeartbeats 2500000 in
theorem saBack_w (w:World) (x:Sv) (v:Value) (g:SvIn w (· < w.heap.size) v x) (kx:x.Ok) (b:ByteArray) (at_:Int) (more:ByteArray) (hb:b.size ≤ 140737488351232) (wat:(Lit.int .i64 at_).wf = true) (hm:more.size ≤ 140737488351232) (hE:Env w) :
  Calls Tryz.prog 10 #[v, .string b, .int .i64 at_, .string more] w fun e w' => e = .returned (.bool true) ∧ Below w.heap.size w w':=by
 have hir:=wf_i64r wat
 obtain ⟨a,cap,sa,scap,rfl⟩:=g.slices
 have HX:=Lib.hid (g.at_ (fun _ k => k))
 have hA:=(Below.refl w.heap.size w).alloc (Nat.le_refl _) (.cells (svC x (.slice a x.job.nodes.length cap) (.slice sa x.states.length scap)) 81)
 have hbx:=Blk.new w (svC x (.slice a x.job.nodes.length cap) (.slice sa x.states.length scap)) 81
 have HWK:Hid (∀ W,Below w.heap.size w W → _):=fun W (hb:Below w.heap.size w W) => works23_c W (hE.keep hb)
 have HHV:Hid (∀ W,Below w.heap.size w W → Calls Tryz.prog 48 #[.agg (svC x (.slice a x.job.nodes.length cap) (.slice sa x.states.length scap))] W fun e w' => e = .returned (.bool x.heavyB) ∧ Below W.heap.size W w'):=fun W hb => SvHeavy_c x _ W (HX.out.below hb)
 have HKX:=Lib.hid kx
 unfold svC at *
 clear g hE wat kx
 go_enter Tryz.func10,Tryz.ntmps10
 go_upto_region 1 with fail
 generalize World.alloc w _ = W at *
 obtain ⟨n0,n1,n2,n3,n4⟩:=hbx.c5
 have HBX:=Lib.hid hbx
 have HA:=Lib.hid hA
 have HH2:=Lib.hid (HHV.out W hA)
 clear hbx hA HHV
 cases hh:x.heavyB
 case true =>
  rw [hh] at HH2
  clear hh
  go_wp2_with (first
   | (go_at_call 48; refine HH2.out.mono ?_; rintro e w1 ⟨rfl,b1⟩; have B1:=Lib.hid (HA.out.trans (b1.mono HA.out.size)); clear b1)
   | (go_at_call 45; refine (HWK.out _ B1.out).mono ?_; rintro e w9 ⟨rfl,b9⟩)
   | fail)
  go_ret
  exact ⟨rfl,B1.out.trans (b9.mono B1.out.size)⟩
 have HHX:=Lib.hid hh
 rw [hh] at HH2
 clear hh
 by_cases hsz:70000 < b.size
 ·have d1:decide ((70000:Int) < (b.size:Int)) = true:=decide_eq_true (by omega)
  go_wp2_with (first
   | (go_at_call 48; refine HH2.out.mono ?_; rintro e w1 ⟨rfl,b1⟩; have B1:=Lib.hid (HA.out.trans (b1.mono HA.out.size)); clear b1)
   | (go_at_call 45; refine (HWK.out _ B1.out).mono ?_; rintro e w9 ⟨rfl,b9⟩)
   | fail)
  go_ret
  exact ⟨rfl,B1.out.trans (b9.mono B1.out.size)⟩
 have d1:decide ((70000:Int) < (b.size:Int)) = false:=decide_eq_false (by omega)
 by_cases hmz:1000 < more.size
 ·have d2:decide ((1000:Int) < (more.size:Int)) = true:=decide_eq_true (by omega)
  go_wp2_with (first
   | (go_at_call 48; refine HH2.out.mono ?_; rintro e w1 ⟨rfl,b1⟩; have B1:=Lib.hid (HA.out.trans (b1.mono HA.out.size)); clear b1)
   | (go_at_call 45; refine (HWK.out _ B1.out).mono ?_; rintro e w9 ⟨rfl,b9⟩)
   | fail)
  go_ret
  exact ⟨rfl,B1.out.trans (b9.mono B1.out.size)⟩
 have d2:decide ((1000:Int) < (more.size:Int)) = false:=decide_eq_false (by omega)
 have hsm:=Sv.heavy_small HHX.out
 have HFEW:Hid x.few:=⟨by have:=hsm.2.1; omega,fun s hs => by have:=hsm.2.2 s hs; omega⟩
 have HPT:Hid (∀ W,Below w.heap.size w W → Calls Tryz.prog 42 #[.agg #[.int .i64 x.n, .int .i64 x.cut, .int .i64 x.job.par, .slice a x.job.nodes.length cap, .slice sa x.states.length scap]] W fun e w' => e = .returned (.tuple #[.string (bstr (putSv x).1), .int .i64 (putSv x).2]) ∧ Below W.heap.size W w'):=fun W hb => SvPut_c x HKX.out HFEW.out _ W (HX.out.below hb)
 have HOK:=Lib.hid (fun h => back_ok HKX.out HHX.out more (by omega) h)
 have HTS:Hid ((bstr (putSv x).1).size ≤ 950000):=by show _ ≤ _; rw [bstr_size]; exact putSv_small HKX.out HHX.out
 have HBZ:Hid (b.size ≤ 70000):=by show _ ≤ _; omega
 have HMZ:Hid (more.size ≤ 1000):=by show _ ≤ _; omega
 generalize bstr (putSv x).1 = t at *
 generalize (putSv x).2 = pe at *
 clear hsz hmz hsm hb hm
 go_upto_if 37 with (first
  | (go_at_call 48; refine HH2.out.mono ?_; rintro e w1 ⟨rfl,b1⟩; have B1:=Lib.hid (HA.out.trans (b1.mono HA.out.size)); have X1:=Lib.hid (HBX.out.below b1 HBX.out.lt); obtain ⟨k0,k1,k2,k3,k4⟩:=X1.out.c5; clear b1)
  | (go_at_call 42; refine (HPT.out _ B1.out).mono ?_; rintro e w2 ⟨rfl,b2⟩; have B2:=Lib.hid (B1.out.trans (b2.mono B1.out.size)); have X2:=Lib.hid (X1.out.below b2 X1.out.lt); clear b2)
  | fail)
 clear HH2 HA HBX n0 n1 n2 n3 n4 k0 k1 k2 k3 k4 X1 B1 HPT
 go_cut [] (fun wx => Below w.heap.size w wx)
 case first =>
  by_cases hpe:pe = 0
  case neg =>
   have e0:(pe == 0) = false:=by simpa using hpe
   clear hpe
   go_wp2_with fail
   go_meet
   exact B2.out
  subst hpe
  obtain ⟨q1,q2,q3,q4⟩:=HOK.out rfl
  have HQ2:=Lib.hid q2
  have HQ3:=Lib.hid q3
  have HQ4:=Lib.hid q4
  have HT1:Hid (Calls Tryz.prog 41 #[.string t] w2 fun e w' => ∃ a cap sa scap,e = .returned (.tuple #[.agg #[.int .i64 x.n, .int .i64 x.cut, .int .i64 x.job.par, .slice a x.job.nodes.length cap, .slice sa x.states.length scap], .int .i64 0]) ∧ SvAt w' (.agg #[.int .i64 x.n, .int .i64 x.cut, .int .i64 x.job.par, .slice a x.job.nodes.length cap, .slice sa x.states.length scap]) x ∧ Below w2.heap.size w2 w'):=by
   have:=SvTake_c t (by have:=HTS.out; omega) w2
   rw [q1] at this
   refine this.mono ?_
   rintro e w' ⟨⟨v,rfl,hv⟩,hb⟩
   obtain ⟨a,cap,sa,scap,rfl⟩:=hv.slices
   exact ⟨a,cap,sa,scap,rfl,hv.at_ (fun _ k => k.2),hb⟩
  have HSM:Hid (∀ W v u,SvAt W v x → SvAt W u x → Calls Tryz.prog 47 #[v,u] W fun e w' => e = .returned (.bool true) ∧ Below W.heap.size W w'):=fun W v u hv hu => by
   have:=SvSame_c x x v u W hv hu
   rw [Sv.sameB_refl] at this
   exact this
  clear q1 q2 q3 q4 HOK
  go_upto_region 8 with (first
   | (go_at_call 41; refine HT1.out.mono ?_; rintro e w3 ⟨a3,cap3,sa3,scap3,rfl,v3,b3⟩; have hb3:=b3.alloc b3.size (.cells #[.int .i64 x.n, .int .i64 x.cut, .int .i64 x.job.par, .slice a3 x.job.nodes.length cap3, .slice sa3 x.states.length scap3] 81); have X3:=Lib.hid (X2.out.below hb3 X2.out.lt); obtain ⟨k0,k1,k2,k3,k4⟩:=X3.out.c5; have B3:=Lib.hid (B2.out.trans (hb3.mono B2.out.size)); have V3:=Lib.hid (v3.below ((Below.refl _ _).alloc (Nat.le_refl _) (.cells #[.int .i64 x.n, .int .i64 x.cut, .int .i64 x.job.par, .slice a3 x.job.nodes.length cap3, .slice sa3 x.states.length scap3] 81))); have VX3:=Lib.hid (HX.out.below B3.out); clear b3 v3 hb3)
   | (go_at_call 47; refine (HSM.out _ _ _ VX3.out V3.out).mono ?_; rintro e w4 ⟨rfl,b4⟩; have B4:=Lib.hid (B3.out.trans (b4.mono B3.out.size)); clear b4)
   | fail)
  clear HT1 HSM X2 X3 k0 k1 k2 k3 k4 V3 VX3 B3 HX
  have HT3:Hid (∀ W,Calls Tryz.prog 41 #[.string (t ++ more)] W fun e w' => ∃ (u0 u1 u2:Int) (a3:Option Addr) (l3 c3:Nat) (a4:Option Addr) (l4 c4:Nat),e = .returned (.tuple #[.agg #[.int .i64 u0, .int .i64 u1, .int .i64 u2, .slice a3 l3 c3, .slice a4 l4 c4], .int .i64 (takeSv (t ++ more)).2]) ∧ Below W.heap.size W w'):=fun W => by
   refine (SvTake_c (t ++ more) (by have:=HTS.out; have:=HMZ.out; rw [ByteArray.size_append]; omega) W).mono ?_
   rintro e w' ⟨⟨v,rfl,hv⟩,hb⟩
   obtain ⟨a,cap,sa,scap,rfl⟩:=hv.slices
   exact ⟨_,_,_,_,_,_,_,_,_,rfl,hb⟩
  have hzi:(t.size:Int) + (more.size:Int) ≤ 9223372036854775807:=by have:=HTS.out; have:=HMZ.out; omega
  have HEQ:Hid (((takeSv (t ++ more)).2 == 0) = more.toList.isEmpty):=by
   show _ = _
   cases hq:more.toList.isEmpty
   ·simpa using HQ4.out hq
   ·simpa using HQ3.out hq
  generalize (takeSv (t ++ more)).2 = te at *
  have HT2:Hid (∀ k:Nat,k < t.size → ∀ W,Calls Tryz.prog 41 #[.string (t.extract 0 k)] W fun e w' => ∃ (u0 u1 u2:Int) (a3:Option Addr) (l3 c3:Nat) (a4:Option Addr) (l4 c4:Nat),e = .returned (.tuple #[.agg #[.int .i64 u0, .int .i64 u1, .int .i64 u2, .slice a3 l3 c3, .slice a4 l4 c4], .int .i64 230]) ∧ Below W.heap.size W w'):=fun k hk W => by
   have:=SvTake_c (t.extract 0 k) (by have:=HTS.out; rw [ByteArray.size_extract]; omega) W
   rw [HQ2.out k hk] at this
   refine this.mono ?_
   rintro e w' ⟨⟨v,rfl,hv⟩,hb⟩
   obtain ⟨a,cap,sa,scap,rfl⟩:=hv.slices
   exact ⟨_,_,_,_,_,_,_,_,_,rfl,hb⟩
  clear HQ2 HQ3 HQ4
  by_cases h0:at_ < 0
  case pos =>
   have e2:decide (0 ≤ at_) = false:=decide_eq_false (by omega)
   clear h0 HT2
   cases hq:more.toList.isEmpty
   all_goals
    rw [hq] at HEQ
    have e1:=HEQ.out
    go_wp2_with (first
     | (go_at_call 41; refine (HT3.out _).mono ?_; rintro e w6 ⟨x0,x1,x2,a3,l3,c3,a4,l4,c4,rfl,b6⟩; have B6:=Lib.hid (B4.out.trans (b6.mono B4.out.size)); clear b6)
     | fail)
    go_meet
    exact B6.out.alloc B6.out.size _
  obtain ⟨k,rfl⟩:∃ k:Nat,at_ = (k:Int):=⟨at_.toNat,by omega⟩
  by_cases hk:k < t.size
  ·have e3:decide ((k:Int) < (t.size:Int)) = true:=decide_eq_true (by omega)
   have e5:decide (k < t.size) = true:=decide_eq_true hk
   have e4:k ≤ t.size:=by omega
   have HTX:=Lib.hid (HT2.out k hk)
   clear h0 hk HT2
   cases hq:more.toList.isEmpty
   all_goals
    rw [hq] at HEQ
    have e1:=HEQ.out
    go_wp2_with (first
     | (go_at_call 41; refine (HTX.out _).mono ?_; rintro e w5 ⟨u0,u1,u2,a1,l1,c1,a2,l2,c2,rfl,b5⟩; have c5:=B4.out.trans (b5.mono B4.out.size); have B5:=Lib.hid (c5.alloc c5.size (.cells #[.int .i64 u0, .int .i64 u1, .int .i64 u2, .slice a1 l1 c1, .slice a2 l2 c2] 81)); clear b5 c5 HTX)
     | (go_at_call 41; refine (HT3.out _).mono ?_; rintro e w6 ⟨x0,x1,x2,a3,l3,c3,a4,l4,c4,rfl,b6⟩; have B6:=Lib.hid (B5.out.trans (b6.mono B5.out.size)); clear b6)
     | fail)
    go_meet
    exact B6.out.alloc B6.out.size _
  ·have e3:decide ((k:Int) < (t.size:Int)) = false:=decide_eq_false (by omega)
   have e5:decide (k < t.size) = false:=decide_eq_false hk
   clear h0 hk HT2
   cases hq:more.toList.isEmpty
   all_goals
    rw [hq] at HEQ
    have e1:=HEQ.out
    go_wp2_with (first
     | (go_at_call 41; refine (HT3.out _).mono ?_; rintro e w6 ⟨x0,x1,x2,a3,l3,c3,a4,l4,c4,rfl,b6⟩; have B6:=Lib.hid (B4.out.trans (b6.mono B4.out.size)); clear b6)
     | fail)
    go_meet
    exact B6.out.alloc B6.out.size _
 case rest =>
 have BC:=Lib.hid hcut
 clear hcut HX
 have HTO:=Lib.hid (@takeSv_ok b)
 have HTE:=Lib.hid (@takeSv_err b)
 have HRW:=Lib.hid (raw_ok b (by have:=HBZ.out; omega))
 have HTB:=Lib.hid (SvTake_c b (by have:=HBZ.out; omega) wc)
 have HFW:=Lib.hid (raw_few b (by have:=HBZ.out; omega))
 have HB2:=Lib.hid HBZ.out
 by_cases he:(takeSv b).2 = 0
 ·obtain ⟨r1,r2,r3⟩:=HTO.out he
  rw [r1] at r2 r3
  have HTB2:Hid (Calls Tryz.prog 41 #[.string b] wc fun e w' => ∃ a cap sa scap,e = .returned (.tuple #[.agg (svC (rawSv b).1 (.slice a (rawSv b).1.job.nodes.length cap) (.slice sa (rawSv b).1.states.length scap)), .int .i64 0]) ∧ SvAt w' (.agg (svC (rawSv b).1 (.slice a (rawSv b).1.job.nodes.length cap) (.slice sa (rawSv b).1.states.length scap))) (rawSv b).1 ∧ Below wc.heap.size wc w'):=by
   have:=HTB.out
   rw [r1] at this
   refine this.mono ?_
   rintro e w' ⟨⟨v,rfl,hv⟩,hb⟩
   obtain ⟨a,cap,sa,scap,rfl⟩:=hv.slices
   exact ⟨a,cap,sa,scap,rfl,hv.at_ (fun _ k => k.2),hb⟩
  have HPU:Hid (∀ W v,SvAt W v (rawSv b).1 → Calls Tryz.prog 42 #[v] W fun e w' => e = .returned (.tuple #[.string b, .int .i64 0]) ∧ Below W.heap.size W w'):=fun W v hv => by
   have:=SvPut_c (rawSv b).1 HRW.out HFW.out v W hv
   rw [r2,r3] at this
   exact this
  generalize (rawSv b).1 = y at *
  unfold svC at HTB2
  clear he r1 r2 r3 HTO HTE HTB HRW HFW
  go_wp2_with (first
   | (go_at_call 41; refine HTB2.out.mono ?_; rintro e w3 ⟨a3,cap3,sa3,scap3,rfl,v3,b3⟩; have Y3:=Lib.hid (Blk.new w3 #[.int .i64 y.n, .int .i64 y.cut, .int .i64 y.job.par, .slice a3 y.job.nodes.length cap3, .slice sa3 y.states.length scap3] 81); have V3:=Lib.hid (v3.below ((Below.refl _ _).alloc (Nat.le_refl _) (.cells #[.int .i64 y.n, .int .i64 y.cut, .int .i64 y.job.par, .slice a3 y.job.nodes.length cap3, .slice sa3 y.states.length scap3] 81))); have c3:=BC.out.trans (b3.mono BC.out.size); have B3:=Lib.hid (c3.alloc c3.size (.cells #[.int .i64 y.n, .int .i64 y.cut, .int .i64 y.job.par, .slice a3 y.job.nodes.length cap3, .slice sa3 y.states.length scap3] 81)); obtain ⟨k0,k1,k2,k3,k4⟩:=Y3.out.c5; clear b3 v3 c3)
   | (go_at_call 42; refine (HPU.out _ _ V3.out).mono ?_; rintro e w4 ⟨rfl,b4⟩; have B4:=Lib.hid (B3.out.trans (b4.mono B3.out.size)); clear b4)
   | (go_at_call 45; refine (HWK.out _ B4.out).mono ?_; rintro e w5 ⟨rfl,b5⟩)
   | fail)
  go_ret
  exact ⟨rfl,B4.out.trans (b5.mono B4.out.size)⟩
 ·have r1:=HTE.out he
  have HTB2:Hid (Calls Tryz.prog 41 #[.string b] wc fun e w' => ∃ a cap sa scap,e = .returned (.tuple #[.agg #[.int .i64 0, .int .i64 0, .int .i64 0, .slice a 0 cap, .slice sa 0 scap], .int .i64 230]) ∧ SvAt w' (.agg #[.int .i64 0, .int .i64 0, .int .i64 0, .slice a 0 cap, .slice sa 0 scap]) sv0 ∧ Below wc.heap.size wc w'):=by
   have:=HTB.out
   rw [r1] at this
   refine this.mono ?_
   rintro e w' ⟨⟨v,rfl,hv⟩,hb⟩
   obtain ⟨a,cap,sa,scap,rfl⟩:=hv.slices
   exact ⟨a,cap,sa,scap,rfl,hv.at_ (fun _ k => k.2),hb⟩
  have HSM:Hid (∀ W v,SvAt W v sv0 → Calls Tryz.prog 47 #[v, .agg #[.int .i64 0, .int .i64 0, .int .i64 0, .slice none 0 0, .slice none 0 0]] W fun e w' => e = .returned (.bool true) ∧ Below W.heap.size W w'):=fun W v hv => by
   have:=SvSame_c sv0 sv0 v (.agg #[.int .i64 0, .int .i64 0, .int .i64 0, .slice none 0 0, .slice none 0 0]) W hv ⟨_,_,rfl,(NodesIn.nil W (fun _ => False)).toAt (fun _ h => h.elim),StaRd.nil _ _⟩
   rw [Sv.sameB_refl] at this
   exact this
  clear he r1 HTO HTE HTB HRW HFW
  go_wp2_with (first
   | (go_at_call 41; refine HTB2.out.mono ?_; rintro e w3 ⟨a3,cap3,sa3,scap3,rfl,v3,b3⟩; have Y3:=Lib.hid (Blk.new w3 #[.int .i64 0, .int .i64 0, .int .i64 0, .slice a3 0 cap3, .slice sa3 0 scap3] 81); have V3:=Lib.hid (v3.below ((Below.refl _ _).alloc (Nat.le_refl _) (.cells #[.int .i64 0, .int .i64 0, .int .i64 0, .slice a3 0 cap3, .slice sa3 0 scap3] 81))); have c3:=BC.out.trans (b3.mono BC.out.size); have B3:=Lib.hid (c3.alloc c3.size (.cells #[.int .i64 0, .int .i64 0, .int .i64 0, .slice a3 0 cap3, .slice sa3 0 scap3] 81)); obtain ⟨k0,k1,k2,k3,k4⟩:=Y3.out.c5; clear b3 v3 c3)
   | (go_at_call 47; refine (HSM.out _ _ V3.out).mono ?_; rintro e w4 ⟨rfl,b4⟩; have B4:=Lib.hid (B3.out.trans (b4.mono B3.out.size)); clear b4)
   | (go_at_call 45; refine (HWK.out _ B4.out).mono ?_; rintro e w5 ⟨rfl,b5⟩)
   | fail)
  go_ret
  exact ⟨rfl,B4.out.trans (b5.mono B4.out.size)⟩
end Go.Proofs.YtpkijdkoiecpiaaGreatDoor

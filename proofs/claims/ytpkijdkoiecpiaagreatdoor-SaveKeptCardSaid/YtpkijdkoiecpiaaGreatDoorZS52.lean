/-
  Parts of the proof: HO.
-/
import Derived.Test.YtpkijdkoiecpiaaGreatDoorZS46
namespace Go.Proofs.YtpkijdkoiecpiaaGreatDoor
open Go.RowKit
set_option linter.unusedVariables false
set_option linter.unusedSimpArgs false
namespace DS
variable {w W W':World} {D:Nat} {d d':Dk}
theorem crash (h:DS w W D d) (c n:Int) (hll:d.loose.length ≤ 1000000000):Calls Tryz.prog 28 #[px D, .int .i64 c, .int .i64 n] W fun e w' => e = .returned (.tuple #[]) ∧ DS w w' D (d.crash c n):=by
 obtain ⟨M,h1,h2,h3⟩:=h
 refine (Crash_c W M D d h1 c n hll).mono ?_
 rintro e w' ⟨rfl,hT⟩
 exact ⟨rfl,of_to h2 h3 hT⟩
theorem power (h:DS w W D d) (n:Int) (hn:n ≤ 9223372036854775807):Calls Tryz.prog 27 #[px D, .int .i64 n] W fun e w' => e = .returned (.int .i64 (d.power n).2) ∧ DS w w' D (d.power n).1:=by
 obtain ⟨M,h1,h2,h3⟩:=h
 refine (Power_c W M D d h1 n hn).mono ?_
 rintro e w' ⟨rfl,hT⟩
 exact ⟨rfl,of_to h2 h3 hT⟩
end DS
theorem Blk.d5 {w:World} {g:Nat} {t:TypeId} {a0 a1 a2 a3 a4:Value} (h:Blk w g t #[a0,a1,a2,a3,a4]):w.cell? ⟨g,0,none⟩ = some a0 ∧ w.cell? ⟨g,1,none⟩ = some a1 ∧ w.cell? ⟨g,2,none⟩ = some a2 ∧ w.cell? ⟨g,3,none⟩ = some a3 ∧ w.cell? ⟨g,4,none⟩ = some a4 :=
 ⟨h.cell 0,h.cell 1,h.cell 2,h.cell 3,h.cell 4⟩
theorem write_loose {d:Dk} {x:Sv} (h:d.loose.length ≤ 100):(d.write x).1.loose.length ≤ 1000:=by
 have hrun:∀ (t:ByteArray) (l:List WOp) (d:Dk),(WOp.run t l d).1.loose.length ≤ d.loose.length + l.length:=by
  intro t l
  induction l with
  | nil => intro d; exact Nat.le_refl _
  | cons o l ih =>
   intro d
   have h1:=WOp.act_loose t d o
   rw [WOp.run_cons,List.length_cons]
   split
   ·omega
   ·have:=ih (o.act t d).1
    omega
 by_cases h0:(putSv x).2 = 0
 ·by_cases h1:(d.read 5).2 = 0
  ·obtain ⟨r1,r2⟩:=WOp.write_run d x h0 h1
   by_cases hz:(d.read 5).1.size = 0
   ·rw [r1 hz]
    have:=hrun (bstr (putSv x).1) WOp.all d
    have e:WOp.all.length = 4:=rfl
    omega
   ·rw [r2 hz]
    have:=hrun (bstr (putSv x).1) (.cut :: WOp.all) d
    have e:(WOp.cut :: WOp.all).length = 5:=rfl
    omega
  ·rw [(write_low d x).2 h0 h1]
   show d.loose.length ≤ 1000
   omega
 ·rw [(write_low d x).1 h0]
  show d.loose.length ≤ 1000
  omega
theorem Kdk.power {d:Dk} {a:Sv} (h:Kdk d a) (n:Int):Kdk (d.power n).1 a:=by
 unfold Dk.power
 split
 ·exact h
 split
 ·exact h
 ·exact ⟨h.len,h.off,h.loose,h.sure,h.save,h.temp⟩
def KS (d:Dk) (a b:Sv) (e:Int):Prop:=(Kck d b ∧ (putSv b).2 = 0) ∨ (e ≠ 0 ∧ Kck d a ∧ (putSv a).2 = 0)
theorem KS.crash {d:Dk} {a b:Sv} {e:Int} (h:KS d a b e):KS (d.crash 0 0) a b e:=h.imp (fun h => ⟨h.1.crash 0 0,h.2⟩) (fun h => ⟨h.1,h.2.1.crash 0 0,h.2.2⟩)
theorem Kck.few {d:Dk} {a:Sv} (h:Kck d a) (hok:a.Ok) (hh:a.heavyB = false):(d.read 4).1.size ≤ 990000 ∧ d.loose.length ≤ 100:=by
 refine ⟨?_,by rw [h.loose]; decide⟩
 unfold Dk.read
 rw [if_neg (by rw [h.off]; decide),if_neg (by decide)]
 show (fl d.now 4).size ≤ _
 rw [h.save,bstr_size]
 exact Nat.le_trans (putSv_small hok hh) (by decide)
theorem KS.few {d:Dk} {a b:Sv} {e:Int} (h:KS d a b e) (ha:a.Ok) (hb:b.Ok) (ka:a.heavyB = false) (kb:b.heavyB = false):(d.read 4).1.size ≤ 990000 ∧ d.loose.length ≤ 100:=by
 rcases h with ⟨h,_⟩ | ⟨_,h,_⟩
 ·exact h.few hb kb
 ·exact h.few ha ka
theorem KS.on {d:Dk} {a b:Sv} {e:Int} (h:KS d a b e) (x:Sv):(d.write x).2 ≠ 50:=by
 rcases h with ⟨h,_⟩ | ⟨_,h,_⟩
 ·exact write_on h.off h.left
 ·exact write_on h.off h.left
set_option maxRecDepth 100000 in
set_option maxHeartbeats 2500000 in
theorem saKept_w (w:World) (xa:Sv) (va:Value) (ga:SvIn w (· < w.heap.size) va xa) (ka:xa.Ok) (xb:Sv) (vb:Value) (gb:SvIn w (· < w.heap.size) vb xb) (kb:xb.Ok) (room pw ch by':Int)
  (wr':(Lit.int .i64 room).wf = true) (wp:(Lit.int .i64 pw).wf = true) (wch:(Lit.int .i64 ch).wf = true) (wby:(Lit.int .i64 by').wf = true) (hE:Env w) :
  Calls Tryz.prog 12 #[va,vb, .int .i64 room, .int .i64 pw, .int .i64 ch, .int .i64 by'] w fun e w' => e = .returned (.bool true) ∧ Below w.heap.size w w':=by
 have hpw:=(wf_i64r wp).2
 obtain ⟨a,cap,sa,scap,rfl⟩:=ga.slices
 obtain ⟨a',cap',sa',scap',rfl⟩:=gb.slices
 have hA:=two_bel w (svC xa (.slice a xa.job.nodes.length cap) (.slice sa xa.states.length scap)) (svC xb (.slice a' xb.job.nodes.length cap') (.slice sa' xb.states.length scap')) 81 81
 have hba:=(Blk.new w (svC xa (.slice a xa.job.nodes.length cap) (.slice sa xa.states.length scap)) 81).alloc (.cells (svC xb (.slice a' xb.job.nodes.length cap') (.slice sa' xb.states.length scap')) 81)
 have hbb:=Blk.new_at (w.alloc (.cells (svC xa (.slice a xa.job.nodes.length cap) (.slice sa xa.states.length scap)) 81)) (svC xb (.slice a' xb.job.nodes.length cap') (.slice sa' xb.states.length scap')) 81 (k:=w.heap.size + 1) (by simp)
 have HXA:=Lib.hid (ga.at_ (fun _ k => k))
 have HXB:=Lib.hid (gb.at_ (fun _ k => k))
 have HWK:Hid (∀ W,Below w.heap.size w W → _):=fun W (hb:Below w.heap.size w W) => works23_c W (hE.keep hb)
 have HHA:Hid (∀ W,Below w.heap.size w W → Calls Tryz.prog 48 #[.agg (svC xa (.slice a xa.job.nodes.length cap) (.slice sa xa.states.length scap))] W fun e w' => e = .returned (.bool xa.heavyB) ∧ Below W.heap.size W w'):=fun W hb => SvHeavy_c xa _ W (HXA.out.below hb)
 have HHB:Hid (∀ W,Below w.heap.size w W → Calls Tryz.prog 48 #[.agg (svC xb (.slice a' xb.job.nodes.length cap') (.slice sa' xb.states.length scap'))] W fun e w' => e = .returned (.bool xb.heavyB) ∧ Below W.heap.size W w'):=fun W hb => SvHeavy_c xb _ W (HXB.out.below hb)
 have HKA:=Lib.hid ka
 have HKB:=Lib.hid kb
 unfold svC at *
 clear ga gb hE wr' wp wch wby ka kb
 go_enter Tryz.func12,Tryz.ntmps12
 go_upto_region 1 with fail
 generalize World.alloc (World.alloc w _) _ = W at *
 have HBA:=Lib.hid hba
 have HBB:=Lib.hid hbb
 have HA:=Lib.hid hA
 clear hba hbb hA
 obtain ⟨n0,n1,n2,n3,n4⟩:=HBA.out.d5
 obtain ⟨m0,m1,m2,m3,m4⟩:=HBB.out.d5
 by_cases hroom:1 ≤ room ∧ room ≤ 4194304
 case neg =>
  have HNW:Hid (Calls Tryz.prog 15 #[.int .i64 room] W fun e w' => e = .returned (.tuple #[.pointer none, .int .i64 2]) ∧ Below W.heap.size W w'):=by
   refine (New_c room W).mono ?_
   rintro e w' ⟨hb,⟨h1,h2,_⟩ | ⟨_,rfl⟩⟩
   ·exact absurd ⟨h1,h2⟩ hroom
   ·exact ⟨rfl,hb⟩
  clear hroom n0 n1 n2 n3 n4 m0 m1 m2 m3 m4
  go_wp2_with (first
   | (go_at_call 15; refine HNW.out.mono ?_; rintro e w1 ⟨rfl,b1⟩; have B1:=Lib.hid (HA.out.trans (b1.mono HA.out.size)); clear b1)
   | (go_at_call 45; refine (HWK.out _ B1.out).mono ?_; rintro e w9 ⟨rfl,b9⟩)
   | fail)
  go_ret
  exact ⟨rfl,B1.out.trans (b9.mono B1.out.size)⟩
 have HNW:Hid (Calls Tryz.prog 15 #[.int .i64 room] W fun e w' => ∃ D,e = .returned (.tuple #[.pointer (some ⟨D,0,none⟩), .int .i64 0]) ∧ DS W w' D (Dk.new room)):=DS.new W room hroom.1 hroom.2
 have HBW:Hid (∀ W1,Below W.heap.size W W1 → Below w.heap.size w W1):=fun W1 hb => HA.out.trans (hb.mono HA.out.size)
 have HBX:Hid (∀ W1,Below W.heap.size W W1 → Blk W1 w.heap.size 81 #[.int .i64 xa.n, .int .i64 xa.cut, .int .i64 xa.job.par, .slice a xa.job.nodes.length cap, .slice sa xa.states.length scap] ∧ Blk W1 (w.heap.size + 1) 81 #[.int .i64 xb.n, .int .i64 xb.cut, .int .i64 xb.job.par, .slice a' xb.job.nodes.length cap', .slice sa' xb.states.length scap']):=fun W1 hb => ⟨HBA.out.below hb HBA.out.lt,HBB.out.below hb HBB.out.lt⟩
 clear hroom
 cases h1:xa.heavyB
 case true =>
  rw [h1] at HHA
  clear h1
  go_wp2_with (first
   | (go_at_call 15; refine HNW.out.mono ?_; rintro e w1 ⟨D,rfl,d1⟩; have B1:=Lib.hid d1.below; obtain ⟨k0,k1,k2,k3,k4⟩:=(HBX.out _ d1.below).1.d5; clear d1)
   | (go_at_call 48; refine (HHA.out _ (HBW.out _ B1.out)).mono ?_; rintro e w2 ⟨rfl,b2⟩; have B2:=Lib.hid (B1.out.trans (b2.mono B1.out.size)); clear b2)
   | (go_at_call 45; refine (HWK.out _ (HBW.out _ B2.out)).mono ?_; rintro e w9 ⟨rfl,b9⟩)
   | fail)
  go_ret
  exact ⟨rfl,(HBW.out _ B2.out).trans (b9.mono (HBW.out _ B2.out).size)⟩
 rw [h1] at HHA
 have H1:=Lib.hid h1
 clear h1
 cases h2:xb.heavyB
 case true =>
  rw [h2] at HHB
  clear h2
  go_wp2_with (first
   | (go_at_call 15; refine HNW.out.mono ?_; rintro e w1 ⟨D,rfl,d1⟩; have B1:=Lib.hid d1.below; obtain ⟨k0,k1,k2,k3,k4⟩:=(HBX.out _ d1.below).1.d5; clear d1)
   | (go_at_call 48; refine (HHA.out _ (HBW.out _ B1.out)).mono ?_; rintro e w2 ⟨rfl,b2⟩; have c2:=B1.out.trans (b2.mono B1.out.size); have B2:=Lib.hid c2; obtain ⟨l0,l1,l2,l3,l4⟩:=(HBX.out _ c2).2.d5; clear b2 c2 HHA)
   | (go_at_call 48; refine (HHB.out _ (HBW.out _ B2.out)).mono ?_; rintro e w3 ⟨rfl,b3⟩; have B3:=Lib.hid (B2.out.trans (b3.mono B2.out.size)); clear b3)
   | (go_at_call 45; refine (HWK.out _ (HBW.out _ B3.out)).mono ?_; rintro e w9 ⟨rfl,b9⟩)
   | fail)
  go_ret
  exact ⟨rfl,(HBW.out _ B3.out).trans (b9.mono (HBW.out _ B3.out).size)⟩
 rw [h2] at HHB
 have H2:=Lib.hid h2
 clear h2
 have HFA:Hid xa.few:=by have h:=Sv.heavy_small H1.out; exact ⟨by have:=h.2.1; omega,fun s hs => by have:=h.2.2 s hs; omega⟩
 have HFB:Hid xb.few:=by have h:=Sv.heavy_small H2.out; exact ⟨by have:=h.2.1; omega,fun s hs => by have:=h.2.2 s hs; omega⟩
 have HWA:Hid (∀ W1 D dk,DS W W1 D dk → dk.loose.length ≤ 1000 → Calls Tryz.prog 46 #[.pointer (some ⟨D,0,none⟩), .agg #[.int .i64 xa.n, .int .i64 xa.cut, .int .i64 xa.job.par, .slice a xa.job.nodes.length cap, .slice sa xa.states.length scap]] W1 fun e w' => e = .returned (.int .i64 (dk.write xa).2) ∧ DS W w' D (dk.write xa).1):=fun W1 D dk h hl =>
  h.write xa HKA.out HFA.out _ (HXA.out.below (HBW.out _ h.below)) (Nat.le_trans (putSv_small HKA.out H1.out) (by decide)) (by omega)
 have HWB:Hid (∀ W1 D dk,DS W W1 D dk → dk.loose.length ≤ 1000 → Calls Tryz.prog 46 #[.pointer (some ⟨D,0,none⟩), .agg #[.int .i64 xb.n, .int .i64 xb.cut, .int .i64 xb.job.par, .slice a' xb.job.nodes.length cap', .slice sa' xb.states.length scap']] W1 fun e w' => e = .returned (.int .i64 (dk.write xb).2) ∧ DS W w' D (dk.write xb).1):=fun W1 D dk h hl =>
  h.write xb HKB.out HFB.out _ (HXB.out.below (HBW.out _ h.below)) (Nat.le_trans (putSv_small HKB.out H2.out) (by decide)) (by omega)
 have HL0:Hid ((Dk.new room).loose.length ≤ 1000):=by show (0:Nat) ≤ 1000; decide
 have HWF:=Lib.hid (write_first room xa)
 generalize hq1:(Dk.new room).write xa = q1 at *
 have HQ1:=Lib.hid hq1
 clear hq1
 by_cases he1:q1.2 = 0
 case neg =>
  have e1:(q1.2 != 0) = true:=by simpa using he1
  clear he1
  go_wp2_with (first
   | (go_at_call 15; refine HNW.out.mono ?_; rintro e w1 ⟨D,rfl,d1⟩; have B1:=Lib.hid d1.below; have D1:=Lib.hid d1; obtain ⟨k0,k1,k2,k3,k4⟩:=(HBX.out _ d1.below).1.d5; clear d1)
   | (go_at_call 48; refine (HHA.out _ (HBW.out _ B1.out)).mono ?_; rintro e w2 ⟨rfl,b2⟩; have D2:=Lib.hid (D1.out.keep b2); obtain ⟨l0,l1,l2,l3,l4⟩:=(HBX.out _ D2.out.below).2.d5; clear b2 D1 B1 HHA)
   | (go_at_call 48; refine (HHB.out _ (HBW.out _ D2.out.below)).mono ?_; rintro e w3 ⟨rfl,b3⟩; have D3:=Lib.hid (D2.out.keep b3); obtain ⟨p0,p1,p2,p3,p4⟩:=(HBX.out _ D3.out.below).1.d5; clear b3 D2)
   | (go_at_call 46; refine (HWA.out _ _ _ D3.out HL0.out).mono ?_; rw [HQ1.out]; rintro e w4 ⟨rfl,d4⟩; have B4:=Lib.hid d4.below; clear d4 D3)
   | (go_at_call 45; refine (HWK.out _ (HBW.out _ B4.out)).mono ?_; rintro e w9 ⟨rfl,b9⟩)
   | fail)
  go_ret
  exact ⟨rfl,(HBW.out _ B4.out).trans (b9.mono (HBW.out _ B4.out).size)⟩
 obtain ⟨hpa,hkd⟩:=HWF.out he1
 have e1:(q1.2 != 0) = false:=by simpa using he1
 have HPA:=Lib.hid hpa
 have HKD:=Lib.hid hkd
 clear he1 hpa hkd HWF
 by_cases hp:pw < 0
 ·have e2:decide (pw < 0) = true:=decide_eq_true hp
  clear hp
  go_wp2_with (first
   | (go_at_call 15; refine HNW.out.mono ?_; rintro e w1 ⟨D,rfl,d1⟩; have B1:=Lib.hid d1.below; have D1:=Lib.hid d1; obtain ⟨k0,k1,k2,k3,k4⟩:=(HBX.out _ d1.below).1.d5; clear d1)
   | (go_at_call 48; refine (HHA.out _ (HBW.out _ B1.out)).mono ?_; rintro e w2 ⟨rfl,b2⟩; have D2:=Lib.hid (D1.out.keep b2); obtain ⟨l0,l1,l2,l3,l4⟩:=(HBX.out _ D2.out.below).2.d5; clear b2 D1 B1 HHA)
   | (go_at_call 48; refine (HHB.out _ (HBW.out _ D2.out.below)).mono ?_; rintro e w3 ⟨rfl,b3⟩; have D3:=Lib.hid (D2.out.keep b3); obtain ⟨p0,p1,p2,p3,p4⟩:=(HBX.out _ D3.out.below).1.d5; clear b3 D2)
   | (go_at_call 46; refine (HWA.out _ _ _ D3.out HL0.out).mono ?_; rw [HQ1.out]; rintro e w4 ⟨rfl,d4⟩; have B4:=Lib.hid d4.below; clear d4 D3)
   | (go_at_call 45; refine (HWK.out _ (HBW.out _ B4.out)).mono ?_; rintro e w9 ⟨rfl,b9⟩)
   | fail)
  go_ret
  exact ⟨rfl,(HBW.out _ B4.out).trans (b9.mono (HBW.out _ B4.out).size)⟩
 have e2:decide (pw < 0) = false:=decide_eq_false hp
 have HPW:Hid (∀ W1 D,DS W W1 D q1.1 → Calls Tryz.prog 27 #[.pointer (some ⟨D,0,none⟩), .int .i64 pw] W1 fun e w' => e = .returned (.int .i64 0) ∧ DS W w' D (q1.1.power pw).1):=fun W1 D h => by
  have:=h.power pw hpw
  rw [show (q1.1.power pw).2 = 0 by unfold Dk.power; rw [if_neg (by rw [HKD.out.off]; decide),if_neg hp]] at this
  exact this
 have HKP:=Lib.hid (HKD.out.power pw)
 generalize (q1.1.power pw).1 = d2 at *
 have HL2:Hid (d2.loose.length ≤ 1000):=by show _ ≤ _; rw [HKP.out.loose]; decide
 have HWL:=Lib.hid (@write_loose d2 xb (by rw [HKP.out.loose]; decide))
 have HCS:=Lib.hid (fun q hq => write_crash (b:=xb) HKP.out q hq ch by')
 generalize hq2:d2.write xb = q2 at *
 have HQ2:=Lib.hid hq2
 have HKS:Hid (KS (q2.1.crash ch by') xa xb q2.2):=(HCS.out q2 rfl).imp id (fun h => ⟨h.1,h.2,HPA.out⟩)
 have HCR:Hid (∀ W1 D,DS W W1 D q2.1 → Calls Tryz.prog 28 #[.pointer (some ⟨D,0,none⟩), .int .i64 ch, .int .i64 by'] W1 fun e w' => e = .returned (.tuple #[]) ∧ DS W w' D (q2.1.crash ch by')):=fun W1 D h => h.crash ch by' (by have:=HWL.out; omega)
 generalize q2.1.crash ch by' = d3 at *
 obtain ⟨q2d,e3⟩:=q2
 dsimp only at HKS HCR
 clear hq2 hp hpw HCS HWL
 go_upto_region 7 with (first
  | (go_at_call 15; refine HNW.out.mono ?_; rintro e w1 ⟨D,rfl,d1⟩; have B1:=Lib.hid d1.below; have D1:=Lib.hid d1; obtain ⟨k0,k1,k2,k3,k4⟩:=(HBX.out _ d1.below).1.d5; clear d1 n0 n1 n2 n3 n4 m0 m1 m2 m3 m4)
  | (go_at_call 48; refine (HHA.out _ (HBW.out _ B1.out)).mono ?_; rintro e w2 ⟨rfl,b2⟩; have D2:=Lib.hid (D1.out.keep b2); obtain ⟨l0,l1,l2,l3,l4⟩:=(HBX.out _ D2.out.below).2.d5; clear b2 D1 B1 HHA k0 k1 k2 k3 k4)
  | (go_at_call 48; refine (HHB.out _ (HBW.out _ D2.out.below)).mono ?_; rintro e w3 ⟨rfl,b3⟩; have D3:=Lib.hid (D2.out.keep b3); obtain ⟨p0,p1,p2,p3,p4⟩:=(HBX.out _ D3.out.below).1.d5; clear b3 D2 l0 l1 l2 l3 l4)
  | (go_at_call 46; refine (HWA.out _ _ _ D3.out HL0.out).mono ?_; rw [HQ1.out]; rintro e w4 ⟨rfl,d4⟩; have D4:=Lib.hid d4; clear d4 D3 HQ1 p0 p1 p2 p3 p4)
  | (go_at_call 27; refine (HPW.out _ _ D4.out).mono ?_; rintro e w5 ⟨rfl,d5⟩; have D5:=Lib.hid d5; obtain ⟨s0,s1,s2,s3,s4⟩:=(HBX.out _ d5.below).2.d5; clear d5 D4)
  | (go_at_call 46; refine (HWB.out _ _ _ D5.out HL2.out).mono ?_; rw [HQ2.out]; rintro e w6 ⟨rfl,d6⟩; have D6:=Lib.hid d6; clear d6 D5 s0 s1 s2 s3 s4)
  | (go_at_call 28; refine (HCR.out _ _ D6.out).mono ?_; rintro e w7 ⟨rfl,d7⟩; have D7:=Lib.hid d7; clear d7 D6)
  | fail)
 clear HNW HWB HPW HCR HHB HQ2 HKD HKP HL0 HL2 e1 e2
 have HRD:Hid (∀ dk W1,KS dk xa xb e3 → DS W W1 D dk → Calls Tryz.prog 44 #[.pointer (some ⟨D,0,none⟩)] W1 fun e w' => ∃ (s:Sv) (a5:Option Addr) (c5:Nat) (a6:Option Addr) (c6:Nat),e = .returned (.tuple #[.agg #[.int .i64 s.n, .int .i64 s.cut, .int .i64 s.job.par, .slice a5 s.job.nodes.length c5, .slice a6 s.states.length c6], .int .i64 0]) ∧ (s = xb ∨ (e3 ≠ 0 ∧ s = xa)) ∧ SvAt w' (.agg #[.int .i64 s.n, .int .i64 s.cut, .int .i64 s.job.par, .slice a5 s.job.nodes.length c5, .slice a6 s.states.length c6]) s ∧ DS W w' D dk):=fun dk W1 hk h => by
  have:=h.read (hk.few HKA.out HKB.out H1.out H2.out).1
  obtain ⟨s,hs,hss⟩:∃ s,dk.readSv = (s,0) ∧ (s = xb ∨ (e3 ≠ 0 ∧ s = xa)):=by
   rcases hk with ⟨h,hp⟩ | ⟨h0,h,hp⟩
   ·exact ⟨xb,h.read HKB.out hp, .inl rfl⟩
   ·exact ⟨xa,h.read HKA.out hp, .inr ⟨h0,rfl⟩⟩
  rw [hs] at this
  refine this.mono ?_
  rintro e w' ⟨a5,c5,a6,c6,rfl,hv,hd,hb⟩
  exact ⟨s,a5,c5,a6,c6,rfl,hss,hv.at_ (fun _ k => k.2),hd⟩
 have HC0:Hid (∀ dk W1,KS dk xa xb e3 → DS W W1 D dk → Calls Tryz.prog 28 #[.pointer (some ⟨D,0,none⟩), .int .i64 0, .int .i64 0] W1 fun e w' => e = .returned (.tuple #[]) ∧ DS W w' D (dk.crash 0 0)):=fun dk W1 hk h => h.crash 0 0 (by have:=(hk.few HKA.out HKB.out H1.out H2.out).2; omega)
 have HSB:Hid (∀ W1 v s,Below W.heap.size W W1 → SvAt W1 v s → Calls Tryz.prog 47 #[v, .agg #[.int .i64 xb.n, .int .i64 xb.cut, .int .i64 xb.job.par, .slice a' xb.job.nodes.length cap', .slice sa' xb.states.length scap']] W1 fun e w' => e = .returned (.bool (s.sameB xb)) ∧ Below W1.heap.size W1 w'):=fun W1 v s hb hv => SvSame_c s xb v _ W1 hv (HXB.out.below (HBW.out _ hb))
 have HSA:Hid (∀ W1 v s,Below W.heap.size W W1 → SvAt W1 v s → Calls Tryz.prog 47 #[v, .agg #[.int .i64 xa.n, .int .i64 xa.cut, .int .i64 xa.job.par, .slice a xa.job.nodes.length cap, .slice sa xa.states.length scap]] W1 fun e w' => e = .returned (.bool (s.sameB xa)) ∧ Below W1.heap.size W1 w'):=fun W1 v s hb hv => SvSame_c s xa v _ W1 hv (HXA.out.below (HBW.out _ hb))
 go_loopw [56] (fun q wr => ∃ (k:Nat) (dk:Dk),q = .int .i64 k ∧ k ≤ 2 ∧ KS dk xa xb e3 ∧ DS W wr D dk) (fun q _ => 2 - (intOf q).toNat)
 case atStart => exact ⟨0,d3,rfl,by decide,HKS.out,D7.out⟩
 case round =>
  obtain ⟨k,dk,rfl,hk,hks,hds⟩:=hrel
  have HK:=Lib.hid hks
  have HD:=Lib.hid hds
  by_cases hlt:k < 2
  ·have f0:decide ((k:Int) < 2) = true:=decide_eq_true (by omega)
   clear hks hds
   go_upto_region 9 with (first
    | (go_at_call 44; refine (HRD.out _ _ HK.out HD.out).mono ?_; rintro e w8 ⟨s,a5,c5,a6,c6,rfl,hss,v8,d8⟩; have D8:=Lib.hid (d8.alloc (.cells #[.int .i64 s.n, .int .i64 s.cut, .int .i64 s.job.par, .slice a5 s.job.nodes.length c5, .slice a6 s.states.length c6] 81)); have V8:=Lib.hid (v8.below ((Below.refl _ _).alloc (Nat.le_refl _) (.cells #[.int .i64 s.n, .int .i64 s.cut, .int .i64 s.job.par, .slice a5 s.job.nodes.length c5, .slice a6 s.states.length c6] 81))); have X8:=Lib.hid (Blk.new w8 #[.int .i64 s.n, .int .i64 s.cut, .int .i64 s.job.par, .slice a5 s.job.nodes.length c5, .slice a6 s.states.length c6] 81); have HSS:=Lib.hid hss; clear v8 d8 hss)
    | fail)
   generalize World.alloc w8 _ = W8 at *
   obtain ⟨k0,k1,k2,k3,k4⟩:=X8.out.d5
   obtain ⟨⟨l0,l1,l2,l3,l4⟩,m0,m1,m2,m3,m4⟩:=And.intro (HBX.out _ D8.out.below).1.d5 (HBX.out _ D8.out.below).2.d5
   have HSB8:=Lib.hid (HSB.out W8 _ s D8.out.below V8.out)
   cases hsb:s.sameB xb
   ·have hsa:Hid (e3 ≠ 0 ∧ s.sameB xa = true):=by
     rcases HSS.out with rfl | ⟨h0,rfl⟩
     ·rw [Sv.sameB_refl] at hsb; cases hsb
     ·exact ⟨h0,Sv.sameB_refl _⟩
    have e3':(e3 == 0) = false:=by simpa using hsa.out.1
    rw [hsb] at HSB8
    clear hsb
    go_wp2_with (first
     | (go_at_call 47; refine HSB8.out.mono ?_; rintro e w9 ⟨rfl,b9⟩; have D9:=Lib.hid (D8.out.keep b9); have V9:=Lib.hid (V8.out.below b9); obtain ⟨q0,q1',q2,q3,q4⟩:=(X8.out.below b9 X8.out.lt).d5; obtain ⟨r0,r1,r2,r3,r4⟩:=(HBX.out _ D9.out.below).1.d5; clear b9 k0 k1 k2 k3 k4 l0 l1 l2 l3 l4 m0 m1 m2 m3 m4 HSB8)
     | (go_at_call 47; refine (HSA.out _ _ s D9.out.below V9.out).mono ?_; rw [hsa.out.2]; rintro e w10 ⟨rfl,b10⟩; have D10:=Lib.hid (D9.out.keep b10); clear b10)
     | (go_at_call 28; refine (HC0.out _ _ HK.out D10.out).mono ?_; rintro e w11 ⟨rfl,d11⟩)
     | fail)
    go_roundw
    case rel => exact ⟨k + 1,_,by go_num,by omega,HK.out.crash,d11⟩
    case measure => simp [intOf]; omega
   ·rw [hsb] at HSB8
    clear hsb
    go_wp2_with (first
     | (go_at_call 47; refine HSB8.out.mono ?_; rintro e w9 ⟨rfl,b9⟩; have D9:=Lib.hid (D8.out.keep b9); clear b9 HSB8)
     | (go_at_call 28; refine (HC0.out _ _ HK.out D9.out).mono ?_; rintro e w11 ⟨rfl,d11⟩)
     | fail)
    go_roundw
    case rel => exact ⟨k + 1,_,by go_num,by omega,HK.out.crash,d11⟩
    case measure => simp [intOf]; omega
  ·have f0:decide ((k:Int) < 2) = false:=decide_eq_false (by omega)
   obtain ⟨l0,l1,l2,l3,l4⟩:=(HBX.out _ hds.below).1.d5
   have e5:((dk.write xa).2 != 50) = true:=by simpa using HK.out.on xa
   have HWA2:=Lib.hid (HWA.out _ _ _ hds (by have:=(hks.few HKA.out HKB.out H1.out H2.out).2; omega))
   generalize dk.write xa = q5 at *
   clear hks hds hlt
   go_wp2_with (first
    | (go_at_call 46; refine HWA2.out.mono ?_; rintro e w9 ⟨rfl,d9⟩; have B9:=Lib.hid (HBW.out _ d9.below); clear d9)
    | (go_at_call 45; refine (HWK.out _ B9.out).mono ?_; rintro e w10 ⟨rfl,b10⟩)
    | fail)
   go_ret
   exact ⟨rfl,B9.out.trans (b10.mono B9.out.size)⟩
end Go.Proofs.YtpkijdkoiecpiaaGreatDoor

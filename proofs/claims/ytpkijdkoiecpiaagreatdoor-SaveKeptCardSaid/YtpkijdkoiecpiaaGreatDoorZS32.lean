/-
  Parts of the proof: P4.
-/
import Derived.Test.YtpkijdkoiecpiaaGreatDoorChecked
import Derived.Deep.MidRow
import Derived.Test.YtpkijdkoiecpiaaGreatDoorZS2
namespace Go.Proofs.YtpkijdkoiecpiaaGreatDoor
open Go.RowKit
set_option linter.unusedVariables false
set_option linter.unusedSimpArgs false
theorem bits_or_comm (k:IntKind) (x y:Int):bits .or k x y = bits .or k y x:=by
 unfold bits
 dsimp only
 rw [BitVec.or_comm]
theorem or16 (a b:Nat) (ha:a < 65521) (hb:b < 65521):bits .or .u64 ((b:Int) * 65536) (a:Int) = 65536 * (b:Int) + a:=by
 rw [bits_or_comm,bits_join_low .u64 64 (by decide) wraps_u64 16 (a:Int) ((b:Int) * 65536) (by omega) (by omega) (by omega) (by omega) (by omega) (by omega)]
 omega
set_option maxHeartbeats 1000000 in
theorem sumMore_c (s:ByteArray) (hs:s.size ≤ 140737488355328) (w:World):Calls Tryz.prog 195 #[.int .u32 1, .string s] w fun e w' => e = .returned (.int .u32 (sumB s.data.toList)) ∧ w = w':=by
 have hlen:s.data.toList.length = s.size:=(Lib.size_eq s).symm
 have HST:Hid (∀ k (h:k < s.size),smL (1,0) (s.data.toList.take (k + 1)) = sm1 (smL (1,0) (s.data.toList.take k)) s[k]):=fun k h => smL_take (1,0) s.data.toList k (by rw [hlen]; exact h)
 have HLT:Hid (∀ k,(smL (1,0) (s.data.toList.take k)).1 < 65521 ∧ (smL (1,0) (s.data.toList.take k)).2 < 65521):=fun k => smL_lt _ _ (by decide) (by decide)
 have HE:Hid (s.data.toList.take s.size = s.data.toList):=by show _ = _; exact List.take_of_length_le (by rw [hlen]; exact Nat.le_refl _)
 have HSB:Hid (sumB s.data.toList = 65536 * (smL (1,0) s.data.toList).2 + (smL (1,0) s.data.toList).1):=rfl
 generalize sumB s.data.toList = R at *
 clear hlen
 go_enter Tryz.func195,Tryz.ntmps195
 go_wp2_with fail
 go_loop [5,6,16] (fun a b q => ∃ k:Nat,q = .int .i64 k ∧ k ≤ s.size ∧ a = .int .u64 ((smL (1,0) (s.data.toList.take k)).1:Nat) ∧ b = .int .u64 ((smL (1,0) (s.data.toList.take k)).2:Nat)) (fun _ _ q => s.size - (intOf q).toNat)
 case atStart => exact ⟨0,rfl,Nat.zero_le _,by rfl,by rfl⟩
 case round =>
  obtain ⟨k,rfl,hk,rfl,rfl⟩:=hrel
  by_cases hlt:k < s.size
  ·have hst:=HST.out k hlt
   have hl1:=HLT.out k
   have HST1:=Lib.hid hst
   have hc8:(s[k]).toNat < 256:=(s[k]).toNat_lt
   clear hst
   generalize smL (1,0) (s.data.toList.take k) = p at *
   generalize hcc:s[k] = c at *
   obtain ⟨a,b⟩:=p
   obtain ⟨ha,hb⟩:=hl1
   dsimp only at ha hb HST1 ⊢
   go_wp2_with fail
   go_round
   case rel =>
    refine ⟨k + 1,by go_num,by omega, ?_, ?_⟩
    ·rw [HST1.out]; simp only [sm1]; congr 1
    ·rw [HST1.out]; simp only [sm1]; congr 1
   case measure => simp [intOf]; omega
  ·obtain rfl:k = s.size:=by omega
   have hl1:=HLT.out s.size
   rw [HE.out] at hl1 ⊢
   generalize smL (1,0) s.data.toList = p at *
   obtain ⟨a,b⟩:=p
   obtain ⟨ha,hb⟩:=hl1
   dsimp only at ha hb HSB ⊢
   go_wp2_with fail
   go_ret
   rw [HSB.out]
   refine ⟨?_,rfl⟩
   have:=or16 a b ha hb
   simp
   omega
set_option maxHeartbeats 1000000 in
theorem sumOf_c (s:ByteArray) (hs:s.size ≤ 140737488355328) (b:Nat) (w:World) (hc:w.cell? ⟨b,0,none⟩ = some (.string s)):Calls Tryz.prog 147 #[.slice (some ⟨b,0,none⟩) 1 1] w fun e w' => e = .returned (.int .u32 (sumB s.data.toList)) ∧ w = w':=by
 have HM:=Lib.hid (sumMore_c s hs w)
 generalize sumB s.data.toList = R at *
 go_enter Tryz.func147,Tryz.ntmps147
 go_wp2_with fail
 refine wp_loop_rounds 2 ?_
 rw [rounds_succ]
 go_wp2_with (first | (go_at_call 195; refine HM.out.mono ?_; rintro e w1 ⟨rfl,rfl⟩) | fail)
 rw [rounds_succ]
 go_wp2_with fail
 go_ret
 exact ⟨rfl,rfl⟩
set_option maxHeartbeats 1000000 in
set_option linter.unusedVariables false in
theorem tail_conv (n:Nat) (hn:n < 4294967296) (w:World) (b:Nat) (t:TypeId) (h:Blk w b t #[.int .u8 ((n:Int) % 256), .int .u8 ((n:Int) / 256 % 256), .int .u8 ((n:Int) / 65536 % 256), .int .u8 ((n:Int) / 16777216)]) :
  (convert 40 9 (.slice (some ⟨b,0,none⟩) 4 4)).run Tryz.prog w = .ok (.string (bstr (tailL n))) w:=by
 refine run_convert_bytes_back w 40 9 5 ⟨b,0,none⟩ 4 (tailL n) Tryz.underlying40 Tryz.underlying5 Tryz.underlying9 ?_
 intro j hj
 rw [Addr.add_mid,Nat.zero_add,h.cell j]
 have hj4:j < 4:=hj
 have e:∀ m:Nat,m < 256 → ((UInt8.ofNat m).toNat:Int) = (m:Int):=fun m hm => by simp; omega
 match j,hj4 with
 | 0,_ => show some (Value.int .u8 _) = some (Value.int .u8 ((UInt8.ofNat (n % 256)).toNat:Int)); rw [e _ (Nat.mod_lt _ (by decide))]; congr 2
 | 1,_ => show some (Value.int .u8 _) = some (Value.int .u8 ((UInt8.ofNat (n / 256 % 256)).toNat:Int)); rw [e _ (Nat.mod_lt _ (by decide))]; congr 2
 | 2,_ => show some (Value.int .u8 _) = some (Value.int .u8 ((UInt8.ofNat (n / 65536 % 256)).toNat:Int)); rw [e _ (Nat.mod_lt _ (by decide))]; congr 2
 | 3,_ => show some (Value.int .u8 _) = some (Value.int .u8 ((UInt8.ofNat (n / 16777216 % 256)).toNat:Int)); rw [e _ (Nat.mod_lt _ (by decide))]; congr 2; omega
set_option maxRecDepth 100000 in
set_option maxHeartbeats 1000000 in
theorem ftail_c (n:Nat) (hn:n < 4294967296) (w:World):Calls Tryz.prog 146 #[.int .u32 n] w fun e w' => e = .returned (.string (bstr (tailL n))) ∧ Below w.heap.size w w':=by
 have hconv:=tail_conv n hn _ _ _ (Blk.new w #[.int .u8 ((n:Int) % 256), .int .u8 ((n:Int) / 256 % 256), .int .u8 ((n:Int) / 65536 % 256), .int .u8 ((n:Int) / 16777216)] 268)
 go_enter Tryz.func146,Tryz.ntmps146
 go_wp2_with fail
 refine wp_loop_rounds 5 ?_
 rw [rounds_succ]
 go_wp2_with fail
 rw [rounds_succ]
 go_wp2_with fail
 rw [rounds_succ]
 go_wp2_with fail
 rw [rounds_succ]
 go_wp2_with fail
 rw [rounds_succ]
 go_wp2_with fail
 go_ret
 exact ⟨rfl,(Below.refl _ _).alloc (Nat.le_refl _) _⟩
end Go.Proofs.YtpkijdkoiecpiaaGreatDoor

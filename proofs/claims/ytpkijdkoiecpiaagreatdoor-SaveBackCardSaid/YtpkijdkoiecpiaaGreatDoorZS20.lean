/-
  Parts of the proof: H3.
-/
import Derived.Test.YtpkijdkoiecpiaaGreatDoorZS6
import Derived.Test.YtpkijdkoiecpiaaGreatDoorZS19
namespace Go.Proofs.YtpkijdkoiecpiaaGreatDoor
open Go.RowKit
set_option linter.unusedVariables false
set_option linter.unusedSimpArgs false
def TP (w:World) (be bs:Nat) (p:Tb):Prop:=PS w be bs ⟨p.s,p.e⟩
theorem TP.fr {w w':World} {be bs:Nat} {p:Tb} {S:Nat → Prop} (h:TP w be bs p) (hf:Fr S w w') (h1 : ¬ S be) (h2 : ¬ S bs):TP w' be bs p:=⟨PS.E h |>.fr hf h1,PS.S h |>.fr hf h2⟩
theorem Tb.num_size (a b:Int) (p:Tb):(p.num a b).2.s.size ≤ p.s.size:=by
 unfold Tb.num
 repeat' split
 ·exact Nat.le_refl _
 ·exact Nat.le_refl _
 ·exact cut_size _ _
 ·exact cut_size _ _
theorem Tb.num_ir (a b:Int) (ha : -9223372036854775808 ≤ a) (hab:a ≤ b) (hb:b ≤ 9223372036854775807) (p:Tb):a ≤ (p.num a b).1 ∧ (p.num a b).1 ≤ b:=by
 unfold Tb.num
 repeat' split
 ·exact ⟨Int.le_refl _,hab⟩
 ·exact ⟨Int.le_refl _,hab⟩
 ·exact ⟨Int.le_refl _,hab⟩
 ·dsimp only; omega
set_option maxHeartbeats 1000000 in
theorem tnum_c (be bs:Nat) (hne:be ≠ bs) (p:Tb) (least most:Int) (hs:p.s.size ≤ 140737488355328) (w:World) (h:TP w be bs p) :
  Calls Tryz.prog 198 #[.int .i64 least, .int .i64 most, .pointer (some ⟨be,0,none⟩), .pointer (some ⟨bs,0,none⟩)] w fun e w' => e = .returned (.int .i64 (p.num least most).1) ∧ TP w' be bs (p.num least most).2 ∧ Fr (FrS be bs) w w':=by
 have hE:Blk w be 27 #[.int .i64 p.e]:=PS.E h
 have hS:Blk w bs 9 #[.string p.s]:=PS.S h
 have c0:=hE.cell 0
 have f0:=hE.free 0
 have d0:=hS.cell 0
 have g0:=hS.free 0
 by_cases he:p.e = 0
 ·have he':(p.e != 0) = false:=by simpa using he
  obtain ⟨k,hk,hks,_,_⟩:=takeS_size p.s
  have HTK:Hid (∀ W:World,Calls Tryz.prog 90 #[.string p.s] W fun e w' => e = .returned (.tuple #[.int .i64 (takeS p.s).1, .int .i64 (takeS p.s).2.1, .int .i64 (takeS p.s).2.2]) ∧ W = w'):=fun W => Take_c p.s hs W
  have HF:Hid (p.num least most = if (takeS p.s).2.2 ≠ 0 then (least,⟨p.s,(takeS p.s).2.2⟩) else if (takeS p.s).1 < least ∨ most < (takeS p.s).1 then (least,⟨p.s.extract (takeS p.s).2.1.toNat p.s.size,21⟩) else ((takeS p.s).1,⟨p.s.extract (takeS p.s).2.1.toNat p.s.size,0⟩)):=by
   show _ = _
   unfold Tb.num
   rw [if_neg (by simpa using he)]
  rw [hk] at HTK HF
  rw [Int.toNat_natCast] at HF
  generalize (takeS p.s).1 = n at *
  generalize (takeS p.s).2.2 = er at *
  generalize p.num least most = R at *
  have hkI:(k:Int) ≤ (p.s.size:Int):=by omega
  have hE1:=hE.set 0 (.int .i64 er)
  have hS1:=hS.other (p:=⟨be,0,none⟩) (Ne.symm hne) (.int .i64 er)
  have hF1:Fr (FrS be bs) w (w.setCell ⟨be,0,none⟩ (.int .i64 er)):=(Fr.refl _ w).setCell (p:=⟨be,0,none⟩) (.inl (.inl rfl)) _
  by_cases h1:er = 0
  ·have h1':(er != 0) = false:=by simpa using h1
   subst h1
   rw [if_neg (by simp)] at HF
   clear hk he
   have c1:=hE1.cell 0
   have d1:=hS1.cell 0
   have g1:=hS1.free 0
   have hS2:=hS1.set 0 (.string (p.s.extract k p.s.size))
   have hE2:=hE1.other (p:=⟨bs,0,none⟩) hne (.string (p.s.extract k p.s.size))
   have hF2:=hF1.setCell (p:=⟨bs,0,none⟩) (.inl (.inr rfl)) (.string (p.s.extract k p.s.size))
   have f2:=hE2.free 0
   have c2:=hE2.cell 0
   have hE3:=hE2.set 0 (.int .i64 21)
   have hS3:=hS2.other (p:=⟨be,0,none⟩) (Ne.symm hne) (.int .i64 21)
   have hF3:=hF2.setCell (p:=⟨be,0,none⟩) (.inl (.inl rfl)) (.int .i64 21)
   by_cases h2:n < least
   ·have h2':decide (n < least) = true:=decide_eq_true h2
    rw [if_pos (.inl h2)] at HF
    clear h2
    go_enter Tryz.func198,Tryz.ntmps198
    go_wp2_with (first | (go_at_call 90; refine (HTK.out _).mono ?_; rintro e w1 ⟨rfl,rfl⟩) | fail)
    go_ret
    rw [HF.out]
    exact ⟨rfl,⟨hE3,hS3⟩,hF3⟩
   ·have h2':decide (n < least) = false:=decide_eq_false h2
    by_cases h3:most < n
    ·have h3':decide (most < n) = true:=decide_eq_true h3
     rw [if_pos (.inr h3)] at HF
     clear h2 h3
     go_enter Tryz.func198,Tryz.ntmps198
     go_wp2_with (first | (go_at_call 90; refine (HTK.out _).mono ?_; rintro e w1 ⟨rfl,rfl⟩) | fail)
     go_ret
     rw [HF.out]
     exact ⟨rfl,⟨hE3,hS3⟩,hF3⟩
    ·have h3':decide (most < n) = false:=decide_eq_false h3
     rw [if_neg (by omega)] at HF
     clear h2 h3
     go_enter Tryz.func198,Tryz.ntmps198
     go_wp2_with (first | (go_at_call 90; refine (HTK.out _).mono ?_; rintro e w1 ⟨rfl,rfl⟩) | fail)
     go_ret
     rw [HF.out]
     exact ⟨rfl,⟨hE2,hS2⟩,hF2⟩
  ·have h1':(er != 0) = true:=by simpa using h1
   rw [if_pos h1] at HF
   clear h1 hk he
   have c1:=hE1.cell 0
   go_enter Tryz.func198,Tryz.ntmps198
   go_wp2_with (first | (go_at_call 90; refine (HTK.out _).mono ?_; rintro e w1 ⟨rfl,rfl⟩) | fail)
   go_ret
   rw [HF.out]
   exact ⟨rfl,⟨hE1,hS1⟩,hF1⟩
 ·have he':(p.e != 0) = true:=by simpa using he
  have HF:=Lib.hid (Tb.num_err (least:=least) (most:=most) he)
  clear he
  go_enter Tryz.func198,Tryz.ntmps198
  go_wp2_with fail
  go_ret
  rw [HF.out]
  exact ⟨rfl,h,Fr.refl _ _⟩
end Go.Proofs.YtpkijdkoiecpiaaGreatDoor

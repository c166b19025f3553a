/-
  Parts of the proof: B4.
-/
import Derived.Test.YtpkijdkoiecpiaaGreatDoorSF
import Derived.Test.YtpkijdkoiecpiaaGreatDoorZS2
import Derived.Test.YtpkijdkoiecpiaaGreatDoorZS7
import Derived.Test.YtpkijdkoiecpiaaGreatDoorZS10
namespace Go.Proofs.YtpkijdkoiecpiaaGreatDoor
open Go.RowKit
set_option linter.unusedVariables false
set_option linter.unusedSimpArgs false
theorem Sl.oneB {w:World} {b:Nat} {t:TypeId} {x:Value} (h:Blk w b t #[x]):Sl w w.heap.size 1 (.slice (some ⟨b,0,none⟩) 1 1) 1 [x] :=
 ⟨rfl,_,1,rfl,Nat.le_refl _,by unfold maxLen; omega, .inr ⟨b,0,rfl,h.lt,fun j hj => by rw [Nat.zero_add,h.cell]; simp⟩⟩
set_option maxHeartbeats 1000000 in
theorem PutText_c (u:ByteArray) (hu:u.size ≤ 65536) (w:World):Calls Tryz.prog 117 #[.string u] w fun e w' => e = .returned (.tuple #[.string ⟨(txtL u).toArray⟩, .int .i64 0]) ∧ Below w.heap.size w w':=by
 have hg : ¬ (65536:Int) < (u.size:Int):=by omega
 have hr:∀ z ∈ [(u.size:Int)], -9223372036854775808 ≤ z ∧ z ≤ 9223372036854775807:=by intro z hz; simp at hz; subst hz; omega
 have hpl:(putL [(u.size:Int)]).length ≤ 10:=putL_len [(u.size:Int)] hr
 have HR:=Lib.hid hr
 clear hr
 have HE:Hid (txtL u = putL [(u.size:Int)] ++ u.data.toList):=by
  show _ = _
  unfold txtL putL
  simp
 generalize hp:putL [(u.size:Int)] = p at *
 have HP:=Lib.hid hp
 clear hp
 go_enter Tryz.func117,Tryz.ntmps117
 go_wp2_with fail
 refine (PutB_c [(u.size:Int)] 1 _ _ _ (Sl.oneB (Blk.new w #[.int .i64 (u.size:Int)] 2)) rfl (Nat.le_refl _) HR.out (by omega)).mono ?_
 rw [HP.out]
 rintro e w1 ⟨rfl,hb1⟩
 have hB1:Below w.heap.size w w1:=((Below.refl w.heap.size w).alloc (Nat.le_refl _) _).trans (hb1.mono (by simp))
 go_wp2_with fail
 have hbk:=Blk.new w1 #[.string ⟨p.toArray⟩, .string u] 9
 have hj2:Lib.join ([⟨p.toArray⟩,u].map (·.data.toList)) ({ data:=#[] }:ByteArray).data.toList = p ++ u.data.toList:=by simp [Lib.join,List.intercalate]
 refine (Tryz.strings_Join w1.heap.size 0 2 [⟨p.toArray⟩,u] { data:=#[] } _ (fun j x hj => ?_) (by simp) (by simp) (by simp) ?_).mono ?_
 ·rw [Nat.zero_add,hbk.cell j]
  have:j < 2:=(List.getElem?_eq_some_iff.1 hj).1
  have hj2:j = 0 ∨ j = 1:=by omega
  rcases hj2 with rfl | rfl
  ·simp at hj; subst hj; rfl
  ·simp at hj; subst hj; rfl
 ·rw [hj2]
  rw [List.length_append]
  have:=Lib.size_eq u
  omega
 ·rintro e w2 ⟨rfl,hb2⟩
  rw [hj2]
  go_wp2_with fail
  go_ret2
  refine ⟨?_,hB1.trans (((Below.refl w1.heap.size w1).alloc (Nat.le_refl _) _).trans (hb2.mono (by simp)) |>.mono hB1.size)⟩
  rw [HE.out]
  rfl
set_option maxHeartbeats 1000000 in
theorem TakeText_c (s:ByteArray) (hs:s.size ≤ 140737488355328) (w:World):Calls Tryz.prog 92 #[.string s] w fun e w' => e = .returned (.tuple #[.string (takeT s).1, .int .i64 (takeT s).2.1, .int .i64 (takeT s).2.2]) ∧ w = w':=by
 have HE:Hid (takeT s = if (takeS s).2.2 ≠ 0 then (.empty,0,(takeS s).2.2) else if (takeS s).1 < 0 then (.empty,0,21) else if 65536 < (takeS s).1 then (.empty,0,3)
  else if (s.size:Int) < (takeS s).2.1 + (takeS s).1 then (.empty,0,20) else (s.extract (takeS s).2.1.toNat ((takeS s).2.1.toNat + (takeS s).1.toNat),(takeS s).2.1 + (takeS s).1,0)):=rfl
 have HTK:Hid (∀ W:World,Calls Tryz.prog 90 #[.string s] W fun e w' => e = .returned (.tuple #[.int .i64 (takeS s).1, .int .i64 (takeS s).2.1, .int .i64 (takeS s).2.2]) ∧ W = w'):=fun W => Take_c s hs W
 have hback:(takeS s).2.2 = 0 → ∃ k:Nat,(takeS s).2.1 = (k:Int) ∧ k ≤ s.size ∧ -9223372036854775808 ≤ (takeS s).1 ∧ (takeS s).1 ≤ 9223372036854775807:=fun h => by
  have e:tkGo 0 0 s.data.toList = ((takeS s).1,(takeS s).2.1,0):=by rw [← h]; rfl
  obtain ⟨k,h1,h2,_,_,h5,h6⟩:=take_back e
  exact ⟨k,h1,by rw [← Lib.size_eq] at h2; exact h2,h5,h6⟩
 generalize takeT s = R at *
 generalize takeS s = q at *
 obtain ⟨n,sz,er⟩:=q
 dsimp only at HE HTK hback
 by_cases he:er = 0
 ·subst he
  obtain ⟨k,rfl,hk,hn1,hn2⟩:=hback rfl
  have HE2:=HE.out
  rw [if_neg (by simp)] at HE2
  clear HE hback
  by_cases c1:n < 0
  ·rw [if_pos c1] at HE2
   have HR:=Lib.hid HE2
   clear HE2
   have d1:decide (n < 0) = true:=decide_eq_true c1
   go_enter Tryz.func92,Tryz.ntmps92
   go_wp2_with fail
   refine (HTK.out _).mono ?_
   rintro e w1 ⟨rfl,rfl⟩
   go_wp2_with fail
   go_ret3
   rw [HR.out]
   exact ⟨rfl,rfl⟩
  ·rw [if_neg c1] at HE2
   have d1:decide (n < 0) = false:=decide_eq_false c1
   by_cases c2:65536 < n
   ·rw [if_pos c2] at HE2
    have HR:=Lib.hid HE2
    clear HE2
    have d2:decide (65536 < n) = true:=decide_eq_true c2
    go_enter Tryz.func92,Tryz.ntmps92
    go_wp2_with fail
    refine (HTK.out _).mono ?_
    rintro e w1 ⟨rfl,rfl⟩
    go_wp2_with fail
    go_ret3
    rw [HR.out]
    exact ⟨rfl,rfl⟩
   ·rw [if_neg c2] at HE2
    obtain ⟨m,rfl⟩:∃ m:Nat,n = (m:Int):=⟨n.toNat,by omega⟩
    by_cases c3:(s.size:Int) < (k:Int) + (m:Int)
    ·rw [if_pos c3] at HE2
     have HR:=Lib.hid HE2
     clear HE2
     have d2 : ¬ (65536:Int) < (m:Int):=c2
     have d3:(s.size:Int) - (k:Int) < (m:Int):=by omega
     go_enter Tryz.func92,Tryz.ntmps92
     go_wp2_with fail
     refine (HTK.out _).mono ?_
     rintro e w1 ⟨rfl,rfl⟩
     go_wp2_with fail
     go_ret3
     rw [HR.out]
     exact ⟨rfl,rfl⟩
    ·rw [if_neg c3] at HE2
     have HR:=Lib.hid HE2
     clear HE2
     have d2 : ¬ (65536:Int) < (m:Int):=c2
     have d3 : ¬ (s.size:Int) - (k:Int) < (m:Int):=by omega
     have d4:k + m ≤ s.size:=by omega
     go_enter Tryz.func92,Tryz.ntmps92
     go_wp2_with fail
     refine (HTK.out _).mono ?_
     rintro e w1 ⟨rfl,rfl⟩
     go_wp2_with fail
     go_ret3
     rw [HR.out]
     exact ⟨rfl,rfl⟩
 ·have HE2:=HE.out
  rw [if_pos he] at HE2
  have HR:=Lib.hid HE2
  clear HE HE2 hback
  have d1:(er != 0) = true:=by simpa using he
  go_enter Tryz.func92,Tryz.ntmps92
  go_wp2_with fail
  refine (HTK.out _).mono ?_
  rintro e w1 ⟨rfl,rfl⟩
  go_wp2_with fail
  go_ret3
  rw [HR.out]
  exact ⟨rfl,rfl⟩
end Go.Proofs.YtpkijdkoiecpiaaGreatDoor

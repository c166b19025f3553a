/-
  Parts of the proof: C2.
-/
import Derived.Test.YtpkijdkoiecpiaaGreatDoorZS1
import Derived.Test.YtpkijdkoiecpiaaGreatDoorZS19
import Derived.Test.YtpkijdkoiecpiaaGreatDoorZS24
namespace Go.Proofs.YtpkijdkoiecpiaaGreatDoor
open Go.RowKit
set_option linter.unusedVariables false
set_option linter.unusedSimpArgs false
mutual
theorem Ex.by_count:∀ (x:Ex) (left:Nat),x.ok → left ≤ 1001 → 1 ≤ x.count left → x.by.length ≤ 30 * (left - x.count left) ∧ 1 ≤ left - x.count left
 | .mk o n l,left,hok,hl,h => by
  simp only [Ex.count] at h ⊢
  by_cases h0:0 < left
  ·rw [if_pos h0] at h ⊢
   obtain ⟨h1,h2⟩:=Exs.by_count l (left - 1) hok.2.2.2.2 (by omega) h
   have h3:=Exs.count_le l (left - 1)
   have h4:(putL [o,n,(l.length:Int)]).length ≤ 30:=by
    refine putL_len [o,n,(l.length:Int)] ?_
    intro z hz
    simp only [List.mem_cons,List.not_mem_nil,or_false] at hz
    have:=hok.1; have:=hok.2.1; have:=hok.2.2.1; have:=hok.2.2.2.1
    rcases hz with rfl | rfl | rfl <;> omega
   simp only [Ex.by,List.length_append]
   omega
  ·rw [if_neg h0] at h
   omega
theorem Exs.by_count:∀ (l:List Ex) (left:Nat),Exs.ok l → left ≤ 1001 → 1 ≤ Exs.count l left → (Exs.by l).length ≤ 30 * (left - Exs.count l left) ∧ l.length ≤ left - Exs.count l left
 | [],left,_,_,h => by simp [Exs.by,Exs.count]
 | x :: l,left,hok,hl,h => by
  simp only [Exs.count] at h ⊢
  have h3:=Exs.count_le l (x.count left)
  have h4:=Ex.count_le x left
  obtain ⟨h1,h2⟩:=Ex.by_count x left hok.1 hl (by omega)
  obtain ⟨h5,h6⟩:=Exs.by_count l (x.count left) hok.2 (by omega) h
  simp only [Exs.by,List.length_append,List.length_cons]
  omega
end
theorem nodes_by_count:∀ (l:List Nd) (left:Nat),(∀ d ∈ l,d.x.ok) → left ≤ 1001 → 1 ≤ countGo l left → ∀ d ∈ l,d.x.by.length ≤ 30030
 | d :: l,left,hok,hl,h,e,he => by
  simp only [countGo] at h
  have h3:=countGo_le l (d.x.count left)
  have h4:=Ex.count_le d.x left
  rcases List.mem_cons.1 he with rfl | he
  ·have:=(Ex.by_count e.x left (hok e (by simp)) hl (by omega)).1
   omega
  ·exact nodes_by_count l _ (fun f hf => hok f (by simp [hf])) (by omega) h e he
theorem decode_width4 (s:ByteArray) (i:Nat):(Utf8.decode s i).2 ≤ 4:=by
 rw [decode_eq]
 repeat' split
 all_goals simp
theorem runesAt_size (s:ByteArray):∀ n i,s.size - i = n → s.size - i ≤ 4 * (runesAt s i).length:=by
 intro n
 induction n using Nat.strongRecOn with
 | ind n ih =>
  intro i hi
  by_cases h:i < s.size
  ·rw [runesAt_step s i h,List.length_cons]
   have hw:=Lib.decode_width_pos s i h
   have h4:=decode_width4 s i
   have:=ih (s.size - (i + (Utf8.decode s i).2)) (by omega) _ rfl
   omega
  ·omega
theorem nameGo_len:∀ (rs:List Int) (n:Nat),nameGo n rs = true → n + rs.length ≤ 24
 | [],n,h => by
  simp only [nameGo] at h
  have:=of_decide_eq_true h
  simp
  omega
 | r :: rs,n,h => by
  simp only [nameGo] at h
  split at h
  ·simp at h
  ·have:=nameGo_len rs (n + 1) h
   rw [List.length_cons]
   omega
theorem name_size {u:ByteArray} (h:nameB u = true):u.size ≤ 96:=by
 have h1:=nameGo_len _ _ h
 have h2:=runesAt_size u _ 0 rfl
 unfold runes at h1
 omega
structure NdSmall (d:Nd):Prop where
 uid:d.uid.size ≤ 96
 ins:d.ins.length ≤ 3
 x:d.x.by.length ≤ 30030
theorem good_small {j:Jb} (hok:j.ok) (h:j.may.2 = 0):(∀ d ∈ j.nodes,NdSmall d) ∧ j.nodes.length ≤ 12 ∧ 1 ≤ j.par ∧ j.par ≤ 4:=by
 have g:=may_good j h
 refine ⟨fun d hd => ?_,g.n2,g.p1,g.p2⟩
 obtain ⟨i,hi,rfl⟩:=List.mem_iff_getElem.1 hd
 have hn:=g.node i hi
 have hin:=nodeB_in _ _ hn
 have hp:=g.pa
 have hx:=nodes_by_count j.nodes 1001 (fun e he => (hok.2.2 e he).2.2.2.1) (Nat.le_refl _) (by unfold Jb.parts at hp; omega) _ hd
 refine ⟨name_size ?_,hin.1,hx⟩
 unfold nodeB at hn
 simp only [Bool.and_eq_true] at hn
 exact hn.1
theorem Nd.by_len {d:Nd} (h:NdSmall d) (hok:d.ok):d.by.length ≤ 40000:=by
 obtain ⟨k1,k2,k3,k4,k5,k6⟩:=hok
 have h1:=h.uid
 have h2:=h.ins
 have h3:=h.x
 have h4:(putL [d.kind,d.n,(d.ins.length:Int)]).length ≤ 30:=by
  refine putL_len [d.kind,d.n,(d.ins.length:Int)] ?_
  intro z hz
  simp only [List.mem_cons,List.not_mem_nil,or_false] at hz
  rcases hz with rfl | rfl | rfl <;> omega
 have h5:=putL_len d.ins k3
 have h6:=putN_len (d.uid.size:Int) (by omega) (by omega)
 have h7:=Lib.size_eq d.uid
 unfold Nd.by txtL
 simp only [List.length_append]
 omega
end Go.Proofs.YtpkijdkoiecpiaaGreatDoor

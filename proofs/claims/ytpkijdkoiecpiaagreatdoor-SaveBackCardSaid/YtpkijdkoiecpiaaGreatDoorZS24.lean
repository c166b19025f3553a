/-
  Parts of the proof: J13.
-/
import Derived.Test.YtpkijdkoiecpiaaGreatDoorZS18
import Derived.Test.YtpkijdkoiecpiaaGreatDoorZS23
namespace Go.Proofs.YtpkijdkoiecpiaaGreatDoor
open Go.RowKit
set_option linter.unusedVariables false
set_option linter.unusedSimpArgs false
theorem st1_err:∀ (l:List Nd) (k:Nat) (us:List ByteArray) (r:Int × Int),st1 l k us = some r → r.2 ≠ 0
 | d :: l,k,us,r,h => by
  simp only [st1] at h
  cases hn:nodeB d k
  ·rw [hn] at h; simp only [cond_false,Option.some.injEq] at h; subst h; simp
  ·rw [hn] at h
   cases ht:twiceB (fun x y => decide (x = y)) (us ++ [d.uid])
   ·rw [ht] at h
    exact st1_err l (k + 1) _ r h
   ·rw [ht] at h; simp only [cond_true,Option.some.injEq] at h; subst h; simp
theorem st2_err (j:Jb):∀ (l:List Nd) (k:Nat) (f:Int) (ws:List Int) (r:Int × Int),st2 j l k f ws = some r → r.2 ≠ 0
 | d :: l,k,f,ws,r,h => by
  simp only [st2] at h
  cases hn:badB j d k (flatN d f) (wayN d ws)
  ·rw [hn] at h; exact st2_err j l (k + 1) _ _ r h
  ·rw [hn] at h; simp only [cond_true,Option.some.injEq] at h; subst h; simp
structure Jb.Good (j:Jb):Prop where
 p1:1 ≤ j.par
 p2:j.par ≤ 4
 n1:2 ≤ j.nodes.length
 n2:j.nodes.length ≤ 12
 pa:j.parts ≤ 1000
 s1:st1 j.nodes 0 [] = none
 s2:st2 j j.nodes 0 0 [] = none
theorem may_good (j:Jb) (h:j.may.2 = 0):j.Good:=by
 rcases argB_cases j with ⟨hr,_⟩ | ⟨hr,h1,h2,h3,h4,h5⟩
 ·rw [may_len j h] at hr; cases hr
 ·unfold Jb.may at h
  rw [if_neg (by rw [hr]; simp)] at h
  cases e1:st1 j.nodes 0 [] with
  | some r => rw [e1] at h; exact (st1_err _ _ _ _ e1 h).elim
  | none =>
   rw [e1] at h
   cases e2:st2 j j.nodes 0 0 [] with
   | some r => simp only [e2] at h; exact (st2_err _ _ _ _ _ _ e2 h).elim
   | none => exact ⟨h1,h2,h3,h4,h5,e1,e2⟩
theorem Jb.Good.node {j:Jb} (h:j.Good) (i:Nat) (hi:i < j.nodes.length):nodeB (j.nodes[i]'hi) (i:Int) = true:=by
 have:=st1_node j.nodes 0 [] h.s1 i hi
 simpa using this
theorem nodeB_tw (d:Nd) (k:Nat) (h:nodeB d k = true):twiceB (fun x y => x == y) d.ins = false:=by
 rcases nodeB_cases d k with ⟨_,hr⟩ | ⟨_,_,hr⟩ | ⟨_,_,_,hr⟩ | ⟨_,_,_,_,hr⟩ | ⟨_,_,_,_,_,hr⟩ | ⟨_,_,_,_,_,_,hr⟩ | ⟨_,_,_,_,_,_,_,hr⟩ | ⟨_,_,_,_,_,_,_,_,hr⟩ | ⟨_,_,_,_,_,_,_,_,_,hr⟩ | ⟨h1,h2,h3,h4,h5,h6,h7,h8⟩ | ⟨h1,h2,h3,h4,h5,h6,h7,h8⟩
 all_goals first
  | (rw [h] at hr; cases hr)
  | exact h6
theorem Jb.Good.ins {j:Jb} (h:j.Good):∀ d ∈ j.nodes,twiceB (fun x y => x == y) d.ins = false ∧ ∀ z ∈ d.ins,0 ≤ z ∧ z < (j.nodes.length:Int):=by
 intro d hd
 obtain ⟨i,hi,rfl⟩:=List.mem_iff_getElem.1 hd
 have hn:=h.node i hi
 refine ⟨nodeB_tw _ _ hn,fun z hz => ?_⟩
 have:=(nodeB_in _ _ hn).2.2.2 z hz
 omega
end Go.Proofs.YtpkijdkoiecpiaaGreatDoor

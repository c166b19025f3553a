/-
  Parts of the proof: N1 N7 NC.
-/
import Derived.Test.YtpkijdkoiecpiaaGreatDoorZS18
import Derived.Test.YtpkijdkoiecpiaaGreatDoorZS38
import Derived.Test.YtpkijdkoiecpiaaGreatDoorZS42
import Derived.Test.YtpkijdkoiecpiaaGreatDoorZS44
namespace Go.Proofs.YtpkijdkoiecpiaaGreatDoor
open Go.RowKit
set_option linter.unusedVariables false
set_option linter.unusedSimpArgs false
def kindOf (u:ByteArray):Int:=max (idxZ (fun y => decide (u = y)) wordL 0) 0
theorem idxZ_lt {α:Type} (p:α → Bool):∀ (l:List α) (k:Nat),idxZ p l k = -1 ∨ idxZ p l k < (k:Int) + l.length
 | [],k => .inl rfl
 | y :: l,k => by
  have:=idxZ_lt p l (k + 1)
  simp only [idxZ,List.length_cons]
  cases p y <;> simp only [cond_true,cond_false] <;> omega
theorem kindOf_le (u:ByteArray):0 ≤ kindOf u ∧ kindOf u ≤ 9:=by
 have h:=idxZ_lt (fun y => decide (u = y)) wordL 0
 have hl:wordL.length = 10:=rfl
 rw [hl] at h
 refine ⟨Int.le_max_right _ _,Int.max_le.2 ⟨?_,by decide⟩⟩
 omega
def insGo (j:Jb):List Int → List ByteArray → Option (List Int)
 | acc,[] => some acc
 | acc,u :: l => if j.find u < 0 then none else insGo j (acc ++ [j.find u]) l
def ndTail (k:Int) (r:List ByteArray):Option (Int × List ByteArray) :=
 if k = 7 then (if r.length = 0 then none else bif (numB (r.getD (r.length - 1) .empty) 2).2 then some ((numB (r.getD (r.length - 1) .empty) 2).1,r.take (r.length - 1)) else none) else some (0,r)
def pNd (j:Jb) (l:List ByteArray):Option Nd:=match l with
 | u :: k :: r => match ndTail (kindOf k) r with
  | none => none
  | some q => match insGo j [] q.2 with
   | none => none
   | some is => if kindOf k = 0 then none else some ⟨u,kindOf k,is,Ex.zero,q.1⟩
 | _ => none
def parW:ByteArray:={ data:=#[112,97,114] }
def pLine (j:Jb) (s:ByteArray) (first:Bool):Jb × Int :=
  if (wordsB (ba (aheadL s))).2 ≠ 0 then (j,(wordsB (ba (aheadL s))).2) else
  if first = true then
    match (wordsB (ba (aheadL s))).1 with
    | [a,b] => if a ≠ parW ∨ hasColon s = true then (j,130) else bif (numB b 1).2 then (⟨(numB b 1).1,j.nodes⟩,0) else (j,130)
    | _ => (j,130)
  else match pNd j (wordsB (ba (aheadL s))).1 with
    | none => (j,130)
    | some d => if hasK d.kind ≠ hasColon s then (j,130) else
      if hasColon s = true then
        (if (parse (ba (Lib.trimLeftS (behindL s) [32,9]))).2.2 ≠ 0 then (j,(parse (ba (Lib.trimLeftS (behindL s) [32,9]))).2.2)
         else (⟨j.par,j.nodes ++ [⟨d.uid,d.kind,d.ins,(parse (ba (Lib.trimLeftS (behindL s) [32,9]))).1,d.n⟩]⟩,0))
      else (⟨j.par,j.nodes ++ [d]⟩,0)
def pGo:List ByteArray → Nat → Jb → List Int → Bool → Except (Int × Int) (Jb × List Int × Bool)
 | [],_,j,at_,first => .ok (j,at_,first)
 | t :: l,i,j,at_,first => bif silentB t then pGo l (i + 1) j at_ first else
  if (pLine j t first).2 ≠ 0 then .error (((i + 1:Nat):Int),(pLine j t first).2)
  else pGo l (i + 1) (pLine j t first).1 (bif first then at_ else at_ ++ [((i + 1:Nat):Int)]) false
def Jb.zero:Jb:=⟨0,[]⟩
def pEnd (j:Jb) (at_:List Int) (first:Bool):Jb × Int × Int :=
 bif first then (Jb.zero,0,130) else if j.may.2 = 2 then (Jb.zero,0,2) else if j.may.2 ≠ 0 then (Jb.zero,at_.getD j.may.1.toNat 0,j.may.2) else (j,0,0)
def pRes:Except (Int × Int) (Jb × List Int × Bool) → Jb × Int × Int
 | .error q => (Jb.zero,q.1,q.2)
 | .ok q => pEnd q.1 q.2.1 q.2.2
def pScript (s:ByteArray):Jb × Int × Int:=if 65536 < s.size then (Jb.zero,0,3) else pRes (pGo (linesB s) 0 Jb.zero [] true)
theorem splitB_size (sep:ByteArray):∀ (k:Nat) (s:ByteArray),∀ x ∈ Lib.splitB sep 0 k s,x.size ≤ s.size
 | 0,s,x,hx => by simp [Lib.splitB] at hx; subst hx; exact Nat.le_refl _
 | k + 1,s,x,hx => by
  unfold Lib.splitB at hx
  split at hx
  ·simp at hx; subst hx; exact Nat.le_refl _
  ·rcases List.mem_cons.1 hx with rfl | hx
   ·rw [ByteArray.size_extract]; omega
   ·have:=splitB_size sep k _ x hx
    rw [ByteArray.size_extract] at this; omega
theorem lines_len (s:ByteArray):(linesB s).length = Lib.countB s nlB + 1:=Lib.splitB_all nlB (by decide) 0 _ s rfl
theorem lines_le (s:ByteArray):(linesB s).length ≤ s.size + 1:=by
 rw [lines_len]
 have:=Lib.countB_le nlB (by decide) s.size s (Nat.le_refl _)
 omega
theorem lines_size (s:ByteArray):∀ x ∈ linesB s,x.size ≤ s.size:=splitB_size nlB _ s
theorem pl_first (j:Jb) (t:ByteArray):(pLine j t true).1.nodes = j.nodes:=by
 unfold pLine
 split
 ·rfl
 ·rw [if_pos rfl]
  split
  ·split
   ·rfl
   ·cases (numB _ 1).2 <;> rfl
  ·rfl
theorem pl_more (j:Jb) (t:ByteArray) (h:(pLine j t false).2 = 0):(pLine j t false).1.nodes.length = j.nodes.length + 1:=by
 revert h
 unfold pLine
 split
 ·intro h; contradiction
 ·rw [if_neg (fun h => by cases h)]
  split
  ·intro h; exact absurd h (show ¬ (130:Int) = 0 by decide)
  ·split
   ·intro h; exact absurd h (show ¬ (130:Int) = 0 by decide)
   ·split
    ·split
     ·intro h; contradiction
     ·intro _; simp
    ·intro _; simp
theorem st1_at:∀ (l:List Nd) (k:Nat) (us:List ByteArray) (r:Int × Int),st1 l k us = some r → (k:Int) ≤ r.1 ∧ r.1 < (k:Int) + l.length
 | d :: l,k,us,r,h => by
  simp only [st1] at h
  have hl:((d :: l).length:Int) = (l.length:Int) + 1:=by simp
  rw [hl]
  cases hn:nodeB d k
  ·rw [hn] at h; simp only [cond_false,Option.some.injEq] at h; subst h; dsimp only; omega
  ·rw [hn] at h
   cases ht:twiceB (fun x y => decide (x = y)) (us ++ [d.uid])
   ·rw [ht] at h
    have:=st1_at l (k + 1) _ r h
    omega
   ·rw [ht] at h; simp only [cond_true,Option.some.injEq] at h; subst h; dsimp only; omega
theorem st2_at (j:Jb):∀ (l:List Nd) (k:Nat) (f:Int) (ws:List Int) (r:Int × Int),st2 j l k f ws = some r → (k:Int) ≤ r.1 ∧ r.1 < (k:Int) + l.length
 | d :: l,k,f,ws,r,h => by
  simp only [st2] at h
  have hl:((d :: l).length:Int) = (l.length:Int) + 1:=by simp
  rw [hl]
  cases hn:badB j d k (flatN d f) (wayN d ws)
  ·rw [hn] at h
   have:=st2_at j l (k + 1) _ _ r h
   omega
  ·rw [hn] at h; simp only [cond_true,Option.some.injEq] at h; subst h; dsimp only; omega
theorem may_at (j:Jb) (h:j.may.2 ≠ 0) (h2:j.may.2 ≠ 2):0 ≤ j.may.1 ∧ j.may.1 < (j.nodes.length:Int):=by
 revert h h2
 unfold Jb.may
 split
 ·intro _ h; exact absurd rfl h
 ·cases e1:st1 j.nodes 0 [] with
  | some r =>
   intro _ _
   have:=st1_at _ _ _ _ e1
   dsimp only; omega
  | none =>
   dsimp only
   cases e2:st2 j j.nodes 0 0 [] with
   | some r =>
    intro _ _
    have:=st2_at j _ _ _ _ _ e2
    dsimp only; omega
   | none => intro h; exact absurd rfl h
theorem find_lt (j:Jb) (u:ByteArray):j.find u < (j.nodes.length:Int):=by
 have:=idxZ_lt (fun d:Nd => decide (d.uid = u)) j.nodes 0
 unfold Jb.find
 omega
theorem insGo_ok (j:Jb):∀ (l:List ByteArray) (acc is:List Int),(∀ z ∈ acc,0 ≤ z ∧ z < (j.nodes.length:Int)) → insGo j acc l = some is → ∀ z ∈ is,0 ≤ z ∧ z < (j.nodes.length:Int)
 | [],acc,is,h,e => by
  simp only [insGo,Option.some.injEq] at e
  subst e; exact h
 | u :: l,acc,is,h,e => by
  simp only [insGo] at e
  split at e
  ·cases e
  ·refine insGo_ok j l _ is (fun z hz => ?_) e
   rcases List.mem_append.1 hz with hz | hz
   ·exact h z hz
   ·simp at hz; subst hz
    exact ⟨by omega,find_lt j u⟩
theorem num_two (s:ByteArray) (m:Nat) (hm:m ≤ 2):0 ≤ (numB s m).1 ∧ (numB s m).1 ≤ 99:=by
 unfold numB
 split
 ·rename_i h
  have:=valU_two s.data.toList h.1 (by rw [← Lib.size_eq]; omega)
  dsimp only; omega
 ·dsimp only; omega
theorem ndTail_ok (k:Int) (r:List ByteArray) (q:Int × List ByteArray) (h:ndTail k r = some q):0 ≤ q.1 ∧ q.1 ≤ 99:=by
 unfold ndTail at h
 split at h
 ·split at h
  ·cases h
  ·cases hn:(numB (r.getD (r.length - 1) .empty) 2).2
   ·rw [hn] at h; cases h
   ·rw [hn] at h
    simp only [cond_true,Option.some.injEq] at h
    subst h
    exact num_two _ 2 (Nat.le_refl _)
 ·simp only [Option.some.injEq] at h
  subst h
  dsimp only; omega
theorem zero_ok:Ex.zero.ok:=ok_zero
theorem pNd_ok (j:Jb) (l:List ByteArray) (d:Nd) (hl:j.nodes.length ≤ 70000) (h:pNd j l = some d):d.ok ∧ d.x = Ex.zero:=by
 match l,h with
 | [],h => cases h
 | [_],h => cases h
 | u :: k :: r,h =>
  unfold pNd at h
  simp only at h
  split at h
  ·cases h
  ·rename_i q hq
   split at h
   ·cases h
   ·rename_i is his
    split at h
    ·cases h
    ·simp only [Option.some.injEq] at h
     subst h
     have hk:=kindOf_le k
     have hq2:=ndTail_ok _ _ _ hq
     have hi:=insGo_ok j q.2 [] is (fun z hz => by cases hz) his
     exact ⟨⟨by dsimp only; omega,by dsimp only; omega,fun z hz => by have:=hi z hz; omega,zero_ok,by dsimp only; omega,by dsimp only; omega⟩,rfl⟩
theorem pLine_ok (j:Jb) (t:ByteArray) (f:Bool) (hj:j.ok) (hl:j.nodes.length ≤ 70000):(pLine j t f).1.ok:=by
 unfold pLine
 split
 ·exact hj
 ·split
  ·split
   ·split
    ·exact hj
    ·rename_i a b hw hn
     cases hb:(numB b 1).2
     ·exact hj
     ·have:=num_two b 1 (by omega)
      exact ⟨show -9223372036854775808 ≤ (numB b 1).1 by omega,show (numB b 1).1 ≤ 9223372036854775807 by omega,hj.2.2⟩
   ·exact hj
  ·split
   ·exact hj
   ·rename_i d hd
    obtain ⟨h1,h2⟩:=pNd_ok j _ d hl hd
    split
    ·exact hj
    ·split
     ·split
      ·exact hj
      ·refine ⟨hj.1,hj.2.1,fun e he => ?_⟩
       rcases List.mem_append.1 he with he | he
       ·exact hj.2.2 e he
       ·simp at he
        subst he
        exact ⟨h1.1,h1.2.1,h1.2.2.1,parse_ok _,h1.2.2.2.2.1,h1.2.2.2.2.2⟩
     ·refine ⟨hj.1,hj.2.1,fun e he => ?_⟩
      rcases List.mem_append.1 he with he | he
      ·exact hj.2.2 e he
      ·simp at he
       subst he
       exact h1
theorem zeroJ_ok:Jb.zero.ok:=⟨by unfold Jb.zero; dsimp only; omega,by unfold Jb.zero; dsimp only; omega,fun d hd => by cases hd⟩
theorem pLine_len (j:Jb) (t:ByteArray) (f:Bool) (h:(pLine j t f).2 = 0):(pLine j t f).1.nodes.length ≤ j.nodes.length + 1:=by
 cases f
 ·exact Nat.le_of_eq (pl_more j t h)
 ·rw [pl_first]; exact Nat.le_succ _
theorem pGo_ok:∀ (L:List ByteArray) (i:Nat) (j:Jb) (a:List Int) (f:Bool),j.ok → j.nodes.length ≤ i → i + L.length ≤ 70000 → (pRes (pGo L i j a f)).1.ok
 | [],i,j,a,f,hj,hl,hi => by
  simp only [pGo,pRes,pEnd]
  cases f
  ·simp only [cond_false]
   split
   ·exact zeroJ_ok
   ·split
    ·exact zeroJ_ok
    ·exact hj
  ·exact zeroJ_ok
 | t :: L,i,j,a,f,hj,hl,hi => by
  rw [List.length_cons] at hi
  simp only [pGo]
  cases silentB t
  ·simp only [cond_false]
   split
   ·exact zeroJ_ok
   ·rename_i he
    have he':(pLine j t f).2 = 0:=by simpa using he
    exact pGo_ok L (i + 1) _ _ false (pLine_ok j t f hj (by omega)) (by have:=pLine_len j t f he'; omega) (by omega)
  ·simp only [cond_true]
   exact pGo_ok L (i + 1) j a f hj (by omega) (by omega)
theorem pScript_ok (s:ByteArray):(pScript s).1.ok:=by
 unfold pScript
 split
 ·exact zeroJ_ok
 ·have:=lines_le s
  exact pGo_ok _ 0 _ _ _ zeroJ_ok (Nat.le_refl _) (by omega)
end Go.Proofs.YtpkijdkoiecpiaaGreatDoor

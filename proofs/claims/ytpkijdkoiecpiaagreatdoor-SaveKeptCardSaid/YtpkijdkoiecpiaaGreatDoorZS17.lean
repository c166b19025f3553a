/-
  Parts of the proof: J8.
-/
import Derived.Test.YtpkijdkoiecpiaaGreatDoorZS12
import Derived.Test.YtpkijdkoiecpiaaGreatDoorZS14
import Derived.Test.YtpkijdkoiecpiaaGreatDoorZS16
namespace Go.Proofs.YtpkijdkoiecpiaaGreatDoor
open Go.RowKit
set_option linter.unusedVariables false
set_option linter.unusedSimpArgs false
theorem info_strJ:(Tryz.prog.info? 9).map (fun i => (i.zero,i.size,i.bytes)) = some (some (.string { data:=#[] }),1,16):=by kernel_rfl
theorem own_set {w:World} {base:Nat} {e:TypeId} {g n cap:Nat} {xs:List Value} (h:w.ownsRow base e 1 (.slice (some ⟨g,0,none⟩) n cap) n xs) (j:Nat) (u:Value) :
  (w.setCell ⟨g,j,none⟩ u).ownsRow base e 1 (.slice (some ⟨g,0,none⟩) n cap) n (xs.set j u):=by
 obtain ⟨h1,h2⟩:=h
 refine ⟨by simpa using h1, .inr ?_⟩
 rcases h2 with ⟨h0,_⟩ | ⟨g',cap',cur,hv,hb,hg,hn,hc,hs,ht⟩
 ·cases h0
 ·simp only [Value.slice.injEq,Option.some.injEq,Addr.mk.injEq,and_true,true_and] at hv
  obtain ⟨rfl,rfl⟩:=hv
  refine ⟨g,cap,cur.setIfInBounds j u,rfl,hb,heap_setCell_same w g j cur e u hg,hn,hc,by simpa using hs, ?_⟩
  rw [Array.toList_setIfInBounds,List.take_set,ht]
theorem own_cells {w:World} {base:Nat} {e:TypeId} {g n cap:Nat} {xs:List Value} (h:w.ownsRow base e 1 (.slice (some ⟨g,0,none⟩) n cap) n xs):base ≤ g ∧ g < w.heap.size ∧ ∀ j,j < n → w.cell? ⟨g,j,none⟩ = xs[j]? ∧ w.frozen? ⟨g,j,none⟩ = false:=by
 obtain ⟨h1,h2⟩:=h
 rcases h2 with ⟨h0,_⟩ | ⟨g',cap',cur,hv,hb,hg,hn,hc,hs,ht⟩
 ·cases h0
 ·simp only [Value.slice.injEq,Option.some.injEq,Addr.mk.injEq,and_true,true_and] at hv
  obtain ⟨rfl,rfl⟩:=hv
  refine ⟨hb,(Array.getElem?_eq_some_iff.1 hg).1,fun j hj => ⟨?_,frozen_of_row w g j cur e hg⟩⟩
  rw [cell_of_row w g j cur e (0,0) hg, ← ht,List.getElem?_take,if_pos (by omega)]
  simp
def st1:List Nd → Nat → List ByteArray → Option (Int × Int)
 | [],_,_ => none
 | d :: l,k,us => bif nodeB d k then (bif twiceB (fun x y => decide (x = y)) (us ++ [d.uid]) then some ((k:Int),121) else st1 l (k + 1) (us ++ [d.uid])) else some ((k:Int),120)
def sumW (ws:List Int):List Int → Int
 | [] => 0
 | z :: l => ws.getD z.toNat 0 + sumW ws l
def wayN (d:Nd) (ws:List Int):Int:=if d.kind = 1 then 1 else if d.kind = 4 then sumW ws d.ins * 4 else sumW ws d.ins
def flatN (d:Nd) (f:Int):Int:=if d.kind = 4 then f + 1 else f
def badB (j:Jb) (d:Nd) (k:Nat) (f1 w1:Int):Bool :=
 ((d.kind == 1) != ((k:Int) == 0)) || (((d.kind == 9) != ((k:Int) == (j.nodes.length:Int) - 1)) || (((((j.readers k).length:Int) == 0) != ((k:Int) == (j.nodes.length:Int) - 1)) ||
  (decide (3 < ((j.readers k).length:Int)) || (decide (2 < f1) || decide (64 < w1)))))
def st2 (j:Jb):List Nd → Nat → Int → List Int → Option (Int × Int)
 | [],_,_,_ => none
 | d :: l,k,f,ws => bif badB j d k (flatN d f) (wayN d ws) then some ((k:Int),122) else st2 j l (k + 1) (flatN d f) (ws ++ [wayN d ws])
def Jb.argB (j:Jb):Bool:=decide (j.par < 1) || (decide (4 < j.par) || (decide (j.nodes.length < 2) || (decide (12 < j.nodes.length) || decide (1000 < j.parts))))
def Jb.may (j:Jb):Int × Int:=if j.argB = true then (0,2) else match st1 j.nodes 0 [] with
 | some r => r
 | none => match st2 j j.nodes 0 0 [] with
  | some r => r
  | none => (0,0)
theorem argB_cases (j:Jb):(j.argB = true ∧ (j.par < 1 ∨ (1 ≤ j.par ∧ 4 < j.par) ∨ (1 ≤ j.par ∧ j.par ≤ 4 ∧ j.nodes.length < 2) ∨ (1 ≤ j.par ∧ j.par ≤ 4 ∧ 2 ≤ j.nodes.length ∧ 12 < j.nodes.length) ∨
  (1 ≤ j.par ∧ j.par ≤ 4 ∧ 2 ≤ j.nodes.length ∧ j.nodes.length ≤ 12 ∧ 1000 < j.parts))) ∨ (j.argB = false ∧ 1 ≤ j.par ∧ j.par ≤ 4 ∧ 2 ≤ j.nodes.length ∧ j.nodes.length ≤ 12 ∧ j.parts ≤ 1000):=by
 have e:j.argB = decide (j.par < 1 ∨ 4 < j.par ∨ j.nodes.length < 2 ∨ 12 < j.nodes.length ∨ 1000 < j.parts):=by
  unfold Jb.argB; simp
 by_cases h:j.par < 1 ∨ 4 < j.par ∨ j.nodes.length < 2 ∨ 12 < j.nodes.length ∨ 1000 < j.parts
 ·exact .inl ⟨by rw [e]; exact decide_eq_true h,by omega⟩
 ·exact .inr ⟨by rw [e]; exact decide_eq_false h,by omega⟩
theorem st1_node:∀ (l:List Nd) (k:Nat) (us:List ByteArray),st1 l k us = none → ∀ i (h:i < l.length),nodeB (l[i]'h) (((k + i:Nat):Int)) = true
 | d :: l,k,us,h,i,hi => by
  simp only [st1] at h
  cases hn:nodeB d k
  ·rw [hn] at h; simp at h
  ·rw [hn] at h
   cases ht:twiceB (fun x y => decide (x = y)) (us ++ [d.uid])
   ·rw [ht] at h
    simp only [cond_true,cond_false] at h
    cases i with
    | zero => simpa using hn
    | succ i =>
     have:=st1_node l (k + 1) _ h i (by simpa using hi)
     rw [show k + (i + 1) = k + 1 + i by omega]
     simpa using this
   ·rw [ht] at h; simp at h
theorem nodeB_in (d:Nd) (k:Nat) (h:nodeB d k = true):d.ins.length ≤ 3 ∧ 1 ≤ d.kind ∧ d.kind ≤ 9 ∧ ∀ z ∈ d.ins,0 ≤ z ∧ z < (k:Int):=by
  rcases nodeB_cases d k with ⟨_,hr⟩ | ⟨_,_,hr⟩ | ⟨_,_,_,hr⟩ | ⟨_,_,_,_,hr⟩ | ⟨_,_,_,_,_,hr⟩ | ⟨_,_,_,_,_,_,hr⟩ | ⟨_,_,_,_,_,_,_,hr⟩ | ⟨_,_,_,_,_,_,_,_,hr⟩ | ⟨_,_,_,_,_,_,_,_,_,hr⟩ | ⟨h1,h2,h3,h4,h5,h6,h7,h8⟩ | ⟨h1,h2,h3,h4,h5,h6,h7,h8⟩
  all_goals first
    | (rw [h] at hr; cases hr)
    | (have e : rMost d.kind ≤ 3 := by unfold rMost; repeat' split
                                       all_goals omega
       have a5 : ¬ rMost d.kind < (d.ins.length:Int):=by simpa using h5
       have a2 : ¬ d.kind < 1:=by simpa using h2
       have a3 : ¬ 9 < d.kind:=by simpa using h3
       refine ⟨by omega,by omega,by omega,fun z hz => ?_⟩
       have:=List.any_eq_false.1 h7 z hz
       simp only [outB,Bool.or_eq_true,decide_eq_true_eq,not_or] at this
       omega)
theorem badB_cases (j:Jb) (d:Nd) (k:Nat) (f1 w1:Int) :
  (badB j d k f1 w1 = true ∧ (((d.kind == 1) != ((k:Int) == 0)) = true ∨ (((d.kind == 1) != ((k:Int) == 0)) = false ∧ ((d.kind == 9) != ((k:Int) == (j.nodes.length:Int) - 1)) = true) ∨
   (((d.kind == 1) != ((k:Int) == 0)) = false ∧ ((d.kind == 9) != ((k:Int) == (j.nodes.length:Int) - 1)) = false ∧ ((((j.readers k).length:Int) == 0) != ((k:Int) == (j.nodes.length:Int) - 1)) = true) ∨
   (((d.kind == 1) != ((k:Int) == 0)) = false ∧ ((d.kind == 9) != ((k:Int) == (j.nodes.length:Int) - 1)) = false ∧ ((((j.readers k).length:Int) == 0) != ((k:Int) == (j.nodes.length:Int) - 1)) = false ∧ decide (3 < ((j.readers k).length:Int)) = true) ∨
   (((d.kind == 1) != ((k:Int) == 0)) = false ∧ ((d.kind == 9) != ((k:Int) == (j.nodes.length:Int) - 1)) = false ∧ ((((j.readers k).length:Int) == 0) != ((k:Int) == (j.nodes.length:Int) - 1)) = false ∧ decide (3 < ((j.readers k).length:Int)) = false ∧ decide (2 < f1) = true) ∨
   (((d.kind == 1) != ((k:Int) == 0)) = false ∧ ((d.kind == 9) != ((k:Int) == (j.nodes.length:Int) - 1)) = false ∧ ((((j.readers k).length:Int) == 0) != ((k:Int) == (j.nodes.length:Int) - 1)) = false ∧ decide (3 < ((j.readers k).length:Int)) = false ∧ decide (2 < f1) = false ∧ decide (64 < w1) = true))) ∨
  (badB j d k f1 w1 = false ∧ ((d.kind == 1) != ((k:Int) == 0)) = false ∧ ((d.kind == 9) != ((k:Int) == (j.nodes.length:Int) - 1)) = false ∧ ((((j.readers k).length:Int) == 0) != ((k:Int) == (j.nodes.length:Int) - 1)) = false ∧ decide (3 < ((j.readers k).length:Int)) = false ∧ decide (2 < f1) = false ∧ decide (64 < w1) = false):=by
 unfold badB
 generalize ((d.kind == 1) != ((k:Int) == 0)) = b1
 generalize ((d.kind == 9) != ((k:Int) == (j.nodes.length:Int) - 1)) = b2
 generalize ((((j.readers k).length:Int) == 0) != ((k:Int) == (j.nodes.length:Int) - 1)) = b3
 generalize decide (3 < ((j.readers k).length:Int)) = b4
 generalize decide (2 < f1) = b5
 generalize decide (64 < w1) = b6
 cases b1 <;> cases b2 <;> cases b3 <;> cases b4 <;> cases b5 <;> cases b6 <;> simp
end Go.Proofs.YtpkijdkoiecpiaaGreatDoor

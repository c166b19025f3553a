/-
  Parts of the proof: VJ.
-/
import Derived.Deep.AppendLies
import Derived.Test.YtpkijdkoiecpiaaGreatDoorZS1
import Derived.Test.YtpkijdkoiecpiaaGreatDoorZS8
namespace Go.Proofs.YtpkijdkoiecpiaaGreatDoor
open Go.RowKit
set_option linter.unusedVariables false
set_option linter.unusedSimpArgs false
theorem ArgsAt.cells {w:World} {B:Nat} {l:List Ex} {b off cap:Nat} (h:ArgsAt w B l (.slice (some ⟨b,off,none⟩) l.length cap)):∀ j,j < l.length * 3 → ∃ u,w.cell? ⟨b,off + j,none⟩ = some u ∧ u.oneCell' = true:=by
 intro j hj
 obtain ⟨b',off',cap',sv,e,hb,c0,c1,c2,hs⟩:=h.at_ (j / 3) (by omega)
 simp only [Value.slice.injEq,Option.some.injEq,Addr.mk.injEq,and_true,true_and] at e
 obtain ⟨⟨rfl,rfl⟩,rfl⟩:=e
 obtain ⟨a2,cap2,rfl,_,_⟩:=hs.slice
 have hm:j % 3 = 0 ∨ j % 3 = 1 ∨ j % 3 = 2:=by omega
 rcases hm with hm | hm | hm
 ·rw [show off + j = off + j / 3 * 3 by omega]
  exact ⟨_,c0,rfl⟩
 ·rw [show off + j = off + j / 3 * 3 + 1 by omega]
  exact ⟨_,c1,rfl⟩
 ·rw [show off + j = off + j / 3 * 3 + 2 by omega]
  exact ⟨_,c2,rfl⟩
theorem own_empty (w:World) (base k:Nat) (hk:k = w.heap.size) (hb:base ≤ k) (e:TypeId) (size:Nat):(w.alloc (.cells #[] e)).ownsRow base e size (.slice (some ⟨k,0,none⟩) 0 0) 0 []:=by
 subst hk
 exact ⟨by simp, .inr ⟨w.heap.size,0,#[],rfl,hb,heap_alloc_new w _,Nat.le_refl _,Nat.zero_le _,by simp,by simp⟩⟩
theorem ArgsAt.put {w0 w5:World} {B C:Nat} {l:List Ex} {b off cap:Nat} (h:ArgsAt w0 B l (.slice (some ⟨b,off,none⟩) l.length cap)) (hb:Below B w0 w5) (hBC:B ≤ C) (i:Nat) (hi:i < l.length)
  (y:Ex) (sy:Value) (hy:ArgsAt w5 C y.args sy) {g capg:Nat} {t:TypeId} {cur:Array Value} (hg:Blk w5 g t cur) (hgC:g < C) (hcapg:l.length ≤ capg) (hmg:capg ≤ maxLen)
  (hcur:∀ j,j < l.length * 3 → cur[j]? = if j = i * 3 then some (.int .u8 y.op) else if j = i * 3 + 1 then some (.int .i64 y.n) else if j = i * 3 + 2 then some sy else w0.cell? ⟨b,off + j,none⟩) :
  ArgsAt w5 C (l.set i y) (.slice (some ⟨g,0,none⟩) l.length capg):=by
 have hsv:∃ sv:Nat → Value,(∀ j (h:j < l.length),w0.cell? ⟨b,off + j * 3,none⟩ = some (.int .u8 (l[j]'h).op)) ∧ (∀ j (h:j < l.length),w0.cell? ⟨b,off + j * 3 + 1,none⟩ = some (.int .i64 (l[j]'h).n)) ∧
   (∀ j (h:j < l.length),w0.cell? ⟨b,off + j * 3 + 2,none⟩ = some (sv j)) ∧ ∀ j (h:j < l.length),ArgsAt w0 B (l[j]'h).args (sv j):=by
  cases h with
  | nil a cap hm => simp at hi
  | cons _ _ _ _ sv hl hb hcap hm h0 h1 h2 hs => exact ⟨sv,h0,h1,h2,hs⟩
 obtain ⟨sv,h0,h1,h2,hs⟩:=hsv
 have hlen:(l.set i y).length = l.length:=by simp
 have key:ArgsAt w5 C (l.set i y) (.slice (some ⟨g,0,none⟩) (l.set i y).length capg):=by
  refine .cons (l.set i y) g 0 capg (fun j => if j = i then sy else sv j) (by omega) hgC (by omega) hmg ?_ ?_ ?_ ?_
  ·intro j hj
   have hj':j < l.length:=by omega
   rw [Nat.zero_add,hg.cell,hcur _ (by omega)]
   by_cases hji:j = i
   ·subst hji
    rw [if_pos rfl,List.getElem_set_self]
   ·rw [if_neg (by omega),if_neg (by omega),if_neg (by omega),h0 j hj',List.getElem_set_ne (by omega)]
  ·intro j hj
   have hj':j < l.length:=by omega
   rw [Nat.zero_add,hg.cell,hcur _ (by omega)]
   by_cases hji:j = i
   ·subst hji
    rw [if_neg (by omega),if_pos rfl,List.getElem_set_self]
   ·rw [if_neg (by omega),if_neg (by omega),if_neg (by omega), ← Nat.add_assoc,h1 j hj',List.getElem_set_ne (by omega)]
  ·intro j hj
   have hj':j < l.length:=by omega
   rw [Nat.zero_add,hg.cell,hcur _ (by omega)]
   by_cases hji:j = i
   ·subst hji
    rw [if_neg (by omega),if_neg (by omega),if_pos rfl,if_pos rfl]
   ·rw [if_neg (by omega),if_neg (by omega),if_neg (by omega),if_neg hji, ← Nat.add_assoc,h2 j hj']
  ·intro j hj
   have hj':j < l.length:=by omega
   by_cases hji:j = i
   ·subst hji
    rw [if_pos rfl,List.getElem_set_self]
    exact hy
   ·rw [if_neg hji,List.getElem_set_ne (by omega)]
    exact ((hs j hj').keep hb).mono hBC
 rwa [hlen] at key
theorem KB.other {w0 w:World} {L:List (Nat × TypeId × Array Value)} (h:KB w0 w L) {p:Addr} (hb:w0.heap.size ≤ p.block) (hne:∀ x ∈ L,x.1 ≠ p.block) (u:Value):KB w0 (w.setCell p u) L :=
 ⟨h.below.setCell hb u,fun x hx => (h.blk x hx).other (hne x hx) u⟩
theorem KB.grown {w0 w w':World} {L:List (Nat × TypeId × Array Value)} {row:Option Nat} (h:KB w0 w L) (hg:w.grownBy w' row) (h1:∀ k,row = some k → w0.heap.size ≤ k) (h2:∀ x ∈ L,some x.1 ≠ row):KB w0 w' L :=
 ⟨h.below.grown hg h.below.size h1,fun x hx => (h.blk x hx).grown hg (h2 x hx)⟩
end Go.Proofs.YtpkijdkoiecpiaaGreatDoor

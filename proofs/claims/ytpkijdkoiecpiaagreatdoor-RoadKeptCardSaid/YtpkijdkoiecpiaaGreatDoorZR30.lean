/-
  Parts of the proof: P6.
-/
import Derived.OrdersIn
import Derived.OrdersHeld
import Derived.Test.YtpkijdkoiecpiaaGreatDoorZR29
namespace Go.Proofs.YtpkijdkoiecpiaaGreatDoor
open Go.RowKit
set_option linter.unusedVariables false
set_option linter.unusedSimpArgs false
theorem oper_round {P:Program} {o:Oper} {a:Act} {w:World} {K:Act → World → Prop} {Q:Exit → Act → World → Prop} {l n:Nat} (hnd:∀ c,o.op ≠ .defer c) (h:o.wp P a w K Q):o.wpIn (Fence.wide.inRound l) n P a w K Q:=by
 refine ⟨fun _ _ => trivial, ?_⟩
 show o.uponIn _ _ _ _ _ _ ((o.semAt (some l) a.eval).run P w)
 rw [Oper.semAt_some l a.eval o hnd]
 unfold Oper.wp at h
 generalize (execOp a.eval o).run P w = r at *
 unfold Oper.upon at h
 unfold Oper.uponIn
 split at h
 ·exact h
 ·exact h
 ·exact h
 ·exact ⟨fun h => absurd h (by simp [Fence.wide]),CallsIn.inRound l (callsIn_wide.2 h)⟩
 ·rename_i row args w'
  exact ⟨fun h => absurd h (by simp [Fence.wide]),(show RowsIn Fence.wide (n - 1) P row args w' _ from fun c cs _ => let ⟨v,w2,r,s⟩:=h c cs; ⟨v,w2,r,stepsIn_wide.2 s⟩)⟩
 ·exact h
 ·exact h.elim
def NoDefer (ops:Array Oper):Prop:=∀ (i:Nat) (o:Oper),ops[i]? = some o → ∀ c,o.op ≠ .defer c
theorem noDefer_of {l:List Oper} (h:∀ o ∈ l,∀ c,o.op ≠ .defer c):NoDefer l.toArray:=fun i o hi => h o (List.mem_of_getElem? (by simpa using hi))
theorem any_round {P:Program} {md:Region.Mode} {ops:Array Oper} {Q:Exit → Act → World → Prop} {l n:Nat} (hnd:NoDefer ops) (hQ : ¬ LetsOut Q) :
  ∀ (fuel:Nat) (listed:Array Bool) (a:Act) (w:World),wpAny P md ops Q fuel listed a w → wpAnyIn (Fence.wide.inRound l) n P md ops Q fuel listed a w
 | 0,_,_,_,h => h
 | fuel + 1,listed,a,w,h => by
  refine ⟨h.1,fun i hi => ?_⟩
  have h2:=h.2 i hi
  unfold wpOp at h2
  unfold wpOpIn
  cases ho:ops[i]? with
  | none =>
   rw [ho] at h2
   exact any_round hnd hQ fuel _ a w h2
  | some o =>
   rw [ho] at h2
   dsimp only at h2 ⊢
   by_cases hw:Region.wanted o (yielded ops a.tmps) = true
   ·rw [if_pos hw] at h2 ⊢
    rcases h2 with h2 | ⟨_,h2⟩
    ·exact Oper.wpIn_mono (fun a w h => any_round hnd hQ fuel _ a w h) (oper_round (hnd i o ho) h2)
    ·exact absurd h2 hQ
   ·rw [if_neg hw] at h2 ⊢
    exact ⟨fun _ _ => trivial,any_round hnd hQ fuel _ _ w h2⟩
theorem list_round {P:Program} {ops:Array Oper} {Q:Exit → Act → World → Prop} {l n:Nat} (hQ : ¬ LetsOut Q) :
  ∀ (rest:List Oper) (a:Act) (w:World),(∀ o ∈ rest,∀ c,o.op ≠ .defer c) → wpList P ops Q rest a w → wpListIn (Fence.wide.inRound l) n P ops Q rest a w
 | [],_,_,_,h => h
 | o :: rest,a,w,hnd,h => by
  unfold wpList at h
  unfold wpListIn
  by_cases hw:Region.wanted o (yielded ops a.tmps) = true
  ·rw [if_pos hw] at h ⊢
   rcases h with h | ⟨_,h⟩
   ·exact Oper.wpIn_mono (fun a w h => list_round hQ rest a w (fun o ho => hnd o (by simp [ho])) h) (oper_round (hnd o (by simp)) h)
   ·exact absurd h hQ
  ·rw [if_neg hw] at h ⊢
   exact ⟨fun _ _ => trivial,list_round hQ rest _ w (fun o ho => hnd o (by simp [ho])) h⟩
theorem region_round {P:Program} {id:Nat} {ops:List Oper} {S:World → Prop} {Q:Exit → Act → World → Prop} {a:Act} {w:World} {l n:Nat} (hm:P.follows .mixedOrders = true) (hnd:∀ o ∈ ops,∀ c,o.op ≠ .defer c) (hQ : ¬ LetsOut Q)
  (hS:S w.drew) (h:S w.drew → wpAnyH P .any ops.toArray Q S ops.toArray.size (Array.replicate ops.toArray.size false) a w.drew):(Code.region id ops.toArray true).wpIn (Fence.wide.inRound l) n P Q a w :=
 wpIn_region_any hm (any_round (noDefer_of hnd) hQ _ _ _ _ (wpAny_of_held _ _ _ _ (h hS)))
theorem plain_round {P:Program} {id:Nat} {ops:List Oper} {Q:Exit → Act → World → Prop} {a:Act} {w:World} {l n:Nat} (hnd:∀ o ∈ ops,∀ c,o.op ≠ .defer c) (hQ : ¬ LetsOut Q)
  (h:wpList P ops.toArray Q ops a w):(Code.region id ops.toArray false).wpIn (Fence.wide.inRound l) n P Q a w :=
 wpIn_region_lit (list_round hQ ops a w hnd h)
end Go.Proofs.YtpkijdkoiecpiaaGreatDoor

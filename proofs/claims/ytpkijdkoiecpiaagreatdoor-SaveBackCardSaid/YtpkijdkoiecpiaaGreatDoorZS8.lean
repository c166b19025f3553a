/-
  Parts of the proof: E0.
-/
import Derived.Deep.Slices
import Derived.Test.YtpkijdkoiecpiaaGreatDoorZS1
namespace Go.Proofs.YtpkijdkoiecpiaaGreatDoor
open Go.RowKit
set_option linter.unusedVariables false
set_option linter.unusedSimpArgs false
inductive Ex where
 | mk (op n:Int) (args:List Ex)
namespace Ex
def op:Ex → Int | .mk o _ _ => o
def n:Ex → Int | .mk _ n _ => n
def args:Ex → List Ex | .mk _ _ l => l
end Ex
mutual
def Ex.ht:Ex → Nat
 | .mk _ _ l => Exs.ht l + 1
def Exs.ht:List Ex → Nat
 | [] => 0
 | x :: l => max x.ht (Exs.ht l)
end
theorem Exs.ht_mem:∀ (l:List Ex) (x:Ex),x ∈ l → x.ht ≤ Exs.ht l
 | y :: l,x,h => by
  simp only [Exs.ht]
  rcases List.mem_cons.1 h with rfl | h
  ·exact Nat.le_max_left _ _
  ·exact Nat.le_trans (Exs.ht_mem l x h) (Nat.le_max_right _ _)
theorem Ex.ht_args (x:Ex):∀ a ∈ x.args,a.ht < x.ht:=by
 intro a ha
 obtain ⟨o,n,l⟩:=x
 have:=Exs.ht_mem l a ha
 simp only [Ex.ht]
 omega
inductive ArgsAt (w:World) (B:Nat):List Ex → Value → Prop
 | nil (a:Option Addr) (cap:Nat) (hm:cap ≤ maxLen):ArgsAt w B [] (.slice a 0 cap)
 | cons (l:List Ex) (b off cap:Nat) (sv:Nat → Value) (hl:0 < l.length) (hb:b < B) (hcap:l.length ≤ cap) (hm:cap ≤ maxLen)
   (h0:∀ j (h:j < l.length),w.cell? ⟨b,off + j * 3,none⟩ = some (.int .u8 (l[j]'h).op)) (h1:∀ j (h:j < l.length),w.cell? ⟨b,off + j * 3 + 1,none⟩ = some (.int .i64 (l[j]'h).n))
   (h2:∀ j (h:j < l.length),w.cell? ⟨b,off + j * 3 + 2,none⟩ = some (sv j)) (hs:∀ j (h:j < l.length),ArgsAt w B (l[j]'h).args (sv j)) :
   ArgsAt w B l (.slice (some ⟨b,off,none⟩) l.length cap)
namespace ArgsAt
variable {w w':World} {B:Nat} {l:List Ex} {v:Value}
theorem mono (h:ArgsAt w B l v) {C:Nat} (hC:B ≤ C):ArgsAt w C l v:=by
 induction h with
 | nil a cap hm => exact .nil a cap hm
 | cons l b off cap sv hl hb hcap hm h0 h1 h2 _ ih => exact .cons l b off cap sv hl (by omega) hcap hm h0 h1 h2 ih
theorem keep (h:ArgsAt w B l v) (hB:Below B w w'):ArgsAt w' B l v:=by
 induction h with
 | nil a cap hm => exact .nil a cap hm
 | cons l b off cap sv hl hb hcap hm h0 h1 h2 _ ih =>
  exact .cons l b off cap sv hl hb hcap hm (fun j h => (hB.cell (p:=⟨b,off + j * 3,none⟩) hb).trans (h0 j h)) (fun j h => (hB.cell (p:=⟨b,off + j * 3 + 1,none⟩) hb).trans (h1 j h))
   (fun j h => (hB.cell (p:=⟨b,off + j * 3 + 2,none⟩) hb).trans (h2 j h)) ih
theorem slice (h:ArgsAt w B l v):∃ a cap,v = .slice a l.length cap ∧ l.length ≤ cap ∧ cap ≤ maxLen:=by
 cases h with
 | nil a cap hm => exact ⟨a,cap,rfl,Nat.zero_le _,hm⟩
 | cons l b off cap sv hl hb hcap hm h0 h1 h2 hs => exact ⟨_,cap,rfl,hcap,hm⟩
theorem at_ (h:ArgsAt w B l v) (j:Nat) (hj:j < l.length):∃ b off cap sv,v = .slice (some ⟨b,off,none⟩) l.length cap ∧ b < B ∧ w.cell? ⟨b,off + j * 3,none⟩ = some (.int .u8 (l[j]'hj).op) ∧
  w.cell? ⟨b,off + j * 3 + 1,none⟩ = some (.int .i64 (l[j]'hj).n) ∧ w.cell? ⟨b,off + j * 3 + 2,none⟩ = some sv ∧ ArgsAt w B (l[j]'hj).args sv:=by
 cases h with
 | nil a cap hm => simp at hj
 | cons l b off cap sv hl hb hcap hm h0 h1 h2 hs => exact ⟨b,off,cap,sv j,rfl,hb,h0 j hj,h1 j hj,h2 j hj,hs j hj⟩
end ArgsAt
def ExAt (w:World) (B:Nat) (v:Value) (x:Ex):Prop:=∃ sv,v = .agg #[.int .u8 x.op, .int .i64 x.n,sv] ∧ ArgsAt w B x.args sv
theorem ExAt.mono {w:World} {B C:Nat} {v:Value} {x:Ex} (h:ExAt w B v x) (hC:B ≤ C):ExAt w C v x:=let ⟨sv,h1,h2⟩:=h; ⟨sv,h1,h2.mono hC⟩
theorem ExAt.keep {w w':World} {B:Nat} {v:Value} {x:Ex} (h:ExAt w B v x) (hB:Below B w w'):ExAt w' B v x:=let ⟨sv,h1,h2⟩:=h; ⟨sv,h1,h2.keep hB⟩
mutual
def Ex.ok:Ex → Prop
 | .mk o n l => 0 ≤ o ∧ o ≤ 255 ∧ -9223372036854775808 ≤ n ∧ n ≤ 9223372036854775807 ∧ Exs.ok l
def Exs.ok:List Ex → Prop
 | [] => True
 | x :: l => x.ok ∧ Exs.ok l
end
end Go.Proofs.YtpkijdkoiecpiaaGreatDoor

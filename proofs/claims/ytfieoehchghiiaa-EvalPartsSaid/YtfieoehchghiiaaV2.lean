/-
  What an expression comes to (plain): its type.
-/
import Derived.Test.YtfieoehchghiiaaV1
namespace Go.Proofs.Ytfieoehchghiiaa
open Go.RowKit
set_option linter.unusedVariables false

structure Env where
  key : Int
  val : Int
  acc : Int

def Ev.n : Ev → Int | .int n => n | .bool _ => 0
def Ev.b : Ev → Bool | .int _ => false | .bool b => b
def evTwo (op : Int) : Ev → Ev → Ev
  | .bool a, .bool b => .bool (evBools op a b)
  | .int a, .int b => evInts op a b
  | _, _ => .int 0
/-- What an Op makes of what its parts come to. -/
def evOp (op n : Int) (env : Env) (l : List Ev) : Ev :=
  if op = 1 then .int n else if op = 2 then .int env.key else if op = 3 then .int env.val else if op = 4 then .int env.acc
  else if op = 5 then .int (wrap64 (-(l.getD 0 (.int 0)).n)) else if op = 6 then .bool (!(l.getD 0 (.int 0)).b)
  else if op = 18 then (if (l.getD 0 (.int 0)).b then l.getD 1 (.int 0) else l.getD 2 (.int 0))
  else evTwo op (l.getD 0 (.int 0)) (l.getD 1 (.int 0))
mutual
def Ex.ev (env : Env) : Ex → Ev
  | .mk o n l => evOp o n env (Exs.evs env l)
def Exs.evs (env : Env) : List Ex → List Ev
  | [] => []
  | x :: l => x.ev env :: Exs.evs env l
end
theorem Exs.evs_map (env : Env) : ∀ l : List Ex, Exs.evs env l = l.map (Ex.ev env)
  | [] => rfl
  | x :: l => by simp only [Exs.evs, List.map_cons]; rw [Exs.evs_map env l]
theorem Ex.ev_eq (env : Env) (x : Ex) : x.ev env = evOp x.op x.n env (x.args.map (Ex.ev env)) := by
  obtain ⟨o, n, l⟩ := x
  simp only [Ex.ev, Ex.op, Ex.n, Ex.args]
  rw [Exs.evs_map]
def Ev.ty : Ev → Int | .int _ => 1 | .bool _ => 2

end Go.Proofs.Ytfieoehchghiiaa

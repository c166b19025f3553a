/-
  NARROWER THAN 'FOR EVERY INPUT', by the rows' own cells (each row's printed sentence says how): JobWhole: loops · JobCounts: loops · JobPars: loops · JobSame: loops · ExprMay: loops.
  DERIVED. THE GIVEN ROWS OF THIS SEAT. 11 by the template 'for every input the law returns true; each argument reads behind the call as it read before'; 0 by the template 'total and deterministic' (their statements: YtjejnbhcgbbmhaaTotals.lean).
  GIVEN WITH THE SEED: the statements are not yours to turn. If you find one false, say at which input.
  Laid BY PROGRAM, IN A SANDBOX (cutbox-rows.mjs): the forced cells as the released guide's own fill.sh prints them over the translation 220b09aba1f5bac0… (all of the seat's roots in one cut). By AI agents, Wed Nov 11 2026. No macro, syntax, notation, axiom, sorry.
-/
import Derived.Test.YtjejnbhcgbbmhaaChecked
import GoSem.Claim
import GoSem.ClaimJoined
import GoSem.ClaimMapViews
import Derived.JoinedTies
import Derived.KernelRfl
namespace Go.Proofs.Ytjejnbhcgbbmhaa
/- THE CELL 'sum', in the pinned program and in every row, IS THE sha256 OF THE DUMP (.gsa) THAT YtjejnbhcgbbmhaaProg.lean LOADS. Nothing in Lean hashes anything: it is a label: what it is worth is what the hold of that sum in a sandbox is worth. -/
noncomputable def Try.pinned : Pinned := { name := "ytjejnbhcgbbmhaa", sum := "220b09aba1f5bac0bd340e72a94114db8403ac6167d84d2dfaabd3b226832f10", checked := Try.checked }
namespace Rows
def none {H : Type} : Left H := { results := [], args := [] }

/-- 'changelinglaw12.JobKnown': WHATEVER THE INPUT: true; the input reads as it did. -/
def jobKnownSpec : ChangeSpec := { name := "jobKnown", fn := fun _ => fun
  | [] => { results := [.lit (.bool true)], args := [] }
  | _ => none }
def jobKnownRow : OpenClaim := { program := "ytjejnbhcgbbmhaa", sum := "220b09aba1f5bac0bd340e72a94114db8403ac6167d84d2dfaabd3b226832f10", func := "changeling/changelinglaw12.JobKnown", spec := "jobKnown", unfollowed := true, recurses := true, plainKeys := false, apart := false }
def JobKnownSaid : Prop := jobKnownRow.holds Try.pinned (OpenSpec.ofChange jobKnownSpec)

/-- ITS FALSE NEIGHBOUR: 'it returns false'. Refute it at one input. -/
def jobKnownWrong : ChangeSpec := { name := "jobKnown", fn := fun _ => fun
  | [] => { results := [.lit (.bool false)], args := [] }
  | _ => none }
def JobKnownWrongFalsely : Prop := jobKnownRow.holds Try.pinned (OpenSpec.ofChange jobKnownWrong)

/-- 'changelinglaw12.JobWhole': WHATEVER THE INPUT: true; the input reads as it did. -/
def jobWholeSpec : ChangeSpec := { name := "jobWhole", fn := fun _ => fun
  | [d] => { results := [.lit (.bool true)], args := [d] }
  | _ => none }
def jobWholeRow : OpenClaim := { program := "ytjejnbhcgbbmhaa", sum := "220b09aba1f5bac0bd340e72a94114db8403ac6167d84d2dfaabd3b226832f10", func := "changeling/changelinglaw12.JobWhole", spec := "jobWhole", unfollowed := true, recurses := true, loops := true, plainKeys := false, apart := false }
def JobWholeSaid : Prop := jobWholeRow.holds Try.pinned (OpenSpec.ofChange jobWholeSpec)

/-- ITS FALSE NEIGHBOUR: 'it returns false'. Refute it at one input. -/
def jobWholeWrong : ChangeSpec := { name := "jobWhole", fn := fun _ => fun
  | [d] => { results := [.lit (.bool false)], args := [d] }
  | _ => none }
def JobWholeWrongFalsely : Prop := jobWholeRow.holds Try.pinned (OpenSpec.ofChange jobWholeWrong)

/-- 'changelinglaw12.JobCounts': WHATEVER THE INPUT: true; the input reads as it did. -/
def jobCountsSpec : ChangeSpec := { name := "jobCounts", fn := fun _ => fun
  | [d] => { results := [.lit (.bool true)], args := [d] }
  | _ => none }
def jobCountsRow : OpenClaim := { program := "ytjejnbhcgbbmhaa", sum := "220b09aba1f5bac0bd340e72a94114db8403ac6167d84d2dfaabd3b226832f10", func := "changeling/changelinglaw12.JobCounts", spec := "jobCounts", unfollowed := true, recurses := true, loops := true, plainKeys := false, apart := false }
def JobCountsSaid : Prop := jobCountsRow.holds Try.pinned (OpenSpec.ofChange jobCountsSpec)

/-- ITS FALSE NEIGHBOUR: 'it returns false'. Refute it at one input. -/
def jobCountsWrong : ChangeSpec := { name := "jobCounts", fn := fun _ => fun
  | [d] => { results := [.lit (.bool false)], args := [d] }
  | _ => none }
def JobCountsWrongFalsely : Prop := jobCountsRow.holds Try.pinned (OpenSpec.ofChange jobCountsWrong)

/-- 'changelinglaw12.JobPars': WHATEVER THE INPUT: true; the input reads as it did. -/
def jobParsSpec : ChangeSpec := { name := "jobPars", fn := fun _ => fun
  | [d1, d2, d3] => { results := [.lit (.bool true)], args := [d1, d2, d3] }
  | _ => none }
def jobParsRow : OpenClaim := { program := "ytjejnbhcgbbmhaa", sum := "220b09aba1f5bac0bd340e72a94114db8403ac6167d84d2dfaabd3b226832f10", func := "changeling/changelinglaw12.JobPars", spec := "jobPars", unfollowed := true, recurses := true, loops := true, plainKeys := false, apart := false }
def JobParsSaid : Prop := jobParsRow.holds Try.pinned (OpenSpec.ofChange jobParsSpec)

/-- ITS FALSE NEIGHBOUR: 'it returns false'. Refute it at one input. -/
def jobParsWrong : ChangeSpec := { name := "jobPars", fn := fun _ => fun
  | [d1, d2, d3] => { results := [.lit (.bool false)], args := [d1, d2, d3] }
  | _ => none }
def JobParsWrongFalsely : Prop := jobParsRow.holds Try.pinned (OpenSpec.ofChange jobParsWrong)

/-- 'changelinglaw12.JobSame': WHATEVER THE INPUT: true; the input reads as it did. -/
def jobSameSpec : ChangeSpec := { name := "jobSame", fn := fun _ => fun
  | [d1, d2, d3] => { results := [.lit (.bool true)], args := [d1, d2, d3] }
  | _ => none }
def jobSameRow : OpenClaim := { program := "ytjejnbhcgbbmhaa", sum := "220b09aba1f5bac0bd340e72a94114db8403ac6167d84d2dfaabd3b226832f10", func := "changeling/changelinglaw12.JobSame", spec := "jobSame", unfollowed := true, recurses := true, loops := true, plainKeys := false, apart := false }
def JobSameSaid : Prop := jobSameRow.holds Try.pinned (OpenSpec.ofChange jobSameSpec)

/-- ITS FALSE NEIGHBOUR: 'it returns false'. Refute it at one input. -/
def jobSameWrong : ChangeSpec := { name := "jobSame", fn := fun _ => fun
  | [d1, d2, d3] => { results := [.lit (.bool false)], args := [d1, d2, d3] }
  | _ => none }
def JobSameWrongFalsely : Prop := jobSameRow.holds Try.pinned (OpenSpec.ofChange jobSameWrong)

/-- 'changelinglaw08.ExprKnown': WHATEVER THE INPUT: true; the input reads as it did. -/
def exprKnownSpec : ChangeSpec := { name := "exprKnown", fn := fun _ => fun
  | [] => { results := [.lit (.bool true)], args := [] }
  | _ => none }
def exprKnownRow : OpenClaim := { program := "ytjejnbhcgbbmhaa", sum := "220b09aba1f5bac0bd340e72a94114db8403ac6167d84d2dfaabd3b226832f10", func := "changeling/changelinglaw08.ExprKnown", spec := "exprKnown", inPlace := ["internal/bytealg.IndexByteString", "internal/bytealg.IndexString"], unfollowed := true, recurses := true, named := ["internal/bytealg.MaxLen"], plainKeys := false, apart := false }
def ExprKnownSaid : Prop := exprKnownRow.holds Try.pinned (OpenSpec.ofChange exprKnownSpec)

/-- ITS FALSE NEIGHBOUR: 'it returns false'. Refute it at one input. -/
def exprKnownWrong : ChangeSpec := { name := "exprKnown", fn := fun _ => fun
  | [] => { results := [.lit (.bool false)], args := [] }
  | _ => none }
def ExprKnownWrongFalsely : Prop := exprKnownRow.holds Try.pinned (OpenSpec.ofChange exprKnownWrong)

/-- 'changelinglaw08.ExprParses': WHATEVER THE INPUT: true; the input reads as it did. -/
def exprParsesSpec : ChangeSpec := { name := "exprParses", fn := fun _ => fun
  | [d] => { results := [.lit (.bool true)], args := [d] }
  | _ => none }
def exprParsesRow : OpenClaim := { program := "ytjejnbhcgbbmhaa", sum := "220b09aba1f5bac0bd340e72a94114db8403ac6167d84d2dfaabd3b226832f10", func := "changeling/changelinglaw08.ExprParses", spec := "exprParses", inPlace := ["internal/bytealg.IndexByteString", "internal/bytealg.IndexString"], unfollowed := true, recurses := true, named := ["internal/bytealg.MaxLen"], plainKeys := false, apart := false }
def ExprParsesSaid : Prop := exprParsesRow.holds Try.pinned (OpenSpec.ofChange exprParsesSpec)

/-- ITS FALSE NEIGHBOUR: 'it returns false'. Refute it at one input. -/
def exprParsesWrong : ChangeSpec := { name := "exprParses", fn := fun _ => fun
  | [d] => { results := [.lit (.bool false)], args := [d] }
  | _ => none }
def ExprParsesWrongFalsely : Prop := exprParsesRow.holds Try.pinned (OpenSpec.ofChange exprParsesWrong)

/-- 'changelinglaw08.ExprBlanks': WHATEVER THE INPUT: true; the input reads as it did. -/
def exprBlanksSpec : ChangeSpec := { name := "exprBlanks", fn := fun _ => fun
  | [d] => { results := [.lit (.bool true)], args := [d] }
  | _ => none }
def exprBlanksRow : OpenClaim := { program := "ytjejnbhcgbbmhaa", sum := "220b09aba1f5bac0bd340e72a94114db8403ac6167d84d2dfaabd3b226832f10", func := "changeling/changelinglaw08.ExprBlanks", spec := "exprBlanks", inPlace := ["internal/bytealg.IndexByteString", "internal/bytealg.IndexString"], unfollowed := true, recurses := true, named := ["internal/bytealg.MaxLen"], plainKeys := false, apart := false }
def ExprBlanksSaid : Prop := exprBlanksRow.holds Try.pinned (OpenSpec.ofChange exprBlanksSpec)

/-- ITS FALSE NEIGHBOUR: 'it returns false'. Refute it at one input. -/
def exprBlanksWrong : ChangeSpec := { name := "exprBlanks", fn := fun _ => fun
  | [d] => { results := [.lit (.bool false)], args := [d] }
  | _ => none }
def ExprBlanksWrongFalsely : Prop := exprBlanksRow.holds Try.pinned (OpenSpec.ofChange exprBlanksWrong)

/-- 'changelinglaw08.ExprMay': WHATEVER THE INPUT: true; the input reads as it did. -/
def exprMaySpec : ChangeSpec := { name := "exprMay", fn := fun _ => fun
  | [d1, d2] => { results := [.lit (.bool true)], args := [d1, d2] }
  | _ => none }
def exprMayRow : OpenClaim := { program := "ytjejnbhcgbbmhaa", sum := "220b09aba1f5bac0bd340e72a94114db8403ac6167d84d2dfaabd3b226832f10", func := "changeling/changelinglaw08.ExprMay", spec := "exprMay", inPlace := ["internal/bytealg.IndexByteString", "internal/bytealg.IndexString"], unfollowed := true, recurses := true, named := ["internal/bytealg.MaxLen"], loops := true, plainKeys := false, apart := false }
def ExprMaySaid : Prop := exprMayRow.holds Try.pinned (OpenSpec.ofChange exprMaySpec)

/-- ITS FALSE NEIGHBOUR: 'it returns false'. Refute it at one input. -/
def exprMayWrong : ChangeSpec := { name := "exprMay", fn := fun _ => fun
  | [d1, d2] => { results := [.lit (.bool false)], args := [d1, d2] }
  | _ => none }
def ExprMayWrongFalsely : Prop := exprMayRow.holds Try.pinned (OpenSpec.ofChange exprMayWrong)

/-- 'changelinglaw08.ExprGood': WHATEVER THE INPUT: true; the input reads as it did. -/
def exprGoodSpec : ChangeSpec := { name := "exprGood", fn := fun _ => fun
  | [d] => { results := [.lit (.bool true)], args := [d] }
  | _ => none }
def exprGoodRow : OpenClaim := { program := "ytjejnbhcgbbmhaa", sum := "220b09aba1f5bac0bd340e72a94114db8403ac6167d84d2dfaabd3b226832f10", func := "changeling/changelinglaw08.ExprGood", spec := "exprGood", inPlace := ["internal/bytealg.IndexByteString", "internal/bytealg.IndexString"], unfollowed := true, recurses := true, named := ["internal/bytealg.MaxLen"], plainKeys := false, apart := false }
def ExprGoodSaid : Prop := exprGoodRow.holds Try.pinned (OpenSpec.ofChange exprGoodSpec)

/-- ITS FALSE NEIGHBOUR: 'it returns false'. Refute it at one input. -/
def exprGoodWrong : ChangeSpec := { name := "exprGood", fn := fun _ => fun
  | [d] => { results := [.lit (.bool false)], args := [d] }
  | _ => none }
def ExprGoodWrongFalsely : Prop := exprGoodRow.holds Try.pinned (OpenSpec.ofChange exprGoodWrong)

/-- 'changelinglaw08.ExprParens': WHATEVER THE INPUT: true; the input reads as it did. -/
def exprParensSpec : ChangeSpec := { name := "exprParens", fn := fun _ => fun
  | [d1, d2] => { results := [.lit (.bool true)], args := [d1, d2] }
  | _ => none }
def exprParensRow : OpenClaim := { program := "ytjejnbhcgbbmhaa", sum := "220b09aba1f5bac0bd340e72a94114db8403ac6167d84d2dfaabd3b226832f10", func := "changeling/changelinglaw08.ExprParens", spec := "exprParens", inPlace := ["internal/bytealg.IndexByteString", "internal/bytealg.IndexString", "internal/abi.NoEscape", "internal/bytealg.MakeNoZero"], unfollowed := true, recurses := true, named := ["internal/bytealg.MaxLen"], plainKeys := false, apart := false }
def ExprParensSaid : Prop := exprParensRow.holds Try.pinned (OpenSpec.ofChange exprParensSpec)

/-- ITS FALSE NEIGHBOUR: 'it returns false'. Refute it at one input. -/
def exprParensWrong : ChangeSpec := { name := "exprParens", fn := fun _ => fun
  | [d1, d2] => { results := [.lit (.bool false)], args := [d1, d2] }
  | _ => none }
def ExprParensWrongFalsely : Prop := exprParensRow.holds Try.pinned (OpenSpec.ofChange exprParensWrong)

/- THE SECOND FORM. 'bulk': how many values and letters a reading holds, each counted each time it is reached (what is shared counts as often as it is met; a slice's spare places count too). A statement '..UptoSaid' is the law's where the arguments, and the package variables that the reading takes, are together of bulk at most 1048576: NARROWER than '..Said'. Prove '..Said' where nothing that the law and all that it calls make is longer than what came in: it says more and counts as full. Else prove '..UptoSaid'. A law counts once. -/
mutual
def uptoBulk {H : Type} : DataW H → Nat
  | .lit (.string bytes) => bytes.length + 1
  | .lit _ => 1
  | .nil => 1
  | .ptr d => uptoBulk d + 1
  | .slice elems spare => uptoBulkAll elems + uptoBulkAll spare + 1
  | .agg parts => uptoBulkAll parts + 1
  | .iface _ d => uptoBulk d + 1
  | .map entries => uptoBulkEntries entries + 1
  | .held _ => 1
def uptoBulkAll {H : Type} : List (DataW H) → Nat
  | [] => 0
  | d :: r => uptoBulk d + uptoBulkAll r
def uptoBulkEntries {H : Type} : List (Lit × DataW H) → Nat
  | [] => 0
  | x :: r => uptoBulkEntry x + uptoBulkEntries r
def uptoBulkEntry {H : Type} : Lit × DataW H → Nat
  | (.string bytes, d) => bytes.length + uptoBulk d + 1
  | (_, d) => uptoBulk d + 1
 end
def uptoSmall : (H : Type) → List (DataW H) → Bool := fun _ ds => decide (uptoBulkAll ds ≤ 1048576)
def OpenSpec.upto (s : _root_.Go.ChangeSpec) : _root_.Go.OpenSpec := { _root_.Go.OpenSpec.ofChange s with cond := some uptoSmall }

/-- 'changelinglaw12.JobKnown', WHERE WHAT IT READS IS OF BULK AT MOST 1048576: true; the input reads as it did. -/
def jobKnownUptoRow : OpenClaim := { program := "ytjejnbhcgbbmhaa", sum := "220b09aba1f5bac0bd340e72a94114db8403ac6167d84d2dfaabd3b226832f10", func := "changeling/changelinglaw12.JobKnown", spec := "jobKnown", unfollowed := true, recurses := true, plainKeys := false, apart := false, narrowed := true }
def JobKnownUptoSaid : Prop := jobKnownUptoRow.holds Try.pinned (OpenSpec.upto jobKnownSpec)

/-- 'changelinglaw12.JobWhole', WHERE WHAT IT READS IS OF BULK AT MOST 1048576: true; the input reads as it did. -/
def jobWholeUptoRow : OpenClaim := { program := "ytjejnbhcgbbmhaa", sum := "220b09aba1f5bac0bd340e72a94114db8403ac6167d84d2dfaabd3b226832f10", func := "changeling/changelinglaw12.JobWhole", spec := "jobWhole", unfollowed := true, recurses := true, loops := true, plainKeys := false, apart := false, narrowed := true }
def JobWholeUptoSaid : Prop := jobWholeUptoRow.holds Try.pinned (OpenSpec.upto jobWholeSpec)

/-- 'changelinglaw12.JobCounts', WHERE WHAT IT READS IS OF BULK AT MOST 1048576: true; the input reads as it did. -/
def jobCountsUptoRow : OpenClaim := { program := "ytjejnbhcgbbmhaa", sum := "220b09aba1f5bac0bd340e72a94114db8403ac6167d84d2dfaabd3b226832f10", func := "changeling/changelinglaw12.JobCounts", spec := "jobCounts", unfollowed := true, recurses := true, loops := true, plainKeys := false, apart := false, narrowed := true }
def JobCountsUptoSaid : Prop := jobCountsUptoRow.holds Try.pinned (OpenSpec.upto jobCountsSpec)

/-- 'changelinglaw12.JobPars', WHERE WHAT IT READS IS OF BULK AT MOST 1048576: true; the input reads as it did. -/
def jobParsUptoRow : OpenClaim := { program := "ytjejnbhcgbbmhaa", sum := "220b09aba1f5bac0bd340e72a94114db8403ac6167d84d2dfaabd3b226832f10", func := "changeling/changelinglaw12.JobPars", spec := "jobPars", unfollowed := true, recurses := true, loops := true, plainKeys := false, apart := false, narrowed := true }
def JobParsUptoSaid : Prop := jobParsUptoRow.holds Try.pinned (OpenSpec.upto jobParsSpec)

/-- 'changelinglaw12.JobSame', WHERE WHAT IT READS IS OF BULK AT MOST 1048576: true; the input reads as it did. -/
def jobSameUptoRow : OpenClaim := { program := "ytjejnbhcgbbmhaa", sum := "220b09aba1f5bac0bd340e72a94114db8403ac6167d84d2dfaabd3b226832f10", func := "changeling/changelinglaw12.JobSame", spec := "jobSame", unfollowed := true, recurses := true, loops := true, plainKeys := false, apart := false, narrowed := true }
def JobSameUptoSaid : Prop := jobSameUptoRow.holds Try.pinned (OpenSpec.upto jobSameSpec)

/-- 'changelinglaw08.ExprKnown', WHERE WHAT IT READS IS OF BULK AT MOST 1048576: true; the input reads as it did. -/
def exprKnownUptoRow : OpenClaim := { program := "ytjejnbhcgbbmhaa", sum := "220b09aba1f5bac0bd340e72a94114db8403ac6167d84d2dfaabd3b226832f10", func := "changeling/changelinglaw08.ExprKnown", spec := "exprKnown", inPlace := ["internal/bytealg.IndexByteString", "internal/bytealg.IndexString"], unfollowed := true, recurses := true, named := ["internal/bytealg.MaxLen"], plainKeys := false, apart := false, narrowed := true }
def ExprKnownUptoSaid : Prop := exprKnownUptoRow.holds Try.pinned (OpenSpec.upto exprKnownSpec)

/-- 'changelinglaw08.ExprParses', WHERE WHAT IT READS IS OF BULK AT MOST 1048576: true; the input reads as it did. -/
def exprParsesUptoRow : OpenClaim := { program := "ytjejnbhcgbbmhaa", sum := "220b09aba1f5bac0bd340e72a94114db8403ac6167d84d2dfaabd3b226832f10", func := "changeling/changelinglaw08.ExprParses", spec := "exprParses", inPlace := ["internal/bytealg.IndexByteString", "internal/bytealg.IndexString"], unfollowed := true, recurses := true, named := ["internal/bytealg.MaxLen"], plainKeys := false, apart := false, narrowed := true }
def ExprParsesUptoSaid : Prop := exprParsesUptoRow.holds Try.pinned (OpenSpec.upto exprParsesSpec)

/-- 'changelinglaw08.ExprBlanks', WHERE WHAT IT READS IS OF BULK AT MOST 1048576: true; the input reads as it did. -/
def exprBlanksUptoRow : OpenClaim := { program := "ytjejnbhcgbbmhaa", sum := "220b09aba1f5bac0bd340e72a94114db8403ac6167d84d2dfaabd3b226832f10", func := "changeling/changelinglaw08.ExprBlanks", spec := "exprBlanks", inPlace := ["internal/bytealg.IndexByteString", "internal/bytealg.IndexString"], unfollowed := true, recurses := true, named := ["internal/bytealg.MaxLen"], plainKeys := false, apart := false, narrowed := true }
def ExprBlanksUptoSaid : Prop := exprBlanksUptoRow.holds Try.pinned (OpenSpec.upto exprBlanksSpec)

/-- 'changelinglaw08.ExprMay', WHERE WHAT IT READS IS OF BULK AT MOST 1048576: true; the input reads as it did. -/
def exprMayUptoRow : OpenClaim := { program := "ytjejnbhcgbbmhaa", sum := "220b09aba1f5bac0bd340e72a94114db8403ac6167d84d2dfaabd3b226832f10", func := "changeling/changelinglaw08.ExprMay", spec := "exprMay", inPlace := ["internal/bytealg.IndexByteString", "internal/bytealg.IndexString"], unfollowed := true, recurses := true, named := ["internal/bytealg.MaxLen"], loops := true, plainKeys := false, apart := false, narrowed := true }
def ExprMayUptoSaid : Prop := exprMayUptoRow.holds Try.pinned (OpenSpec.upto exprMaySpec)

/-- 'changelinglaw08.ExprGood', WHERE WHAT IT READS IS OF BULK AT MOST 1048576: true; the input reads as it did. -/
def exprGoodUptoRow : OpenClaim := { program := "ytjejnbhcgbbmhaa", sum := "220b09aba1f5bac0bd340e72a94114db8403ac6167d84d2dfaabd3b226832f10", func := "changeling/changelinglaw08.ExprGood", spec := "exprGood", inPlace := ["internal/bytealg.IndexByteString", "internal/bytealg.IndexString"], unfollowed := true, recurses := true, named := ["internal/bytealg.MaxLen"], plainKeys := false, apart := false, narrowed := true }
def ExprGoodUptoSaid : Prop := exprGoodUptoRow.holds Try.pinned (OpenSpec.upto exprGoodSpec)

/-- 'changelinglaw08.ExprParens', WHERE WHAT IT READS IS OF BULK AT MOST 1048576: true; the input reads as it did. -/
def exprParensUptoRow : OpenClaim := { program := "ytjejnbhcgbbmhaa", sum := "220b09aba1f5bac0bd340e72a94114db8403ac6167d84d2dfaabd3b226832f10", func := "changeling/changelinglaw08.ExprParens", spec := "exprParens", inPlace := ["internal/bytealg.IndexByteString", "internal/bytealg.IndexString", "internal/abi.NoEscape", "internal/bytealg.MakeNoZero"], unfollowed := true, recurses := true, named := ["internal/bytealg.MaxLen"], plainKeys := false, apart := false, narrowed := true }
def ExprParensUptoSaid : Prop := exprParensUptoRow.holds Try.pinned (OpenSpec.upto exprParensSpec)

end Rows
end Go.Proofs.Ytjejnbhcgbbmhaa

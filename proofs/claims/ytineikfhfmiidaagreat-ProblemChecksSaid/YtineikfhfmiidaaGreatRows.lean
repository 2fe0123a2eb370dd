/-
  No cell of these rows narrows 'for every input' (looked for: loops, veiled, ifaces, maps, wideKeys, modest, calm, conditions, laid).
  DERIVED. THE GIVEN ROWS OF THIS SEAT. 5 by the template 'for every input the law returns true; each argument reads behind the call as it read before'; 0 by the template 'total and deterministic' (their statements: YtineikfhfmiidaaGreatTotals.lean).
  GIVEN WITH THE SEED: the statements are not yours to turn. If you find one false, say at which input.
  Laid BY PROGRAM, IN A SANDBOX (cutbox-rows.mjs): the forced cells as the released guide's own fill.sh prints them over the translation 77dc0af600d75277… (all of the seat's roots in one cut). By AI agents, Wed Nov 11 2026. No macro, syntax, notation, axiom, sorry.
-/
import Derived.Test.YtineikfhfmiidaaGreatChecked
import GoSem.Claim
import GoSem.ClaimJoined
import GoSem.ClaimMapViews
import Derived.JoinedTies
import Derived.KernelRfl
namespace Go.Proofs.YtineikfhfmiidaaGreat
/- THE CELL 'sum', in the pinned program and in every row, IS THE sha256 OF THE DUMP (.gsa) THAT YtineikfhfmiidaaGreatProg.lean LOADS. Nothing in Lean hashes anything: it is a label: what it is worth is what the hold of that sum in a sandbox is worth. -/
noncomputable def Tryz.pinned : Pinned := { name := "ytineikfhfmiidaagreat", sum := "77dc0af600d752779e8ebff7805442f40ee4352afb6cc4bf9163318e77ef10d9", checked := Tryz.checked }
namespace Rows
def none {H : Type} : Left H := { results := [], args := [] }

/-- 'horariumlaw17.ProblemChecks': WHATEVER THE INPUT: true; the input reads as it did. -/
def problemChecksSpec : ChangeSpec := { name := "problemChecks", fn := fun _ => fun
  | [d] => { results := [.lit (.bool true)], args := [d] }
  | _ => none }
def problemChecksRow : OpenClaim := { program := "ytineikfhfmiidaagreat", sum := "77dc0af600d752779e8ebff7805442f40ee4352afb6cc4bf9163318e77ef10d9", func := "horarium/horariumlaw17.ProblemChecks", spec := "problemChecks", unfollowed := true, recurses := true, plainKeys := false, apart := false }
def ProblemChecksSaid : Prop := problemChecksRow.holds Tryz.pinned (OpenSpec.ofChange problemChecksSpec)

/-- ITS FALSE NEIGHBOUR: 'it returns false'. Refute it at one input. -/
def problemChecksWrong : ChangeSpec := { name := "problemChecks", fn := fun _ => fun
  | [d] => { results := [.lit (.bool false)], args := [d] }
  | _ => none }
def ProblemChecksWrongFalsely : Prop := problemChecksRow.holds Tryz.pinned (OpenSpec.ofChange problemChecksWrong)

/-- 'horariumlaw17.ProblemCopies': WHATEVER THE INPUT: true; the input reads as it did. -/
def problemCopiesSpec : ChangeSpec := { name := "problemCopies", fn := fun _ => fun
  | [d1, d2] => { results := [.lit (.bool true)], args := [d1, d2] }
  | _ => none }
def problemCopiesRow : OpenClaim := { program := "ytineikfhfmiidaagreat", sum := "77dc0af600d752779e8ebff7805442f40ee4352afb6cc4bf9163318e77ef10d9", func := "horarium/horariumlaw17.ProblemCopies", spec := "problemCopies", unfollowed := true, recurses := true, plainKeys := false, apart := false }
def ProblemCopiesSaid : Prop := problemCopiesRow.holds Tryz.pinned (OpenSpec.ofChange problemCopiesSpec)

/-- ITS FALSE NEIGHBOUR: 'it returns false'. Refute it at one input. -/
def problemCopiesWrong : ChangeSpec := { name := "problemCopies", fn := fun _ => fun
  | [d1, d2] => { results := [.lit (.bool false)], args := [d1, d2] }
  | _ => none }
def ProblemCopiesWrongFalsely : Prop := problemCopiesRow.holds Tryz.pinned (OpenSpec.ofChange problemCopiesWrong)

/-- 'horariumlaw17.ProblemPlans': WHATEVER THE INPUT: true; the input reads as it did. -/
def problemPlansSpec : ChangeSpec := { name := "problemPlans", fn := fun _ => fun
  | [d1, d2] => { results := [.lit (.bool true)], args := [d1, d2] }
  | _ => none }
def problemPlansRow : OpenClaim := { program := "ytineikfhfmiidaagreat", sum := "77dc0af600d752779e8ebff7805442f40ee4352afb6cc4bf9163318e77ef10d9", func := "horarium/horariumlaw17.ProblemPlans", spec := "problemPlans", unfollowed := true, recurses := true, plainKeys := false, apart := false }
def ProblemPlansSaid : Prop := problemPlansRow.holds Tryz.pinned (OpenSpec.ofChange problemPlansSpec)

/-- ITS FALSE NEIGHBOUR: 'it returns false'. Refute it at one input. -/
def problemPlansWrong : ChangeSpec := { name := "problemPlans", fn := fun _ => fun
  | [d1, d2] => { results := [.lit (.bool false)], args := [d1, d2] }
  | _ => none }
def ProblemPlansWrongFalsely : Prop := problemPlansRow.holds Tryz.pinned (OpenSpec.ofChange problemPlansWrong)

/-- 'horariumlaw17.ProblemFinds': WHATEVER THE INPUT: true; the input reads as it did. -/
def problemFindsSpec : ChangeSpec := { name := "problemFinds", fn := fun _ => fun
  | [d1, d2] => { results := [.lit (.bool true)], args := [d1, d2] }
  | _ => none }
def problemFindsRow : OpenClaim := { program := "ytineikfhfmiidaagreat", sum := "77dc0af600d752779e8ebff7805442f40ee4352afb6cc4bf9163318e77ef10d9", func := "horarium/horariumlaw17.ProblemFinds", spec := "problemFinds", unfollowed := true, recurses := true, plainKeys := false, apart := false }
def ProblemFindsSaid : Prop := problemFindsRow.holds Tryz.pinned (OpenSpec.ofChange problemFindsSpec)

/-- ITS FALSE NEIGHBOUR: 'it returns false'. Refute it at one input. -/
def problemFindsWrong : ChangeSpec := { name := "problemFinds", fn := fun _ => fun
  | [d1, d2] => { results := [.lit (.bool false)], args := [d1, d2] }
  | _ => none }
def ProblemFindsWrongFalsely : Prop := problemFindsRow.holds Tryz.pinned (OpenSpec.ofChange problemFindsWrong)

/-- 'horariumlaw17.ProblemShares': WHATEVER THE INPUT: true; the input reads as it did. -/
def problemSharesSpec : ChangeSpec := { name := "problemShares", fn := fun _ => fun
  | [d1, d2, d3] => { results := [.lit (.bool true)], args := [d1, d2, d3] }
  | _ => none }
def problemSharesRow : OpenClaim := { program := "ytineikfhfmiidaagreat", sum := "77dc0af600d752779e8ebff7805442f40ee4352afb6cc4bf9163318e77ef10d9", func := "horarium/horariumlaw17.ProblemShares", spec := "problemShares", unfollowed := true, recurses := true, plainKeys := false, apart := false }
def ProblemSharesSaid : Prop := problemSharesRow.holds Tryz.pinned (OpenSpec.ofChange problemSharesSpec)

/-- ITS FALSE NEIGHBOUR: 'it returns false'. Refute it at one input. -/
def problemSharesWrong : ChangeSpec := { name := "problemShares", fn := fun _ => fun
  | [d1, d2, d3] => { results := [.lit (.bool false)], args := [d1, d2, d3] }
  | _ => none }
def ProblemSharesWrongFalsely : Prop := problemSharesRow.holds Tryz.pinned (OpenSpec.ofChange problemSharesWrong)

/- THE SECOND FORM. 'bulk': how many values and letters a reading holds, each counted each time it is reached (what is shared counts as often as it is met; a slice's spare places count too). A statement '..UptoSaid' is the law's where the arguments, and the package variables that the reading takes, are together of bulk at most 1048576: NARROWER than '..Said'. Prove '..Said' where nothing that the law and all that it calls make is longer than what came in: it says more and counts as full. Else prove '..UptoSaid'. A law counts once. -/
mutual
def uptoBulk {H : Type} : DataW H → Nat
  | .lit (.string bytes) => bytes.length + 1
  | .lit _ => 1
  | .nil => 1
  | .ptr d => uptoBulk d + 1
  | .slice elems spare => uptoBulkAll elems + uptoBulkAll spare + 1
  | .agg parts => uptoBulkAll parts + 1
  | .iface _ d => uptoBulk d + 1
  | .map entries => uptoBulkEntries entries + 1
  | .held _ => 1
def uptoBulkAll {H : Type} : List (DataW H) → Nat
  | [] => 0
  | d :: r => uptoBulk d + uptoBulkAll r
def uptoBulkEntries {H : Type} : List (Lit × DataW H) → Nat
  | [] => 0
  | x :: r => uptoBulkEntry x + uptoBulkEntries r
def uptoBulkEntry {H : Type} : Lit × DataW H → Nat
  | (.string bytes, d) => bytes.length + uptoBulk d + 1
  | (_, d) => uptoBulk d + 1
 end
def uptoSmall : (H : Type) → List (DataW H) → Bool := fun _ ds => decide (uptoBulkAll ds ≤ 1048576)
def OpenSpec.upto (s : _root_.Go.ChangeSpec) : _root_.Go.OpenSpec := { _root_.Go.OpenSpec.ofChange s with cond := some uptoSmall }

/-- 'horariumlaw17.ProblemChecks', WHERE WHAT IT READS IS OF BULK AT MOST 1048576: true; the input reads as it did. -/
def problemChecksUptoRow : OpenClaim := { program := "ytineikfhfmiidaagreat", sum := "77dc0af600d752779e8ebff7805442f40ee4352afb6cc4bf9163318e77ef10d9", func := "horarium/horariumlaw17.ProblemChecks", spec := "problemChecks", unfollowed := true, recurses := true, plainKeys := false, apart := false, narrowed := true }
def ProblemChecksUptoSaid : Prop := problemChecksUptoRow.holds Tryz.pinned (OpenSpec.upto problemChecksSpec)

/-- 'horariumlaw17.ProblemCopies', WHERE WHAT IT READS IS OF BULK AT MOST 1048576: true; the input reads as it did. -/
def problemCopiesUptoRow : OpenClaim := { program := "ytineikfhfmiidaagreat", sum := "77dc0af600d752779e8ebff7805442f40ee4352afb6cc4bf9163318e77ef10d9", func := "horarium/horariumlaw17.ProblemCopies", spec := "problemCopies", unfollowed := true, recurses := true, plainKeys := false, apart := false, narrowed := true }
def ProblemCopiesUptoSaid : Prop := problemCopiesUptoRow.holds Tryz.pinned (OpenSpec.upto problemCopiesSpec)

/-- 'horariumlaw17.ProblemPlans', WHERE WHAT IT READS IS OF BULK AT MOST 1048576: true; the input reads as it did. -/
def problemPlansUptoRow : OpenClaim := { program := "ytineikfhfmiidaagreat", sum := "77dc0af600d752779e8ebff7805442f40ee4352afb6cc4bf9163318e77ef10d9", func := "horarium/horariumlaw17.ProblemPlans", spec := "problemPlans", unfollowed := true, recurses := true, plainKeys := false, apart := false, narrowed := true }
def ProblemPlansUptoSaid : Prop := problemPlansUptoRow.holds Tryz.pinned (OpenSpec.upto problemPlansSpec)

/-- 'horariumlaw17.ProblemFinds', WHERE WHAT IT READS IS OF BULK AT MOST 1048576: true; the input reads as it did. -/
def problemFindsUptoRow : OpenClaim := { program := "ytineikfhfmiidaagreat", sum := "77dc0af600d752779e8ebff7805442f40ee4352afb6cc4bf9163318e77ef10d9", func := "horarium/horariumlaw17.ProblemFinds", spec := "problemFinds", unfollowed := true, recurses := true, plainKeys := false, apart := false, narrowed := true }
def ProblemFindsUptoSaid : Prop := problemFindsUptoRow.holds Tryz.pinned (OpenSpec.upto problemFindsSpec)

/-- 'horariumlaw17.ProblemShares', WHERE WHAT IT READS IS OF BULK AT MOST 1048576: true; the input reads as it did. -/
def problemSharesUptoRow : OpenClaim := { program := "ytineikfhfmiidaagreat", sum := "77dc0af600d752779e8ebff7805442f40ee4352afb6cc4bf9163318e77ef10d9", func := "horarium/horariumlaw17.ProblemShares", spec := "problemShares", unfollowed := true, recurses := true, plainKeys := false, apart := false, narrowed := true }
def ProblemSharesUptoSaid : Prop := problemSharesUptoRow.holds Tryz.pinned (OpenSpec.upto problemSharesSpec)

end Rows
end Go.Proofs.YtineikfhfmiidaaGreat

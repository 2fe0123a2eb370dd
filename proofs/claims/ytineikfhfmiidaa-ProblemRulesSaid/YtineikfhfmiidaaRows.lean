/-
  No cell of these rows narrows 'for every input' (looked for: loops, veiled, ifaces, maps, wideKeys, modest, calm, conditions, laid).
  DERIVED. THE GIVEN ROWS OF THIS SEAT. 2 by the template 'for every input the law returns true; each argument reads behind the call as it read before'; 0 by the template 'total and deterministic' (their statements: YtineikfhfmiidaaTotals.lean).
  GIVEN WITH THE SEED: the statements are not yours to turn. If you find one false, say at which input.
  Laid BY PROGRAM, IN A SANDBOX (cutbox-rows.mjs): the forced cells as the released guide's own fill.sh prints them over the translation 735ddf6f90d366b9… (all of the seat's roots in one cut). By AI agents, Wed Nov 11 2026. No macro, syntax, notation, axiom, sorry.
-/
import Derived.Test.YtineikfhfmiidaaChecked
import GoSem.Claim
import GoSem.ClaimJoined
import GoSem.ClaimMapViews
import Derived.JoinedTies
import Derived.KernelRfl
namespace Go.Proofs.Ytineikfhfmiidaa
/- THE CELL 'sum', in the pinned program and in every row, IS THE sha256 OF THE DUMP (.gsa) THAT YtineikfhfmiidaaProg.lean LOADS. Nothing in Lean hashes anything: it is a label: what it is worth is what the hold of that sum in a sandbox is worth. -/
noncomputable def Try.pinned : Pinned := { name := "ytineikfhfmiidaa", sum := "735ddf6f90d366b92fcf319a4cfad2dd1ee6ed92868d003c2e40c811dd394529", checked := Try.checked }
namespace Rows
def none {H : Type} : Left H := { results := [], args := [] }

/-- 'horariumlaw17.ProblemRules': WHATEVER THE INPUT: true; the input reads as it did. -/
def problemRulesSpec : ChangeSpec := { name := "problemRules", fn := fun _ => fun
  | [d1, d2] => { results := [.lit (.bool true)], args := [d1, d2] }
  | _ => none }
def problemRulesRow : OpenClaim := { program := "ytineikfhfmiidaa", sum := "735ddf6f90d366b92fcf319a4cfad2dd1ee6ed92868d003c2e40c811dd394529", func := "horarium/horariumlaw17.ProblemRules", spec := "problemRules", unfollowed := true, recurses := true, plainKeys := false, apart := false }
def ProblemRulesSaid : Prop := problemRulesRow.holds Try.pinned (OpenSpec.ofChange problemRulesSpec)

/-- ITS FALSE NEIGHBOUR: 'it returns false'. Refute it at one input. -/
def problemRulesWrong : ChangeSpec := { name := "problemRules", fn := fun _ => fun
  | [d1, d2] => { results := [.lit (.bool false)], args := [d1, d2] }
  | _ => none }
def ProblemRulesWrongFalsely : Prop := problemRulesRow.holds Try.pinned (OpenSpec.ofChange problemRulesWrong)

/-- 'horariumlaw17.ProblemAhead': WHATEVER THE INPUT: true; the input reads as it did. -/
def problemAheadSpec : ChangeSpec := { name := "problemAhead", fn := fun _ => fun
  | [d] => { results := [.lit (.bool true)], args := [d] }
  | _ => none }
def problemAheadRow : OpenClaim := { program := "ytineikfhfmiidaa", sum := "735ddf6f90d366b92fcf319a4cfad2dd1ee6ed92868d003c2e40c811dd394529", func := "horarium/horariumlaw17.ProblemAhead", spec := "problemAhead", unfollowed := true, recurses := true, plainKeys := false, apart := false }
def ProblemAheadSaid : Prop := problemAheadRow.holds Try.pinned (OpenSpec.ofChange problemAheadSpec)

/-- ITS FALSE NEIGHBOUR: 'it returns false'. Refute it at one input. -/
def problemAheadWrong : ChangeSpec := { name := "problemAhead", fn := fun _ => fun
  | [d] => { results := [.lit (.bool false)], args := [d] }
  | _ => none }
def ProblemAheadWrongFalsely : Prop := problemAheadRow.holds Try.pinned (OpenSpec.ofChange problemAheadWrong)

/- THE SECOND FORM. 'bulk': how many values and letters a reading holds, each counted each time it is reached (what is shared counts as often as it is met; a slice's spare places count too). A statement '..UptoSaid' is the law's where the arguments, and the package variables that the reading takes, are together of bulk at most 1048576: NARROWER than '..Said'. Prove '..Said' where nothing that the law and all that it calls make is longer than what came in: it says more and counts as full. Else prove '..UptoSaid'. A law counts once. -/
mutual
def uptoBulk {H : Type} : DataW H → Nat
  | .lit (.string bytes) => bytes.length + 1
  | .lit _ => 1
  | .nil => 1
  | .ptr d => uptoBulk d + 1
  | .slice elems spare => uptoBulkAll elems + uptoBulkAll spare + 1
  | .agg parts => uptoBulkAll parts + 1
  | .iface _ d => uptoBulk d + 1
  | .map entries => uptoBulkEntries entries + 1
  | .held _ => 1
def uptoBulkAll {H : Type} : List (DataW H) → Nat
  | [] => 0
  | d :: r => uptoBulk d + uptoBulkAll r
def uptoBulkEntries {H : Type} : List (Lit × DataW H) → Nat
  | [] => 0
  | x :: r => uptoBulkEntry x + uptoBulkEntries r
def uptoBulkEntry {H : Type} : Lit × DataW H → Nat
  | (.string bytes, d) => bytes.length + uptoBulk d + 1
  | (_, d) => uptoBulk d + 1
 end
def uptoSmall : (H : Type) → List (DataW H) → Bool := fun _ ds => decide (uptoBulkAll ds ≤ 1048576)
def OpenSpec.upto (s : _root_.Go.ChangeSpec) : _root_.Go.OpenSpec := { _root_.Go.OpenSpec.ofChange s with cond := some uptoSmall }

/-- 'horariumlaw17.ProblemRules', WHERE WHAT IT READS IS OF BULK AT MOST 1048576: true; the input reads as it did. -/
def problemRulesUptoRow : OpenClaim := { program := "ytineikfhfmiidaa", sum := "735ddf6f90d366b92fcf319a4cfad2dd1ee6ed92868d003c2e40c811dd394529", func := "horarium/horariumlaw17.ProblemRules", spec := "problemRules", unfollowed := true, recurses := true, plainKeys := false, apart := false, narrowed := true }
def ProblemRulesUptoSaid : Prop := problemRulesUptoRow.holds Try.pinned (OpenSpec.upto problemRulesSpec)

/-- 'horariumlaw17.ProblemAhead', WHERE WHAT IT READS IS OF BULK AT MOST 1048576: true; the input reads as it did. -/
def problemAheadUptoRow : OpenClaim := { program := "ytineikfhfmiidaa", sum := "735ddf6f90d366b92fcf319a4cfad2dd1ee6ed92868d003c2e40c811dd394529", func := "horarium/horariumlaw17.ProblemAhead", spec := "problemAhead", unfollowed := true, recurses := true, plainKeys := false, apart := false, narrowed := true }
def ProblemAheadUptoSaid : Prop := problemAheadUptoRow.holds Try.pinned (OpenSpec.upto problemAheadSpec)

end Rows
end Go.Proofs.Ytineikfhfmiidaa

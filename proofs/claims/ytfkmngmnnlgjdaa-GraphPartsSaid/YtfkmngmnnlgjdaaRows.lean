/-
  No cell of these rows narrows 'for every input' (looked for: loops, veiled, ifaces, maps, wideKeys, modest, calm, conditions, laid).
  DERIVED. THE GIVEN ROWS OF THIS SEAT. 6 by the template 'for every input the law returns true; each argument reads behind the call as it read before'; 0 by the template 'total and deterministic' (their statements: YtfkmngmnnlgjdaaTotals.lean).
  GIVEN WITH THE SEED: the statements are not yours to turn. If you find one false, say at which input.
  Laid BY PROGRAM, IN A SANDBOX (cutbox-rows.mjs): the forced cells as the released guide's own fill.sh prints them over the translation a5f09bad40f725ac… (all of the seat's roots in one cut). By AI agents, Wed Nov 11 2026. No macro, syntax, notation, axiom, sorry.
-/
import Derived.Test.YtfkmngmnnlgjdaaChecked
import GoSem.Claim
import GoSem.ClaimJoined
import GoSem.ClaimMapViews
import Derived.JoinedTies
import Derived.KernelRfl
namespace Go.Proofs.Ytfkmngmnnlgjdaa
/- THE CELL 'sum', in the pinned program and in every row, IS THE sha256 OF THE DUMP (.gsa) THAT YtfkmngmnnlgjdaaProg.lean LOADS. Nothing in Lean hashes anything: it is a label: what it is worth is what the hold of that sum in a sandbox is worth. -/
noncomputable def Try.pinned : Pinned := { name := "ytfkmngmnnlgjdaa", sum := "a5f09bad40f725ac01f90ab575d475a9c1266baaac5cc926eb395b2195e4697a", checked := Try.checked }
namespace Rows
def none {H : Type} : Left H := { results := [], args := [] }

/-- 'horariumlaw23.GraphJoins': WHATEVER THE INPUT: true; the input reads as it did. -/
def graphJoinsSpec : ChangeSpec := { name := "graphJoins", fn := fun _ => fun
  | [d1, d2, d3, d4] => { results := [.lit (.bool true)], args := [d1, d2, d3, d4] }
  | _ => none }
def graphJoinsRow : OpenClaim := { program := "ytfkmngmnnlgjdaa", sum := "a5f09bad40f725ac01f90ab575d475a9c1266baaac5cc926eb395b2195e4697a", func := "horarium/horariumlaw23.GraphJoins", spec := "graphJoins", unfollowed := true, recurses := true, apart := false }
def GraphJoinsSaid : Prop := graphJoinsRow.holds Try.pinned (OpenSpec.ofChange graphJoinsSpec)

/-- ITS FALSE NEIGHBOUR: 'it returns false'. Refute it at one input. -/
def graphJoinsWrong : ChangeSpec := { name := "graphJoins", fn := fun _ => fun
  | [d1, d2, d3, d4] => { results := [.lit (.bool false)], args := [d1, d2, d3, d4] }
  | _ => none }
def GraphJoinsWrongFalsely : Prop := graphJoinsRow.holds Try.pinned (OpenSpec.ofChange graphJoinsWrong)

/-- 'horariumlaw23.GraphParts': WHATEVER THE INPUT: true; the input reads as it did. -/
def graphPartsSpec : ChangeSpec := { name := "graphParts", fn := fun _ => fun
  | [d1, d2] => { results := [.lit (.bool true)], args := [d1, d2] }
  | _ => none }
def graphPartsRow : OpenClaim := { program := "ytfkmngmnnlgjdaa", sum := "a5f09bad40f725ac01f90ab575d475a9c1266baaac5cc926eb395b2195e4697a", func := "horarium/horariumlaw23.GraphParts", spec := "graphParts", unfollowed := true, recurses := true, apart := false }
def GraphPartsSaid : Prop := graphPartsRow.holds Try.pinned (OpenSpec.ofChange graphPartsSpec)

/-- ITS FALSE NEIGHBOUR: 'it returns false'. Refute it at one input. -/
def graphPartsWrong : ChangeSpec := { name := "graphParts", fn := fun _ => fun
  | [d1, d2] => { results := [.lit (.bool false)], args := [d1, d2] }
  | _ => none }
def GraphPartsWrongFalsely : Prop := graphPartsRow.holds Try.pinned (OpenSpec.ofChange graphPartsWrong)

/-- 'horariumlaw23.GraphTells': WHATEVER THE INPUT: true; the input reads as it did. -/
def graphTellsSpec : ChangeSpec := { name := "graphTells", fn := fun _ => fun
  | [d1, d2] => { results := [.lit (.bool true)], args := [d1, d2] }
  | _ => none }
def graphTellsRow : OpenClaim := { program := "ytfkmngmnnlgjdaa", sum := "a5f09bad40f725ac01f90ab575d475a9c1266baaac5cc926eb395b2195e4697a", func := "horarium/horariumlaw23.GraphTells", spec := "graphTells", unfollowed := true, recurses := true, apart := false }
def GraphTellsSaid : Prop := graphTellsRow.holds Try.pinned (OpenSpec.ofChange graphTellsSpec)

/-- ITS FALSE NEIGHBOUR: 'it returns false'. Refute it at one input. -/
def graphTellsWrong : ChangeSpec := { name := "graphTells", fn := fun _ => fun
  | [d1, d2] => { results := [.lit (.bool false)], args := [d1, d2] }
  | _ => none }
def GraphTellsWrongFalsely : Prop := graphTellsRow.holds Try.pinned (OpenSpec.ofChange graphTellsWrong)

/-- 'horariumlaw23.GraphShells': WHATEVER THE INPUT: true; the input reads as it did. -/
def graphShellsSpec : ChangeSpec := { name := "graphShells", fn := fun _ => fun
  | [d1, d2] => { results := [.lit (.bool true)], args := [d1, d2] }
  | _ => none }
def graphShellsRow : OpenClaim := { program := "ytfkmngmnnlgjdaa", sum := "a5f09bad40f725ac01f90ab575d475a9c1266baaac5cc926eb395b2195e4697a", func := "horarium/horariumlaw23.GraphShells", spec := "graphShells", unfollowed := true, recurses := true, apart := false }
def GraphShellsSaid : Prop := graphShellsRow.holds Try.pinned (OpenSpec.ofChange graphShellsSpec)

/-- ITS FALSE NEIGHBOUR: 'it returns false'. Refute it at one input. -/
def graphShellsWrong : ChangeSpec := { name := "graphShells", fn := fun _ => fun
  | [d1, d2] => { results := [.lit (.bool false)], args := [d1, d2] }
  | _ => none }
def GraphShellsWrongFalsely : Prop := graphShellsRow.holds Try.pinned (OpenSpec.ofChange graphShellsWrong)

/-- 'horariumlaw23.GraphCopies': WHATEVER THE INPUT: true; the input reads as it did. -/
def graphCopiesSpec : ChangeSpec := { name := "graphCopies", fn := fun _ => fun
  | [d1, d2, d3, d4] => { results := [.lit (.bool true)], args := [d1, d2, d3, d4] }
  | _ => none }
def graphCopiesRow : OpenClaim := { program := "ytfkmngmnnlgjdaa", sum := "a5f09bad40f725ac01f90ab575d475a9c1266baaac5cc926eb395b2195e4697a", func := "horarium/horariumlaw23.GraphCopies", spec := "graphCopies", unfollowed := true, recurses := true, apart := false }
def GraphCopiesSaid : Prop := graphCopiesRow.holds Try.pinned (OpenSpec.ofChange graphCopiesSpec)

/-- ITS FALSE NEIGHBOUR: 'it returns false'. Refute it at one input. -/
def graphCopiesWrong : ChangeSpec := { name := "graphCopies", fn := fun _ => fun
  | [d1, d2, d3, d4] => { results := [.lit (.bool false)], args := [d1, d2, d3, d4] }
  | _ => none }
def GraphCopiesWrongFalsely : Prop := graphCopiesRow.holds Try.pinned (OpenSpec.ofChange graphCopiesWrong)

/-- 'horariumlaw23.GraphNobody': WHATEVER THE INPUT: true; the input reads as it did. -/
def graphNobodySpec : ChangeSpec := { name := "graphNobody", fn := fun _ => fun
  | [d1, d2] => { results := [.lit (.bool true)], args := [d1, d2] }
  | _ => none }
def graphNobodyRow : OpenClaim := { program := "ytfkmngmnnlgjdaa", sum := "a5f09bad40f725ac01f90ab575d475a9c1266baaac5cc926eb395b2195e4697a", func := "horarium/horariumlaw23.GraphNobody", spec := "graphNobody", unfollowed := true, recurses := true, apart := false }
def GraphNobodySaid : Prop := graphNobodyRow.holds Try.pinned (OpenSpec.ofChange graphNobodySpec)

/-- ITS FALSE NEIGHBOUR: 'it returns false'. Refute it at one input. -/
def graphNobodyWrong : ChangeSpec := { name := "graphNobody", fn := fun _ => fun
  | [d1, d2] => { results := [.lit (.bool false)], args := [d1, d2] }
  | _ => none }
def GraphNobodyWrongFalsely : Prop := graphNobodyRow.holds Try.pinned (OpenSpec.ofChange graphNobodyWrong)

/- THE SECOND FORM. 'bulk': how many values and letters a reading holds, each counted each time it is reached (what is shared counts as often as it is met; a slice's spare places count too). A statement '..UptoSaid' is the law's where the arguments, and the package variables that the reading takes, are together of bulk at most 1048576: NARROWER than '..Said'. Prove '..Said' where nothing that the law and all that it calls make is longer than what came in: it says more and counts as full. Else prove '..UptoSaid'. A law counts once. -/
mutual
def uptoBulk {H : Type} : DataW H → Nat
  | .lit (.string bytes) => bytes.length + 1
  | .lit _ => 1
  | .nil => 1
  | .ptr d => uptoBulk d + 1
  | .slice elems spare => uptoBulkAll elems + uptoBulkAll spare + 1
  | .agg parts => uptoBulkAll parts + 1
  | .iface _ d => uptoBulk d + 1
  | .map entries => uptoBulkEntries entries + 1
  | .held _ => 1
def uptoBulkAll {H : Type} : List (DataW H) → Nat
  | [] => 0
  | d :: r => uptoBulk d + uptoBulkAll r
def uptoBulkEntries {H : Type} : List (Lit × DataW H) → Nat
  | [] => 0
  | x :: r => uptoBulkEntry x + uptoBulkEntries r
def uptoBulkEntry {H : Type} : Lit × DataW H → Nat
  | (.string bytes, d) => bytes.length + uptoBulk d + 1
  | (_, d) => uptoBulk d + 1
 end
def uptoSmall : (H : Type) → List (DataW H) → Bool := fun _ ds => decide (uptoBulkAll ds ≤ 1048576)
def OpenSpec.upto (s : _root_.Go.ChangeSpec) : _root_.Go.OpenSpec := { _root_.Go.OpenSpec.ofChange s with cond := some uptoSmall }

/-- 'horariumlaw23.GraphJoins', WHERE WHAT IT READS IS OF BULK AT MOST 1048576: true; the input reads as it did. -/
def graphJoinsUptoRow : OpenClaim := { program := "ytfkmngmnnlgjdaa", sum := "a5f09bad40f725ac01f90ab575d475a9c1266baaac5cc926eb395b2195e4697a", func := "horarium/horariumlaw23.GraphJoins", spec := "graphJoins", unfollowed := true, recurses := true, apart := false, narrowed := true }
def GraphJoinsUptoSaid : Prop := graphJoinsUptoRow.holds Try.pinned (OpenSpec.upto graphJoinsSpec)

/-- 'horariumlaw23.GraphParts', WHERE WHAT IT READS IS OF BULK AT MOST 1048576: true; the input reads as it did. -/
def graphPartsUptoRow : OpenClaim := { program := "ytfkmngmnnlgjdaa", sum := "a5f09bad40f725ac01f90ab575d475a9c1266baaac5cc926eb395b2195e4697a", func := "horarium/horariumlaw23.GraphParts", spec := "graphParts", unfollowed := true, recurses := true, apart := false, narrowed := true }
def GraphPartsUptoSaid : Prop := graphPartsUptoRow.holds Try.pinned (OpenSpec.upto graphPartsSpec)

/-- 'horariumlaw23.GraphTells', WHERE WHAT IT READS IS OF BULK AT MOST 1048576: true; the input reads as it did. -/
def graphTellsUptoRow : OpenClaim := { program := "ytfkmngmnnlgjdaa", sum := "a5f09bad40f725ac01f90ab575d475a9c1266baaac5cc926eb395b2195e4697a", func := "horarium/horariumlaw23.GraphTells", spec := "graphTells", unfollowed := true, recurses := true, apart := false, narrowed := true }
def GraphTellsUptoSaid : Prop := graphTellsUptoRow.holds Try.pinned (OpenSpec.upto graphTellsSpec)

/-- 'horariumlaw23.GraphShells', WHERE WHAT IT READS IS OF BULK AT MOST 1048576: true; the input reads as it did. -/
def graphShellsUptoRow : OpenClaim := { program := "ytfkmngmnnlgjdaa", sum := "a5f09bad40f725ac01f90ab575d475a9c1266baaac5cc926eb395b2195e4697a", func := "horarium/horariumlaw23.GraphShells", spec := "graphShells", unfollowed := true, recurses := true, apart := false, narrowed := true }
def GraphShellsUptoSaid : Prop := graphShellsUptoRow.holds Try.pinned (OpenSpec.upto graphShellsSpec)

/-- 'horariumlaw23.GraphCopies', WHERE WHAT IT READS IS OF BULK AT MOST 1048576: true; the input reads as it did. -/
def graphCopiesUptoRow : OpenClaim := { program := "ytfkmngmnnlgjdaa", sum := "a5f09bad40f725ac01f90ab575d475a9c1266baaac5cc926eb395b2195e4697a", func := "horarium/horariumlaw23.GraphCopies", spec := "graphCopies", unfollowed := true, recurses := true, apart := false, narrowed := true }
def GraphCopiesUptoSaid : Prop := graphCopiesUptoRow.holds Try.pinned (OpenSpec.upto graphCopiesSpec)

/-- 'horariumlaw23.GraphNobody', WHERE WHAT IT READS IS OF BULK AT MOST 1048576: true; the input reads as it did. -/
def graphNobodyUptoRow : OpenClaim := { program := "ytfkmngmnnlgjdaa", sum := "a5f09bad40f725ac01f90ab575d475a9c1266baaac5cc926eb395b2195e4697a", func := "horarium/horariumlaw23.GraphNobody", spec := "graphNobody", unfollowed := true, recurses := true, apart := false, narrowed := true }
def GraphNobodyUptoSaid : Prop := graphNobodyUptoRow.holds Try.pinned (OpenSpec.upto graphNobodySpec)

end Rows
end Go.Proofs.Ytfkmngmnnlgjdaa

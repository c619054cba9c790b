/-
  No cell of these rows narrows 'for every input' (looked for: loops, veiled, ifaces, maps, wideKeys, modest, calm, conditions, laid).
  DERIVED. THE GIVEN ROWS OF THIS SEAT. 9 by the template 'for every input the law returns true; each argument reads behind the call as it read before'; 0 by the template 'total and deterministic' (their statements: YtamoeipifpilgaaTotals.lean).
  GIVEN WITH THE SEED: the statements are not yours to turn. If you find one false, say at which input.
  Laid BY PROGRAM, IN A SANDBOX (cutbox-rows.mjs): the forced cells as the released guide's own fill.sh prints them over the translation a7946aa32d6bab59… (all of the seat's roots in one cut). By AI agents, Wed Nov 11 2026. No macro, syntax, notation, axiom, sorry.
-/
import Derived.Test.YtamoeipifpilgaaChecked
import GoSem.Claim
import GoSem.ClaimJoined
import GoSem.ClaimMapViews
import Derived.JoinedTies
import Derived.KernelRfl
namespace Go.Proofs.Ytamoeipifpilgaa
/- THE CELL 'sum', in the pinned program and in every row, IS THE sha256 OF THE DUMP (.gsa) THAT YtamoeipifpilgaaProg.lean LOADS. Nothing in Lean hashes anything: it is a label: what it is worth is what the hold of that sum in a sandbox is worth. -/
noncomputable def Try.pinned : Pinned := { name := "ytamoeipifpilgaa", sum := "a7946aa32d6bab59da8d8b4737575c8724ada869906190ae5e5e6a0a4dbd21c6", checked := Try.checked }
namespace Rows
def none {H : Type} : Left H := { results := [], args := [] }

/-- 'spoorlaw26.IdentRuns': WHATEVER THE INPUT: true; the input reads as it did. -/
def identRunsSpec : ChangeSpec := { name := "identRuns", fn := fun _ => fun
  | [] => { results := [.lit (.bool true)], args := [] }
  | _ => none }
def identRunsRow : OpenClaim := { program := "ytamoeipifpilgaa", sum := "a7946aa32d6bab59da8d8b4737575c8724ada869906190ae5e5e6a0a4dbd21c6", func := "spoor/spoorlaw26.IdentRuns", spec := "identRuns", apart := false }
def IdentRunsSaid : Prop := identRunsRow.holds Try.pinned (OpenSpec.ofChange identRunsSpec)

/-- ITS FALSE NEIGHBOUR: 'it returns false'. Refute it at one input. -/
def identRunsWrong : ChangeSpec := { name := "identRuns", fn := fun _ => fun
  | [] => { results := [.lit (.bool false)], args := [] }
  | _ => none }
def IdentRunsWrongFalsely : Prop := identRunsRow.holds Try.pinned (OpenSpec.ofChange identRunsWrong)

/-- 'spoorlaw26.IdentTells': WHATEVER THE INPUT: true; the input reads as it did. -/
def identTellsSpec : ChangeSpec := { name := "identTells", fn := fun _ => fun
  | [d1, d2, d3, d4, d5] => { results := [.lit (.bool true)], args := [d1, d2, d3, d4, d5] }
  | _ => none }
def identTellsRow : OpenClaim := { program := "ytamoeipifpilgaa", sum := "a7946aa32d6bab59da8d8b4737575c8724ada869906190ae5e5e6a0a4dbd21c6", func := "spoor/spoorlaw26.IdentTells", spec := "identTells", apart := false }
def IdentTellsSaid : Prop := identTellsRow.holds Try.pinned (OpenSpec.ofChange identTellsSpec)

/-- ITS FALSE NEIGHBOUR: 'it returns false'. Refute it at one input. -/
def identTellsWrong : ChangeSpec := { name := "identTells", fn := fun _ => fun
  | [d1, d2, d3, d4, d5] => { results := [.lit (.bool false)], args := [d1, d2, d3, d4, d5] }
  | _ => none }
def IdentTellsWrongFalsely : Prop := identTellsRow.holds Try.pinned (OpenSpec.ofChange identTellsWrong)

/-- 'spoorlaw26.IdentGrows': WHATEVER THE INPUT: true; the input reads as it did. -/
def identGrowsSpec : ChangeSpec := { name := "identGrows", fn := fun _ => fun
  | [d1, d2, d3, d4, d5] => { results := [.lit (.bool true)], args := [d1, d2, d3, d4, d5] }
  | _ => none }
def identGrowsRow : OpenClaim := { program := "ytamoeipifpilgaa", sum := "a7946aa32d6bab59da8d8b4737575c8724ada869906190ae5e5e6a0a4dbd21c6", func := "spoor/spoorlaw26.IdentGrows", spec := "identGrows", apart := false }
def IdentGrowsSaid : Prop := identGrowsRow.holds Try.pinned (OpenSpec.ofChange identGrowsSpec)

/-- ITS FALSE NEIGHBOUR: 'it returns false'. Refute it at one input. -/
def identGrowsWrong : ChangeSpec := { name := "identGrows", fn := fun _ => fun
  | [d1, d2, d3, d4, d5] => { results := [.lit (.bool false)], args := [d1, d2, d3, d4, d5] }
  | _ => none }
def IdentGrowsWrongFalsely : Prop := identGrowsRow.holds Try.pinned (OpenSpec.ofChange identGrowsWrong)

/-- 'spoorlaw26.IdentTurned': WHATEVER THE INPUT: true; the input reads as it did. -/
def identTurnedSpec : ChangeSpec := { name := "identTurned", fn := fun _ => fun
  | [d1, d2, d3] => { results := [.lit (.bool true)], args := [d1, d2, d3] }
  | _ => none }
def identTurnedRow : OpenClaim := { program := "ytamoeipifpilgaa", sum := "a7946aa32d6bab59da8d8b4737575c8724ada869906190ae5e5e6a0a4dbd21c6", func := "spoor/spoorlaw26.IdentTurned", spec := "identTurned", apart := false }
def IdentTurnedSaid : Prop := identTurnedRow.holds Try.pinned (OpenSpec.ofChange identTurnedSpec)

/-- ITS FALSE NEIGHBOUR: 'it returns false'. Refute it at one input. -/
def identTurnedWrong : ChangeSpec := { name := "identTurned", fn := fun _ => fun
  | [d1, d2, d3] => { results := [.lit (.bool false)], args := [d1, d2, d3] }
  | _ => none }
def IdentTurnedWrongFalsely : Prop := identTurnedRow.holds Try.pinned (OpenSpec.ofChange identTurnedWrong)

/-- 'spoorlaw1.SumRuns': WHATEVER THE INPUT: true; the input reads as it did. -/
def sumRunsSpec : ChangeSpec := { name := "sumRuns", fn := fun _ => fun
  | [] => { results := [.lit (.bool true)], args := [] }
  | _ => none }
def sumRunsRow : OpenClaim := { program := "ytamoeipifpilgaa", sum := "a7946aa32d6bab59da8d8b4737575c8724ada869906190ae5e5e6a0a4dbd21c6", func := "spoor/spoorlaw1.SumRuns", spec := "sumRuns", apart := false }
def SumRunsSaid : Prop := sumRunsRow.holds Try.pinned (OpenSpec.ofChange sumRunsSpec)

/-- ITS FALSE NEIGHBOUR: 'it returns false'. Refute it at one input. -/
def sumRunsWrong : ChangeSpec := { name := "sumRuns", fn := fun _ => fun
  | [] => { results := [.lit (.bool false)], args := [] }
  | _ => none }
def SumRunsWrongFalsely : Prop := sumRunsRow.holds Try.pinned (OpenSpec.ofChange sumRunsWrong)

/-- 'spoorlaw1.SumTells': WHATEVER THE INPUT: true; the input reads as it did. -/
def sumTellsSpec : ChangeSpec := { name := "sumTells", fn := fun _ => fun
  | [d1, d2, d3] => { results := [.lit (.bool true)], args := [d1, d2, d3] }
  | _ => none }
def sumTellsRow : OpenClaim := { program := "ytamoeipifpilgaa", sum := "a7946aa32d6bab59da8d8b4737575c8724ada869906190ae5e5e6a0a4dbd21c6", func := "spoor/spoorlaw1.SumTells", spec := "sumTells", apart := false }
def SumTellsSaid : Prop := sumTellsRow.holds Try.pinned (OpenSpec.ofChange sumTellsSpec)

/-- ITS FALSE NEIGHBOUR: 'it returns false'. Refute it at one input. -/
def sumTellsWrong : ChangeSpec := { name := "sumTells", fn := fun _ => fun
  | [d1, d2, d3] => { results := [.lit (.bool false)], args := [d1, d2, d3] }
  | _ => none }
def SumTellsWrongFalsely : Prop := sumTellsRow.holds Try.pinned (OpenSpec.ofChange sumTellsWrong)

/-- 'spoorlaw1.SumParts': WHATEVER THE INPUT: true; the input reads as it did. -/
def sumPartsSpec : ChangeSpec := { name := "sumParts", fn := fun _ => fun
  | [d1, d2, d3] => { results := [.lit (.bool true)], args := [d1, d2, d3] }
  | _ => none }
def sumPartsRow : OpenClaim := { program := "ytamoeipifpilgaa", sum := "a7946aa32d6bab59da8d8b4737575c8724ada869906190ae5e5e6a0a4dbd21c6", func := "spoor/spoorlaw1.SumParts", spec := "sumParts", apart := false }
def SumPartsSaid : Prop := sumPartsRow.holds Try.pinned (OpenSpec.ofChange sumPartsSpec)

/-- ITS FALSE NEIGHBOUR: 'it returns false'. Refute it at one input. -/
def sumPartsWrong : ChangeSpec := { name := "sumParts", fn := fun _ => fun
  | [d1, d2, d3] => { results := [.lit (.bool false)], args := [d1, d2, d3] }
  | _ => none }
def SumPartsWrongFalsely : Prop := sumPartsRow.holds Try.pinned (OpenSpec.ofChange sumPartsWrong)

/-- 'spoorlaw1.SumAdds': WHATEVER THE INPUT: true; the input reads as it did. -/
def sumAddsSpec : ChangeSpec := { name := "sumAdds", fn := fun _ => fun
  | [d] => { results := [.lit (.bool true)], args := [d] }
  | _ => none }
def sumAddsRow : OpenClaim := { program := "ytamoeipifpilgaa", sum := "a7946aa32d6bab59da8d8b4737575c8724ada869906190ae5e5e6a0a4dbd21c6", func := "spoor/spoorlaw1.SumAdds", spec := "sumAdds", apart := false }
def SumAddsSaid : Prop := sumAddsRow.holds Try.pinned (OpenSpec.ofChange sumAddsSpec)

/-- ITS FALSE NEIGHBOUR: 'it returns false'. Refute it at one input. -/
def sumAddsWrong : ChangeSpec := { name := "sumAdds", fn := fun _ => fun
  | [d] => { results := [.lit (.bool false)], args := [d] }
  | _ => none }
def SumAddsWrongFalsely : Prop := sumAddsRow.holds Try.pinned (OpenSpec.ofChange sumAddsWrong)

/-- 'spoorlaw1.SumBursts': WHATEVER THE INPUT: true; the input reads as it did. -/
def sumBurstsSpec : ChangeSpec := { name := "sumBursts", fn := fun _ => fun
  | [d1, d2, d3] => { results := [.lit (.bool true)], args := [d1, d2, d3] }
  | _ => none }
def sumBurstsRow : OpenClaim := { program := "ytamoeipifpilgaa", sum := "a7946aa32d6bab59da8d8b4737575c8724ada869906190ae5e5e6a0a4dbd21c6", func := "spoor/spoorlaw1.SumBursts", spec := "sumBursts", apart := false }
def SumBurstsSaid : Prop := sumBurstsRow.holds Try.pinned (OpenSpec.ofChange sumBurstsSpec)

/-- ITS FALSE NEIGHBOUR: 'it returns false'. Refute it at one input. -/
def sumBurstsWrong : ChangeSpec := { name := "sumBursts", fn := fun _ => fun
  | [d1, d2, d3] => { results := [.lit (.bool false)], args := [d1, d2, d3] }
  | _ => none }
def SumBurstsWrongFalsely : Prop := sumBurstsRow.holds Try.pinned (OpenSpec.ofChange sumBurstsWrong)

/- THE SECOND FORM. 'bulk': how many values and letters a reading holds, each counted each time it is reached (what is shared counts as often as it is met; a slice's spare places count too). A statement '..UptoSaid' is the law's where the arguments, and the package variables that the reading takes, are together of bulk at most 1048576: NARROWER than '..Said'. Prove '..Said' where nothing that the law and all that it calls make is longer than what came in: it says more and counts as full. Else prove '..UptoSaid'. A law counts once. -/
mutual
def uptoBulk {H : Type} : DataW H → Nat
  | .lit (.string bytes) => bytes.length + 1
  | .lit _ => 1
  | .nil => 1
  | .ptr d => uptoBulk d + 1
  | .slice elems spare => uptoBulkAll elems + uptoBulkAll spare + 1
  | .agg parts => uptoBulkAll parts + 1
  | .iface _ d => uptoBulk d + 1
  | .map entries => uptoBulkEntries entries + 1
  | .held _ => 1
def uptoBulkAll {H : Type} : List (DataW H) → Nat
  | [] => 0
  | d :: r => uptoBulk d + uptoBulkAll r
def uptoBulkEntries {H : Type} : List (Lit × DataW H) → Nat
  | [] => 0
  | x :: r => uptoBulkEntry x + uptoBulkEntries r
def uptoBulkEntry {H : Type} : Lit × DataW H → Nat
  | (.string bytes, d) => bytes.length + uptoBulk d + 1
  | (_, d) => uptoBulk d + 1
 end
def uptoSmall : (H : Type) → List (DataW H) → Bool := fun _ ds => decide (uptoBulkAll ds ≤ 1048576)
def OpenSpec.upto (s : _root_.Go.ChangeSpec) : _root_.Go.OpenSpec := { _root_.Go.OpenSpec.ofChange s with cond := some uptoSmall }

/-- 'spoorlaw26.IdentRuns', WHERE WHAT IT READS IS OF BULK AT MOST 1048576: true; the input reads as it did. -/
def identRunsUptoRow : OpenClaim := { program := "ytamoeipifpilgaa", sum := "a7946aa32d6bab59da8d8b4737575c8724ada869906190ae5e5e6a0a4dbd21c6", func := "spoor/spoorlaw26.IdentRuns", spec := "identRuns", apart := false, narrowed := true }
def IdentRunsUptoSaid : Prop := identRunsUptoRow.holds Try.pinned (OpenSpec.upto identRunsSpec)

/-- 'spoorlaw26.IdentTells', WHERE WHAT IT READS IS OF BULK AT MOST 1048576: true; the input reads as it did. -/
def identTellsUptoRow : OpenClaim := { program := "ytamoeipifpilgaa", sum := "a7946aa32d6bab59da8d8b4737575c8724ada869906190ae5e5e6a0a4dbd21c6", func := "spoor/spoorlaw26.IdentTells", spec := "identTells", apart := false, narrowed := true }
def IdentTellsUptoSaid : Prop := identTellsUptoRow.holds Try.pinned (OpenSpec.upto identTellsSpec)

/-- 'spoorlaw26.IdentGrows', WHERE WHAT IT READS IS OF BULK AT MOST 1048576: true; the input reads as it did. -/
def identGrowsUptoRow : OpenClaim := { program := "ytamoeipifpilgaa", sum := "a7946aa32d6bab59da8d8b4737575c8724ada869906190ae5e5e6a0a4dbd21c6", func := "spoor/spoorlaw26.IdentGrows", spec := "identGrows", apart := false, narrowed := true }
def IdentGrowsUptoSaid : Prop := identGrowsUptoRow.holds Try.pinned (OpenSpec.upto identGrowsSpec)

/-- 'spoorlaw26.IdentTurned', WHERE WHAT IT READS IS OF BULK AT MOST 1048576: true; the input reads as it did. -/
def identTurnedUptoRow : OpenClaim := { program := "ytamoeipifpilgaa", sum := "a7946aa32d6bab59da8d8b4737575c8724ada869906190ae5e5e6a0a4dbd21c6", func := "spoor/spoorlaw26.IdentTurned", spec := "identTurned", apart := false, narrowed := true }
def IdentTurnedUptoSaid : Prop := identTurnedUptoRow.holds Try.pinned (OpenSpec.upto identTurnedSpec)

/-- 'spoorlaw1.SumRuns', WHERE WHAT IT READS IS OF BULK AT MOST 1048576: true; the input reads as it did. -/
def sumRunsUptoRow : OpenClaim := { program := "ytamoeipifpilgaa", sum := "a7946aa32d6bab59da8d8b4737575c8724ada869906190ae5e5e6a0a4dbd21c6", func := "spoor/spoorlaw1.SumRuns", spec := "sumRuns", apart := false, narrowed := true }
def SumRunsUptoSaid : Prop := sumRunsUptoRow.holds Try.pinned (OpenSpec.upto sumRunsSpec)

/-- 'spoorlaw1.SumTells', WHERE WHAT IT READS IS OF BULK AT MOST 1048576: true; the input reads as it did. -/
def sumTellsUptoRow : OpenClaim := { program := "ytamoeipifpilgaa", sum := "a7946aa32d6bab59da8d8b4737575c8724ada869906190ae5e5e6a0a4dbd21c6", func := "spoor/spoorlaw1.SumTells", spec := "sumTells", apart := false, narrowed := true }
def SumTellsUptoSaid : Prop := sumTellsUptoRow.holds Try.pinned (OpenSpec.upto sumTellsSpec)

/-- 'spoorlaw1.SumParts', WHERE WHAT IT READS IS OF BULK AT MOST 1048576: true; the input reads as it did. -/
def sumPartsUptoRow : OpenClaim := { program := "ytamoeipifpilgaa", sum := "a7946aa32d6bab59da8d8b4737575c8724ada869906190ae5e5e6a0a4dbd21c6", func := "spoor/spoorlaw1.SumParts", spec := "sumParts", apart := false, narrowed := true }
def SumPartsUptoSaid : Prop := sumPartsUptoRow.holds Try.pinned (OpenSpec.upto sumPartsSpec)

/-- 'spoorlaw1.SumAdds', WHERE WHAT IT READS IS OF BULK AT MOST 1048576: true; the input reads as it did. -/
def sumAddsUptoRow : OpenClaim := { program := "ytamoeipifpilgaa", sum := "a7946aa32d6bab59da8d8b4737575c8724ada869906190ae5e5e6a0a4dbd21c6", func := "spoor/spoorlaw1.SumAdds", spec := "sumAdds", apart := false, narrowed := true }
def SumAddsUptoSaid : Prop := sumAddsUptoRow.holds Try.pinned (OpenSpec.upto sumAddsSpec)

/-- 'spoorlaw1.SumBursts', WHERE WHAT IT READS IS OF BULK AT MOST 1048576: true; the input reads as it did. -/
def sumBurstsUptoRow : OpenClaim := { program := "ytamoeipifpilgaa", sum := "a7946aa32d6bab59da8d8b4737575c8724ada869906190ae5e5e6a0a4dbd21c6", func := "spoor/spoorlaw1.SumBursts", spec := "sumBursts", apart := false, narrowed := true }
def SumBurstsUptoSaid : Prop := sumBurstsUptoRow.holds Try.pinned (OpenSpec.upto sumBurstsSpec)

end Rows
end Go.Proofs.Ytamoeipifpilgaa

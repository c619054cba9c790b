/-
  No cell of these rows narrows 'for every input' (looked for: loops, veiled, ifaces, maps, wideKeys, modest, calm, conditions, laid).
  DERIVED. THE GIVEN ROWS OF THIS SEAT. 11 by the template 'for every input the law returns true; each argument reads behind the call as it read before'; 0 by the template 'total and deterministic' (their statements: YtmhdhnipljonlaaTotals.lean).
  GIVEN WITH THE SEED: the statements are not yours to turn. If you find one false, say at which input.
  Laid BY PROGRAM, IN A SANDBOX (cutbox-rows.mjs): the forced cells as the released guide's own fill.sh prints them over the translation b9bee16e53089127… (all of the seat's roots in one cut). By AI agents, Wed Nov 11 2026. No macro, syntax, notation, axiom, sorry.
-/
import Derived.Test.YtmhdhnipljonlaaChecked
import GoSem.Claim
import GoSem.ClaimJoined
import GoSem.ClaimMapViews
import Derived.JoinedTies
import Derived.KernelRfl
namespace Go.Proofs.Ytmhdhnipljonlaa
/- THE CELL 'sum', in the pinned program and in every row, IS THE sha256 OF THE DUMP (.gsa) THAT YtmhdhnipljonlaaProg.lean LOADS. Nothing in Lean hashes anything: it is a label: what it is worth is what the hold of that sum in a sandbox is worth. -/
noncomputable def Try.pinned : Pinned := { name := "ytmhdhnipljonlaa", sum := "b9bee16e53089127e540b467519cdbf76e8d6a1cca8e38f30a33f113d3ca0c25", checked := Try.checked }
namespace Rows
def none {H : Type} : Left H := { results := [], args := [] }

/-- 'spoorlaw21.YardRuns': WHATEVER THE INPUT: true; the input reads as it did. -/
def yardRunsSpec : ChangeSpec := { name := "yardRuns", fn := fun _ => fun
  | [] => { results := [.lit (.bool true)], args := [] }
  | _ => none }
def yardRunsRow : OpenClaim := { program := "ytmhdhnipljonlaa", sum := "b9bee16e53089127e540b467519cdbf76e8d6a1cca8e38f30a33f113d3ca0c25", func := "spoor/spoorlaw21.YardRuns", spec := "yardRuns", inPlace := ["slices.overlaps[spoor/table.row[int, spoor/yard.file]]", "slices.overlaps[spoor/table.row[int, int]]"], apart := false }
def YardRunsSaid : Prop := yardRunsRow.holds Try.pinned (OpenSpec.ofChange yardRunsSpec)

/-- ITS FALSE NEIGHBOUR: 'it returns false'. Refute it at one input. -/
def yardRunsWrong : ChangeSpec := { name := "yardRuns", fn := fun _ => fun
  | [] => { results := [.lit (.bool false)], args := [] }
  | _ => none }
def YardRunsWrongFalsely : Prop := yardRunsRow.holds Try.pinned (OpenSpec.ofChange yardRunsWrong)

/-- 'spoorlaw21.YardFull': WHATEVER THE INPUT: true; the input reads as it did. -/
def yardFullSpec : ChangeSpec := { name := "yardFull", fn := fun _ => fun
  | [d1, d2] => { results := [.lit (.bool true)], args := [d1, d2] }
  | _ => none }
def yardFullRow : OpenClaim := { program := "ytmhdhnipljonlaa", sum := "b9bee16e53089127e540b467519cdbf76e8d6a1cca8e38f30a33f113d3ca0c25", func := "spoor/spoorlaw21.YardFull", spec := "yardFull", inPlace := ["slices.overlaps[spoor/table.row[int, spoor/yard.file]]", "slices.overlaps[spoor/table.row[int, int]]"], apart := false }
def YardFullSaid : Prop := yardFullRow.holds Try.pinned (OpenSpec.ofChange yardFullSpec)

/-- ITS FALSE NEIGHBOUR: 'it returns false'. Refute it at one input. -/
def yardFullWrong : ChangeSpec := { name := "yardFull", fn := fun _ => fun
  | [d1, d2] => { results := [.lit (.bool false)], args := [d1, d2] }
  | _ => none }
def YardFullWrongFalsely : Prop := yardFullRow.holds Try.pinned (OpenSpec.ofChange yardFullWrong)

/-- 'spoorlaw21.YardGrows': WHATEVER THE INPUT: true; the input reads as it did. -/
def yardGrowsSpec : ChangeSpec := { name := "yardGrows", fn := fun _ => fun
  | [d1, d2] => { results := [.lit (.bool true)], args := [d1, d2] }
  | _ => none }
def yardGrowsRow : OpenClaim := { program := "ytmhdhnipljonlaa", sum := "b9bee16e53089127e540b467519cdbf76e8d6a1cca8e38f30a33f113d3ca0c25", func := "spoor/spoorlaw21.YardGrows", spec := "yardGrows", inPlace := ["slices.overlaps[spoor/table.row[int, spoor/yard.file]]", "slices.overlaps[spoor/table.row[int, int]]"], apart := false }
def YardGrowsSaid : Prop := yardGrowsRow.holds Try.pinned (OpenSpec.ofChange yardGrowsSpec)

/-- ITS FALSE NEIGHBOUR: 'it returns false'. Refute it at one input. -/
def yardGrowsWrong : ChangeSpec := { name := "yardGrows", fn := fun _ => fun
  | [d1, d2] => { results := [.lit (.bool false)], args := [d1, d2] }
  | _ => none }
def YardGrowsWrongFalsely : Prop := yardGrowsRow.holds Try.pinned (OpenSpec.ofChange yardGrowsWrong)

/-- 'spoorlaw22.DiskRuns': WHATEVER THE INPUT: true; the input reads as it did. -/
def diskRunsSpec : ChangeSpec := { name := "diskRuns", fn := fun _ => fun
  | [] => { results := [.lit (.bool true)], args := [] }
  | _ => none }
def diskRunsRow : OpenClaim := { program := "ytmhdhnipljonlaa", sum := "b9bee16e53089127e540b467519cdbf76e8d6a1cca8e38f30a33f113d3ca0c25", func := "spoor/spoorlaw22.DiskRuns", spec := "diskRuns", inPlace := ["slices.overlaps[spoor/table.row[string, []byte]]"], apart := false }
def DiskRunsSaid : Prop := diskRunsRow.holds Try.pinned (OpenSpec.ofChange diskRunsSpec)

/-- ITS FALSE NEIGHBOUR: 'it returns false'. Refute it at one input. -/
def diskRunsWrong : ChangeSpec := { name := "diskRuns", fn := fun _ => fun
  | [] => { results := [.lit (.bool false)], args := [] }
  | _ => none }
def DiskRunsWrongFalsely : Prop := diskRunsRow.holds Try.pinned (OpenSpec.ofChange diskRunsWrong)

/-- 'spoorlaw22.DiskPlays': WHATEVER THE INPUT: true; the input reads as it did. -/
def diskPlaysSpec : ChangeSpec := { name := "diskPlays", fn := fun _ => fun
  | [d] => { results := [.lit (.bool true)], args := [d] }
  | _ => none }
def diskPlaysRow : OpenClaim := { program := "ytmhdhnipljonlaa", sum := "b9bee16e53089127e540b467519cdbf76e8d6a1cca8e38f30a33f113d3ca0c25", func := "spoor/spoorlaw22.DiskPlays", spec := "diskPlays", inPlace := ["slices.overlaps[spoor/table.row[string, []byte]]"], recurses := true, apart := false }
def DiskPlaysSaid : Prop := diskPlaysRow.holds Try.pinned (OpenSpec.ofChange diskPlaysSpec)

/-- ITS FALSE NEIGHBOUR: 'it returns false'. Refute it at one input. -/
def diskPlaysWrong : ChangeSpec := { name := "diskPlays", fn := fun _ => fun
  | [d] => { results := [.lit (.bool false)], args := [d] }
  | _ => none }
def DiskPlaysWrongFalsely : Prop := diskPlaysRow.holds Try.pinned (OpenSpec.ofChange diskPlaysWrong)

/-- 'spoorlaw22.DiskBack': WHATEVER THE INPUT: true; the input reads as it did. -/
def diskBackSpec : ChangeSpec := { name := "diskBack", fn := fun _ => fun
  | [d1, d2] => { results := [.lit (.bool true)], args := [d1, d2] }
  | _ => none }
def diskBackRow : OpenClaim := { program := "ytmhdhnipljonlaa", sum := "b9bee16e53089127e540b467519cdbf76e8d6a1cca8e38f30a33f113d3ca0c25", func := "spoor/spoorlaw22.DiskBack", spec := "diskBack", inPlace := ["slices.overlaps[spoor/table.row[string, []byte]]"], apart := false }
def DiskBackSaid : Prop := diskBackRow.holds Try.pinned (OpenSpec.ofChange diskBackSpec)

/-- ITS FALSE NEIGHBOUR: 'it returns false'. Refute it at one input. -/
def diskBackWrong : ChangeSpec := { name := "diskBack", fn := fun _ => fun
  | [d1, d2] => { results := [.lit (.bool false)], args := [d1, d2] }
  | _ => none }
def DiskBackWrongFalsely : Prop := diskBackRow.holds Try.pinned (OpenSpec.ofChange diskBackWrong)

/-- 'spoorlaw22.DiskFront': WHATEVER THE INPUT: true; the input reads as it did. -/
def diskFrontSpec : ChangeSpec := { name := "diskFront", fn := fun _ => fun
  | [d1, d2] => { results := [.lit (.bool true)], args := [d1, d2] }
  | _ => none }
def diskFrontRow : OpenClaim := { program := "ytmhdhnipljonlaa", sum := "b9bee16e53089127e540b467519cdbf76e8d6a1cca8e38f30a33f113d3ca0c25", func := "spoor/spoorlaw22.DiskFront", spec := "diskFront", inPlace := ["slices.overlaps[spoor/table.row[string, []byte]]"], apart := false }
def DiskFrontSaid : Prop := diskFrontRow.holds Try.pinned (OpenSpec.ofChange diskFrontSpec)

/-- ITS FALSE NEIGHBOUR: 'it returns false'. Refute it at one input. -/
def diskFrontWrong : ChangeSpec := { name := "diskFront", fn := fun _ => fun
  | [d1, d2] => { results := [.lit (.bool false)], args := [d1, d2] }
  | _ => none }
def DiskFrontWrongFalsely : Prop := diskFrontRow.holds Try.pinned (OpenSpec.ofChange diskFrontWrong)

/-- 'spoorlaw22.DiskKept': WHATEVER THE INPUT: true; the input reads as it did. -/
def diskKeptSpec : ChangeSpec := { name := "diskKept", fn := fun _ => fun
  | [d1, d2] => { results := [.lit (.bool true)], args := [d1, d2] }
  | _ => none }
def diskKeptRow : OpenClaim := { program := "ytmhdhnipljonlaa", sum := "b9bee16e53089127e540b467519cdbf76e8d6a1cca8e38f30a33f113d3ca0c25", func := "spoor/spoorlaw22.DiskKept", spec := "diskKept", inPlace := ["slices.overlaps[spoor/table.row[string, []byte]]"], apart := false }
def DiskKeptSaid : Prop := diskKeptRow.holds Try.pinned (OpenSpec.ofChange diskKeptSpec)

/-- ITS FALSE NEIGHBOUR: 'it returns false'. Refute it at one input. -/
def diskKeptWrong : ChangeSpec := { name := "diskKept", fn := fun _ => fun
  | [d1, d2] => { results := [.lit (.bool false)], args := [d1, d2] }
  | _ => none }
def DiskKeptWrongFalsely : Prop := diskKeptRow.holds Try.pinned (OpenSpec.ofChange diskKeptWrong)

/-- 'spoorlaw21.YardPlays': WHATEVER THE INPUT: true; the input reads as it did. -/
def yardPlaysSpec : ChangeSpec := { name := "yardPlays", fn := fun _ => fun
  | [d] => { results := [.lit (.bool true)], args := [d] }
  | _ => none }
def yardPlaysRow : OpenClaim := { program := "ytmhdhnipljonlaa", sum := "b9bee16e53089127e540b467519cdbf76e8d6a1cca8e38f30a33f113d3ca0c25", func := "spoor/spoorlaw21.YardPlays", spec := "yardPlays", inPlace := ["slices.overlaps[spoor/table.row[int, spoor/yard.file]]", "slices.overlaps[spoor/table.row[int, int]]"], apart := false }
def YardPlaysSaid : Prop := yardPlaysRow.holds Try.pinned (OpenSpec.ofChange yardPlaysSpec)

/-- ITS FALSE NEIGHBOUR: 'it returns false'. Refute it at one input. -/
def yardPlaysWrong : ChangeSpec := { name := "yardPlays", fn := fun _ => fun
  | [d] => { results := [.lit (.bool false)], args := [d] }
  | _ => none }
def YardPlaysWrongFalsely : Prop := yardPlaysRow.holds Try.pinned (OpenSpec.ofChange yardPlaysWrong)

/-- 'spoorlaw21.YardKeeps': WHATEVER THE INPUT: true; the input reads as it did. -/
def yardKeepsSpec : ChangeSpec := { name := "yardKeeps", fn := fun _ => fun
  | [d1, d2, d3] => { results := [.lit (.bool true)], args := [d1, d2, d3] }
  | _ => none }
def yardKeepsRow : OpenClaim := { program := "ytmhdhnipljonlaa", sum := "b9bee16e53089127e540b467519cdbf76e8d6a1cca8e38f30a33f113d3ca0c25", func := "spoor/spoorlaw21.YardKeeps", spec := "yardKeeps", inPlace := ["slices.overlaps[spoor/table.row[int, spoor/yard.file]]", "slices.overlaps[spoor/table.row[int, int]]"], apart := false }
def YardKeepsSaid : Prop := yardKeepsRow.holds Try.pinned (OpenSpec.ofChange yardKeepsSpec)

/-- ITS FALSE NEIGHBOUR: 'it returns false'. Refute it at one input. -/
def yardKeepsWrong : ChangeSpec := { name := "yardKeeps", fn := fun _ => fun
  | [d1, d2, d3] => { results := [.lit (.bool false)], args := [d1, d2, d3] }
  | _ => none }
def YardKeepsWrongFalsely : Prop := yardKeepsRow.holds Try.pinned (OpenSpec.ofChange yardKeepsWrong)

/-- 'spoorlaw21.YardInos': WHATEVER THE INPUT: true; the input reads as it did. -/
def yardInosSpec : ChangeSpec := { name := "yardInos", fn := fun _ => fun
  | [d1, d2] => { results := [.lit (.bool true)], args := [d1, d2] }
  | _ => none }
def yardInosRow : OpenClaim := { program := "ytmhdhnipljonlaa", sum := "b9bee16e53089127e540b467519cdbf76e8d6a1cca8e38f30a33f113d3ca0c25", func := "spoor/spoorlaw21.YardInos", spec := "yardInos", inPlace := ["slices.overlaps[spoor/table.row[int, spoor/yard.file]]", "slices.overlaps[spoor/table.row[int, int]]"], apart := false }
def YardInosSaid : Prop := yardInosRow.holds Try.pinned (OpenSpec.ofChange yardInosSpec)

/-- ITS FALSE NEIGHBOUR: 'it returns false'. Refute it at one input. -/
def yardInosWrong : ChangeSpec := { name := "yardInos", fn := fun _ => fun
  | [d1, d2] => { results := [.lit (.bool false)], args := [d1, d2] }
  | _ => none }
def YardInosWrongFalsely : Prop := yardInosRow.holds Try.pinned (OpenSpec.ofChange yardInosWrong)

/- THE SECOND FORM. 'bulk': how many values and letters a reading holds, each counted each time it is reached (what is shared counts as often as it is met; a slice's spare places count too). A statement '..UptoSaid' is the law's where the arguments, and the package variables that the reading takes, are together of bulk at most 1048576: NARROWER than '..Said'. Prove '..Said' where nothing that the law and all that it calls make is longer than what came in: it says more and counts as full. Else prove '..UptoSaid'. A law counts once. -/
mutual
def uptoBulk {H : Type} : DataW H → Nat
  | .lit (.string bytes) => bytes.length + 1
  | .lit _ => 1
  | .nil => 1
  | .ptr d => uptoBulk d + 1
  | .slice elems spare => uptoBulkAll elems + uptoBulkAll spare + 1
  | .agg parts => uptoBulkAll parts + 1
  | .iface _ d => uptoBulk d + 1
  | .map entries => uptoBulkEntries entries + 1
  | .held _ => 1
def uptoBulkAll {H : Type} : List (DataW H) → Nat
  | [] => 0
  | d :: r => uptoBulk d + uptoBulkAll r
def uptoBulkEntries {H : Type} : List (Lit × DataW H) → Nat
  | [] => 0
  | x :: r => uptoBulkEntry x + uptoBulkEntries r
def uptoBulkEntry {H : Type} : Lit × DataW H → Nat
  | (.string bytes, d) => bytes.length + uptoBulk d + 1
  | (_, d) => uptoBulk d + 1
 end
def uptoSmall : (H : Type) → List (DataW H) → Bool := fun _ ds => decide (uptoBulkAll ds ≤ 1048576)
def OpenSpec.upto (s : _root_.Go.ChangeSpec) : _root_.Go.OpenSpec := { _root_.Go.OpenSpec.ofChange s with cond := some uptoSmall }

/-- 'spoorlaw21.YardRuns', WHERE WHAT IT READS IS OF BULK AT MOST 1048576: true; the input reads as it did. -/
def yardRunsUptoRow : OpenClaim := { program := "ytmhdhnipljonlaa", sum := "b9bee16e53089127e540b467519cdbf76e8d6a1cca8e38f30a33f113d3ca0c25", func := "spoor/spoorlaw21.YardRuns", spec := "yardRuns", inPlace := ["slices.overlaps[spoor/table.row[int, spoor/yard.file]]", "slices.overlaps[spoor/table.row[int, int]]"], apart := false, narrowed := true }
def YardRunsUptoSaid : Prop := yardRunsUptoRow.holds Try.pinned (OpenSpec.upto yardRunsSpec)

/-- 'spoorlaw21.YardFull', WHERE WHAT IT READS IS OF BULK AT MOST 1048576: true; the input reads as it did. -/
def yardFullUptoRow : OpenClaim := { program := "ytmhdhnipljonlaa", sum := "b9bee16e53089127e540b467519cdbf76e8d6a1cca8e38f30a33f113d3ca0c25", func := "spoor/spoorlaw21.YardFull", spec := "yardFull", inPlace := ["slices.overlaps[spoor/table.row[int, spoor/yard.file]]", "slices.overlaps[spoor/table.row[int, int]]"], apart := false, narrowed := true }
def YardFullUptoSaid : Prop := yardFullUptoRow.holds Try.pinned (OpenSpec.upto yardFullSpec)

/-- 'spoorlaw21.YardGrows', WHERE WHAT IT READS IS OF BULK AT MOST 1048576: true; the input reads as it did. -/
def yardGrowsUptoRow : OpenClaim := { program := "ytmhdhnipljonlaa", sum := "b9bee16e53089127e540b467519cdbf76e8d6a1cca8e38f30a33f113d3ca0c25", func := "spoor/spoorlaw21.YardGrows", spec := "yardGrows", inPlace := ["slices.overlaps[spoor/table.row[int, spoor/yard.file]]", "slices.overlaps[spoor/table.row[int, int]]"], apart := false, narrowed := true }
def YardGrowsUptoSaid : Prop := yardGrowsUptoRow.holds Try.pinned (OpenSpec.upto yardGrowsSpec)

/-- 'spoorlaw22.DiskRuns', WHERE WHAT IT READS IS OF BULK AT MOST 1048576: true; the input reads as it did. -/
def diskRunsUptoRow : OpenClaim := { program := "ytmhdhnipljonlaa", sum := "b9bee16e53089127e540b467519cdbf76e8d6a1cca8e38f30a33f113d3ca0c25", func := "spoor/spoorlaw22.DiskRuns", spec := "diskRuns", inPlace := ["slices.overlaps[spoor/table.row[string, []byte]]"], apart := false, narrowed := true }
def DiskRunsUptoSaid : Prop := diskRunsUptoRow.holds Try.pinned (OpenSpec.upto diskRunsSpec)

/-- 'spoorlaw22.DiskPlays', WHERE WHAT IT READS IS OF BULK AT MOST 1048576: true; the input reads as it did. -/
def diskPlaysUptoRow : OpenClaim := { program := "ytmhdhnipljonlaa", sum := "b9bee16e53089127e540b467519cdbf76e8d6a1cca8e38f30a33f113d3ca0c25", func := "spoor/spoorlaw22.DiskPlays", spec := "diskPlays", inPlace := ["slices.overlaps[spoor/table.row[string, []byte]]"], recurses := true, apart := false, narrowed := true }
def DiskPlaysUptoSaid : Prop := diskPlaysUptoRow.holds Try.pinned (OpenSpec.upto diskPlaysSpec)

/-- 'spoorlaw22.DiskBack', WHERE WHAT IT READS IS OF BULK AT MOST 1048576: true; the input reads as it did. -/
def diskBackUptoRow : OpenClaim := { program := "ytmhdhnipljonlaa", sum := "b9bee16e53089127e540b467519cdbf76e8d6a1cca8e38f30a33f113d3ca0c25", func := "spoor/spoorlaw22.DiskBack", spec := "diskBack", inPlace := ["slices.overlaps[spoor/table.row[string, []byte]]"], apart := false, narrowed := true }
def DiskBackUptoSaid : Prop := diskBackUptoRow.holds Try.pinned (OpenSpec.upto diskBackSpec)

/-- 'spoorlaw22.DiskFront', WHERE WHAT IT READS IS OF BULK AT MOST 1048576: true; the input reads as it did. -/
def diskFrontUptoRow : OpenClaim := { program := "ytmhdhnipljonlaa", sum := "b9bee16e53089127e540b467519cdbf76e8d6a1cca8e38f30a33f113d3ca0c25", func := "spoor/spoorlaw22.DiskFront", spec := "diskFront", inPlace := ["slices.overlaps[spoor/table.row[string, []byte]]"], apart := false, narrowed := true }
def DiskFrontUptoSaid : Prop := diskFrontUptoRow.holds Try.pinned (OpenSpec.upto diskFrontSpec)

/-- 'spoorlaw22.DiskKept', WHERE WHAT IT READS IS OF BULK AT MOST 1048576: true; the input reads as it did. -/
def diskKeptUptoRow : OpenClaim := { program := "ytmhdhnipljonlaa", sum := "b9bee16e53089127e540b467519cdbf76e8d6a1cca8e38f30a33f113d3ca0c25", func := "spoor/spoorlaw22.DiskKept", spec := "diskKept", inPlace := ["slices.overlaps[spoor/table.row[string, []byte]]"], apart := false, narrowed := true }
def DiskKeptUptoSaid : Prop := diskKeptUptoRow.holds Try.pinned (OpenSpec.upto diskKeptSpec)

/-- 'spoorlaw21.YardPlays', WHERE WHAT IT READS IS OF BULK AT MOST 1048576: true; the input reads as it did. -/
def yardPlaysUptoRow : OpenClaim := { program := "ytmhdhnipljonlaa", sum := "b9bee16e53089127e540b467519cdbf76e8d6a1cca8e38f30a33f113d3ca0c25", func := "spoor/spoorlaw21.YardPlays", spec := "yardPlays", inPlace := ["slices.overlaps[spoor/table.row[int, spoor/yard.file]]", "slices.overlaps[spoor/table.row[int, int]]"], apart := false, narrowed := true }
def YardPlaysUptoSaid : Prop := yardPlaysUptoRow.holds Try.pinned (OpenSpec.upto yardPlaysSpec)

/-- 'spoorlaw21.YardKeeps', WHERE WHAT IT READS IS OF BULK AT MOST 1048576: true; the input reads as it did. -/
def yardKeepsUptoRow : OpenClaim := { program := "ytmhdhnipljonlaa", sum := "b9bee16e53089127e540b467519cdbf76e8d6a1cca8e38f30a33f113d3ca0c25", func := "spoor/spoorlaw21.YardKeeps", spec := "yardKeeps", inPlace := ["slices.overlaps[spoor/table.row[int, spoor/yard.file]]", "slices.overlaps[spoor/table.row[int, int]]"], apart := false, narrowed := true }
def YardKeepsUptoSaid : Prop := yardKeepsUptoRow.holds Try.pinned (OpenSpec.upto yardKeepsSpec)

/-- 'spoorlaw21.YardInos', WHERE WHAT IT READS IS OF BULK AT MOST 1048576: true; the input reads as it did. -/
def yardInosUptoRow : OpenClaim := { program := "ytmhdhnipljonlaa", sum := "b9bee16e53089127e540b467519cdbf76e8d6a1cca8e38f30a33f113d3ca0c25", func := "spoor/spoorlaw21.YardInos", spec := "yardInos", inPlace := ["slices.overlaps[spoor/table.row[int, spoor/yard.file]]", "slices.overlaps[spoor/table.row[int, int]]"], apart := false, narrowed := true }
def YardInosUptoSaid : Prop := yardInosUptoRow.holds Try.pinned (OpenSpec.upto yardInosSpec)

end Rows
end Go.Proofs.Ytmhdhnipljonlaa

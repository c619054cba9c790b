/-
  No cell of these rows narrows 'for every input' (looked for: loops, veiled, ifaces, maps, wideKeys, modest, calm, conditions, laid).
  DERIVED. THE GIVEN ROWS OF THIS SEAT. 10 by the template 'for every input the law returns true; each argument reads behind the call as it read before'; 0 by the template 'total and deterministic' (their statements: YtjomecimbofnfaaTotals.lean).
  GIVEN WITH THE SEED: the statements are not yours to turn. If you find one false, say at which input.
  Laid BY PROGRAM, IN A SANDBOX (cutbox-rows.mjs): the forced cells as the released guide's own fill.sh prints them over the translation 0b93d444f30a626a… (all of the seat's roots in one cut). By AI agents, Wed Nov 11 2026. No macro, syntax, notation, axiom, sorry.
-/
import Derived.Test.YtjomecimbofnfaaChecked
import GoSem.Claim
import GoSem.ClaimJoined
import GoSem.ClaimMapViews
import Derived.JoinedTies
import Derived.KernelRfl
namespace Go.Proofs.Ytjomecimbofnfaa
/- THE CELL 'sum', in the pinned program and in every row, IS THE sha256 OF THE DUMP (.gsa) THAT YtjomecimbofnfaaProg.lean LOADS. Nothing in Lean hashes anything: it is a label: what it is worth is what the hold of that sum in a sandbox is worth. -/
noncomputable def Try.pinned : Pinned := { name := "ytjomecimbofnfaa", sum := "0b93d444f30a626a9f6012d44e21868e295fca8112ef2e09120efc3e66335054", checked := Try.checked }
namespace Rows
def none {H : Type} : Left H := { results := [], args := [] }

/-- 'spoorlaw3.RingRuns': WHATEVER THE INPUT: true; the input reads as it did. -/
def ringRunsSpec : ChangeSpec := { name := "ringRuns", fn := fun _ => fun
  | [] => { results := [.lit (.bool true)], args := [] }
  | _ => none }
def ringRunsRow : OpenClaim := { program := "ytjomecimbofnfaa", sum := "0b93d444f30a626a9f6012d44e21868e295fca8112ef2e09120efc3e66335054", func := "spoor/spoorlaw3.RingRuns", spec := "ringRuns", apart := false }
def RingRunsSaid : Prop := ringRunsRow.holds Try.pinned (OpenSpec.ofChange ringRunsSpec)

/-- ITS FALSE NEIGHBOUR: 'it returns false'. Refute it at one input. -/
def ringRunsWrong : ChangeSpec := { name := "ringRuns", fn := fun _ => fun
  | [] => { results := [.lit (.bool false)], args := [] }
  | _ => none }
def RingRunsWrongFalsely : Prop := ringRunsRow.holds Try.pinned (OpenSpec.ofChange ringRunsWrong)

/-- 'spoorlaw3.RingOrder': WHATEVER THE INPUT: true; the input reads as it did. -/
def ringOrderSpec : ChangeSpec := { name := "ringOrder", fn := fun _ => fun
  | [d1, d2, d3] => { results := [.lit (.bool true)], args := [d1, d2, d3] }
  | _ => none }
def ringOrderRow : OpenClaim := { program := "ytjomecimbofnfaa", sum := "0b93d444f30a626a9f6012d44e21868e295fca8112ef2e09120efc3e66335054", func := "spoor/spoorlaw3.RingOrder", spec := "ringOrder", apart := false }
def RingOrderSaid : Prop := ringOrderRow.holds Try.pinned (OpenSpec.ofChange ringOrderSpec)

/-- ITS FALSE NEIGHBOUR: 'it returns false'. Refute it at one input. -/
def ringOrderWrong : ChangeSpec := { name := "ringOrder", fn := fun _ => fun
  | [d1, d2, d3] => { results := [.lit (.bool false)], args := [d1, d2, d3] }
  | _ => none }
def RingOrderWrongFalsely : Prop := ringOrderRow.holds Try.pinned (OpenSpec.ofChange ringOrderWrong)

/-- 'spoorlaw3.RingTypes': WHATEVER THE INPUT: true; the input reads as it did. -/
def ringTypesSpec : ChangeSpec := { name := "ringTypes", fn := fun _ => fun
  | [d1, d2] => { results := [.lit (.bool true)], args := [d1, d2] }
  | _ => none }
def ringTypesRow : OpenClaim := { program := "ytjomecimbofnfaa", sum := "0b93d444f30a626a9f6012d44e21868e295fca8112ef2e09120efc3e66335054", func := "spoor/spoorlaw3.RingTypes", spec := "ringTypes", apart := false }
def RingTypesSaid : Prop := ringTypesRow.holds Try.pinned (OpenSpec.ofChange ringTypesSpec)

/-- ITS FALSE NEIGHBOUR: 'it returns false'. Refute it at one input. -/
def ringTypesWrong : ChangeSpec := { name := "ringTypes", fn := fun _ => fun
  | [d1, d2] => { results := [.lit (.bool false)], args := [d1, d2] }
  | _ => none }
def RingTypesWrongFalsely : Prop := ringTypesRow.holds Try.pinned (OpenSpec.ofChange ringTypesWrong)

/-- 'spoorlaw3.RingKept': WHATEVER THE INPUT: true; the input reads as it did. -/
def ringKeptSpec : ChangeSpec := { name := "ringKept", fn := fun _ => fun
  | [d] => { results := [.lit (.bool true)], args := [d] }
  | _ => none }
def ringKeptRow : OpenClaim := { program := "ytjomecimbofnfaa", sum := "0b93d444f30a626a9f6012d44e21868e295fca8112ef2e09120efc3e66335054", func := "spoor/spoorlaw3.RingKept", spec := "ringKept", apart := false }
def RingKeptSaid : Prop := ringKeptRow.holds Try.pinned (OpenSpec.ofChange ringKeptSpec)

/-- ITS FALSE NEIGHBOUR: 'it returns false'. Refute it at one input. -/
def ringKeptWrong : ChangeSpec := { name := "ringKept", fn := fun _ => fun
  | [d] => { results := [.lit (.bool false)], args := [d] }
  | _ => none }
def RingKeptWrongFalsely : Prop := ringKeptRow.holds Try.pinned (OpenSpec.ofChange ringKeptWrong)

/-- 'spoorlaw3.RingPlays': WHATEVER THE INPUT: true; the input reads as it did. -/
def ringPlaysSpec : ChangeSpec := { name := "ringPlays", fn := fun _ => fun
  | [d1, d2] => { results := [.lit (.bool true)], args := [d1, d2] }
  | _ => none }
def ringPlaysRow : OpenClaim := { program := "ytjomecimbofnfaa", sum := "0b93d444f30a626a9f6012d44e21868e295fca8112ef2e09120efc3e66335054", func := "spoor/spoorlaw3.RingPlays", spec := "ringPlays", apart := false }
def RingPlaysSaid : Prop := ringPlaysRow.holds Try.pinned (OpenSpec.ofChange ringPlaysSpec)

/-- ITS FALSE NEIGHBOUR: 'it returns false'. Refute it at one input. -/
def ringPlaysWrong : ChangeSpec := { name := "ringPlays", fn := fun _ => fun
  | [d1, d2] => { results := [.lit (.bool false)], args := [d1, d2] }
  | _ => none }
def RingPlaysWrongFalsely : Prop := ringPlaysRow.holds Try.pinned (OpenSpec.ofChange ringPlaysWrong)

/-- 'spoorlaw4.TableRuns': WHATEVER THE INPUT: true; the input reads as it did. -/
def tableRunsSpec : ChangeSpec := { name := "tableRuns", fn := fun _ => fun
  | [] => { results := [.lit (.bool true)], args := [] }
  | _ => none }
def tableRunsRow : OpenClaim := { program := "ytjomecimbofnfaa", sum := "0b93d444f30a626a9f6012d44e21868e295fca8112ef2e09120efc3e66335054", func := "spoor/spoorlaw4.TableRuns", spec := "tableRuns", inPlace := ["slices.overlaps[spoor/table.row[string, int]]"], apart := false }
def TableRunsSaid : Prop := tableRunsRow.holds Try.pinned (OpenSpec.ofChange tableRunsSpec)

/-- ITS FALSE NEIGHBOUR: 'it returns false'. Refute it at one input. -/
def tableRunsWrong : ChangeSpec := { name := "tableRuns", fn := fun _ => fun
  | [] => { results := [.lit (.bool false)], args := [] }
  | _ => none }
def TableRunsWrongFalsely : Prop := tableRunsRow.holds Try.pinned (OpenSpec.ofChange tableRunsWrong)

/-- 'spoorlaw4.TablePlays': WHATEVER THE INPUT: true; the input reads as it did. -/
def tablePlaysSpec : ChangeSpec := { name := "tablePlays", fn := fun _ => fun
  | [d] => { results := [.lit (.bool true)], args := [d] }
  | _ => none }
def tablePlaysRow : OpenClaim := { program := "ytjomecimbofnfaa", sum := "0b93d444f30a626a9f6012d44e21868e295fca8112ef2e09120efc3e66335054", func := "spoor/spoorlaw4.TablePlays", spec := "tablePlays", inPlace := ["slices.overlaps[spoor/table.row[int, int]]", "slices.overlaps[spoor/table.row[string, int]]"], apart := false }
def TablePlaysSaid : Prop := tablePlaysRow.holds Try.pinned (OpenSpec.ofChange tablePlaysSpec)

/-- ITS FALSE NEIGHBOUR: 'it returns false'. Refute it at one input. -/
def tablePlaysWrong : ChangeSpec := { name := "tablePlays", fn := fun _ => fun
  | [d] => { results := [.lit (.bool false)], args := [d] }
  | _ => none }
def TablePlaysWrongFalsely : Prop := tablePlaysRow.holds Try.pinned (OpenSpec.ofChange tablePlaysWrong)

/-- 'spoorlaw4.TableRises': WHATEVER THE INPUT: true; the input reads as it did. -/
def tableRisesSpec : ChangeSpec := { name := "tableRises", fn := fun _ => fun
  | [d1, d2] => { results := [.lit (.bool true)], args := [d1, d2] }
  | _ => none }
def tableRisesRow : OpenClaim := { program := "ytjomecimbofnfaa", sum := "0b93d444f30a626a9f6012d44e21868e295fca8112ef2e09120efc3e66335054", func := "spoor/spoorlaw4.TableRises", spec := "tableRises", inPlace := ["slices.overlaps[spoor/table.row[int, int]]", "slices.overlaps[spoor/table.row[string, int]]"], apart := false }
def TableRisesSaid : Prop := tableRisesRow.holds Try.pinned (OpenSpec.ofChange tableRisesSpec)

/-- ITS FALSE NEIGHBOUR: 'it returns false'. Refute it at one input. -/
def tableRisesWrong : ChangeSpec := { name := "tableRises", fn := fun _ => fun
  | [d1, d2] => { results := [.lit (.bool false)], args := [d1, d2] }
  | _ => none }
def TableRisesWrongFalsely : Prop := tableRisesRow.holds Try.pinned (OpenSpec.ofChange tableRisesWrong)

/-- 'spoorlaw4.TableTexts': WHATEVER THE INPUT: true; the input reads as it did. -/
def tableTextsSpec : ChangeSpec := { name := "tableTexts", fn := fun _ => fun
  | [d] => { results := [.lit (.bool true)], args := [d] }
  | _ => none }
def tableTextsRow : OpenClaim := { program := "ytjomecimbofnfaa", sum := "0b93d444f30a626a9f6012d44e21868e295fca8112ef2e09120efc3e66335054", func := "spoor/spoorlaw4.TableTexts", spec := "tableTexts", inPlace := ["slices.overlaps[spoor/table.row[int, int]]", "slices.overlaps[spoor/table.row[string, string]]", "slices.overlaps[spoor/table.row[string, int]]"], apart := false }
def TableTextsSaid : Prop := tableTextsRow.holds Try.pinned (OpenSpec.ofChange tableTextsSpec)

/-- ITS FALSE NEIGHBOUR: 'it returns false'. Refute it at one input. -/
def tableTextsWrong : ChangeSpec := { name := "tableTexts", fn := fun _ => fun
  | [d] => { results := [.lit (.bool false)], args := [d] }
  | _ => none }
def TableTextsWrongFalsely : Prop := tableTextsRow.holds Try.pinned (OpenSpec.ofChange tableTextsWrong)

/-- 'spoorlaw4.TableCopies': WHATEVER THE INPUT: true; the input reads as it did. -/
def tableCopiesSpec : ChangeSpec := { name := "tableCopies", fn := fun _ => fun
  | [d1, d2] => { results := [.lit (.bool true)], args := [d1, d2] }
  | _ => none }
def tableCopiesRow : OpenClaim := { program := "ytjomecimbofnfaa", sum := "0b93d444f30a626a9f6012d44e21868e295fca8112ef2e09120efc3e66335054", func := "spoor/spoorlaw4.TableCopies", spec := "tableCopies", inPlace := ["slices.overlaps[spoor/table.row[int, int]]", "slices.overlaps[spoor/table.row[string, int]]"], apart := false }
def TableCopiesSaid : Prop := tableCopiesRow.holds Try.pinned (OpenSpec.ofChange tableCopiesSpec)

/-- ITS FALSE NEIGHBOUR: 'it returns false'. Refute it at one input. -/
def tableCopiesWrong : ChangeSpec := { name := "tableCopies", fn := fun _ => fun
  | [d1, d2] => { results := [.lit (.bool false)], args := [d1, d2] }
  | _ => none }
def TableCopiesWrongFalsely : Prop := tableCopiesRow.holds Try.pinned (OpenSpec.ofChange tableCopiesWrong)

/- THE SECOND FORM. 'bulk': how many values and letters a reading holds, each counted each time it is reached (what is shared counts as often as it is met; a slice's spare places count too). A statement '..UptoSaid' is the law's where the arguments, and the package variables that the reading takes, are together of bulk at most 1048576: NARROWER than '..Said'. Prove '..Said' where nothing that the law and all that it calls make is longer than what came in: it says more and counts as full. Else prove '..UptoSaid'. A law counts once. -/
mutual
def uptoBulk {H : Type} : DataW H → Nat
  | .lit (.string bytes) => bytes.length + 1
  | .lit _ => 1
  | .nil => 1
  | .ptr d => uptoBulk d + 1
  | .slice elems spare => uptoBulkAll elems + uptoBulkAll spare + 1
  | .agg parts => uptoBulkAll parts + 1
  | .iface _ d => uptoBulk d + 1
  | .map entries => uptoBulkEntries entries + 1
  | .held _ => 1
def uptoBulkAll {H : Type} : List (DataW H) → Nat
  | [] => 0
  | d :: r => uptoBulk d + uptoBulkAll r
def uptoBulkEntries {H : Type} : List (Lit × DataW H) → Nat
  | [] => 0
  | x :: r => uptoBulkEntry x + uptoBulkEntries r
def uptoBulkEntry {H : Type} : Lit × DataW H → Nat
  | (.string bytes, d) => bytes.length + uptoBulk d + 1
  | (_, d) => uptoBulk d + 1
 end
def uptoSmall : (H : Type) → List (DataW H) → Bool := fun _ ds => decide (uptoBulkAll ds ≤ 1048576)
def OpenSpec.upto (s : _root_.Go.ChangeSpec) : _root_.Go.OpenSpec := { _root_.Go.OpenSpec.ofChange s with cond := some uptoSmall }

/-- 'spoorlaw3.RingRuns', WHERE WHAT IT READS IS OF BULK AT MOST 1048576: true; the input reads as it did. -/
def ringRunsUptoRow : OpenClaim := { program := "ytjomecimbofnfaa", sum := "0b93d444f30a626a9f6012d44e21868e295fca8112ef2e09120efc3e66335054", func := "spoor/spoorlaw3.RingRuns", spec := "ringRuns", apart := false, narrowed := true }
def RingRunsUptoSaid : Prop := ringRunsUptoRow.holds Try.pinned (OpenSpec.upto ringRunsSpec)

/-- 'spoorlaw3.RingOrder', WHERE WHAT IT READS IS OF BULK AT MOST 1048576: true; the input reads as it did. -/
def ringOrderUptoRow : OpenClaim := { program := "ytjomecimbofnfaa", sum := "0b93d444f30a626a9f6012d44e21868e295fca8112ef2e09120efc3e66335054", func := "spoor/spoorlaw3.RingOrder", spec := "ringOrder", apart := false, narrowed := true }
def RingOrderUptoSaid : Prop := ringOrderUptoRow.holds Try.pinned (OpenSpec.upto ringOrderSpec)

/-- 'spoorlaw3.RingTypes', WHERE WHAT IT READS IS OF BULK AT MOST 1048576: true; the input reads as it did. -/
def ringTypesUptoRow : OpenClaim := { program := "ytjomecimbofnfaa", sum := "0b93d444f30a626a9f6012d44e21868e295fca8112ef2e09120efc3e66335054", func := "spoor/spoorlaw3.RingTypes", spec := "ringTypes", apart := false, narrowed := true }
def RingTypesUptoSaid : Prop := ringTypesUptoRow.holds Try.pinned (OpenSpec.upto ringTypesSpec)

/-- 'spoorlaw3.RingKept', WHERE WHAT IT READS IS OF BULK AT MOST 1048576: true; the input reads as it did. -/
def ringKeptUptoRow : OpenClaim := { program := "ytjomecimbofnfaa", sum := "0b93d444f30a626a9f6012d44e21868e295fca8112ef2e09120efc3e66335054", func := "spoor/spoorlaw3.RingKept", spec := "ringKept", apart := false, narrowed := true }
def RingKeptUptoSaid : Prop := ringKeptUptoRow.holds Try.pinned (OpenSpec.upto ringKeptSpec)

/-- 'spoorlaw3.RingPlays', WHERE WHAT IT READS IS OF BULK AT MOST 1048576: true; the input reads as it did. -/
def ringPlaysUptoRow : OpenClaim := { program := "ytjomecimbofnfaa", sum := "0b93d444f30a626a9f6012d44e21868e295fca8112ef2e09120efc3e66335054", func := "spoor/spoorlaw3.RingPlays", spec := "ringPlays", apart := false, narrowed := true }
def RingPlaysUptoSaid : Prop := ringPlaysUptoRow.holds Try.pinned (OpenSpec.upto ringPlaysSpec)

/-- 'spoorlaw4.TableRuns', WHERE WHAT IT READS IS OF BULK AT MOST 1048576: true; the input reads as it did. -/
def tableRunsUptoRow : OpenClaim := { program := "ytjomecimbofnfaa", sum := "0b93d444f30a626a9f6012d44e21868e295fca8112ef2e09120efc3e66335054", func := "spoor/spoorlaw4.TableRuns", spec := "tableRuns", inPlace := ["slices.overlaps[spoor/table.row[string, int]]"], apart := false, narrowed := true }
def TableRunsUptoSaid : Prop := tableRunsUptoRow.holds Try.pinned (OpenSpec.upto tableRunsSpec)

/-- 'spoorlaw4.TablePlays', WHERE WHAT IT READS IS OF BULK AT MOST 1048576: true; the input reads as it did. -/
def tablePlaysUptoRow : OpenClaim := { program := "ytjomecimbofnfaa", sum := "0b93d444f30a626a9f6012d44e21868e295fca8112ef2e09120efc3e66335054", func := "spoor/spoorlaw4.TablePlays", spec := "tablePlays", inPlace := ["slices.overlaps[spoor/table.row[int, int]]", "slices.overlaps[spoor/table.row[string, int]]"], apart := false, narrowed := true }
def TablePlaysUptoSaid : Prop := tablePlaysUptoRow.holds Try.pinned (OpenSpec.upto tablePlaysSpec)

/-- 'spoorlaw4.TableRises', WHERE WHAT IT READS IS OF BULK AT MOST 1048576: true; the input reads as it did. -/
def tableRisesUptoRow : OpenClaim := { program := "ytjomecimbofnfaa", sum := "0b93d444f30a626a9f6012d44e21868e295fca8112ef2e09120efc3e66335054", func := "spoor/spoorlaw4.TableRises", spec := "tableRises", inPlace := ["slices.overlaps[spoor/table.row[int, int]]", "slices.overlaps[spoor/table.row[string, int]]"], apart := false, narrowed := true }
def TableRisesUptoSaid : Prop := tableRisesUptoRow.holds Try.pinned (OpenSpec.upto tableRisesSpec)

/-- 'spoorlaw4.TableTexts', WHERE WHAT IT READS IS OF BULK AT MOST 1048576: true; the input reads as it did. -/
def tableTextsUptoRow : OpenClaim := { program := "ytjomecimbofnfaa", sum := "0b93d444f30a626a9f6012d44e21868e295fca8112ef2e09120efc3e66335054", func := "spoor/spoorlaw4.TableTexts", spec := "tableTexts", inPlace := ["slices.overlaps[spoor/table.row[int, int]]", "slices.overlaps[spoor/table.row[string, string]]", "slices.overlaps[spoor/table.row[string, int]]"], apart := false, narrowed := true }
def TableTextsUptoSaid : Prop := tableTextsUptoRow.holds Try.pinned (OpenSpec.upto tableTextsSpec)

/-- 'spoorlaw4.TableCopies', WHERE WHAT IT READS IS OF BULK AT MOST 1048576: true; the input reads as it did. -/
def tableCopiesUptoRow : OpenClaim := { program := "ytjomecimbofnfaa", sum := "0b93d444f30a626a9f6012d44e21868e295fca8112ef2e09120efc3e66335054", func := "spoor/spoorlaw4.TableCopies", spec := "tableCopies", inPlace := ["slices.overlaps[spoor/table.row[int, int]]", "slices.overlaps[spoor/table.row[string, int]]"], apart := false, narrowed := true }
def TableCopiesUptoSaid : Prop := tableCopiesUptoRow.holds Try.pinned (OpenSpec.upto tableCopiesSpec)

end Rows
end Go.Proofs.Ytjomecimbofnfaa

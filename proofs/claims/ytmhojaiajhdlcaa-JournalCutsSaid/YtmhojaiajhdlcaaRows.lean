/-
  No cell of these rows narrows 'for every input' (looked for: loops, veiled, ifaces, maps, wideKeys, modest, calm, conditions, laid).
  DERIVED. THE GIVEN ROWS OF THIS SEAT. 6 by the template 'for every input the law returns true; each argument reads behind the call as it read before'; 0 by the template 'total and deterministic' (their statements: YtmhojaiajhdlcaaTotals.lean).
  GIVEN WITH THE SEED: the statements are not yours to turn. If you find one false, say at which input.
  Laid BY PROGRAM, IN A SANDBOX (cutbox-rows.mjs): the forced cells as the released guide's own fill.sh prints them over the translation e252baf5c43bb84b… (all of the seat's roots in one cut). By AI agents, Wed Nov 11 2026. No macro, syntax, notation, axiom, sorry.
-/
import Derived.Test.YtmhojaiajhdlcaaChecked
import GoSem.Claim
import GoSem.ClaimJoined
import GoSem.ClaimMapViews
import Derived.JoinedTies
import Derived.KernelRfl
namespace Go.Proofs.Ytmhojaiajhdlcaa
/- THE CELL 'sum', in the pinned program and in every row, IS THE sha256 OF THE DUMP (.gsa) THAT YtmhojaiajhdlcaaProg.lean LOADS. Nothing in Lean hashes anything: it is a label: what it is worth is what the hold of that sum in a sandbox is worth. -/
noncomputable def Try.pinned : Pinned := { name := "ytmhojaiajhdlcaa", sum := "e252baf5c43bb84bd7f207a3b421143845f9cac2ac14400644f68608745832a3", checked := Try.checked }
namespace Rows
def none {H : Type} : Left H := { results := [], args := [] }

/-- 'spoorlaw25.LedgerRuns': WHATEVER THE INPUT: true; the input reads as it did. -/
def ledgerRunsSpec : ChangeSpec := { name := "ledgerRuns", fn := fun _ => fun
  | [] => { results := [.lit (.bool true)], args := [] }
  | _ => none }
def ledgerRunsRow : OpenClaim := { program := "ytmhojaiajhdlcaa", sum := "e252baf5c43bb84bd7f207a3b421143845f9cac2ac14400644f68608745832a3", func := "spoor/spoorlaw25.LedgerRuns", spec := "ledgerRuns", inPlace := ["slices.overlaps[spoor/table.row[string, []byte]]"], plainKeys := false, apart := false }
def LedgerRunsSaid : Prop := ledgerRunsRow.holds Try.pinned (OpenSpec.ofChange ledgerRunsSpec)

/-- ITS FALSE NEIGHBOUR: 'it returns false'. Refute it at one input. -/
def ledgerRunsWrong : ChangeSpec := { name := "ledgerRuns", fn := fun _ => fun
  | [] => { results := [.lit (.bool false)], args := [] }
  | _ => none }
def LedgerRunsWrongFalsely : Prop := ledgerRunsRow.holds Try.pinned (OpenSpec.ofChange ledgerRunsWrong)

/-- 'spoorlaw25.LedgerCuts': WHATEVER THE INPUT: true; the input reads as it did. -/
def ledgerCutsSpec : ChangeSpec := { name := "ledgerCuts", fn := fun _ => fun
  | [d1, d2, d3, d4] => { results := [.lit (.bool true)], args := [d1, d2, d3, d4] }
  | _ => none }
def ledgerCutsRow : OpenClaim := { program := "ytmhojaiajhdlcaa", sum := "e252baf5c43bb84bd7f207a3b421143845f9cac2ac14400644f68608745832a3", func := "spoor/spoorlaw25.LedgerCuts", spec := "ledgerCuts", inPlace := ["slices.overlaps[spoor/table.row[string, []byte]]"], plainKeys := false, apart := false }
def LedgerCutsSaid : Prop := ledgerCutsRow.holds Try.pinned (OpenSpec.ofChange ledgerCutsSpec)

/-- ITS FALSE NEIGHBOUR: 'it returns false'. Refute it at one input. -/
def ledgerCutsWrong : ChangeSpec := { name := "ledgerCuts", fn := fun _ => fun
  | [d1, d2, d3, d4] => { results := [.lit (.bool false)], args := [d1, d2, d3, d4] }
  | _ => none }
def LedgerCutsWrongFalsely : Prop := ledgerCutsRow.holds Try.pinned (OpenSpec.ofChange ledgerCutsWrong)

/-- 'spoorlaw24.JournalRuns': WHATEVER THE INPUT: true; the input reads as it did. -/
def journalRunsSpec : ChangeSpec := { name := "journalRuns", fn := fun _ => fun
  | [] => { results := [.lit (.bool true)], args := [] }
  | _ => none }
def journalRunsRow : OpenClaim := { program := "ytmhojaiajhdlcaa", sum := "e252baf5c43bb84bd7f207a3b421143845f9cac2ac14400644f68608745832a3", func := "spoor/spoorlaw24.JournalRuns", spec := "journalRuns", inPlace := ["slices.overlaps[spoor/table.row[string, []byte]]", "slices.overlaps[spoor/table.row[int, string]]"], unfollowed := true, recurses := true, plainKeys := false, apart := false }
def JournalRunsSaid : Prop := journalRunsRow.holds Try.pinned (OpenSpec.ofChange journalRunsSpec)

/-- ITS FALSE NEIGHBOUR: 'it returns false'. Refute it at one input. -/
def journalRunsWrong : ChangeSpec := { name := "journalRuns", fn := fun _ => fun
  | [] => { results := [.lit (.bool false)], args := [] }
  | _ => none }
def JournalRunsWrongFalsely : Prop := journalRunsRow.holds Try.pinned (OpenSpec.ofChange journalRunsWrong)

/-- 'spoorlaw24.JournalSmall': WHATEVER THE INPUT: true; the input reads as it did. -/
def journalSmallSpec : ChangeSpec := { name := "journalSmall", fn := fun _ => fun
  | [d1, d2] => { results := [.lit (.bool true)], args := [d1, d2] }
  | _ => none }
def journalSmallRow : OpenClaim := { program := "ytmhojaiajhdlcaa", sum := "e252baf5c43bb84bd7f207a3b421143845f9cac2ac14400644f68608745832a3", func := "spoor/spoorlaw24.JournalSmall", spec := "journalSmall", inPlace := ["slices.overlaps[spoor/table.row[string, []byte]]", "slices.overlaps[spoor/table.row[int, string]]"], unfollowed := true, recurses := true, plainKeys := false, apart := false }
def JournalSmallSaid : Prop := journalSmallRow.holds Try.pinned (OpenSpec.ofChange journalSmallSpec)

/-- ITS FALSE NEIGHBOUR: 'it returns false'. Refute it at one input. -/
def journalSmallWrong : ChangeSpec := { name := "journalSmall", fn := fun _ => fun
  | [d1, d2] => { results := [.lit (.bool false)], args := [d1, d2] }
  | _ => none }
def JournalSmallWrongFalsely : Prop := journalSmallRow.holds Try.pinned (OpenSpec.ofChange journalSmallWrong)

/-- 'spoorlaw24.JournalHolds': WHATEVER THE INPUT: true; the input reads as it did. -/
def journalHoldsSpec : ChangeSpec := { name := "journalHolds", fn := fun _ => fun
  | [d1, d2] => { results := [.lit (.bool true)], args := [d1, d2] }
  | _ => none }
def journalHoldsRow : OpenClaim := { program := "ytmhojaiajhdlcaa", sum := "e252baf5c43bb84bd7f207a3b421143845f9cac2ac14400644f68608745832a3", func := "spoor/spoorlaw24.JournalHolds", spec := "journalHolds", inPlace := ["slices.overlaps[spoor/table.row[string, []byte]]", "slices.overlaps[spoor/table.row[int, string]]"], unfollowed := true, recurses := true, plainKeys := false, apart := false }
def JournalHoldsSaid : Prop := journalHoldsRow.holds Try.pinned (OpenSpec.ofChange journalHoldsSpec)

/-- ITS FALSE NEIGHBOUR: 'it returns false'. Refute it at one input. -/
def journalHoldsWrong : ChangeSpec := { name := "journalHolds", fn := fun _ => fun
  | [d1, d2] => { results := [.lit (.bool false)], args := [d1, d2] }
  | _ => none }
def JournalHoldsWrongFalsely : Prop := journalHoldsRow.holds Try.pinned (OpenSpec.ofChange journalHoldsWrong)

/-- 'spoorlaw24.JournalCuts': WHATEVER THE INPUT: true; the input reads as it did. -/
def journalCutsSpec : ChangeSpec := { name := "journalCuts", fn := fun _ => fun
  | [d1, d2, d3, d4] => { results := [.lit (.bool true)], args := [d1, d2, d3, d4] }
  | _ => none }
def journalCutsRow : OpenClaim := { program := "ytmhojaiajhdlcaa", sum := "e252baf5c43bb84bd7f207a3b421143845f9cac2ac14400644f68608745832a3", func := "spoor/spoorlaw24.JournalCuts", spec := "journalCuts", inPlace := ["slices.overlaps[spoor/table.row[string, []byte]]", "slices.overlaps[spoor/table.row[int, string]]"], unfollowed := true, recurses := true, plainKeys := false, apart := false }
def JournalCutsSaid : Prop := journalCutsRow.holds Try.pinned (OpenSpec.ofChange journalCutsSpec)

/-- ITS FALSE NEIGHBOUR: 'it returns false'. Refute it at one input. -/
def journalCutsWrong : ChangeSpec := { name := "journalCuts", fn := fun _ => fun
  | [d1, d2, d3, d4] => { results := [.lit (.bool false)], args := [d1, d2, d3, d4] }
  | _ => none }
def JournalCutsWrongFalsely : Prop := journalCutsRow.holds Try.pinned (OpenSpec.ofChange journalCutsWrong)

/- THE SECOND FORM. 'bulk': how many values and letters a reading holds, each counted each time it is reached (what is shared counts as often as it is met; a slice's spare places count too). A statement '..UptoSaid' is the law's where the arguments, and the package variables that the reading takes, are together of bulk at most 1048576: NARROWER than '..Said'. Prove '..Said' where nothing that the law and all that it calls make is longer than what came in: it says more and counts as full. Else prove '..UptoSaid'. A law counts once. -/
mutual
def uptoBulk {H : Type} : DataW H → Nat
  | .lit (.string bytes) => bytes.length + 1
  | .lit _ => 1
  | .nil => 1
  | .ptr d => uptoBulk d + 1
  | .slice elems spare => uptoBulkAll elems + uptoBulkAll spare + 1
  | .agg parts => uptoBulkAll parts + 1
  | .iface _ d => uptoBulk d + 1
  | .map entries => uptoBulkEntries entries + 1
  | .held _ => 1
def uptoBulkAll {H : Type} : List (DataW H) → Nat
  | [] => 0
  | d :: r => uptoBulk d + uptoBulkAll r
def uptoBulkEntries {H : Type} : List (Lit × DataW H) → Nat
  | [] => 0
  | x :: r => uptoBulkEntry x + uptoBulkEntries r
def uptoBulkEntry {H : Type} : Lit × DataW H → Nat
  | (.string bytes, d) => bytes.length + uptoBulk d + 1
  | (_, d) => uptoBulk d + 1
 end
def uptoSmall : (H : Type) → List (DataW H) → Bool := fun _ ds => decide (uptoBulkAll ds ≤ 1048576)
def OpenSpec.upto (s : _root_.Go.ChangeSpec) : _root_.Go.OpenSpec := { _root_.Go.OpenSpec.ofChange s with cond := some uptoSmall }

/-- 'spoorlaw25.LedgerRuns', WHERE WHAT IT READS IS OF BULK AT MOST 1048576: true; the input reads as it did. -/
def ledgerRunsUptoRow : OpenClaim := { program := "ytmhojaiajhdlcaa", sum := "e252baf5c43bb84bd7f207a3b421143845f9cac2ac14400644f68608745832a3", func := "spoor/spoorlaw25.LedgerRuns", spec := "ledgerRuns", inPlace := ["slices.overlaps[spoor/table.row[string, []byte]]"], plainKeys := false, apart := false, narrowed := true }
def LedgerRunsUptoSaid : Prop := ledgerRunsUptoRow.holds Try.pinned (OpenSpec.upto ledgerRunsSpec)

/-- 'spoorlaw25.LedgerCuts', WHERE WHAT IT READS IS OF BULK AT MOST 1048576: true; the input reads as it did. -/
def ledgerCutsUptoRow : OpenClaim := { program := "ytmhojaiajhdlcaa", sum := "e252baf5c43bb84bd7f207a3b421143845f9cac2ac14400644f68608745832a3", func := "spoor/spoorlaw25.LedgerCuts", spec := "ledgerCuts", inPlace := ["slices.overlaps[spoor/table.row[string, []byte]]"], plainKeys := false, apart := false, narrowed := true }
def LedgerCutsUptoSaid : Prop := ledgerCutsUptoRow.holds Try.pinned (OpenSpec.upto ledgerCutsSpec)

/-- 'spoorlaw24.JournalRuns', WHERE WHAT IT READS IS OF BULK AT MOST 1048576: true; the input reads as it did. -/
def journalRunsUptoRow : OpenClaim := { program := "ytmhojaiajhdlcaa", sum := "e252baf5c43bb84bd7f207a3b421143845f9cac2ac14400644f68608745832a3", func := "spoor/spoorlaw24.JournalRuns", spec := "journalRuns", inPlace := ["slices.overlaps[spoor/table.row[string, []byte]]", "slices.overlaps[spoor/table.row[int, string]]"], unfollowed := true, recurses := true, plainKeys := false, apart := false, narrowed := true }
def JournalRunsUptoSaid : Prop := journalRunsUptoRow.holds Try.pinned (OpenSpec.upto journalRunsSpec)

/-- 'spoorlaw24.JournalSmall', WHERE WHAT IT READS IS OF BULK AT MOST 1048576: true; the input reads as it did. -/
def journalSmallUptoRow : OpenClaim := { program := "ytmhojaiajhdlcaa", sum := "e252baf5c43bb84bd7f207a3b421143845f9cac2ac14400644f68608745832a3", func := "spoor/spoorlaw24.JournalSmall", spec := "journalSmall", inPlace := ["slices.overlaps[spoor/table.row[string, []byte]]", "slices.overlaps[spoor/table.row[int, string]]"], unfollowed := true, recurses := true, plainKeys := false, apart := false, narrowed := true }
def JournalSmallUptoSaid : Prop := journalSmallUptoRow.holds Try.pinned (OpenSpec.upto journalSmallSpec)

/-- 'spoorlaw24.JournalHolds', WHERE WHAT IT READS IS OF BULK AT MOST 1048576: true; the input reads as it did. -/
def journalHoldsUptoRow : OpenClaim := { program := "ytmhojaiajhdlcaa", sum := "e252baf5c43bb84bd7f207a3b421143845f9cac2ac14400644f68608745832a3", func := "spoor/spoorlaw24.JournalHolds", spec := "journalHolds", inPlace := ["slices.overlaps[spoor/table.row[string, []byte]]", "slices.overlaps[spoor/table.row[int, string]]"], unfollowed := true, recurses := true, plainKeys := false, apart := false, narrowed := true }
def JournalHoldsUptoSaid : Prop := journalHoldsUptoRow.holds Try.pinned (OpenSpec.upto journalHoldsSpec)

/-- 'spoorlaw24.JournalCuts', WHERE WHAT IT READS IS OF BULK AT MOST 1048576: true; the input reads as it did. -/
def journalCutsUptoRow : OpenClaim := { program := "ytmhojaiajhdlcaa", sum := "e252baf5c43bb84bd7f207a3b421143845f9cac2ac14400644f68608745832a3", func := "spoor/spoorlaw24.JournalCuts", spec := "journalCuts", inPlace := ["slices.overlaps[spoor/table.row[string, []byte]]", "slices.overlaps[spoor/table.row[int, string]]"], unfollowed := true, recurses := true, plainKeys := false, apart := false, narrowed := true }
def JournalCutsUptoSaid : Prop := journalCutsUptoRow.holds Try.pinned (OpenSpec.upto journalCutsSpec)

end Rows
end Go.Proofs.Ytmhojaiajhdlcaa

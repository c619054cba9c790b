/-
  No cell of these rows narrows 'for every input' (looked for: loops, veiled, ifaces, maps, wideKeys, modest, calm, conditions, laid).
  DERIVED. THE GIVEN ROWS OF THIS SEAT. 5 by the template 'for every input the law returns true; each argument reads behind the call as it read before'; 0 by the template 'total and deterministic' (their statements: YtmhojaiajhdlcaaGreatTotals.lean).
  GIVEN WITH THE SEED: the statements are not yours to turn. If you find one false, say at which input.
  Laid BY PROGRAM, IN A SANDBOX (cutbox-rows.mjs): the forced cells as the released guide's own fill.sh prints them over the translation 96e9eccad91146cd… (all of the seat's roots in one cut). By AI agents, Wed Nov 11 2026. No macro, syntax, notation, axiom, sorry.
-/
import Derived.Test.YtmhojaiajhdlcaaGreatChecked
import GoSem.Claim
import GoSem.ClaimJoined
import GoSem.ClaimMapViews
import Derived.JoinedTies
import Derived.KernelRfl
namespace Go.Proofs.YtmhojaiajhdlcaaGreat
/- THE CELL 'sum', in the pinned program and in every row, IS THE sha256 OF THE DUMP (.gsa) THAT YtmhojaiajhdlcaaGreatProg.lean LOADS. Nothing in Lean hashes anything: it is a label: what it is worth is what the hold of that sum in a sandbox is worth. -/
noncomputable def Tryz.pinned : Pinned := { name := "ytmhojaiajhdlcaagreat", sum := "96e9eccad91146cd77a1b4ebc8b028618405614e8aeda811a758644fa2ed5cec", checked := Tryz.checked }
namespace Rows
def none {H : Type} : Left H := { results := [], args := [] }

/-- 'spoorlaw25.LedgerBytes': WHATEVER THE INPUT: true; the input reads as it did. -/
def ledgerBytesSpec : ChangeSpec := { name := "ledgerBytes", fn := fun _ => fun
  | [d1, d2] => { results := [.lit (.bool true)], args := [d1, d2] }
  | _ => none }
def ledgerBytesRow : OpenClaim := { program := "ytmhojaiajhdlcaagreat", sum := "96e9eccad91146cd77a1b4ebc8b028618405614e8aeda811a758644fa2ed5cec", func := "spoor/spoorlaw25.LedgerBytes", spec := "ledgerBytes", inPlace := ["slices.overlaps[spoor/table.row[string, []byte]]"], recurses := true, plainKeys := false, apart := false }
def LedgerBytesSaid : Prop := ledgerBytesRow.holds Tryz.pinned (OpenSpec.ofChange ledgerBytesSpec)

/-- ITS FALSE NEIGHBOUR: 'it returns false'. Refute it at one input. -/
def ledgerBytesWrong : ChangeSpec := { name := "ledgerBytes", fn := fun _ => fun
  | [d1, d2] => { results := [.lit (.bool false)], args := [d1, d2] }
  | _ => none }
def LedgerBytesWrongFalsely : Prop := ledgerBytesRow.holds Tryz.pinned (OpenSpec.ofChange ledgerBytesWrong)

/-- 'spoorlaw25.LedgerOpens': WHATEVER THE INPUT: true; the input reads as it did. -/
def ledgerOpensSpec : ChangeSpec := { name := "ledgerOpens", fn := fun _ => fun
  | [d1, d2, d3] => { results := [.lit (.bool true)], args := [d1, d2, d3] }
  | _ => none }
def ledgerOpensRow : OpenClaim := { program := "ytmhojaiajhdlcaagreat", sum := "96e9eccad91146cd77a1b4ebc8b028618405614e8aeda811a758644fa2ed5cec", func := "spoor/spoorlaw25.LedgerOpens", spec := "ledgerOpens", inPlace := ["slices.overlaps[spoor/table.row[string, []byte]]"], recurses := true, plainKeys := false, apart := false }
def LedgerOpensSaid : Prop := ledgerOpensRow.holds Tryz.pinned (OpenSpec.ofChange ledgerOpensSpec)

/-- ITS FALSE NEIGHBOUR: 'it returns false'. Refute it at one input. -/
def ledgerOpensWrong : ChangeSpec := { name := "ledgerOpens", fn := fun _ => fun
  | [d1, d2, d3] => { results := [.lit (.bool false)], args := [d1, d2, d3] }
  | _ => none }
def LedgerOpensWrongFalsely : Prop := ledgerOpensRow.holds Tryz.pinned (OpenSpec.ofChange ledgerOpensWrong)

/-- 'spoorlaw25.LedgerPlays': WHATEVER THE INPUT: true; the input reads as it did. -/
def ledgerPlaysSpec : ChangeSpec := { name := "ledgerPlays", fn := fun _ => fun
  | [d] => { results := [.lit (.bool true)], args := [d] }
  | _ => none }
def ledgerPlaysRow : OpenClaim := { program := "ytmhojaiajhdlcaagreat", sum := "96e9eccad91146cd77a1b4ebc8b028618405614e8aeda811a758644fa2ed5cec", func := "spoor/spoorlaw25.LedgerPlays", spec := "ledgerPlays", inPlace := ["slices.overlaps[spoor/table.row[string, []byte]]"], recurses := true, plainKeys := false, apart := false }
def LedgerPlaysSaid : Prop := ledgerPlaysRow.holds Tryz.pinned (OpenSpec.ofChange ledgerPlaysSpec)

/-- ITS FALSE NEIGHBOUR: 'it returns false'. Refute it at one input. -/
def ledgerPlaysWrong : ChangeSpec := { name := "ledgerPlays", fn := fun _ => fun
  | [d] => { results := [.lit (.bool false)], args := [d] }
  | _ => none }
def LedgerPlaysWrongFalsely : Prop := ledgerPlaysRow.holds Tryz.pinned (OpenSpec.ofChange ledgerPlaysWrong)

/-- 'spoorlaw24.JournalOpens': WHATEVER THE INPUT: true; the input reads as it did. -/
def journalOpensSpec : ChangeSpec := { name := "journalOpens", fn := fun _ => fun
  | [d1, d2, d3, d4] => { results := [.lit (.bool true)], args := [d1, d2, d3, d4] }
  | _ => none }
def journalOpensRow : OpenClaim := { program := "ytmhojaiajhdlcaagreat", sum := "96e9eccad91146cd77a1b4ebc8b028618405614e8aeda811a758644fa2ed5cec", func := "spoor/spoorlaw24.JournalOpens", spec := "journalOpens", inPlace := ["slices.overlaps[spoor/table.row[string, []byte]]", "slices.overlaps[spoor/table.row[int, string]]"], unfollowed := true, recurses := true, plainKeys := false, apart := false }
def JournalOpensSaid : Prop := journalOpensRow.holds Tryz.pinned (OpenSpec.ofChange journalOpensSpec)

/-- ITS FALSE NEIGHBOUR: 'it returns false'. Refute it at one input. -/
def journalOpensWrong : ChangeSpec := { name := "journalOpens", fn := fun _ => fun
  | [d1, d2, d3, d4] => { results := [.lit (.bool false)], args := [d1, d2, d3, d4] }
  | _ => none }
def JournalOpensWrongFalsely : Prop := journalOpensRow.holds Tryz.pinned (OpenSpec.ofChange journalOpensWrong)

/-- 'spoorlaw24.JournalPlays': WHATEVER THE INPUT: true; the input reads as it did. -/
def journalPlaysSpec : ChangeSpec := { name := "journalPlays", fn := fun _ => fun
  | [d] => { results := [.lit (.bool true)], args := [d] }
  | _ => none }
def journalPlaysRow : OpenClaim := { program := "ytmhojaiajhdlcaagreat", sum := "96e9eccad91146cd77a1b4ebc8b028618405614e8aeda811a758644fa2ed5cec", func := "spoor/spoorlaw24.JournalPlays", spec := "journalPlays", inPlace := ["slices.overlaps[spoor/table.row[string, []byte]]", "slices.overlaps[spoor/table.row[int, string]]"], unfollowed := true, recurses := true, plainKeys := false, apart := false }
def JournalPlaysSaid : Prop := journalPlaysRow.holds Tryz.pinned (OpenSpec.ofChange journalPlaysSpec)

/-- ITS FALSE NEIGHBOUR: 'it returns false'. Refute it at one input. -/
def journalPlaysWrong : ChangeSpec := { name := "journalPlays", fn := fun _ => fun
  | [d] => { results := [.lit (.bool false)], args := [d] }
  | _ => none }
def JournalPlaysWrongFalsely : Prop := journalPlaysRow.holds Tryz.pinned (OpenSpec.ofChange journalPlaysWrong)

/- THE SECOND FORM. 'bulk': how many values and letters a reading holds, each counted each time it is reached (what is shared counts as often as it is met; a slice's spare places count too). A statement '..UptoSaid' is the law's where the arguments, and the package variables that the reading takes, are together of bulk at most 1048576: NARROWER than '..Said'. Prove '..Said' where nothing that the law and all that it calls make is longer than what came in: it says more and counts as full. Else prove '..UptoSaid'. A law counts once. -/
mutual
def uptoBulk {H : Type} : DataW H → Nat
  | .lit (.string bytes) => bytes.length + 1
  | .lit _ => 1
  | .nil => 1
  | .ptr d => uptoBulk d + 1
  | .slice elems spare => uptoBulkAll elems + uptoBulkAll spare + 1
  | .agg parts => uptoBulkAll parts + 1
  | .iface _ d => uptoBulk d + 1
  | .map entries => uptoBulkEntries entries + 1
  | .held _ => 1
def uptoBulkAll {H : Type} : List (DataW H) → Nat
  | [] => 0
  | d :: r => uptoBulk d + uptoBulkAll r
def uptoBulkEntries {H : Type} : List (Lit × DataW H) → Nat
  | [] => 0
  | x :: r => uptoBulkEntry x + uptoBulkEntries r
def uptoBulkEntry {H : Type} : Lit × DataW H → Nat
  | (.string bytes, d) => bytes.length + uptoBulk d + 1
  | (_, d) => uptoBulk d + 1
 end
def uptoSmall : (H : Type) → List (DataW H) → Bool := fun _ ds => decide (uptoBulkAll ds ≤ 1048576)
def OpenSpec.upto (s : _root_.Go.ChangeSpec) : _root_.Go.OpenSpec := { _root_.Go.OpenSpec.ofChange s with cond := some uptoSmall }

/-- 'spoorlaw25.LedgerBytes', WHERE WHAT IT READS IS OF BULK AT MOST 1048576: true; the input reads as it did. -/
def ledgerBytesUptoRow : OpenClaim := { program := "ytmhojaiajhdlcaagreat", sum := "96e9eccad91146cd77a1b4ebc8b028618405614e8aeda811a758644fa2ed5cec", func := "spoor/spoorlaw25.LedgerBytes", spec := "ledgerBytes", inPlace := ["slices.overlaps[spoor/table.row[string, []byte]]"], recurses := true, plainKeys := false, apart := false, narrowed := true }
def LedgerBytesUptoSaid : Prop := ledgerBytesUptoRow.holds Tryz.pinned (OpenSpec.upto ledgerBytesSpec)

/-- 'spoorlaw25.LedgerOpens', WHERE WHAT IT READS IS OF BULK AT MOST 1048576: true; the input reads as it did. -/
def ledgerOpensUptoRow : OpenClaim := { program := "ytmhojaiajhdlcaagreat", sum := "96e9eccad91146cd77a1b4ebc8b028618405614e8aeda811a758644fa2ed5cec", func := "spoor/spoorlaw25.LedgerOpens", spec := "ledgerOpens", inPlace := ["slices.overlaps[spoor/table.row[string, []byte]]"], recurses := true, plainKeys := false, apart := false, narrowed := true }
def LedgerOpensUptoSaid : Prop := ledgerOpensUptoRow.holds Tryz.pinned (OpenSpec.upto ledgerOpensSpec)

/-- 'spoorlaw25.LedgerPlays', WHERE WHAT IT READS IS OF BULK AT MOST 1048576: true; the input reads as it did. -/
def ledgerPlaysUptoRow : OpenClaim := { program := "ytmhojaiajhdlcaagreat", sum := "96e9eccad91146cd77a1b4ebc8b028618405614e8aeda811a758644fa2ed5cec", func := "spoor/spoorlaw25.LedgerPlays", spec := "ledgerPlays", inPlace := ["slices.overlaps[spoor/table.row[string, []byte]]"], recurses := true, plainKeys := false, apart := false, narrowed := true }
def LedgerPlaysUptoSaid : Prop := ledgerPlaysUptoRow.holds Tryz.pinned (OpenSpec.upto ledgerPlaysSpec)

/-- 'spoorlaw24.JournalOpens', WHERE WHAT IT READS IS OF BULK AT MOST 1048576: true; the input reads as it did. -/
def journalOpensUptoRow : OpenClaim := { program := "ytmhojaiajhdlcaagreat", sum := "96e9eccad91146cd77a1b4ebc8b028618405614e8aeda811a758644fa2ed5cec", func := "spoor/spoorlaw24.JournalOpens", spec := "journalOpens", inPlace := ["slices.overlaps[spoor/table.row[string, []byte]]", "slices.overlaps[spoor/table.row[int, string]]"], unfollowed := true, recurses := true, plainKeys := false, apart := false, narrowed := true }
def JournalOpensUptoSaid : Prop := journalOpensUptoRow.holds Tryz.pinned (OpenSpec.upto journalOpensSpec)

/-- 'spoorlaw24.JournalPlays', WHERE WHAT IT READS IS OF BULK AT MOST 1048576: true; the input reads as it did. -/
def journalPlaysUptoRow : OpenClaim := { program := "ytmhojaiajhdlcaagreat", sum := "96e9eccad91146cd77a1b4ebc8b028618405614e8aeda811a758644fa2ed5cec", func := "spoor/spoorlaw24.JournalPlays", spec := "journalPlays", inPlace := ["slices.overlaps[spoor/table.row[string, []byte]]", "slices.overlaps[spoor/table.row[int, string]]"], unfollowed := true, recurses := true, plainKeys := false, apart := false, narrowed := true }
def JournalPlaysUptoSaid : Prop := journalPlaysUptoRow.holds Tryz.pinned (OpenSpec.upto journalPlaysSpec)

end Rows
end Go.Proofs.YtmhojaiajhdlcaaGreat

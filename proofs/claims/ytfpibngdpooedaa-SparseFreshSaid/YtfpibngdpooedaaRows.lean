/-
  No cell of these rows narrows 'for every input' (looked for: loops, veiled, ifaces, maps, wideKeys, modest, calm, conditions, laid).
  DERIVED. THE GIVEN ROWS OF THIS SEAT. 9 by the template 'for every input the law returns true; each argument reads behind the call as it read before'; 0 by the template 'total and deterministic' (their statements: YtfpibngdpooedaaTotals.lean).
  GIVEN WITH THE SEED: the statements are not yours to turn. If you find one false, say at which input.
  Laid BY PROGRAM, IN A SANDBOX (cutbox-rows.mjs): the forced cells as the released guide's own fill.sh prints them over the translation 670ffc799144602d… (all of the seat's roots in one cut). By AI agents, Wed Nov 11 2026. No macro, syntax, notation, axiom, sorry.
-/
import Derived.Test.YtfpibngdpooedaaChecked
import GoSem.Claim
import GoSem.ClaimJoined
import GoSem.ClaimMapViews
import Derived.JoinedTies
import Derived.KernelRfl
namespace Go.Proofs.Ytfpibngdpooedaa
/- THE CELL 'sum', in the pinned program and in every row, IS THE sha256 OF THE DUMP (.gsa) THAT YtfpibngdpooedaaProg.lean LOADS. Nothing in Lean hashes anything: it is a label: what it is worth is what the hold of that sum in a sandbox is worth. -/
noncomputable def Try.pinned : Pinned := { name := "ytfpibngdpooedaa", sum := "670ffc799144602d985dcdc536e694ddc4eecf8629121e390fc604baea51235e", checked := Try.checked }
namespace Rows
def none {H : Type} : Left H := { results := [], args := [] }

/-- 'spoorlaw5.SparseRuns': WHATEVER THE INPUT: true; the input reads as it did. -/
def sparseRunsSpec : ChangeSpec := { name := "sparseRuns", fn := fun _ => fun
  | [] => { results := [.lit (.bool true)], args := [] }
  | _ => none }
def sparseRunsRow : OpenClaim := { program := "ytfpibngdpooedaa", sum := "670ffc799144602d985dcdc536e694ddc4eecf8629121e390fc604baea51235e", func := "spoor/spoorlaw5.SparseRuns", spec := "sparseRuns", apart := false }
def SparseRunsSaid : Prop := sparseRunsRow.holds Try.pinned (OpenSpec.ofChange sparseRunsSpec)

/-- ITS FALSE NEIGHBOUR: 'it returns false'. Refute it at one input. -/
def sparseRunsWrong : ChangeSpec := { name := "sparseRuns", fn := fun _ => fun
  | [] => { results := [.lit (.bool false)], args := [] }
  | _ => none }
def SparseRunsWrongFalsely : Prop := sparseRunsRow.holds Try.pinned (OpenSpec.ofChange sparseRunsWrong)

/-- 'spoorlaw5.SparsePlays': WHATEVER THE INPUT: true; the input reads as it did. -/
def sparsePlaysSpec : ChangeSpec := { name := "sparsePlays", fn := fun _ => fun
  | [d1, d2] => { results := [.lit (.bool true)], args := [d1, d2] }
  | _ => none }
def sparsePlaysRow : OpenClaim := { program := "ytfpibngdpooedaa", sum := "670ffc799144602d985dcdc536e694ddc4eecf8629121e390fc604baea51235e", func := "spoor/spoorlaw5.SparsePlays", spec := "sparsePlays", apart := false }
def SparsePlaysSaid : Prop := sparsePlaysRow.holds Try.pinned (OpenSpec.ofChange sparsePlaysSpec)

/-- ITS FALSE NEIGHBOUR: 'it returns false'. Refute it at one input. -/
def sparsePlaysWrong : ChangeSpec := { name := "sparsePlays", fn := fun _ => fun
  | [d1, d2] => { results := [.lit (.bool false)], args := [d1, d2] }
  | _ => none }
def SparsePlaysWrongFalsely : Prop := sparsePlaysRow.holds Try.pinned (OpenSpec.ofChange sparsePlaysWrong)

/-- 'spoorlaw5.SparseFresh': WHATEVER THE INPUT: true; the input reads as it did. -/
def sparseFreshSpec : ChangeSpec := { name := "sparseFresh", fn := fun _ => fun
  | [d1, d2, d3] => { results := [.lit (.bool true)], args := [d1, d2, d3] }
  | _ => none }
def sparseFreshRow : OpenClaim := { program := "ytfpibngdpooedaa", sum := "670ffc799144602d985dcdc536e694ddc4eecf8629121e390fc604baea51235e", func := "spoor/spoorlaw5.SparseFresh", spec := "sparseFresh", apart := false }
def SparseFreshSaid : Prop := sparseFreshRow.holds Try.pinned (OpenSpec.ofChange sparseFreshSpec)

/-- ITS FALSE NEIGHBOUR: 'it returns false'. Refute it at one input. -/
def sparseFreshWrong : ChangeSpec := { name := "sparseFresh", fn := fun _ => fun
  | [d1, d2, d3] => { results := [.lit (.bool false)], args := [d1, d2, d3] }
  | _ => none }
def SparseFreshWrongFalsely : Prop := sparseFreshRow.holds Try.pinned (OpenSpec.ofChange sparseFreshWrong)

/-- 'spoorlaw5.SparseOrder': WHATEVER THE INPUT: true; the input reads as it did. -/
def sparseOrderSpec : ChangeSpec := { name := "sparseOrder", fn := fun _ => fun
  | [d] => { results := [.lit (.bool true)], args := [d] }
  | _ => none }
def sparseOrderRow : OpenClaim := { program := "ytfpibngdpooedaa", sum := "670ffc799144602d985dcdc536e694ddc4eecf8629121e390fc604baea51235e", func := "spoor/spoorlaw5.SparseOrder", spec := "sparseOrder", apart := false }
def SparseOrderSaid : Prop := sparseOrderRow.holds Try.pinned (OpenSpec.ofChange sparseOrderSpec)

/-- ITS FALSE NEIGHBOUR: 'it returns false'. Refute it at one input. -/
def sparseOrderWrong : ChangeSpec := { name := "sparseOrder", fn := fun _ => fun
  | [d] => { results := [.lit (.bool false)], args := [d] }
  | _ => none }
def SparseOrderWrongFalsely : Prop := sparseOrderRow.holds Try.pinned (OpenSpec.ofChange sparseOrderWrong)

/-- 'spoorlaw8.LineRuns': WHATEVER THE INPUT: true; the input reads as it did. -/
def lineRunsSpec : ChangeSpec := { name := "lineRuns", fn := fun _ => fun
  | [] => { results := [.lit (.bool true)], args := [] }
  | _ => none }
def lineRunsRow : OpenClaim := { program := "ytfpibngdpooedaa", sum := "670ffc799144602d985dcdc536e694ddc4eecf8629121e390fc604baea51235e", func := "spoor/spoorlaw8.LineRuns", spec := "lineRuns", apart := false }
def LineRunsSaid : Prop := lineRunsRow.holds Try.pinned (OpenSpec.ofChange lineRunsSpec)

/-- ITS FALSE NEIGHBOUR: 'it returns false'. Refute it at one input. -/
def lineRunsWrong : ChangeSpec := { name := "lineRuns", fn := fun _ => fun
  | [] => { results := [.lit (.bool false)], args := [] }
  | _ => none }
def LineRunsWrongFalsely : Prop := lineRunsRow.holds Try.pinned (OpenSpec.ofChange lineRunsWrong)

/-- 'spoorlaw8.LinePlays': WHATEVER THE INPUT: true; the input reads as it did. -/
def linePlaysSpec : ChangeSpec := { name := "linePlays", fn := fun _ => fun
  | [d] => { results := [.lit (.bool true)], args := [d] }
  | _ => none }
def linePlaysRow : OpenClaim := { program := "ytfpibngdpooedaa", sum := "670ffc799144602d985dcdc536e694ddc4eecf8629121e390fc604baea51235e", func := "spoor/spoorlaw8.LinePlays", spec := "linePlays", apart := false }
def LinePlaysSaid : Prop := linePlaysRow.holds Try.pinned (OpenSpec.ofChange linePlaysSpec)

/-- ITS FALSE NEIGHBOUR: 'it returns false'. Refute it at one input. -/
def linePlaysWrong : ChangeSpec := { name := "linePlays", fn := fun _ => fun
  | [d] => { results := [.lit (.bool false)], args := [d] }
  | _ => none }
def LinePlaysWrongFalsely : Prop := linePlaysRow.holds Try.pinned (OpenSpec.ofChange linePlaysWrong)

/-- 'spoorlaw8.LineResumes': WHATEVER THE INPUT: true; the input reads as it did. -/
def lineResumesSpec : ChangeSpec := { name := "lineResumes", fn := fun _ => fun
  | [d1, d2, d3, d4] => { results := [.lit (.bool true)], args := [d1, d2, d3, d4] }
  | _ => none }
def lineResumesRow : OpenClaim := { program := "ytfpibngdpooedaa", sum := "670ffc799144602d985dcdc536e694ddc4eecf8629121e390fc604baea51235e", func := "spoor/spoorlaw8.LineResumes", spec := "lineResumes", apart := false }
def LineResumesSaid : Prop := lineResumesRow.holds Try.pinned (OpenSpec.ofChange lineResumesSpec)

/-- ITS FALSE NEIGHBOUR: 'it returns false'. Refute it at one input. -/
def lineResumesWrong : ChangeSpec := { name := "lineResumes", fn := fun _ => fun
  | [d1, d2, d3, d4] => { results := [.lit (.bool false)], args := [d1, d2, d3, d4] }
  | _ => none }
def LineResumesWrongFalsely : Prop := lineResumesRow.holds Try.pinned (OpenSpec.ofChange lineResumesWrong)

/-- 'spoorlaw8.LineCuts': WHATEVER THE INPUT: true; the input reads as it did. -/
def lineCutsSpec : ChangeSpec := { name := "lineCuts", fn := fun _ => fun
  | [d1, d2] => { results := [.lit (.bool true)], args := [d1, d2] }
  | _ => none }
def lineCutsRow : OpenClaim := { program := "ytfpibngdpooedaa", sum := "670ffc799144602d985dcdc536e694ddc4eecf8629121e390fc604baea51235e", func := "spoor/spoorlaw8.LineCuts", spec := "lineCuts", apart := false }
def LineCutsSaid : Prop := lineCutsRow.holds Try.pinned (OpenSpec.ofChange lineCutsSpec)

/-- ITS FALSE NEIGHBOUR: 'it returns false'. Refute it at one input. -/
def lineCutsWrong : ChangeSpec := { name := "lineCuts", fn := fun _ => fun
  | [d1, d2] => { results := [.lit (.bool false)], args := [d1, d2] }
  | _ => none }
def LineCutsWrongFalsely : Prop := lineCutsRow.holds Try.pinned (OpenSpec.ofChange lineCutsWrong)

/-- 'spoorlaw8.LineKinds': WHATEVER THE INPUT: true; the input reads as it did. -/
def lineKindsSpec : ChangeSpec := { name := "lineKinds", fn := fun _ => fun
  | [d] => { results := [.lit (.bool true)], args := [d] }
  | _ => none }
def lineKindsRow : OpenClaim := { program := "ytfpibngdpooedaa", sum := "670ffc799144602d985dcdc536e694ddc4eecf8629121e390fc604baea51235e", func := "spoor/spoorlaw8.LineKinds", spec := "lineKinds", apart := false }
def LineKindsSaid : Prop := lineKindsRow.holds Try.pinned (OpenSpec.ofChange lineKindsSpec)

/-- ITS FALSE NEIGHBOUR: 'it returns false'. Refute it at one input. -/
def lineKindsWrong : ChangeSpec := { name := "lineKinds", fn := fun _ => fun
  | [d] => { results := [.lit (.bool false)], args := [d] }
  | _ => none }
def LineKindsWrongFalsely : Prop := lineKindsRow.holds Try.pinned (OpenSpec.ofChange lineKindsWrong)

/- THE SECOND FORM. 'bulk': how many values and letters a reading holds, each counted each time it is reached (what is shared counts as often as it is met; a slice's spare places count too). A statement '..UptoSaid' is the law's where the arguments, and the package variables that the reading takes, are together of bulk at most 1048576: NARROWER than '..Said'. Prove '..Said' where nothing that the law and all that it calls make is longer than what came in: it says more and counts as full. Else prove '..UptoSaid'. A law counts once. -/
mutual
def uptoBulk {H : Type} : DataW H → Nat
  | .lit (.string bytes) => bytes.length + 1
  | .lit _ => 1
  | .nil => 1
  | .ptr d => uptoBulk d + 1
  | .slice elems spare => uptoBulkAll elems + uptoBulkAll spare + 1
  | .agg parts => uptoBulkAll parts + 1
  | .iface _ d => uptoBulk d + 1
  | .map entries => uptoBulkEntries entries + 1
  | .held _ => 1
def uptoBulkAll {H : Type} : List (DataW H) → Nat
  | [] => 0
  | d :: r => uptoBulk d + uptoBulkAll r
def uptoBulkEntries {H : Type} : List (Lit × DataW H) → Nat
  | [] => 0
  | x :: r => uptoBulkEntry x + uptoBulkEntries r
def uptoBulkEntry {H : Type} : Lit × DataW H → Nat
  | (.string bytes, d) => bytes.length + uptoBulk d + 1
  | (_, d) => uptoBulk d + 1
 end
def uptoSmall : (H : Type) → List (DataW H) → Bool := fun _ ds => decide (uptoBulkAll ds ≤ 1048576)
def OpenSpec.upto (s : _root_.Go.ChangeSpec) : _root_.Go.OpenSpec := { _root_.Go.OpenSpec.ofChange s with cond := some uptoSmall }

/-- 'spoorlaw5.SparseRuns', WHERE WHAT IT READS IS OF BULK AT MOST 1048576: true; the input reads as it did. -/
def sparseRunsUptoRow : OpenClaim := { program := "ytfpibngdpooedaa", sum := "670ffc799144602d985dcdc536e694ddc4eecf8629121e390fc604baea51235e", func := "spoor/spoorlaw5.SparseRuns", spec := "sparseRuns", apart := false, narrowed := true }
def SparseRunsUptoSaid : Prop := sparseRunsUptoRow.holds Try.pinned (OpenSpec.upto sparseRunsSpec)

/-- 'spoorlaw5.SparsePlays', WHERE WHAT IT READS IS OF BULK AT MOST 1048576: true; the input reads as it did. -/
def sparsePlaysUptoRow : OpenClaim := { program := "ytfpibngdpooedaa", sum := "670ffc799144602d985dcdc536e694ddc4eecf8629121e390fc604baea51235e", func := "spoor/spoorlaw5.SparsePlays", spec := "sparsePlays", apart := false, narrowed := true }
def SparsePlaysUptoSaid : Prop := sparsePlaysUptoRow.holds Try.pinned (OpenSpec.upto sparsePlaysSpec)

/-- 'spoorlaw5.SparseFresh', WHERE WHAT IT READS IS OF BULK AT MOST 1048576: true; the input reads as it did. -/
def sparseFreshUptoRow : OpenClaim := { program := "ytfpibngdpooedaa", sum := "670ffc799144602d985dcdc536e694ddc4eecf8629121e390fc604baea51235e", func := "spoor/spoorlaw5.SparseFresh", spec := "sparseFresh", apart := false, narrowed := true }
def SparseFreshUptoSaid : Prop := sparseFreshUptoRow.holds Try.pinned (OpenSpec.upto sparseFreshSpec)

/-- 'spoorlaw5.SparseOrder', WHERE WHAT IT READS IS OF BULK AT MOST 1048576: true; the input reads as it did. -/
def sparseOrderUptoRow : OpenClaim := { program := "ytfpibngdpooedaa", sum := "670ffc799144602d985dcdc536e694ddc4eecf8629121e390fc604baea51235e", func := "spoor/spoorlaw5.SparseOrder", spec := "sparseOrder", apart := false, narrowed := true }
def SparseOrderUptoSaid : Prop := sparseOrderUptoRow.holds Try.pinned (OpenSpec.upto sparseOrderSpec)

/-- 'spoorlaw8.LineRuns', WHERE WHAT IT READS IS OF BULK AT MOST 1048576: true; the input reads as it did. -/
def lineRunsUptoRow : OpenClaim := { program := "ytfpibngdpooedaa", sum := "670ffc799144602d985dcdc536e694ddc4eecf8629121e390fc604baea51235e", func := "spoor/spoorlaw8.LineRuns", spec := "lineRuns", apart := false, narrowed := true }
def LineRunsUptoSaid : Prop := lineRunsUptoRow.holds Try.pinned (OpenSpec.upto lineRunsSpec)

/-- 'spoorlaw8.LinePlays', WHERE WHAT IT READS IS OF BULK AT MOST 1048576: true; the input reads as it did. -/
def linePlaysUptoRow : OpenClaim := { program := "ytfpibngdpooedaa", sum := "670ffc799144602d985dcdc536e694ddc4eecf8629121e390fc604baea51235e", func := "spoor/spoorlaw8.LinePlays", spec := "linePlays", apart := false, narrowed := true }
def LinePlaysUptoSaid : Prop := linePlaysUptoRow.holds Try.pinned (OpenSpec.upto linePlaysSpec)

/-- 'spoorlaw8.LineResumes', WHERE WHAT IT READS IS OF BULK AT MOST 1048576: true; the input reads as it did. -/
def lineResumesUptoRow : OpenClaim := { program := "ytfpibngdpooedaa", sum := "670ffc799144602d985dcdc536e694ddc4eecf8629121e390fc604baea51235e", func := "spoor/spoorlaw8.LineResumes", spec := "lineResumes", apart := false, narrowed := true }
def LineResumesUptoSaid : Prop := lineResumesUptoRow.holds Try.pinned (OpenSpec.upto lineResumesSpec)

/-- 'spoorlaw8.LineCuts', WHERE WHAT IT READS IS OF BULK AT MOST 1048576: true; the input reads as it did. -/
def lineCutsUptoRow : OpenClaim := { program := "ytfpibngdpooedaa", sum := "670ffc799144602d985dcdc536e694ddc4eecf8629121e390fc604baea51235e", func := "spoor/spoorlaw8.LineCuts", spec := "lineCuts", apart := false, narrowed := true }
def LineCutsUptoSaid : Prop := lineCutsUptoRow.holds Try.pinned (OpenSpec.upto lineCutsSpec)

/-- 'spoorlaw8.LineKinds', WHERE WHAT IT READS IS OF BULK AT MOST 1048576: true; the input reads as it did. -/
def lineKindsUptoRow : OpenClaim := { program := "ytfpibngdpooedaa", sum := "670ffc799144602d985dcdc536e694ddc4eecf8629121e390fc604baea51235e", func := "spoor/spoorlaw8.LineKinds", spec := "lineKinds", apart := false, narrowed := true }
def LineKindsUptoSaid : Prop := lineKindsUptoRow.holds Try.pinned (OpenSpec.upto lineKindsSpec)

end Rows
end Go.Proofs.Ytfpibngdpooedaa

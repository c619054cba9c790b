/- Chapter 4's At out of range at int,int. -/
import Derived.Test.YtjomecimbofnfaaTabII2
namespace Go.Proofs.Ytjomecimbofnfaa
open Go.RowKit
set_option linter.unusedSimpArgs false
set_option linter.unusedVariables false
section
variable {base : Nat} {g : Nat} {lv : Value} {l : List (Int × Int)} {w w' : World}
set_option maxRecDepth 20000 in
set_option maxHeartbeats 400000 in
theorem tAtII_neg (w : World) (i : Int) (hi64 : I64 i) (hs : TBII base w g lv l) (hi : i < 0) :
    Calls Try.prog 50 #[.pointer (some ⟨g, 0, none⟩), .int .i64 i] w fun e w' => e = .returned (.tuple #[iv 0, iv 0, .bool false]) ∧ Upd [] w w' := by
  obtain ⟨ao, co, rfl, hlc, hcm, hcell⟩ := hs.rows.rd rcII_len
  have d0 : w.cell? ⟨g, 0, none⟩ = some (.slice ao l.length co) := hs.tab.cell 0
  clear hs hcell hcm
  go_enter Try.func50, Try.ntmps50
  go_wp2_with fail
  go_quiet (fail)
  go_wp2_with fail
  go_ret3
  exact ⟨rfl, by first | exact Upd.refl [] _ | exact (Upd.refl [] _).alloc _ | exact ((Upd.refl [] _).alloc _).drewN _⟩
set_option maxRecDepth 20000 in
set_option maxHeartbeats 400000 in
theorem tAtII_high (w : World) (i : Int) (hi64 : I64 i) (hs : TBII base w g lv l) (hlen : l.length ≤ 100000) (hi : (l.length : Int) ≤ i) :
    Calls Try.prog 50 #[.pointer (some ⟨g, 0, none⟩), .int .i64 i] w fun e w' => e = .returned (.tuple #[iv 0, iv 0, .bool false]) ∧ Upd [] w w' := by
  obtain ⟨ao, co, rfl, hlc, hcm, hcell⟩ := hs.rows.rd rcII_len
  have d0 : w.cell? ⟨g, 0, none⟩ = some (.slice ao l.length co) := hs.tab.cell 0
  have q1 : (0 : Int) ≤ i := by omega
  clear hs hcell hcm
  go_enter Try.func50, Try.ntmps50
  go_wp2_with fail
  go_quiet (fail)
  go_wp2_with fail
  go_ret3
  exact ⟨rfl, by first | exact Upd.refl [] _ | exact (Upd.refl [] _).alloc _ | exact ((Upd.refl [] _).alloc _).drewN _⟩
end
end Go.Proofs.Ytjomecimbofnfaa

/- Chapter 4's Copy at int,int. -/
import Derived.Test.YtjomecimbofnfaaTabII7
namespace Go.Proofs.Ytjomecimbofnfaa
open Go.RowKit
set_option linter.unusedSimpArgs false
set_option linter.unusedVariables false
section
variable {base : Nat} {g : Nat} {lv : Value} {l : List (Int × Int)} {w w' : World}
set_option maxRecDepth 20000 in
set_option maxHeartbeats 400000 in
theorem tCopyII_any (w : World) (hs : TBII base w g lv l) (hlen : l.length ≤ 100000) :
    Calls Try.prog 60 #[.pointer (some ⟨g, 0, none⟩)] w fun e w' => ∃ g' lv', e = .returned (.pointer (some ⟨g', 0, none⟩)) ∧ TBII w.heap.size w' g' lv' l ∧ Upd [] w w' := by
  have HR := Lib.hid (fun ty => run_appN (P := Try.prog) (ty := ty) (base := w.heap.size) rcII_len (by decide) rcII_one undII infoRowII rfl (.slice none 0 0) lv [] l (OwnN.nil _ _ w) (hs.rows.rd rcII_len) (by simp; omega) (by simp [maxLen]; omega) (Nat.le_refl _))
  obtain ⟨ao, n, co, rfl⟩ := hs.rows.slice_
  have c0 : w.cell? ⟨g, 0, none⟩ = some (.slice ao n co) := hs.tab.cell 0
  clear hs
  go_enter Try.func60, Try.ntmps60
  go_wp2_with (at_builtin; go_must (refine wpList_app_of rfl _ _ rfl (.slice none 0 0) (.slice ao n co) rfl rfl (HR.out _) ?_; rintro v1 w1 ⟨ho1, hu1, hk1⟩; have HO1 := Lib.hid ho1; have HU1 := Lib.hid (show Upd [] w w1 from hu1); have HK1 := Lib.hid hk1; obtain ⟨a1, n1, c1, rfl⟩ := ho1.slice_; clear ho1 hu1 hk1))
  go_ret
  have ho := HO1.out
  have hsz := HU1.out.size
  exact ⟨w1.heap.size, _, rfl, ⟨Blk.new w1 _ [.slice a1 n1 c1], by simpa using ho.upd ((Upd.refl [] w1).alloc _) (by simp), hsz⟩, HU1.out.alloc _⟩
end
end Go.Proofs.Ytjomecimbofnfaa

/- A region that draws its order and whose calls give plain values and turn nothing that was there: one walk in the text's order. -/
import Derived.Test.YtjomecimbofnfaaBase
namespace Go.Proofs.Ytjomecimbofnfaa
open Go.RowKit
set_option linter.unusedSimpArgs false
set_option linter.unusedVariables false

/-- A later world in which what was there is as it was. -/
structure Wx (w : World) where
  val : World
  prop : Upd [] w val
instance (w : World) : Inhabited (Wx w) := ⟨⟨w, Upd.refl [] w⟩⟩
theorem Wx.cell {w : World} {p : Addr} {v : Value} (h : w.cell? p = some v) (x : Wx w) : x.val.cell? p = some v := x.prop.cell h (by simp)
section
variable {P : Program} {w : World} {x : Wx w} {f : FuncId} {args : Array Value} {v : Value}
theorem Wx.upd (h : Calls P f args x.val fun e w' => e = .returned v ∧ Upd [] x.val w') : Calls P f args x.val fun e w'' => e = .returned v ∧ ∃ y : Wx w, w'' = y.val :=
  h.mono fun _ w' ⟨he, hu⟩ => ⟨he, ⟨w', x.prop.seq hu⟩, rfl⟩
theorem Wx.draws (h : Calls P f args x.val fun e w' => e = .returned v ∧ ∃ n, w' = x.val.drewN n) : Calls P f args x.val fun e w'' => e = .returned v ∧ ∃ y : Wx w, w'' = y.val :=
  h.mono fun _ w' ⟨he, n, hw⟩ => ⟨he, ⟨w', by rw [hw]; exact x.prop.drewN n⟩, rfl⟩
theorem Wx.same (h : Calls P f args x.val fun e w' => e = .returned v ∧ x.val = w') : Calls P f args x.val fun e w'' => e = .returned v ∧ ∃ y : Wx w, w'' = y.val :=
  h.mono fun _ w' ⟨he, hw⟩ => ⟨he, x, hw.symm⟩
theorem wp_region_wx {ops : List Oper} {id : Nat} {Q : Exit → Act → World → Prop} {a : Act} (hm : P.follows .mixedOrders = true) (hB : Region.lexB .any ops.toArray = true)
    (h : wpQuiet P ops.toArray (fun w' => ∃ x : Wx w, w' = x.val) (fun a' => ∀ w', (∃ x : Wx w, w' = x.val) → Q .normal a' w') ops a) : (Code.region id ops.toArray true).wp P Q a w :=
  wp_region_quiet (C := fun w' => ∃ x : Wx w, w' = x.val) hm hB ⟨⟨w.drew, (Upd.refl [] w).drew⟩, rfl⟩ (by simpa using h)
end
end Go.Proofs.Ytjomecimbofnfaa

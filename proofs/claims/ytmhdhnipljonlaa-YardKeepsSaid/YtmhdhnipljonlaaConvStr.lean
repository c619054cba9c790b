/- A slice of bytes as a string. -/
import Derived.Test.YtmhdhnipljonlaaBase
namespace Go.Proofs.Ytmhdhnipljonlaa
open Go.RowKit
set_option linter.unusedSimpArgs false
set_option linter.unusedVariables false
def strOf (l : List UInt8) : ByteArray := ⟨l.toArray⟩
theorem convb_str {P : Program} {src dst e : TypeId} (hs : P.underlying src = some (.slice e)) (he : P.underlying e = some (.int .u8)) (hd : P.underlying dst = some .string) (w : World) (v : Value) (l : List UInt8) (h : Bytes w v l) :
    (convert src dst v).run P w = .ok (.string (strOf l)) w := by
  obtain ⟨a, cap, rfl, h1, h2, h3⟩ := h
  by_cases hne : l = []
  · subst hne
    cases a with
    | none => rw [run_convert_bytes_string w src dst e _ _ _ hs he hd]; simp [Conv.bytesToString]; rfl
    | some a => exact run_convert_bytes_back w src dst e a cap [] hs he hd (fun j hj => absurd hj (by simp))
  · obtain ⟨b, off, rfl, hc⟩ := h3 hne
    exact run_convert_bytes_back w src dst e _ cap l hs he hd (fun j hj => by rw [add_none, hc j hj, nth_get l j hj])
end Go.Proofs.Ytmhdhnipljonlaa

/- Names of files: plain. -/
import Derived.Test.YtmhdhnipljonlaaBase
namespace Go.Proofs.Ytmhdhnipljonlaa
open Go.RowKit
/-- A name is 1 to 32 bytes from 33 to 126. -/
def nameOk (s : ByteArray) : Bool := decide (1 ≤ s.size ∧ s.size ≤ 32 ∧ ∀ j (h : j < s.size), 33 ≤ (s[j]).toNat ∧ (s[j]).toNat ≤ 126)
end Go.Proofs.Ytmhdhnipljonlaa

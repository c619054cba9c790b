/- Texts of the proof, joined: The walk of LedgerBytes: a part. -/
import Derived.Test.YtmhojaiajhdlcaaGreatMb16
import Derived.Test.YtmhojaiajhdlcaaGreatMb18
import Derived.Deep.CutBlock
import Derived.Deep.DeepCutAuto
namespace Go.Proofs.YtmhojaiajhdlcaaGreat
open Go.RowKit
set_option linter.unusedSimpArgs false
set_option linter.unusedVariables false
theorem ledgerBytes_any (w : World) (r : Rec) (vb : Value) (B : List UInt8) (hb : Bytes w vb B) (hz : B.length ≤ 140737488351232) :
    Calls Tryz.prog 3 #[recVal r, vb] w fun e w' => e = .returned (.bool true) ∧ Upd [] w w' := by
  obtain ⟨ino, gen, at_, rule, kind, c0, c1, c2, c3, c4, c5, c6, c7, c8, c9, rfl⟩ := rec_mk r
  cases hok : recOk (mkRec ino gen at_ rule kind c0 c1 c2 c3 c4 c5 c6 c7 c8 c9) with
  | true => exact ledBytes_T w ino gen at_ rule kind c0 c1 c2 c3 c4 c5 c6 c7 c8 c9 hok vb B hb hz
  | false => exact ledBytes_F w ino gen at_ rule kind c0 c1 c2 c3 c4 c5 c6 c7 c8 c9 hok vb B hb hz
end Go.Proofs.YtmhojaiajhdlcaaGreat

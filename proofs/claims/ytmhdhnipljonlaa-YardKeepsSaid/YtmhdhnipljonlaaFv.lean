/- A file's value: its name and its bytes' slice. -/
import Derived.Test.YtmhdhnipljonlaaSls
import Derived.Test.YtmhdhnipljonlaaStrPlain
namespace Go.Proofs.Ytmhdhnipljonlaa
abbrev fv (p : ByteArray × Sl) : Value := .agg #[sv p.1, slv p.2]
end Go.Proofs.Ytmhdhnipljonlaa

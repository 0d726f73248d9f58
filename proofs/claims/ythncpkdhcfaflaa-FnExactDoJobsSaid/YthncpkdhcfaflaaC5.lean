/- Contract: the library's count of ones. -/
import Derived.Test.YthncpkdhcfaflaaC4
import Derived.Test.YthncpkdhcfaflaaPop3
set_option linter.unusedVariables false
set_option linter.unusedSimpArgs false
namespace Go.Proofs.Ythncpkdhcfaflaa
open Go Go.RowKit Go.Proofs.Ythncpkdhcfaflaa.Abs
variable {W0 : World} {σ : List Blk}
end Go.Proofs.Ythncpkdhcfaflaa

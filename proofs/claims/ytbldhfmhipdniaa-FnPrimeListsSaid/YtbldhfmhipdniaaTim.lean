/- Contracts of ValidTiming, toTiming. No condition. -/
import Derived.Test.YtbldhfmhipdniaaExt
namespace Go.Proofs.Ytbldhfmhipdniaa
set_option linter.unusedVariables false
set_option linter.unusedSimpArgs false
open Go.RowKit

/-- A timing is valid. -/
def vtim (b d : Int) : Bool := btw b 2 30 && btw d 1 (2 * b)
end Go.Proofs.Ytbldhfmhipdniaa

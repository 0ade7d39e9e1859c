/- The law. -/
import Derived.Test.YtmafcdkdcfaajaaGreatLwL
set_option linter.unusedVariables false
set_option linter.unusedSimpArgs false
namespace Go.Proofs.YtmafcdkdcfaajaaGreat
open Eng
end Go.Proofs.YtmafcdkdcfaajaaGreat

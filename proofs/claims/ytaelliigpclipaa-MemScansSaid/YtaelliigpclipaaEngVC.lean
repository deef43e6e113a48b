/- The reckoner over tries: code and calls. -/
import Derived.Test.YtaelliigpclipaaEngVB
import Derived.Test.YtaelliigpclipaaEngW
namespace Go.Proofs.Ytaelliigpclipaa.Eng
set_option linter.unusedVariables false
set_option linter.unusedSimpArgs false
open Go Go.RowKit
section
variable (P:Program)
end
variable {P:Program}
end Go.Proofs.Ytaelliigpclipaa.Eng

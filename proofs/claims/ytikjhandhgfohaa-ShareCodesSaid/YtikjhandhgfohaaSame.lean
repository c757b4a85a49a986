import Derived.Test.YtikjhandhgfohaaChecked
import Derived.Test.YtikjhandhgfohaaPre
set_option linter.unusedVariables false
set_option linter.unusedSimpArgs false
namespace Go.Proofs.Ytikjhandhgfohaa
open Go.RowKit
end Go.Proofs.Ytikjhandhgfohaa

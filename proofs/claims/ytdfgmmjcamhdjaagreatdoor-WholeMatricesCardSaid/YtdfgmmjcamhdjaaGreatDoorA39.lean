/- Proves Rows.WholeMatricesCardSaid: spoondrifttop.WholeMatrices returns true at every slice of bytes and leaves it as it was. Conditions, as the row bears them: calm, time may pass, Phases as the text lays it (tied), Classical open. -/
import Derived.Test.YtdfgmmjcamhdjaaGreatDoorA34
import Derived.Test.YtdfgmmjcamhdjaaGreatDoorA38
set_option linter.unusedVariables false
set_option linter.unusedSimpArgs false
namespace Go.Proofs.YtdfgmmjcamhdjaaGreatDoor
theorem wholeMatrices_card : Rows.WholeMatricesCardSaid := j_card fun A n c w hc hA h0 => f3_any A n c w (f4_all A n c w hc hA h0)
#print axioms wholeMatrices_card
end Go.Proofs.YtdfgmmjcamhdjaaGreatDoor

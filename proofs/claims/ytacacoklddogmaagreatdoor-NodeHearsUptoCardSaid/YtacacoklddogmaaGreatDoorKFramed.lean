/- Lemmas. -/
import Derived.Test.YtacacoklddogmaaGreatDoorKJAQ
import Derived.Test.YtacacoklddogmaaGreatDoorKPosted
import Derived.Test.YtacacoklddogmaaGreatDoorKJAR
namespace Go.Proofs.YtacacoklddogmaaGreatDoor
set_option maxHeartbeats 4000000
open Go.ChangeShapes Go.WideShapes Go.ChangeAt Go.RowKit
set_option maxRecDepth 100000
end Go.Proofs.YtacacoklddogmaaGreatDoor

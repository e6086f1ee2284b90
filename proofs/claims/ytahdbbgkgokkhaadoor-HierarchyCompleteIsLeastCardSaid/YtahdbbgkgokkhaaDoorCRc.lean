/- What these functions of the program compute, at every world: glosswright/glosswrightref4.Completed. -/
import Derived.Test.YtahdbbgkgokkhaaDoorRcm
import Derived.Test.YtahdbbgkgokkhaaDoorNIeq
import Derived.Test.YtahdbbgkgokkhaaDoorCBit
import Derived.Test.YtahdbbgkgokkhaaDoorName
import Derived.Test.YtahdbbgkgokkhaaDoorCRi
import Derived.Test.YtahdbbgkgokkhaaDoorRcn
import Derived.Test.YtahdbbgkgokkhaaDoorSub
namespace Go.Proofs.YtahdbbgkgokkhaaDoor
open Go.RowKit

theorem fn9_CRc : callable Tryd.prog 9 = true := by kernel_rfl
end Go.Proofs.YtahdbbgkgokkhaaDoor

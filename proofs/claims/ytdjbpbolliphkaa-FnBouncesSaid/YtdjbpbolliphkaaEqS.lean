
/- eqColourS, eqPicture answer true of slices that read alike. -/
import Derived.Test.YtdjbpbolliphkaaMem
import Derived.Test.YtdjbpbolliphkaaEq2
import Derived.Deep.RegionHeld3
namespace Go.Proofs.Ytdjbpbolliphkaa
open Go.RowKit

end Go.Proofs.Ytdjbpbolliphkaa

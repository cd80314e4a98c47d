
/- eqColourS, eqPicture answer true of slices that read alike. -/
import Derived.Test.YtkhlaifjfdecoaaMem
import Derived.Test.YtkhlaifjfdecoaaEq2
import Derived.Deep.RegionHeld3
namespace Go.Proofs.Ytkhlaifjfdecoaa
open Go.RowKit

end Go.Proofs.Ytkhlaifjfdecoaa

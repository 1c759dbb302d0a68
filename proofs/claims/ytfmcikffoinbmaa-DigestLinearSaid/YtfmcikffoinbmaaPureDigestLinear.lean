/- What the row of DigestLinear needs: the law's printed function answers true. -/
import Derived.Test.YtfmcikffoinbmaaDigLinear
import Derived.Test.YtfmcikffoinbmaaQx8
namespace Go.Proofs.Ytfmcikffoinbmaa.Pure
open Go.RowKit Go.Proofs.Ytfmcikffoinbmaa.Q
theorem DigestLinear : imageeditorlaw05_DigestLinear.Pure := fun s t => Go.Proofs.Ytfmcikffoinbmaa.DigLinear.linear s t
end Go.Proofs.Ytfmcikffoinbmaa.Pure

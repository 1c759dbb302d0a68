/- What the row of DigestOpens needs: the law's printed function answers true. -/
import Derived.Test.YtfmcikffoinbmaaDigLaws
import Derived.Test.YtfmcikffoinbmaaQx7
namespace Go.Proofs.Ytfmcikffoinbmaa.Pure
open Go.RowKit Go.Proofs.Ytfmcikffoinbmaa.Q
theorem DigestOpens : imageeditorlaw05_DigestOpens.Pure := Go.Proofs.Ytfmcikffoinbmaa.DigLaws.opens
end Go.Proofs.Ytfmcikffoinbmaa.Pure

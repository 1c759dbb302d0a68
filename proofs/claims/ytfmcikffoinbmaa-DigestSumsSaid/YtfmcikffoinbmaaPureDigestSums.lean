/- What the row of DigestSums needs: the law's printed function answers true. -/
import Derived.Test.YtfmcikffoinbmaaDigLaws
import Derived.Test.YtfmcikffoinbmaaQx6
namespace Go.Proofs.Ytfmcikffoinbmaa.Pure
open Go.RowKit Go.Proofs.Ytfmcikffoinbmaa.Q
theorem DigestSums : imageeditorlaw05_DigestSums.Pure := Go.Proofs.Ytfmcikffoinbmaa.DigLaws.sums
end Go.Proofs.Ytfmcikffoinbmaa.Pure

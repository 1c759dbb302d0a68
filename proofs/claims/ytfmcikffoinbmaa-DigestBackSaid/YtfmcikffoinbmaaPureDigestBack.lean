/- What the row of DigestBack needs: the law's printed function answers true. -/
import Derived.Test.YtfmcikffoinbmaaDigLaws
import Derived.Test.YtfmcikffoinbmaaQx7
namespace Go.Proofs.Ytfmcikffoinbmaa.Pure
open Go.RowKit Go.Proofs.Ytfmcikffoinbmaa.Q
theorem DigestBack : imageeditorlaw05_DigestBack.Pure := Go.Proofs.Ytfmcikffoinbmaa.DigLaws.back
end Go.Proofs.Ytfmcikffoinbmaa.Pure

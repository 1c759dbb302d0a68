/- What the row of DigestFrames needs: the law's printed function answers true. -/
import Derived.Test.YtfmcikffoinbmaaDigLaws
import Derived.Test.YtfmcikffoinbmaaQx6
namespace Go.Proofs.Ytfmcikffoinbmaa.Pure
open Go.RowKit Go.Proofs.Ytfmcikffoinbmaa.Q
theorem DigestFrames : imageeditorlaw05_DigestFrames.Pure := Go.Proofs.Ytfmcikffoinbmaa.DigLaws.frames
end Go.Proofs.Ytfmcikffoinbmaa.Pure

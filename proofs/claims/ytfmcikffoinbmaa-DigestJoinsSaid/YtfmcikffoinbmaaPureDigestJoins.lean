/- What the row of DigestJoins needs: the law's printed function answers true. -/
import Derived.Test.YtfmcikffoinbmaaDigJoins
import Derived.Test.YtfmcikffoinbmaaQx9
namespace Go.Proofs.Ytfmcikffoinbmaa.Pure
open Go.RowKit Go.Proofs.Ytfmcikffoinbmaa.Q
theorem DigestJoins : imageeditorlaw05_DigestJoins.Pure := fun s t c => Go.Proofs.Ytfmcikffoinbmaa.DigJoins.joins s t c
end Go.Proofs.Ytfmcikffoinbmaa.Pure

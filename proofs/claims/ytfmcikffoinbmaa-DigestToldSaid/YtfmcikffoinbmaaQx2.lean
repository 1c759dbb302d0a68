-- WRITTEN BY A PROGRAM of this session: a widened scratch copy of the kit's print (patch_print.py). Nothing here is trusted: Lean checks it.
import Derived.Test.YtfmcikffoinbmaaQx0
import Derived.Test.YtfmcikffoinbmaaCrcWalk
namespace Go.Proofs.Ytfmcikffoinbmaa.Q
open Go.RowKit Go.Proofs.YtfmcikffoinbmaaW.PrintWords Go.Proofs.YtfmcikffoinbmaaW.PrintLast Go.Proofs.YtfmcikffoinbmaaW.PrintMore
attribute [local go_sem] max2_int min2_int max_two min_two max_three min_three max_four min_four   -- for this text's walks alone
set_option linter.unusedVariables false
set_option linter.unusedSimpArgs false

/-! ### digest_Crc: function 11, by hand (the walk: YtfmcikffoinbmaaCrcWalk) -/
def digest_Crc.f (a0 : ByteArray) : Option (Int) := if a0.size ≤ 9223372036854775807 then some ((Go.Proofs.Ytfmcikffoinbmaa.CrcSpec.crc a0 : Nat) : Int) else none
theorem digest_Crc.calls (a0 : ByteArray) (r : Int) (w : World) (h : digest_Crc.f a0 = some r) :
    Calls Try.prog 11 #[.string a0] w fun e w' => e = .returned (.int .u32 r) ∧ Below w.heap.size w w' := by
  unfold digest_Crc.f at h
  split at h
  · rename_i hc
    obtain rfl := Option.some.inj h
    exact Go.Proofs.Ytfmcikffoinbmaa.CrcWalk.crc_calls a0 hc w
  · cases h

end Go.Proofs.Ytfmcikffoinbmaa.Q

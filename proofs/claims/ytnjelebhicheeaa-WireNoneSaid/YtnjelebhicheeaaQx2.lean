-- WRITTEN BY A PROGRAM of this session: a widened scratch copy of the kit's print (patch_print.py). Nothing here is trusted: Lean checks it.
import Derived.Test.YtnjelebhicheeaaQx0
import Derived.Test.YtnjelebhicheeaaWireInts
namespace Go.Proofs.Ytnjelebhicheeaa.Q
open Go.RowKit Go.Proofs.YtnjelebhicheeaaW.PrintWords Go.Proofs.YtnjelebhicheeaaW.PrintLast Go.Proofs.YtnjelebhicheeaaW.PrintMore
attribute [local go_sem] max2_int min2_int max_two min_two max_three min_three max_four min_four   -- for this text's walks alone
set_option linter.unusedVariables false
set_option linter.unusedSimpArgs false

/-! ### wire_Ints: function 15, by hand (the walk: YtnjelebhicheeaaWireInts) -/
def wire_Ints.f (l0 : List Int) : Option (ByteArray) := if l0.length ≤ 17592186044416 ∧ l0.all (fun x => decide (-9223372036854775808 ≤ x) && decide (x ≤ 9223372036854775807)) = true then some (Go.Proofs.Ytnjelebhicheeaa.Spec.encS l0.length ++ Go.Proofs.Ytnjelebhicheeaa.WireEnc.encZ l0) else none
theorem wire_Ints.calls (A0 : Option Addr) (c0 : Nat) (l0 : List Int) (r : ByteArray) (w : World) (hr0 : Kd.C (Kd.int .i64) w A0 l0.length l0) (hc0 : l0.length ≤ c0) (h : wire_Ints.f l0 = some r) :
    Calls Try.prog 15 #[.slice A0 l0.length c0] w fun e w' => e = .returned (.string r) ∧ Below w.heap.size w w' := by
  unfold wire_Ints.f at h
  split at h
  · rename_i hc
    obtain rfl := Option.some.inj h
    refine Go.Proofs.Ytnjelebhicheeaa.WireInts.calls A0 c0 l0 w hr0 hc0 hc.1 fun x hx => ?_
    have := List.all_eq_true.1 hc.2 x hx
    simpa using this
  · cases h

end Go.Proofs.Ytnjelebhicheeaa.Q

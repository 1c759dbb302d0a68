/- Small helps for the statements' rows: the weight of a struct's parts; a slice of numbers as a list. -/
import Derived.Test.YtfmcikffoinbmaaWMore
import Derived.Test.YtfmcikffoinbmaaWSized
import Derived.WalkKit
import Derived.ProofKit
import Derived.OpenShut
import Derived.ShutString
import Derived.ChangeOld
import Derived.Below
import Derived.SizedLaws
import Derived.Lib.SmallJoins
namespace Go.Proofs.Ytfmcikffoinbmaa.RowKit_
open Go.ChangeShapes Go.WideShapes Go.ChangeAt Go.RowKit Go.Joins
open Go.ChangeMaps (open_string shut_string)
open Go.Proofs.YtfmcikffoinbmaaW.PrintWords
set_option linter.unusedVariables false
set_option linter.unusedSimpArgs false

theorem weights_agg {H : Type} {P : Program} {t : TypeId} {fs : Array Field} {parts : List (DataW H)} {ts : List TypeId} {ds : List (DataW H)} (hu : P.underlying t = some (.struct fs))
    (h : (DataW.weightsEach P (t :: ts) (.agg parts :: ds)).all (· ≤ reachBytes) = true) : (DataW.weightsEach P (fs.toList.map (·.type)) parts).all (· ≤ reachBytes) = true ∧ (DataW.weightsEach P ts ds).all (· ≤ reachBytes) = true := by
  simp only [DataW.weightsEach, DataW.weights, hu, List.all_append, Bool.and_eq_true] at h
  exact h
theorem weights_next {H : Type} {P : Program} {t : TypeId} {d : DataW H} {ts : List TypeId} {ds : List (DataW H)}
    (h : (DataW.weightsEach P (t :: ts) (d :: ds)).all (· ≤ reachBytes) = true) : (DataW.weightsEach P ts ds).all (· ≤ reachBytes) = true := by
  simp only [DataW.weightsEach, List.all_append, Bool.and_eq_true] at h
  exact h.2
theorem string_le {H : Type} {P : Program} {ts : List TypeId} {ds : List (DataW H)} {j : Nat} {t : TypeId} {s : ByteArray} (h : (DataW.weightsEach P ts ds).all (· ≤ reachBytes) = true) (ht : ts[j]? = some t) (hd : ds[j]? = some (.lit (.string s.data.toList))) :
    s.size ≤ 140737488351232 := by
  have z := sized_string h ht hd
  rw [Array.length_toList] at z
  exact z

end Go.Proofs.Ytfmcikffoinbmaa.RowKit_

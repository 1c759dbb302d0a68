/- Small helps for the statements' rows: the weight of a struct's parts; a slice of numbers as a list. -/
import Derived.Test.YtnjelebhicheeaaWMore
import Derived.Test.YtnjelebhicheeaaWSized
import Derived.WalkKit
import Derived.ProofKit
import Derived.OpenShut
import Derived.ShutString
import Derived.ChangeOld
import Derived.Below
import Derived.SizedLaws
import Derived.Lib.SmallJoins
namespace Go.Proofs.Ytnjelebhicheeaa.RowKit_
open Go.ChangeShapes Go.WideShapes Go.ChangeAt Go.RowKit Go.Joins
open Go.ChangeMaps (open_string shut_string)
open Go.Proofs.YtnjelebhicheeaaW.PrintWords
set_option linter.unusedVariables false
set_option linter.unusedSimpArgs false

theorem weights_agg {H : Type} {P : Program} {t : TypeId} {fs : Array Field} {parts : List (DataW H)} {ts : List TypeId} {ds : List (DataW H)} (hu : P.underlying t = some (.struct fs))
    (h : (DataW.weightsEach P (t :: ts) (.agg parts :: ds)).all (· ≤ reachBytes) = true) : (DataW.weightsEach P (fs.toList.map (·.type)) parts).all (· ≤ reachBytes) = true ∧ (DataW.weightsEach P ts ds).all (· ≤ reachBytes) = true := by
  simp only [DataW.weightsEach, DataW.weights, hu, List.all_append, Bool.and_eq_true] at h
  exact h
theorem weights_next {H : Type} {P : Program} {t : TypeId} {d : DataW H} {ts : List TypeId} {ds : List (DataW H)}
    (h : (DataW.weightsEach P (t :: ts) (d :: ds)).all (· ≤ reachBytes) = true) : (DataW.weightsEach P ts ds).all (· ≤ reachBytes) = true := by
  simp only [DataW.weightsEach, List.all_append, Bool.and_eq_true] at h
  exact h.2
theorem string_le {H : Type} {P : Program} {ts : List TypeId} {ds : List (DataW H)} {j : Nat} {t : TypeId} {s : ByteArray} (h : (DataW.weightsEach P ts ds).all (· ≤ reachBytes) = true) (ht : ts[j]? = some t) (hd : ds[j]? = some (.lit (.string s.data.toList))) :
    s.size ≤ 140737488351232 := by
  have z := sized_string h ht hd
  rw [Array.length_toList] at z
  exact z

/-- a slice of numbers that came in, as the printed walks read it -/
theorem ints_of {H : Type} {enc : TypeId × Value → H} {P : Program} {W : World} {base : Nat} {spare : Nat → Bool} {held : Bool} {t e : TypeId} {k : IntKind} {fuel : Nat} {v : Value} {y : DataW H × List MemPlace}
    (ht : P.underlying t = some (.slice e)) (he : P.underlying e = some (.int k)) (hc : P.cellsOf e = 1) (h : DataW.trod enc P W base spare held fuel t [v] = some y) :
    ∃ (A : Option Addr) (c : Nat) (l : List Int), v = .slice A l.length c ∧ Kd.C (Kd.int k) W A l.length l ∧ l.length ≤ c ∧ (∀ x ∈ l, (Lit.int k x).wf = true) := by
  have hrow : ∃ (A : Option Addr) (len cap : Nat) (zs : List Int), v = .slice A len cap ∧ ((A = none ∧ len = 0 ∧ cap = 0 ∧ zs = []) ∨ ∃ x, A = some x ∧ len ≤ cap ∧ cap ≤ maxLen ∧ zs.length = cap ∧ (∀ i, i < zs.length → W.cell? (x.add i) = some (.int k (zs.getD i 0))) ∧ ∀ n ∈ zs, (Lit.int k n).wf = true) ∨
      ∃ x, A = some x ∧ v = .slice A len cap ∧ len ≤ cap ∧ cap ≤ maxLen ∧ zs.length = len ∧ (∀ i, i < zs.length → W.cell? (x.add i) = some (.int k (zs.getD i 0))) ∧ ∀ n ∈ zs, (Lit.int k n).wf = true := by
    rcases open_ints ht he hc h with ⟨hcs, _⟩ | ⟨x, l, c, zs, hcs, _, hl, hm, hz, _, hcell, hwz⟩
    · simp at hcs
      exact ⟨none, 0, 0, [], .inl ⟨hcs, .inl ⟨rfl, rfl, rfl, rfl⟩⟩⟩
    · simp at hcs
      by_cases hsp : spare x.block = true
      · rw [if_pos hsp] at hz
        exact ⟨some x, l, c, zs, .inl ⟨hcs, .inr ⟨x, rfl, hl, hm, hz, hcell, hwz⟩⟩⟩
      · rw [if_neg hsp] at hz
        exact ⟨some x, l, c, zs, .inr ⟨x, rfl, hcs, hl, hm, hz, hcell, hwz⟩⟩
  obtain ⟨A, len, cap, zs, h | h⟩ := hrow
  · obtain ⟨rfl, hr⟩ := h
    obtain ⟨l, rfl, hr', _, hw, hc'⟩ := ReadsInt.ofRowC hr
    exact ⟨A, cap, l, rfl, Kd.C_of_reads (d := (0 : Int)) (h1 := fun _ => rfl) hr', hc', hw⟩
  · obtain ⟨x, rfl, rfl, hl, hm, hz, hcell, hw⟩ := h
    subst hz
    have hr' : ReadsInt W k (some x) zs.length zs := ⟨rfl, by simp only [maxLen] at hm; omega, fun _ => ⟨x, rfl, hcell⟩⟩
    exact ⟨some x, cap, zs, rfl, Kd.C_of_reads (d := (0 : Int)) (h1 := fun _ => rfl) hr', hl, hw⟩
end Go.Proofs.Ytnjelebhicheeaa.RowKit_

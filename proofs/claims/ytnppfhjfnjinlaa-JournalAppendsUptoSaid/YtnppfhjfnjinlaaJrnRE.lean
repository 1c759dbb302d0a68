/- The reference's Head and Encode of the journal are the program's; JournalHeads, the plain law. -/
import Derived.Test.YtnppfhjfnjinlaaJrnX
import Derived.Test.YtnppfhjfnjinlaaDigRF
import Derived.Test.YtnppfhjfnjinlaaRefEnc
import Derived.Test.YtnppfhjfnjinlaaQx10
namespace Go.Proofs.Ytnppfhjfnjinlaa.JrnRE
open Go.RowKit Go.Proofs.YtnppfhjfnjinlaaW.PrintWords Go.Proofs.YtnppfhjfnjinlaaW.PrintLast Go.Proofs.YtnppfhjfnjinlaaW.PrintMore Go.Proofs.Ytnppfhjfnjinlaa.Q Go.Proofs.Ytnppfhjfnjinlaa.Spec Go.Proofs.Ytnppfhjfnjinlaa.CrcSpec Go.Proofs.Ytnppfhjfnjinlaa.WireEnc Go.Proofs.Ytnppfhjfnjinlaa.WireDec Go.Proofs.Ytnppfhjfnjinlaa.WireMid Go.Proofs.Ytnppfhjfnjinlaa.DigP Go.Proofs.Ytnppfhjfnjinlaa.DigRF Go.Proofs.Ytnppfhjfnjinlaa.RefEnc Go.Proofs.Ytnppfhjfnjinlaa.JrnP
set_option linter.unusedVariables false
set_option linter.unusedSimpArgs false

theorem u64_id (x : Int) (h0 : 0 ≤ x) (h1 : x ≤ 9223372036854775807) : IntKind.u64.wrap x = ((x.toNat : Nat) : Int) := by rw [wrap_u64]; omega
theorem known_eq (x : Int) : imageeditorref44_known.f x = some (decide (1 ≤ x ∧ x ≤ 6)) := by
  unfold imageeditorref44_known.f
  by_cases h : x ≥ 1
  · rw [if_pos h]
    congr 1
    simp [show 1 ≤ x from h]
  · rw [if_neg h]
    congr 1
    simp [show ¬ 1 ≤ x from h]
theorem rencode_eq (kind seq : Int) (d : ByteArray) (k : Nat) (hb : -9223372036854775808 ≤ kind ∧ kind ≤ 9223372036854775807) (hd : d.size ≤ 4611686018427386000) (hk : 10 * d.size + 700 ≤ k) : imageeditorref44_Encode.f k kind seq d = some (encode kind seq d) := by
  obtain ⟨k, rfl⟩ : ∃ m, k = m + 2 := ⟨k - 2, by omega⟩
  have hgo : 1 ≤ kind ∧ kind ≤ 6 → imageeditorref44_Encode.j0 (k + 2) false kind seq d = some (if 1 ≤ seq ∧ seq ≤ 1073741824 then frame (pay kind seq d) else (ByteArray.empty, 2)) := by
    intro hkind
    simp only [imageeditorref44_Encode.j0, imageeditorref44_Encode.j1]
    rw [if_neg (by simp)]
    by_cases h1 : seq < 1
    · rw [if_pos h1, if_pos trivial, if_neg (by omega)]
      rfl
    · rw [if_neg h1]
      by_cases h2 : seq > 1073741824
      · rw [if_pos (decide_eq_true h2), if_neg (by omega)]
        rfl
      · have z1 := encS_le kind.toNat (by omega)
        have z2 := encS_le seq.toNat (by omega)
        have z3 := encS_le d.size (by omega)
        have zp : (pay kind seq d).size = (encS kind.toNat).size + (encS seq.toNat).size + ((encS d.size).size + d.size) := by unfold pay; simp only [size_app]
        rw [if_neg (by simpa using h2), if_pos (by omega), u64_id kind (by omega) (by omega), u64_id seq (by omega) (by omega), ref_Uint_eq _ _ (by omega) (by omega), Option.bind_some, ref_Uint_eq _ _ (by omega) (by omega), Option.bind_some, if_pos (by omega), ref_Text_eq _ _ (by omega) (by omega), Option.bind_some, if_pos (by simp only [size_app]; omega)]
        show (imageeditorref05_Frame.f k (pay kind seq d)).bind _ = _
        rw [rframe_eq _ _ (by omega) (by omega), Option.bind_some]
  unfold imageeditorref44_Encode.f encode
  by_cases h0 : kind < 0
  · rw [if_pos h0, if_neg (by omega)]
    simp only [imageeditorref44_Encode.j0]
    rw [if_pos trivial]
    rfl
  · rw [if_neg h0, u64_id kind (by omega) hb.2, known_eq, Option.bind_some]
    by_cases hkind : 1 ≤ kind ∧ kind ≤ 6
    · rw [if_pos hkind, decide_eq_true (show 1 ≤ ((kind.toNat : Nat) : Int) ∧ ((kind.toNat : Nat) : Int) ≤ 6 from by omega)]
      exact hgo hkind
    · rw [if_neg hkind, decide_eq_false (show ¬ (1 ≤ ((kind.toNat : Nat) : Int) ∧ ((kind.toNat : Nat) : Int) ≤ 6) from by omega)]
      simp only [imageeditorref44_Encode.j0]
      rw [if_pos (by rfl)]
      rfl

end Go.Proofs.Ytnppfhjfnjinlaa.JrnRE

/- The reference's encoders of numbers and texts answer the encoding of the document. -/
import Derived.Test.YtnppfhjfnjinlaaWireDec
import Derived.Test.YtnppfhjfnjinlaaQx9
namespace Go.Proofs.Ytnppfhjfnjinlaa.RefEnc
open Go.RowKit Go.Proofs.YtnppfhjfnjinlaaW.PrintWords Go.Proofs.YtnppfhjfnjinlaaW.PrintLast Go.Proofs.YtnppfhjfnjinlaaW.PrintMore Go.Proofs.Ytnppfhjfnjinlaa.Q Go.Proofs.Ytnppfhjfnjinlaa.Spec Go.Proofs.Ytnppfhjfnjinlaa.WireEnc Go.Proofs.Ytnppfhjfnjinlaa.WireDec
set_option linter.unusedVariables false
set_option linter.unusedSimpArgs false

theorem one_size (x : Int) : (strOfNums [x]).size = 1 := by rw [strOfNums_size]; rfl
theorem ref_l0 (d : Nat) : ∀ (n k : Nat) (acc : ByteArray), n < 18446744073709551616 → n < 128 ^ (d + 1) → d < k → acc.size + d + 1 ≤ 9223372036854775807 →
    imageeditorref04_Uint.l0 k (n : Int) acc = some (acc ++ encS n) := by
  induction d with
  | zero => ?_
  | succ d ih => ?_
  all_goals
    intro n k acc h64 hn hk ha
    obtain ⟨k, rfl⟩ : ∃ m, k = m + 1 := ⟨k - 1, by omega⟩
    simp only [imageeditorref04_Uint.l0]
    by_cases h : n < 128
    · rw [if_neg (by omega), Option.bind_some, if_pos (by rw [one_size]; omega)]
      unfold encS
      rw [enc_small h, show (n : Int) % 256 = (n : Int) from by omega]
    · first
      | exact absurd hn (by simpa using h)
      | (rw [if_pos (by omega), Option.bind_some, if_pos (by rw [one_size]; omega), or64 n h64, show (n : Int) / 128 = ((n / 128 : Nat) : Int) from by omega]
         rw [ih (n / 128) k _ (by omega) (by rw [Nat.div_lt_iff_lt_mul (by decide)]; rw [Nat.pow_succ] at hn; exact hn) (by omega) (by rw [size_app, one_size]; omega)]
         unfold encS
         rw [enc_big h, app_assoc, ← str_app, List.singleton_append])
theorem ref_Uint_eq (n k : Nat) (h : n < 18446744073709551616) (hk : 10 ≤ k) : imageeditorref04_Uint.f k (n : Int) = some (encS n) := by
  unfold imageeditorref04_Uint.f
  rw [ref_l0 9 n k _ h (by omega) (by omega) (by decide)]
  exact congrArg some (empty_app _)
theorem ref_Text_eq (s : ByteArray) (k : Nat) (h : s.size ≤ 9223372036854775797) (hk : 10 ≤ k) : imageeditorref04_Text.f k s = some (encS s.size ++ s) := by
  unfold imageeditorref04_Text.f
  rw [wrap_u64, show (s.size : Int) % 18446744073709551616 = (s.size : Int) from by omega, ref_Uint_eq _ k (by omega) hk, Option.bind_some, if_pos (by have := encS_le s.size (by omega); omega)]

end Go.Proofs.Ytnppfhjfnjinlaa.RefEnc

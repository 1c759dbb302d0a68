/- Frame of the reference's digest: the same plain function. -/
import Derived.Test.YtnppfhjfnjinlaaDigRO
import Derived.Test.YtnppfhjfnjinlaaDigRefCrc
import Derived.Test.YtnppfhjfnjinlaaQx9
namespace Go.Proofs.Ytnppfhjfnjinlaa.DigRF
open Go.RowKit Go.Proofs.YtnppfhjfnjinlaaW.PrintWords Go.Proofs.YtnppfhjfnjinlaaW.PrintLast Go.Proofs.YtnppfhjfnjinlaaW.PrintMore Go.Proofs.Ytnppfhjfnjinlaa.Q Go.Proofs.Ytnppfhjfnjinlaa.Spec Go.Proofs.Ytnppfhjfnjinlaa.CrcSpec Go.Proofs.Ytnppfhjfnjinlaa.WireEnc Go.Proofs.Ytnppfhjfnjinlaa.WireDec Go.Proofs.Ytnppfhjfnjinlaa.WireMid Go.Proofs.Ytnppfhjfnjinlaa.DigP Go.Proofs.Ytnppfhjfnjinlaa.DigRO
set_option linter.unusedVariables false
set_option linter.unusedSimpArgs false

/-! ### the length -/
theorem len_l0 (d : Nat) : ∀ (n k : Nat) (acc : List Int), n < 128 ^ (d + 1) → n ≤ 9223372036854775807 → d < k → acc.length + d < 140737488355328 →
    imageeditorref05_length.l0 k (n : Int) acc = some (strOfNums (acc ++ enc n)) := by
  have e : ∀ a : Nat, Int.tdiv (a : Int) 128 = ((a / 128 : Nat) : Int) := fun a => td a 128
  have f : ∀ a : Nat, Int.tmod (a : Int) 128 = ((a % 128 : Nat) : Int) := fun a => tm a 128
  induction d with
  | zero =>
    intro n k acc hn hn2 hk ha
    obtain ⟨k, rfl⟩ : ∃ m, k = m + 1 := ⟨k - 1, by omega⟩
    have h : n < 128 := by simpa using hn
    simp only [imageeditorref05_length.l0]
    rw [if_neg (by omega), if_pos (by omega), enc_small h]
    congr 4
    omega
  | succ d ih =>
    intro n k acc hn hn2 hk ha
    obtain ⟨k, rfl⟩ : ∃ m, k = m + 1 := ⟨k - 1, by omega⟩
    simp only [imageeditorref05_length.l0]
    by_cases h : n < 128
    · rw [if_neg (by omega), if_pos (by omega), enc_small h]
      congr 4
      omega
    · rw [if_pos (by omega), if_pos (by omega), e, f, wrap_id _ (by omega) (by omega), wrap_id _ (by omega) (by omega), show (((n % 128 : Nat) : Int) + 128) % 256 = ((n % 128 + 128 : Nat) : Int) from by omega]
      rw [ih (n / 128) k _ (by rw [Nat.div_lt_iff_lt_mul (by decide)]; rw [Nat.pow_succ] at hn; exact hn) (by omega) (by omega) (by rw [List.length_append, List.length_singleton]; omega), enc_big h, List.append_assoc, List.singleton_append]
theorem length_eq (n k : Nat) (h : n ≤ 9223372036854775807) (hk : 10 ≤ k) : imageeditorref05_length.f k (n : Int) = some (encS n) := by
  unfold imageeditorref05_length.f
  rw [len_l0 9 n k [] (by omega) h (by omega) (by simp), List.nil_append]
  rfl

theorem rframe_eq (s : ByteArray) (k : Nat) (hs : s.size ≤ 9223372036854775797) (hk : 10 * s.size + 101 ≤ k) : imageeditorref05_Frame.f k s = some (frame s) := by
  unfold imageeditorref05_Frame.f frame
  by_cases h : 1048576 < s.size
  · rw [if_pos (by omega), if_pos h]
    rfl
  · have hb := body_le s (by omega)
    have hb2 : (encS s.size).size + s.size = (body s).size := by unfold body; rw [size_app]
    rw [if_neg (by omega), if_neg h, length_eq s.size k (by omega) (by omega), Option.bind_some, if_pos (by omega)]
    show (imageeditorref05_Crc.f k (body s)).bind _ = _
    rw [DigRefCrc.crc_eq _ k (by omega) (by omega), Option.bind_some, four_eq _ k (crc_lt _) (by omega), Option.bind_some]
    rw [if_pos (by rw [le4_size]; show (body s).size + 4 ≤ _; omega)]
    rfl

end Go.Proofs.Ytnppfhjfnjinlaa.DigRF

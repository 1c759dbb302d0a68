/- The reference's CRC, as the printed function has it, is the document's. -/
import Derived.Test.YtfmcikffoinbmaaCrcWalk
import Derived.Test.YtfmcikffoinbmaaQx6
namespace Go.Proofs.Ytfmcikffoinbmaa.DigRefCrc
open Go.RowKit Go.Proofs.YtfmcikffoinbmaaW.PrintWords Go.Proofs.YtfmcikffoinbmaaW.PrintLast Go.Proofs.YtfmcikffoinbmaaW.PrintMore Go.Proofs.Ytfmcikffoinbmaa.Q Go.Proofs.Ytfmcikffoinbmaa.Spec Go.Proofs.Ytfmcikffoinbmaa.CrcSpec Go.Proofs.Ytfmcikffoinbmaa.CrcWalk
set_option linter.unusedVariables false
set_option linter.unusedSimpArgs false

theorem wrap_id (x : Int) (h1 : -9223372036854775808 ≤ x) (h2 : x ≤ 9223372036854775807) : wrap64 x = x := by unfold wrap64; omega
theorem l1 (s : ByteArray) (i : Nat) (hi : i < 9223372036854775807) : ∀ (d c k : Nat), d ≤ 8 → c < 4294967296 →
    imageeditorref05_Crc.l1 (k + d + 1) s (c : Int) (i : Int) ((8 - d : Nat) : Int) = imageeditorref05_Crc.l0 k s ((stepsC d c : Nat) : Int) ((i + 1 : Nat) : Int) := by
  intro d
  induction d with
  | zero =>
    intro c k _ hc
    rw [Nat.add_zero]
    simp only [imageeditorref05_Crc.l1]
    rw [if_neg (by omega), wrap_id _ (by omega) (by omega)]
    rfl
  | succ d ih =>
    intro c k hd hc
    rw [show k + (d + 1) + 1 = (k + d + 1) + 1 from by omega]
    have ihk := fun c => ih c k
    generalize k + d + 1 = n at ihk ⊢
    simp only [imageeditorref05_Crc.l1]
    rw [if_pos (by omega), bit_and c hc, wrap_id _ (by omega) (by omega)]
    have hn : ((8 - (d + 1) : Nat) : Int) + 1 = ((8 - d : Nat) : Int) := by omega
    rw [hn]
    by_cases h1 : c % 2 = 1
    · rw [if_pos (by omega), bit_yes c hc h1, ihk (stepC c) (by omega) (stepC_lt hc)]
      rfl
    · rw [if_neg (by omega), bit_no c h1, ihk (stepC c) (by omega) (stepC_lt hc)]
      rfl
theorem l0 (s : ByteArray) (hs : s.size < 9223372036854775807) : ∀ (d i k : Nat), i + d = s.size → 10 * d + 1 ≤ k →
    imageeditorref05_Crc.l0 k s ((crcReg s i : Nat) : Int) (i : Int) = some ((crc s : Nat) : Int) := by
  intro d
  induction d with
  | zero =>
    intro i k hi hk
    obtain ⟨k, rfl⟩ : ∃ m, k = m + 1 := ⟨k - 1, by omega⟩
    simp only [imageeditorref05_Crc.l0]
    obtain rfl : i = s.size := by omega
    rw [if_neg (by omega), inv_eq _ (crcReg_lt s _)]
    rfl
  | succ d ih =>
    intro i k hi hk
    obtain ⟨k, rfl⟩ : ∃ m, k = (m + 8 + 1) + 1 := ⟨k - 10, by omega⟩
    simp only [imageeditorref05_Crc.l0]
    rw [if_pos (by omega), if_pos (by omega), bt_nb]
    have hb := nb_le s i
    have hx : bits .xor .u32 ((crcReg s i : Nat) : Int) (((nb s i : Nat) : Int) % 4294967296) = ((crcReg s i ^^^ nb s i : Nat) : Int) := by
      have hc := crcReg_lt s i
      rw [show ((nb s i : Nat) : Int) % 4294967296 = ((nb s i : Nat) : Int) from by omega, u32_xor _ _ (by omega) (by omega) (by omega) (by omega), Int.toNat_natCast, Int.toNat_natCast]
    rw [hx]
    have h := l1 s i (by omega) 8 (crcReg s i ^^^ nb s i) k (by omega) (xor_lt32 (crcReg_lt s i) (by omega))
    rw [show ((8 - 8 : Nat) : Int) = 0 from rfl] at h
    rw [h]
    exact ih (i + 1) k (by omega) (by omega)
theorem crc_eq (s : ByteArray) (k : Nat) (hs : s.size < 9223372036854775807) (hk : 10 * s.size + 1 ≤ k) : imageeditorref05_Crc.f k s = some ((crc s : Nat) : Int) := by
  unfold imageeditorref05_Crc.f
  exact l0 s hs s.size 0 k (by omega) hk

end Go.Proofs.Ytfmcikffoinbmaa.DigRefCrc

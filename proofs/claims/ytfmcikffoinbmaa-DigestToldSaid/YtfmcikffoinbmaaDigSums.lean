/- Adler and Fnv, as the printed functions have them: the program's and the reference's are the same plain functions. -/
import Derived.Test.YtfmcikffoinbmaaDigRefCrc
import Derived.Test.YtfmcikffoinbmaaQx3
import Derived.Test.YtfmcikffoinbmaaQx6
namespace Go.Proofs.Ytfmcikffoinbmaa.DigSums
open Go.RowKit Go.Proofs.YtfmcikffoinbmaaW.PrintWords Go.Proofs.YtfmcikffoinbmaaW.PrintLast Go.Proofs.YtfmcikffoinbmaaW.PrintMore Go.Proofs.Ytfmcikffoinbmaa.Q Go.Proofs.Ytfmcikffoinbmaa.Spec Go.Proofs.Ytfmcikffoinbmaa.CrcSpec Go.Proofs.Ytfmcikffoinbmaa.CrcWalk Go.Proofs.Ytfmcikffoinbmaa.DigRefCrc
set_option linter.unusedVariables false
set_option linter.unusedSimpArgs false

/-! ### Adler -/
def adA (s : ByteArray) : Nat → Nat
  | 0 => 1
  | i + 1 => (adA s i + nb s i) % 65521
def adB (s : ByteArray) : Nat → Nat
  | 0 => 0
  | i + 1 => (adB s i + adA s (i + 1)) % 65521
def adler (s : ByteArray) : Nat := adB s s.size * 65536 + adA s s.size
theorem adA_lt (s : ByteArray) : ∀ i, adA s i < 65521
  | 0 => by show 1 < 65521; omega
  | i + 1 => Nat.mod_lt _ (by omega)
theorem adB_lt (s : ByteArray) : ∀ i, adB s i < 65521
  | 0 => by show 0 < 65521; omega
  | i + 1 => Nat.mod_lt _ (by omega)
theorem stepA (s : ByteArray) (i : Nat) : (((adA s i : Nat) : Int) + (((nb s i : Nat) : Int) % 4294967296)) % 4294967296 % 65521 = ((adA s (i + 1) : Nat) : Int) := by
  have h1 := adA_lt s i
  have h2 := nb_le s i
  show _ = (((adA s i + nb s i) % 65521 : Nat) : Int)
  omega
theorem stepB (s : ByteArray) (i : Nat) : (((adB s i : Nat) : Int) + ((adA s (i + 1) : Nat) : Int)) % 4294967296 % 65521 = ((adB s (i + 1) : Nat) : Int) := by
  have h1 := adA_lt s (i + 1)
  have h2 := adB_lt s i
  show _ = (((adB s i + adA s (i + 1)) % 65521 : Nat) : Int)
  omega
theorem join16 (a b : Nat) (ha : a < 65521) (hb : b < 65521) : bits .or .u32 ((((b : Nat) : Int) * 65536) % 4294967296) (a : Int) = ((b * 65536 + a : Nat) : Int) := by
  rw [show (((b : Nat) : Int) * 65536) % 4294967296 = ((b * 65536 : Nat) : Int) from by omega, u32_or _ _ (by omega) (by omega) (by omega) (by omega), Int.toNat_natCast, Int.toNat_natCast, nat_join 16 (b * 65536) a (by omega) (by omega)]
theorem ad_l0 (s : ByteArray) (hs : s.size < 9223372036854775807) : ∀ (d i k : Nat), i + d = s.size → d < k →
    digest_Adler.l0 k s ((adA s i : Nat) : Int) ((adB s i : Nat) : Int) (s.size : Int) (i : Int) = some ((adler s : Nat) : Int) := by
  intro d
  induction d with
  | zero =>
    intro i k hi hk
    obtain ⟨k, rfl⟩ : ∃ m, k = m + 1 := ⟨k - 1, by omega⟩
    simp only [digest_Adler.l0]
    obtain rfl : i = s.size := by omega
    rw [if_neg (by omega), join16 _ _ (adA_lt s _) (adB_lt s _)]
    rfl
  | succ d ih =>
    intro i k hi hk
    obtain ⟨k, rfl⟩ : ∃ m, k = m + 1 := ⟨k - 1, by omega⟩
    simp only [digest_Adler.l0]
    rw [if_pos (by omega), if_pos (by omega), if_pos (by omega), bt_nb, stepA, stepB, wrap_id _ (by omega) (by omega)]
    exact ih (i + 1) k (by omega) (by omega)
theorem adler_eq (s : ByteArray) (k : Nat) (hs : s.size < 9223372036854775807) (hk : s.size < k) : digest_Adler.f k s = some ((adler s : Nat) : Int) := by
  unfold digest_Adler.f
  exact ad_l0 s hs s.size 0 k (by omega) hk
theorem rad_l0 (s : ByteArray) (hs : s.size < 9223372036854775807) : ∀ (d i k : Nat), i + d = s.size → d < k →
    imageeditorref05_Adler.l0 k s ((adA s i : Nat) : Int) ((adB s i : Nat) : Int) (i : Int) = some ((adler s : Nat) : Int) := by
  intro d
  induction d with
  | zero =>
    intro i k hi hk
    obtain ⟨k, rfl⟩ : ∃ m, k = m + 1 := ⟨k - 1, by omega⟩
    simp only [imageeditorref05_Adler.l0]
    obtain rfl : i = s.size := by omega
    have h1 := adA_lt s s.size
    have h2 := adB_lt s s.size
    rw [if_neg (by omega)]
    congr 1
    unfold adler
    omega
  | succ d ih =>
    intro i k hi hk
    obtain ⟨k, rfl⟩ : ∃ m, k = m + 1 := ⟨k - 1, by omega⟩
    simp only [imageeditorref05_Adler.l0]
    rw [if_pos (by omega), if_pos (by omega), bt_nb, stepA, stepB, wrap_id _ (by omega) (by omega)]
    exact ih (i + 1) k (by omega) (by omega)
theorem radler_eq (s : ByteArray) (k : Nat) (hs : s.size < 9223372036854775807) (hk : s.size < k) : imageeditorref05_Adler.f k s = some ((adler s : Nat) : Int) := by
  unfold imageeditorref05_Adler.f
  exact rad_l0 s hs s.size 0 k (by omega) hk

/-! ### Fnv -/
def fnvS (h b : Nat) : Nat := (h ^^^ b) * 1099511628211 % 18446744073709551616
def fnvR (s : ByteArray) : Nat → Nat
  | 0 => 14695981039346656037
  | i + 1 => fnvS (fnvR s i) (nb s i)
def fnv (s : ByteArray) : Nat := fnvR s s.size
theorem fnvR_lt (s : ByteArray) : ∀ i, fnvR s i < 18446744073709551616
  | 0 => by show 14695981039346656037 < _; omega
  | i + 1 => Nat.mod_lt _ (by omega)
theorem stepF (h b : Nat) (hh : h < 18446744073709551616) (hb : b ≤ 255) : IntKind.u64.wrap ((bits .xor .u64 ((h : Nat) : Int) (IntKind.u64.wrap ((b : Nat) : Int))) * 1099511628211) = ((fnvS h b : Nat) : Int) := by
  rw [IntKind.wrap_u64, IntKind.wrap_u64, show ((b : Nat) : Int) % 18446744073709551616 = ((b : Nat) : Int) from by omega, u64_xor _ _ (by omega) (by omega) (by omega) (by omega), Int.toNat_natCast, Int.toNat_natCast]
  unfold fnvS
  omega
theorem fn_l0 (s : ByteArray) (hs : s.size < 9223372036854775807) : ∀ (d i k : Nat), i + d = s.size → d < k →
    digest_Fnv.l0 k s ((fnvR s i : Nat) : Int) (s.size : Int) (i : Int) = some ((fnv s : Nat) : Int) := by
  intro d
  induction d with
  | zero =>
    intro i k hi hk
    obtain ⟨k, rfl⟩ : ∃ m, k = m + 1 := ⟨k - 1, by omega⟩
    simp only [digest_Fnv.l0]
    obtain rfl : i = s.size := by omega
    rw [if_neg (by omega)]
    rfl
  | succ d ih =>
    intro i k hi hk
    obtain ⟨k, rfl⟩ : ∃ m, k = m + 1 := ⟨k - 1, by omega⟩
    simp only [digest_Fnv.l0]
    rw [if_pos (by omega), if_pos (by omega), if_pos (by omega), bt_nb, stepF _ _ (fnvR_lt s i) (nb_le s i), wrap_id _ (by omega) (by omega)]
    exact ih (i + 1) k (by omega) (by omega)
theorem fnv_eq (s : ByteArray) (k : Nat) (hs : s.size < 9223372036854775807) (hk : s.size < k) : digest_Fnv.f k s = some ((fnv s : Nat) : Int) := by
  unfold digest_Fnv.f
  exact fn_l0 s hs s.size 0 k (by omega) hk
theorem rfn_l0 (s : ByteArray) (hs : s.size < 9223372036854775807) : ∀ (d i k : Nat), i + d = s.size → d < k →
    imageeditorref05_Fnv.l0 k s ((fnvR s i : Nat) : Int) (i : Int) = some ((fnv s : Nat) : Int) := by
  intro d
  induction d with
  | zero =>
    intro i k hi hk
    obtain ⟨k, rfl⟩ : ∃ m, k = m + 1 := ⟨k - 1, by omega⟩
    simp only [imageeditorref05_Fnv.l0]
    obtain rfl : i = s.size := by omega
    rw [if_neg (by omega)]
    rfl
  | succ d ih =>
    intro i k hi hk
    obtain ⟨k, rfl⟩ : ∃ m, k = m + 1 := ⟨k - 1, by omega⟩
    simp only [imageeditorref05_Fnv.l0]
    rw [if_pos (by omega), if_pos (by omega), bt_nb, stepF _ _ (fnvR_lt s i) (nb_le s i), wrap_id _ (by omega) (by omega)]
    exact ih (i + 1) k (by omega) (by omega)
theorem rfnv_eq (s : ByteArray) (k : Nat) (hs : s.size < 9223372036854775807) (hk : s.size < k) : imageeditorref05_Fnv.f k s = some ((fnv s : Nat) : Int) := by
  unfold imageeditorref05_Fnv.f
  exact rfn_l0 s hs s.size 0 k (by omega) hk

end Go.Proofs.Ytfmcikffoinbmaa.DigSums

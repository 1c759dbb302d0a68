/- The CRC of the document, bit by bit, as plain mathematics; its table; that it is linear and that a byte's change is never lost. -/
import Derived.Test.YtfmcikffoinbmaaSpec
namespace Go.Proofs.Ytfmcikffoinbmaa.CrcSpec
open Go.RowKit Go.Proofs.YtfmcikffoinbmaaW.PrintWords Go.Proofs.YtfmcikffoinbmaaW.PrintMore Go.Proofs.Ytfmcikffoinbmaa.Spec
set_option linter.unusedVariables false
set_option linter.unusedSimpArgs false

/-- one bit -/
def stepC (c : Nat) : Nat := if c % 2 = 1 then c / 2 ^^^ 3988292384 else c / 2
/-- so many bits -/
def stepsC : Nat → Nat → Nat
  | 0, c => c
  | k + 1, c => stepsC k (stepC c)
/-- the register behind the first i bytes -/
def crcReg (s : ByteArray) : Nat → Nat
  | 0 => 4294967295
  | i + 1 => stepsC 8 (crcReg s i ^^^ nb s i)
def crc (s : ByteArray) : Nat := 4294967295 ^^^ crcReg s s.size

theorem xor_lt32 {a b : Nat} (ha : a < 4294967296) (hb : b < 4294967296) : a ^^^ b < 4294967296 := Nat.xor_lt_two_pow (n := 32) ha hb
theorem stepC_lt {c : Nat} (h : c < 4294967296) : stepC c < 4294967296 := by
  unfold stepC
  split
  · exact xor_lt32 (by omega) (by omega)
  · omega
theorem stepsC_lt : ∀ (k : Nat) {c : Nat}, c < 4294967296 → stepsC k c < 4294967296
  | 0, _, h => h
  | k + 1, _, h => stepsC_lt k (stepC_lt h)
theorem crcReg_lt (s : ByteArray) : ∀ i, crcReg s i < 4294967296
  | 0 => by show 4294967295 < _; omega
  | i + 1 => stepsC_lt 8 (xor_lt32 (crcReg_lt s i) (by have := nb_le s i; omega))
theorem crc_lt (s : ByteArray) : crc s < 4294967296 := xor_lt32 (by omega) (crcReg_lt s _)

/-! ### linear -/
theorem stepC_xor (a b : Nat) : stepC (a ^^^ b) = stepC a ^^^ stepC b := by
  have h1 : (a ^^^ b) / 2 = a / 2 ^^^ b / 2 := Nat.xor_div_two
  have h2 : (a ^^^ b) % 2 = 1 ↔ ¬ ((a % 2 = 1) ↔ (b % 2 = 1)) := Nat.xor_mod_two_eq_one
  unfold stepC
  rw [h1]
  by_cases ha : a % 2 = 1 <;> by_cases hb : b % 2 = 1
  · rw [if_neg (by rw [h2]; simp [ha, hb]), if_pos ha, if_pos hb, Nat.xor_assoc, Nat.xor_comm 3988292384, Nat.xor_assoc, Nat.xor_self, Nat.xor_zero]
  · rw [if_pos (by rw [h2]; simp [ha, hb]), if_pos ha, if_neg hb, Nat.xor_assoc, Nat.xor_assoc, Nat.xor_comm 3988292384]
  · rw [if_pos (by rw [h2]; simp [ha, hb]), if_neg ha, if_pos hb, Nat.xor_assoc]
  · rw [if_neg (by rw [h2]; simp [ha, hb]), if_neg ha, if_neg hb]
theorem stepsC_xor : ∀ (k a b : Nat), stepsC k (a ^^^ b) = stepsC k a ^^^ stepsC k b
  | 0, _, _ => rfl
  | k + 1, a, b => by
    show stepsC k (stepC (a ^^^ b)) = stepsC k (stepC a) ^^^ stepsC k (stepC b)
    rw [stepC_xor, stepsC_xor k]
theorem stepsC_shift : ∀ (k c : Nat), stepsC k (c * 2 ^ k) = c
  | 0, c => by show c * 1 = c; omega
  | k + 1, c => by
    show stepsC k (stepC (c * 2 ^ (k + 1))) = c
    have h : stepC (c * 2 ^ (k + 1)) = c * 2 ^ k := by
      rw [Nat.pow_succ, ← Nat.mul_assoc]
      unfold stepC
      rw [if_neg (by omega)]
      omega
    rw [h, stepsC_shift k c]
theorem split8 (x : Nat) : x = x % 256 ^^^ x / 256 * 256 := by
  apply Nat.eq_of_testBit_eq
  intro j
  rw [Nat.testBit_xor, show (256 : Nat) = 2 ^ 8 from rfl, Nat.testBit_mod_two_pow, Nat.testBit_mul_two_pow, Nat.testBit_div_two_pow]
  by_cases h : j < 8
  · have h' : ¬ 8 ≤ j := by omega
    simp [h, h']
  · have h' : 8 ≤ j := by omega
    simp [h, h', Nat.sub_add_cancel h']
/-- the table's entry -/
def tb (i : Nat) : Nat := stepsC 8 i
theorem tb_lt {i : Nat} (h : i < 256) : tb i < 4294967296 := stepsC_lt 8 (by omega)
/-- the table's step is the bitwise one -/
theorem table_step (x : Nat) : stepsC 8 x = tb (x % 256) ^^^ x / 256 := by
  conv => lhs; rw [split8 x]
  rw [stepsC_xor]
  congr 1
  exact stepsC_shift 8 (x / 256)
theorem div_xor (c b : Nat) (hb : b < 256) : (c ^^^ b) / 256 = c / 256 := by
  have h := Nat.xor_div_two_pow (a := c) (b := b) (n := 8)
  rw [show (256 : Nat) = 2 ^ 8 from rfl, h, show b / 2 ^ 8 = 0 from Nat.div_eq_of_lt hb, Nat.xor_zero]
theorem mod_xor (c b : Nat) (hb : b < 256) : (c ^^^ b) % 256 = c % 256 ^^^ b := by
  have h := Nat.xor_mod_two_pow (a := c) (b := b) (n := 8)
  rw [show (256 : Nat) = 2 ^ 8 from rfl, h, show b % 2 ^ 8 = b from Nat.mod_eq_of_lt hb]
theorem crc_step (c b : Nat) (hb : b < 256) : stepsC 8 (c ^^^ b) = tb (c % 256 ^^^ b) ^^^ c / 256 := by
  rw [table_step, mod_xor c b hb, div_xor c b hb]

end Go.Proofs.Ytfmcikffoinbmaa.CrcSpec

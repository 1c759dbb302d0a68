/- The printed functions of the encoders answer the encoding of the document: wire.Uint, Int, Text and the reference's. -/
import Derived.Test.YtnjelebhicheeaaSpec
import Derived.Test.YtnjelebhicheeaaQx1
import Derived.Laws.BitsAllLaws
namespace Go.Proofs.Ytnjelebhicheeaa.WireEnc
open Go.RowKit Go.Proofs.YtnjelebhicheeaaW.PrintWords Go.Proofs.YtnjelebhicheeaaW.PrintLast Go.Proofs.YtnjelebhicheeaaW.PrintMore Go.Proofs.Ytnjelebhicheeaa.Q Go.Proofs.Ytnjelebhicheeaa.Spec
set_option linter.unusedVariables false
set_option linter.unusedSimpArgs false

theorem or128 : ∀ x : Nat, x < 256 → x ||| 128 = x % 128 + 128 := by decide +kernel
theorem or8 (n : Nat) : bits .or .u8 ((n : Int) % 256) 128 = ((n % 128 + 128 : Nat) : Int) := by
  rw [u8_or _ _ (by omega) (by omega) (by omega) (by omega)]
  have e : ((n : Int) % 256).toNat = n % 256 := by omega
  rw [e, show (128 : Int).toNat = 128 from rfl, or128 _ (by omega)]
  omega
theorem mask7 (n : Nat) (h : n < 18446744073709551616) : bits .and .u64 (n : Int) 127 = ((n % 128 : Nat) : Int) := by
  rw [u64_and _ _ (by omega) (by omega) (by omega) (by omega), Int.toNat_natCast, show (127 : Int).toNat = 127 from rfl, nat_mask7]
theorem or64 (n : Nat) (h : n < 18446744073709551616) : bits .or .u64 (bits .and .u64 (n : Int) 127) 128 % 256 = ((n % 128 + 128 : Nat) : Int) := by
  rw [mask7 n h, u64_or _ _ (by omega) (by omega) (by omega) (by omega), Int.toNat_natCast, show (128 : Int).toNat = 128 from rfl, or128 _ (by omega)]
  omega
theorem wrap_u64 (n : Int) : IntKind.u64.wrap n = n % 18446744073709551616 := IntKind.wrap_u64 n

theorem wire_l0 (d : Nat) : ∀ (n k : Nat) (acc : List Int), n < 128 ^ (d + 1) → d < k → acc.length + d < 140737488355328 →
    wire_Uint.l0 k (n : Int) acc = some (strOfNums (acc ++ enc n)) := by
  induction d with
  | zero =>
    intro n k acc hn hk ha
    obtain ⟨k, rfl⟩ : ∃ m, k = m + 1 := ⟨k - 1, by omega⟩
    have h : n < 128 := by simpa using hn
    simp only [wire_Uint.l0]
    rw [if_neg (by omega), if_pos (by omega), enc_small h]
    congr 4
    omega
  | succ d ih =>
    intro n k acc hn hk ha
    obtain ⟨k, rfl⟩ : ∃ m, k = m + 1 := ⟨k - 1, by omega⟩
    simp only [wire_Uint.l0]
    by_cases h : n < 128
    · rw [if_neg (by omega), if_pos (by omega), enc_small h]
      congr 4
      omega
    · rw [if_pos (by omega), if_pos (by omega), or8, show (n : Int) / 128 = ((n / 128 : Nat) : Int) from by omega]
      rw [ih (n / 128) k _ (by rw [Nat.div_lt_iff_lt_mul (by decide)]; rw [Nat.pow_succ] at hn; exact hn) (by omega) (by rw [List.length_append, List.length_singleton]; omega), enc_big h, List.append_assoc, List.singleton_append]
theorem wire_Uint_eq (n k : Nat) (h : n < 18446744073709551616) (hk : 10 ≤ k) : wire_Uint.f k (n : Int) = some (encS n) := by
  unfold wire_Uint.f
  rw [wire_l0 9 n k [] (by omega) (by omega) (by simp), List.nil_append]
  rfl

theorem xor_all (y : Nat) (h : y < 18446744073709551616) : (18446744073709551615 ^^^ y : Nat) = 18446744073709551615 - y := by
  have h1 : (~~~ (BitVec.ofNat 64 y)).toNat = 2 ^ 64 - 1 - (BitVec.ofNat 64 y).toNat := BitVec.toNat_not
  rw [BitVec.not_def, BitVec.toNat_xor, BitVec.toNat_allOnes, BitVec.toNat_ofNat, Nat.mod_eq_of_lt (by omega)] at h1
  omega
theorem zig_neg (n : Int) (h1 : -9223372036854775808 ≤ n) (h : n < 0) : bits .xor .u64 18446744073709551615 (IntKind.u64.wrap (IntKind.u64.wrap n * 2)) = ((zig n : Nat) : Int) := by
  rw [wrap_u64, wrap_u64]
  have e : n % 18446744073709551616 * 2 % 18446744073709551616 = ((2 * n + 18446744073709551616).toNat : Int) := by omega
  rw [e, u64_xor _ _ (by omega) (by omega) (by omega) (by omega), Int.toNat_natCast, show (18446744073709551615 : Int).toNat = 18446744073709551615 from rfl, xor_all _ (by omega)]
  unfold zig
  rw [if_neg (by omega)]
  omega
theorem zig_pos (n : Int) (h1 : n ≤ 9223372036854775807) (h : 0 ≤ n) : IntKind.u64.wrap (IntKind.u64.wrap n * 2) = ((zig n : Nat) : Int) := by
  rw [wrap_u64, wrap_u64]
  unfold zig
  rw [if_pos h]
  omega
theorem wire_Int_eq (n : Int) (k : Nat) (h1 : -9223372036854775808 ≤ n) (h2 : n ≤ 9223372036854775807) (hk : 10 ≤ k) : wire_Int.f k n = some (encS (zig n)) := by
  unfold wire_Int.f
  by_cases h : n < 0
  · rw [if_pos h, zig_neg n h1 h, wire_Uint_eq _ k (zig_lt n h1 h2) hk]
    rfl
  · rw [if_neg h, zig_pos n h2 (by omega), wire_Uint_eq _ k (zig_lt n h1 h2) hk]
    rfl
theorem encS_le (n : Nat) (h : n < 18446744073709551616) : (encS n).size ≤ 10 := by rw [encS_size]; exact enc_len64 n h
theorem wire_Text_eq (s : ByteArray) (k : Nat) (h : s.size ≤ 9223372036854775797) (hk : 10 ≤ k) : wire_Text.f k s = some (encS s.size ++ s) := by
  unfold wire_Text.f
  rw [wrap_u64, show (s.size : Int) % 18446744073709551616 = (s.size : Int) from by omega, wire_Uint_eq _ k (by omega) hk, Option.bind_some, if_pos (by have := encS_le s.size (by omega); omega)]

/-- a list of numbers, one behind the other -/
def encZ : List Int → ByteArray
  | [] => ByteArray.empty
  | n :: l => encS (zig n) ++ encZ l
theorem empty_app (s : ByteArray) : ByteArray.empty ++ s = s := ByteArray.empty_append
theorem app_empty (s : ByteArray) : s ++ ByteArray.empty = s := ByteArray.append_empty
theorem app_assoc (a b c : ByteArray) : a ++ b ++ c = a ++ (b ++ c) := ByteArray.append_assoc
def Fits (l : List Int) : Prop := ∀ x ∈ l, -9223372036854775808 ≤ x ∧ x ≤ 9223372036854775807
theorem encZ_le (l : List Int) (h : Fits l) : (encZ l).size ≤ 10 * l.length := by
  induction l with
  | nil => simp [encZ]
  | cons n l ih =>
    have h1 := h n (List.mem_cons_self ..)
    have := ih (fun x hx => h x (List.mem_cons_of_mem _ hx))
    have := encS_le (zig n) (zig_lt n h1.1 h1.2)
    rw [encZ, size_app, List.length_cons]
    omega
theorem encZ_app (a b : List Int) : encZ (a ++ b) = encZ a ++ encZ b := by
  induction a with
  | nil => simp [encZ, empty_app]
  | cons n a ih => rw [List.cons_append, encZ, encZ, ih, app_assoc]
end Go.Proofs.Ytnjelebhicheeaa.WireEnc

/- WireWrites, the plain law: the program's encoders and the reference's answer the same bytes. -/
import Derived.Test.YtnjelebhicheeaaWireEx
import Derived.Test.YtnjelebhicheeaaWireInts
import Derived.Test.YtnjelebhicheeaaQx5
namespace Go.Proofs.Ytnjelebhicheeaa.WireWrites
open Go.RowKit Go.Proofs.YtnjelebhicheeaaW.PrintWords Go.Proofs.YtnjelebhicheeaaW.PrintLast Go.Proofs.YtnjelebhicheeaaW.PrintMore Go.Proofs.Ytnjelebhicheeaa.Q Go.Proofs.Ytnjelebhicheeaa.Spec Go.Proofs.Ytnjelebhicheeaa.WireEnc Go.Proofs.Ytnjelebhicheeaa.WireDec Go.Proofs.Ytnjelebhicheeaa.WireEx
set_option linter.unusedVariables false
set_option linter.unusedSimpArgs false

theorem one_size (x : Int) : (strOfNums [x]).size = 1 := by rw [strOfNums_size]; rfl
theorem ref_l0 (d : Nat) : ∀ (n k : Nat) (acc : ByteArray), n < 18446744073709551616 → n < 128 ^ (d + 1) → d < k → acc.size + d + 1 ≤ 9223372036854775807 →
    imageeditorref04_Uint.l0 k (n : Int) acc = some (acc ++ encS n) := by
  induction d with
  | zero => ?_
  | succ d ih => ?_
  all_goals
    intro n k acc h64 hn hk ha
    obtain ⟨k, rfl⟩ : ∃ m, k = m + 1 := ⟨k - 1, by omega⟩
    simp only [imageeditorref04_Uint.l0]
    by_cases h : n < 128
    · rw [if_neg (by omega), Option.bind_some, if_pos (by rw [one_size]; omega)]
      unfold encS
      rw [enc_small h, show (n : Int) % 256 = (n : Int) from by omega]
    · first
      | exact absurd hn (by simpa using h)
      | (rw [if_pos (by omega), Option.bind_some, if_pos (by rw [one_size]; omega), or64 n h64, show (n : Int) / 128 = ((n / 128 : Nat) : Int) from by omega]
         rw [ih (n / 128) k _ (by omega) (by rw [Nat.div_lt_iff_lt_mul (by decide)]; rw [Nat.pow_succ] at hn; exact hn) (by omega) (by rw [size_app, one_size]; omega)]
         unfold encS
         rw [enc_big h, app_assoc, ← str_app, List.singleton_append])
theorem ref_Uint_eq (n k : Nat) (h : n < 18446744073709551616) (hk : 10 ≤ k) : imageeditorref04_Uint.f k (n : Int) = some (encS n) := by
  unfold imageeditorref04_Uint.f
  rw [ref_l0 9 n k _ h (by omega) (by omega) (by decide)]
  exact congrArg some (empty_app _)
theorem zig_ref (n : Int) (h1 : -9223372036854775808 ≤ n) (h : n < 0) : IntKind.u64.wrap ((IntKind.u64.wrap ((IntKind.u64.wrap (wrap64 (-(wrap64 (n + 1))))) * 2)) + 1) = ((zig n : Nat) : Int) := by
  rw [wrap_id (n + 1) (by omega) (by omega), wrap_id (-(n + 1)) (by omega) (by omega), wrap_u64, wrap_u64, wrap_u64]
  unfold zig
  rw [if_neg (by omega)]
  omega
theorem ref_Int_eq (n : Int) (k : Nat) (h1 : -9223372036854775808 ≤ n) (h2 : n ≤ 9223372036854775807) (hk : 10 ≤ k) : imageeditorref04_Int.f k n = some (encS (zig n)) := by
  unfold imageeditorref04_Int.f
  by_cases h : n < 0
  · rw [if_neg (by omega), zig_ref n h1 h, ref_Uint_eq _ k (zig_lt n h1 h2) hk]
    rfl
  · rw [if_pos (by omega), zig_pos n h2 (by omega), ref_Uint_eq _ k (zig_lt n h1 h2) hk]
    rfl
theorem ref_Text_eq (s : ByteArray) (k : Nat) (h : s.size ≤ 9223372036854775797) (hk : 10 ≤ k) : imageeditorref04_Text.f k s = some (encS s.size ++ s) := by
  unfold imageeditorref04_Text.f
  rw [wrap_u64, show (s.size : Int) % 18446744073709551616 = (s.size : Int) from by omega, ref_Uint_eq _ k (by omega) hk, Option.bind_some, if_pos (by have := encS_le s.size (by omega); omega)]
theorem ref_Ints_l0 (l : List Int) (hl : l.length ≤ 17592186044416) (hf : Fits l) (d : Nat) : ∀ (x k : Nat), x ≤ l.length → l.length - x = d → d + 10 < k →
    imageeditorref04_Ints.l0 k l (encS l.length ++ encZ (l.take x)) (x : Int) = some (encS l.length ++ encZ l) := by
  induction d with
  | zero =>
    intro x k hx hd hk
    obtain ⟨k, rfl⟩ : ∃ m, k = m + 1 := ⟨k - 1, by omega⟩
    simp only [imageeditorref04_Ints.l0]
    rw [if_neg (by omega), List.take_of_length_le (by omega)]
  | succ d ih =>
    intro x k hx hd hk
    obtain ⟨k, rfl⟩ : ∃ m, k = m + 1 := ⟨k - 1, by omega⟩
    have hlt : x < l.length := by omega
    have hr := hf _ (WireInts.rd_mem l x hlt)
    have h1 := encZ_le (l.take x) (fun y hy => hf y (List.mem_of_mem_take hy))
    have h2 : (l.take x).length ≤ l.length := by rw [List.length_take]; omega
    have h3 := encS_le l.length (by omega)
    have h4 := encS_le (zig (rd l (x : Int))) (zig_lt _ hr.1 hr.2)
    simp only [imageeditorref04_Ints.l0]
    rw [if_pos (by omega), if_pos (by omega), ref_Int_eq _ k hr.1 hr.2 (by omega), Option.bind_some, if_pos (by rw [size_app]; omega), wrap_id _ (by omega) (by omega)]
    have := ih (x + 1) k (by omega) (by omega) (by omega)
    rw [WireInts.encZ_snoc l x hlt, ← app_assoc] at this
    exact this
theorem ref_Ints_eq (l : List Int) (k : Nat) (hl : l.length ≤ 17592186044416) (hf : Fits l) (hk : l.length + 10 < k) : imageeditorref04_Ints.f k l = some (encS l.length ++ encZ l) := by
  unfold imageeditorref04_Ints.f
  rw [wrap_u64, show (l.length : Int) % 18446744073709551616 = (l.length : Int) from by omega, ref_Uint_eq _ k (by omega) (by omega), Option.bind_some]
  have := ref_Ints_l0 l hl hf l.length 0 k (by omega) (by omega) hk
  rw [List.take_zero, encZ, app_empty] at this
  exact this

theorem law (n : Nat) (i : Int) (s : ByteArray) (l : List Int) (h1 : n < 18446744073709551616) (h2 : -9223372036854775808 ≤ i) (h3 : i ≤ 9223372036854775807) (h4 : s.size ≤ 9223372036854775797) (h5 : l.length ≤ 17592186044416) (h6 : Fits l) :
    imageeditorlaw04_WireWrites.f (l.length + 40) (n : Int) i s l = some true := by
  unfold imageeditorlaw04_WireWrites.f
  rw [wire_Uint_eq n _ h1 (by omega), Option.bind_some, ref_Uint_eq n _ h1 (by omega), Option.bind_some, if_pos rfl,
    wire_Int_eq i _ h2 h3 (by omega), Option.bind_some, ref_Int_eq i _ h2 h3 (by omega), Option.bind_some, if_pos rfl,
    wire_Text_eq s _ h4 (by omega), Option.bind_some, ref_Text_eq s _ h4 (by omega), Option.bind_some, if_pos rfl,
    ints_eq l h5 h6, Option.bind_some, ref_Ints_eq l _ h5 h6 (by omega), Option.bind_some, if_pos rfl, example_ok _ (by omega), Option.bind_some]

end Go.Proofs.Ytnjelebhicheeaa.WireWrites

/- The printed functions of a wire.Reader answer what the document defines: each method as a function on the text, the position and the error. -/
import Derived.Test.YtnjelebhicheeaaWireEnc
import Derived.Test.YtnjelebhicheeaaQx3
import Derived.Test.YtnjelebhicheeaaQx4
namespace Go.Proofs.Ytnjelebhicheeaa.WireDec
open Go.RowKit Go.Proofs.YtnjelebhicheeaaW.PrintWords Go.Proofs.YtnjelebhicheeaaW.PrintLast Go.Proofs.YtnjelebhicheeaaW.PrintMore Go.Proofs.Ytnjelebhicheeaa.Q Go.Proofs.Ytnjelebhicheeaa.Spec Go.Proofs.Ytnjelebhicheeaa.WireEnc
set_option linter.unusedVariables false
set_option linter.unusedSimpArgs false

/-! ### the methods, as functions -/
/-- is the reader made, and without an error? -/
def good (m : Bool) (e : Int) : Bool := m && (e == 0)
/-- value, position, error -/
abbrev St := Nat × Int
def rU (s : ByteArray) (p : Nat) (e : Int) (m : Bool) : Nat × Nat × Int :=
  if good m e = true then (match dec s p 0 0 with | .ok n u => (n, p + u, 0) | .bad b => (0, p, b)) else (0, p, e)
def rC (s : ByteArray) (p : Nat) (e : Int) (m : Bool) (most : Int) : Nat × Nat × Int :=
  let r := rU s p e m
  if good m r.2.2 = true then (if (r.1 : Int) > mx most 0 then (0, r.2.1, 3) else r) else (0, r.2.1, r.2.2)
def rT (s : ByteArray) (p : Nat) (e : Int) (m : Bool) (most : Int) : ByteArray × Nat × Int :=
  let r := rC s p e m most
  if good m r.2.2 = true then (if s.size < r.2.1 + r.1 then (ByteArray.empty, r.2.1, 5) else (s.extract r.2.1 (r.2.1 + r.1), r.2.1 + r.1, r.2.2)) else (ByteArray.empty, r.2.1, r.2.2)

theorem rU_pos (s : ByteArray) (p : Nat) (e : Int) (m : Bool) (hp : p ≤ s.size) : (rU s p e m).2.1 ≤ s.size ∧ (rU s p e m).1 < 18446744073709551616 := by
  unfold rU
  split
  · cases h : dec s p 0 0 with
    | ok n u =>
      obtain ⟨q, h1, h2, h3, h4, h5, h6⟩ := dec_ok s p _ 0 0 n u rfl (by omega) (by simp) h
      exact ⟨h4, h5⟩
    | bad b => exact ⟨hp, by show 0 < 18446744073709551616; omega⟩
  · exact ⟨hp, by omega⟩

theorem wrap_id (x : Int) (h1 : -9223372036854775808 ≤ x) (h2 : x ≤ 9223372036854775807) : wrap64 x = x := by unfold wrap64; omega

/-! ### a byte's share -/
theorem mask8 (c : Nat) (h : c ≤ 255) : bits .and .u8 (c : Int) 127 = ((c % 128 : Nat) : Int) := by
  rw [u8_and _ _ (by omega) (by omega) (by omega) (by omega), Int.toNat_natCast, show (127 : Int).toNat = 127 from rfl, nat_mask7]
theorem pow7 (i : Nat) : (2 : Nat) ^ (7 * i) = 128 ^ i := by rw [Nat.pow_mul]
theorem or_add (n c i : Nat) (hn : n < 128 ^ i) : (n ||| c % 128 * 128 ^ i : Nat) = n + c % 128 * 128 ^ i := by
  rw [Nat.or_comm, nat_join (7 * i) (c % 128 * 128 ^ i) n (by rw [pow7]; exact Nat.mul_mod_left _ _) (by rw [pow7]; exact hn), Nat.add_comm]
theorem share_lt (n c i : Nat) (hi : i ≤ 9) (hn : n < 128 ^ i) (h9 : i = 9 → c ≤ 1) : n + c % 128 * 128 ^ i < 18446744073709551616 := by
  by_cases h : i = 9
  · subst h
    have := h9 rfl
    rw [pow9] at hn ⊢
    have : c % 128 ≤ 1 := by omega
    omega
  · have hp : (128 : Nat) ^ (i + 1) ≤ 9223372036854775808 := pow_le9 _ (by omega)
    have : n + c % 128 * 128 ^ i < 128 ^ (i + 1) := by
      rw [Nat.pow_succ, Nat.mul_comm (128 ^ i)]
      calc n + c % 128 * 128 ^ i < 128 ^ i + c % 128 * 128 ^ i := by omega
        _ = (c % 128 + 1) * 128 ^ i := by rw [Nat.add_mul, Nat.one_mul, Nat.add_comm]
        _ ≤ 128 * 128 ^ i := Nat.mul_le_mul_right _ (by omega)
    omega
theorem share_next (n c i : Nat) (hn : n < 128 ^ i) : n + c % 128 * 128 ^ i < 128 ^ (i + 1) := by
  rw [Nat.pow_succ, Nat.mul_comm (128 ^ i)]
  calc n + c % 128 * 128 ^ i < 128 ^ i + c % 128 * 128 ^ i := by omega
    _ = (c % 128 + 1) * 128 ^ i := by rw [Nat.add_mul, Nat.one_mul, Nat.add_comm]
    _ ≤ 128 * 128 ^ i := Nat.mul_le_mul_right _ (by omega)
theorem share (n c i : Nat) (hc : c ≤ 255) (hi : i ≤ 9) (hn : n < 128 ^ i) (h9 : i = 9 → c ≤ 1) :
    bits .or .u64 (n : Int) (shl .u64 (IntKind.u64.wrap (bits .and .u8 (c : Int) 127)) (7 * (i : Int))) = ((n + c % 128 * 128 ^ i : Nat) : Int) := by
  have hlt := share_lt n c i hi hn h9
  rw [mask8 c hc, wrap_u64, show ((c % 128 : Nat) : Int) % 18446744073709551616 = ((c % 128 : Nat) : Int) from by omega]
  unfold shl
  rw [show ((7 : Int) * (i : Int)).toNat = 7 * i from by omega, show (IntKind.bits .u64) = 64 from rfl, Nat.min_eq_left (by omega), wrap_u64]
  have e : ((c % 128 : Nat) : Int) * 2 ^ (7 * i) = ((c % 128 * 128 ^ i : Nat) : Int) := by
    rw [← pow7, Int.natCast_mul, Int.natCast_pow]
    rfl
  rw [e, show ((c % 128 * 128 ^ i : Nat) : Int) % 18446744073709551616 = ((c % 128 * 128 ^ i : Nat) : Int) from by omega]
  have h64 : n < 18446744073709551616 := by omega
  rw [u64_or _ _ (by omega) (by omega) (by omega) (by omega), Int.toNat_natCast, Int.toNat_natCast, or_add n c i hn]

/-! ### wire.Reader.Uint -/
theorem uint_l0 (s : ByteArray) (p : Nat) (hs : s.size ≤ 9223372036854775000) (hp : p ≤ s.size) (d : Nat) : ∀ (i n k : Nat), i ≤ 9 → 9 - i = d → n < 128 ^ i → p + i ≤ s.size → 2 * d + 2 ≤ k →
    wire_Reader_Uint.l0 k (n : Int) ((p + i : Nat) : Int) (i : Int) s (p : Int) 0 true =
      some (match dec s p i n with | .ok v u => ((v : Int), s, ((p + u : Nat) : Int), 0, true) | .bad b => (0, s, (p : Int), b, true)) := by
  induction d with
  | zero => ?_
  | succ d ih => ?_
  all_goals
    intro i n k hi hd hn hpi hk
    obtain ⟨k, rfl⟩ : ∃ m, k = m + 2 := ⟨k - 2, by omega⟩
    simp only [wire_Reader_Uint.l0]
    rw [if_pos (by omega)]
    by_cases hend : p + i < s.size
    · rw [if_neg (by omega), if_pos (by omega), if_pos (by omega), bt_nb]
      have hc := nb_le s (p + i)
      rw [wrap_id (((p + i : Nat) : Int) + 1) (by omega) (by omega)]
      by_cases hf : (i = 9 ∧ 1 < nb s (p + i)) ∨ (0 < i ∧ nb s (p + i) = 0)
      · rw [dec_form hend hf]
        have hj : wire_Reader_Uint.j1 (k + 1) (n : Int) (((p + i : Nat) : Int) + 1) (i : Int) ((nb s (p + i) : Nat) : Int) (i : Int) true s (p : Int) 0 true = some (0, s, (p : Int), 4, true) := by
          simp only [wire_Reader_Uint.j1]
          rw [if_pos trivial]
        rcases hf with ⟨h9, h1⟩ | ⟨h0, hz⟩
        · rw [if_pos (by omega), if_pos (by omega), hj]
        · have hd0 : decide ((i : Int) > 0) = true := decide_eq_true (by omega)
          by_cases h9 : i = 9
          · rw [if_pos (by omega), if_neg (by omega), if_pos (by omega), hd0, hj]
          · rw [if_neg (by omega), if_pos (by omega), hd0, hj]
      · have hgo : wire_Reader_Uint.j1 (k + 1) (n : Int) (((p + i : Nat) : Int) + 1) (i : Int) ((nb s (p + i) : Nat) : Int) (i : Int) false s (p : Int) 0 true =
            some (match dec s p i n with | .ok v u => ((v : Int), s, ((p + u : Nat) : Int), 0, true) | .bad b => (0, s, (p : Int), b, true)) := by
          have h9 : i = 9 → nb s (p + i) ≤ 1 := fun h => by
            rcases Nat.lt_or_ge 1 (nb s (p + i)) with hz | hz
            · exact absurd (.inl ⟨h, hz⟩) hf
            · exact hz
          simp only [wire_Reader_Uint.j1]
          rw [if_neg (by simp), wrap_id (7 * (i : Int)) (by omega) (by omega), if_pos (by omega), share n _ i hc hi hn h9]
          by_cases hl : nb s (p + i) < 128
          · rw [if_pos (by omega), dec_last hend hf hl]
            simp only [Option.some.injEq, Prod.mk.injEq, and_true, true_and]
            omega
          · rw [if_neg (by omega), dec_more hend hf hl, wrap_id ((i : Int) + 1) (by omega) (by omega)]
            first
            | exact absurd (h9 (by omega)) (by omega)
            | (have := ih (i + 1) (n + nb s (p + i) % 128 * 128 ^ i) k (by have := h9; omega) (by omega) (share_next n _ i hn) (by omega) (by omega)
               rw [show ((p + i : Nat) : Int) + 1 = ((p + (i + 1) : Nat) : Int) from by omega, show (i : Int) + 1 = ((i + 1 : Nat) : Int) from by omega]
               exact this)
        by_cases h9 : i = 9
        · rw [if_pos (by omega), if_neg (by omega)]
          by_cases hz : nb s (p + i) = 0
          · exact absurd (.inr ⟨by omega, hz⟩) hf
          · rw [if_neg (by omega), hgo]
        · rw [if_neg (by omega)]
          by_cases hz : nb s (p + i) = 0
          · have hd0 : decide ((i : Int) > 0) = false := decide_eq_false (by
              intro h
              exact hf (.inr ⟨by omega, hz⟩))
            rw [if_pos (by omega), hd0, hgo]
          · rw [if_neg (by omega), hgo]
    · rw [if_pos (by omega), dec_end hend]

theorem uint_eq (s : ByteArray) (p k : Nat) (e : Int) (m : Bool) (hs : s.size ≤ 9223372036854775000) (hp : p ≤ s.size) (hk : 20 ≤ k) :
    wire_Reader_Uint.f k s (p : Int) e m = some (((rU s p e m).1 : Int), s, ((rU s p e m).2.1 : Int), (rU s p e m).2.2, m) := by
  unfold wire_Reader_Uint.f wire_Reader_right.f rU good
  cases m with
  | false => simp
  | true =>
    by_cases he : e = 0
    · subst he
      simp only [Option.bind_some, if_true, beq_self_eq_true, Bool.and_self]
      have := uint_l0 s p hs hp 9 0 0 k (by omega) (by omega) (by simp) (by omega) (by omega)
      simp only [Nat.add_zero] at this
      rw [show ((0 : Nat) : Int) = 0 from rfl] at this
      rw [this]
      cases dec s p 0 0 <;> rfl
    · have hb : (e == 0) = false := by simpa using he
      simp [hb]


/-! ### Int -/
theorem not64 (x : Nat) (h : x < 9223372036854775808) : bits .xor .i64 (-1) (x : Int) = -(x : Int) - 1 := by
  have h1 : (BitVec.ofInt 64 (-1) ^^^ BitVec.ofInt 64 (x : Int)).toNat = 18446744073709551615 - x := by
    rw [BitVec.toNat_xor, show (BitVec.ofInt 64 (-1)).toNat = 18446744073709551615 from rfl, show (BitVec.ofInt 64 (x : Int)).toNat = x from by
      rw [BitVec.toNat_ofInt]
      omega]
    exact xor_all x (by omega)
  show IntKind.i64.wrap ((BitVec.ofInt 64 (-1) ^^^ BitVec.ofInt 64 (x : Int)).toNat : Int) = _
  rw [h1, IntKind.wrap_i64]
  omega
theorem low1 (n : Nat) (h : n < 18446744073709551616) : bits .and .u64 (n : Int) 1 = ((n % 2 : Nat) : Int) := by
  rw [u64_and _ _ (by omega) (by omega) (by omega) (by omega), Int.toNat_natCast, show (1 : Int).toNat = 1 from rfl, nat_mask1]
def rI (s : ByteArray) (p : Nat) (e : Int) (m : Bool) : Int × Nat × Int := (unzig (rU s p e m).1, (rU s p e m).2)
theorem int_eq (s : ByteArray) (p k : Nat) (e : Int) (m : Bool) (hs : s.size ≤ 9223372036854775000) (hp : p ≤ s.size) (hk : 20 ≤ k) :
    wire_Reader_Int.f k s (p : Int) e m = some ((rI s p e m).1, s, ((rI s p e m).2.1 : Int), (rI s p e m).2.2, m) := by
  have hr := (rU_pos s p e m hp).2
  unfold wire_Reader_Int.f
  rw [uint_eq s p k e m hs hp hk, Option.bind_some]
  simp only
  rw [low1 _ hr]
  have h2 : ((rU s p e m).1 : Int) / 2 = (((rU s p e m).1 / 2 : Nat) : Int) := by omega
  rw [h2, wrap_id _ (by omega) (by omega)]
  unfold rI unzig
  by_cases h : (rU s p e m).1 % 2 = 1
  · rw [if_pos (by omega), not64 _ (by omega), if_pos h]
  · rw [if_neg (by omega), if_neg h]

/-! ### Count, Text -/
theorem mx_range (most : Int) (h : most ≤ 9223372036854775807) : 0 ≤ mx most 0 ∧ mx most 0 ≤ 9223372036854775807 := by
  unfold mx
  split <;> omega
theorem right_eq (s : ByteArray) (p : Int) (e : Int) (m : Bool) : wire_Reader_right.f s p e m = some (good m e, s, p, e, m) := by
  unfold wire_Reader_right.f good
  cases m <;> simp
theorem rC_le (s : ByteArray) (p : Nat) (e : Int) (m : Bool) (most : Int) (hp : p ≤ s.size) (h : most ≤ 9223372036854775807) : (rC s p e m most).2.1 ≤ s.size ∧ ((rC s p e m most).1 : Int) ≤ 9223372036854775807 := by
  have hr := rU_pos s p e m hp
  have hm := mx_range most h
  unfold rC
  simp only
  split
  · split
    · exact ⟨hr.1, by show ((0 : Nat) : Int) ≤ 9223372036854775807; omega⟩
    · exact ⟨hr.1, by omega⟩
  · exact ⟨hr.1, by show ((0 : Nat) : Int) ≤ 9223372036854775807; omega⟩
theorem count_eq (s : ByteArray) (p k : Nat) (e : Int) (m : Bool) (most : Int) (hs : s.size ≤ 9223372036854775000) (hp : p ≤ s.size) (h : most ≤ 9223372036854775807) (hk : 20 ≤ k) :
    wire_Reader_Count.f k s (p : Int) e m most = some (((rC s p e m most).1 : Int), s, ((rC s p e m most).2.1 : Int), (rC s p e m most).2.2, m) := by
  have hm := mx_range most h
  unfold wire_Reader_Count.f
  rw [uint_eq s p k e m hs hp hk, Option.bind_some]
  simp only
  rw [right_eq, Option.bind_some]
  simp only
  unfold rC
  simp only
  by_cases hg : good m (rU s p e m).2.2 = true
  · rw [if_pos hg, if_pos hg, wrap_u64, show mx most 0 % 18446744073709551616 = mx most 0 from by omega]
    by_cases hc : ((rU s p e m).1 : Int) > mx most 0
    · rw [if_pos hc, if_pos hc]
      rfl
    · rw [if_neg hc, if_neg hc, wrap_id _ (by omega) (by omega)]
  · rw [if_neg hg, if_neg hg]
    rfl
theorem text_eq (s : ByteArray) (p k : Nat) (e : Int) (m : Bool) (most : Int) (hs : s.size ≤ 4611686018427387000) (hp : p ≤ s.size) (h : most ≤ 9223372036854775807) (hk : 20 ≤ k) :
    wire_Reader_Text.f k s (p : Int) e m most = some ((rT s p e m most).1, s, ((rT s p e m most).2.1 : Int), (rT s p e m most).2.2, m) := by
  have hc := rC_le s p e m most hp h
  unfold wire_Reader_Text.f
  rw [count_eq s p k e m most (by omega) hp h hk, Option.bind_some]
  simp only
  rw [right_eq, Option.bind_some]
  simp only
  unfold rT
  simp only
  by_cases hg : good m (rC s p e m most).2.2 = true
  · rw [if_pos hg, if_pos hg, wrap_id ((s.size : Int) - ((rC s p e m most).2.1 : Int)) (by omega) (by omega)]
    by_cases hl : s.size < (rC s p e m most).2.1 + (rC s p e m most).1
    · rw [if_pos (by omega), if_pos hl]
      rfl
    · rw [if_neg (by omega), if_neg hl, wrap_id (((rC s p e m most).2.1 : Int) + ((rC s p e m most).1 : Int)) (by omega) (by omega)]
      rw [wrap_id _ (by omega) (by omega), if_pos (by omega), if_pos (by omega), if_pos (by omega)]
      rw [show (((rC s p e m most).2.1 : Int) + ((rC s p e m most).1 : Int) - ((rC s p e m most).1 : Int)).toNat = (rC s p e m most).2.1 from by omega, show (((rC s p e m most).2.1 : Int) + ((rC s p e m most).1 : Int)).toNat = (rC s p e m most).2.1 + (rC s p e m most).1 from by omega]
      rfl
  · rw [if_neg hg, if_neg hg]
    rfl

/-! ### Left, Err, End, New -/
def rLeft (s : ByteArray) (p : Nat) (e : Int) (m : Bool) : Int := if good m e = true then (s.size : Int) - (p : Int) else 0
def rErr (e : Int) (m : Bool) : Int := if m = true then e else 14
def rEnd (s : ByteArray) (p : Nat) (e : Int) (m : Bool) : Int := if rErr e m = 0 then (if p < s.size then 6 else 0) else rErr e m
theorem left_eq (s : ByteArray) (p : Nat) (e : Int) (m : Bool) (hs : s.size ≤ 9223372036854775000) (hp : p ≤ s.size) :
    wire_Reader_Left.f s (p : Int) e m = some (rLeft s p e m, s, (p : Int), e, m) := by
  unfold wire_Reader_Left.f rLeft
  rw [right_eq, Option.bind_some]
  simp only
  by_cases hg : good m e = true
  · rw [if_pos hg, if_pos hg, wrap_id _ (by omega) (by omega)]
  · rw [if_neg hg, if_neg hg]
theorem err_eq (s : ByteArray) (p : Int) (e : Int) (m : Bool) : wire_Reader_Err.f s p e m = some (rErr e m, s, p, e, m) := by
  unfold wire_Reader_Err.f rErr
  cases m <;> simp
theorem end_eq (s : ByteArray) (p : Nat) (e : Int) (m : Bool) : wire_Reader_End.f s (p : Int) e m = some (rEnd s p e m, s, (p : Int), e, m) := by
  unfold wire_Reader_End.f
  rw [err_eq, Option.bind_some]
  simp only
  unfold rEnd
  by_cases h : rErr e m = 0
  · rw [if_pos h, if_pos h]
    by_cases hp : p < s.size
    · rw [if_pos (by omega), if_pos hp]
    · rw [if_neg (by omega), if_neg hp]
  · rw [if_neg h, if_neg h]
theorem new_eq (s : ByteArray) : wire_New.f s = some (s, ((0 : Nat) : Int), 0, true) := rfl

end Go.Proofs.Ytnjelebhicheeaa.WireDec

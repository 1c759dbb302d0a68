/- Open of the reference's digest: the same plain function. -/
import Derived.Test.YtnppfhjfnjinlaaDigP
import Derived.Test.YtnppfhjfnjinlaaDigRefCrc
import Derived.Test.YtnppfhjfnjinlaaQx11
namespace Go.Proofs.Ytnppfhjfnjinlaa.DigRO
open Go.RowKit Go.Proofs.YtnppfhjfnjinlaaW.PrintWords Go.Proofs.YtnppfhjfnjinlaaW.PrintLast Go.Proofs.YtnppfhjfnjinlaaW.PrintMore Go.Proofs.Ytnppfhjfnjinlaa.Q Go.Proofs.Ytnppfhjfnjinlaa.Spec Go.Proofs.Ytnppfhjfnjinlaa.CrcSpec Go.Proofs.Ytnppfhjfnjinlaa.WireEnc Go.Proofs.Ytnppfhjfnjinlaa.WireDec Go.Proofs.Ytnppfhjfnjinlaa.WireMid Go.Proofs.Ytnppfhjfnjinlaa.DigP
set_option linter.unusedVariables false
set_option linter.unusedSimpArgs false

theorem td (a b : Nat) : Int.tdiv (a : Int) (b : Int) = ((a / b : Nat) : Int) := rfl
theorem tm (a b : Nat) : Int.tmod (a : Int) (b : Int) = ((a % b : Nat) : Int) := rfl
theorem four_eq (c k : Nat) (hc : c < 4294967296) (hk : 5 ≤ k) : imageeditorref05_four.f k (c : Int) = some (le4 c) := by
  obtain ⟨k, rfl⟩ : ∃ m, k = m + 5 := ⟨k - 5, by omega⟩
  have e : ∀ a : Nat, Int.tdiv (a : Int) 256 = ((a / 256 : Nat) : Int) := fun a => td a 256
  have f : ∀ a : Nat, Int.tmod (a : Int) 256 = ((a % 256 : Nat) : Int) := fun a => tm a 256
  have g : ∀ a : Nat, a < 4294967296 → ((a : Nat) : Int) % 4294967296 = (a : Int) := fun a h => by omega
  have i : ∀ a : Nat, ((a % 256 : Nat) : Int) % 256 = ((a % 256 : Nat) : Int) := fun a => by omega
  unfold imageeditorref05_four.f
  simp only [imageeditorref05_four.l0]
  rw [if_pos (by omega), if_pos (by simp), e, g _ (by omega), f, i, wrap_id (0 + 1) (by omega) (by omega), if_pos (by omega), if_pos (by simp), e, g _ (by omega), f, i, wrap_id (0 + 1 + 1) (by omega) (by omega), if_pos (by omega), if_pos (by simp), e, g _ (by omega), f, i, wrap_id (0 + 1 + 1 + 1) (by omega) (by omega), if_pos (by omega), if_pos (by simp), f, i, wrap_id (0 + 1 + 1 + 1 + 1) (by omega) (by omega), if_neg (by omega)]
  unfold le4
  rw [show c / 256 / 256 = c / 65536 from by omega, show c / 65536 / 256 = c / 16777216 from by omega]
  rfl

/-! ### the reference's read and Open -/
theorem share2 (n c i : Nat) (hc : c ≤ 255) (hi : i ≤ 9) (hn : n < 128 ^ i) (h9 : i = 9 → c ≤ 1) :
    bits .or .u64 (n : Int) (shl .u64 (Int.tmod ((c : Nat) : Int) 128) (wrap64 (7 * (i : Int)))) = ((n + c % 128 * 128 ^ i : Nat) : Int) := by
  rw [← share n c i hc hi hn h9, mask8 c hc, wrap_id _ (by omega) (by omega), wrap_u64, show Int.tmod (c : Int) 128 = ((c % 128 : Nat) : Int) from tm c 128, show ((c % 128 : Nat) : Int) % 18446744073709551616 = ((c % 128 : Nat) : Int) from by omega]
def readS (s : ByteArray) (i n : Nat) : Int × Int × Int := match dec s 0 i n with | .ok v u => ((v : Int), ((u : Nat) : Int), 0) | .bad b => (0, 0, b)
theorem read_l0 (s : ByteArray) (hs : s.size ≤ 9223372036854775000) (d : Nat) : ∀ (i n k : Nat), i ≤ 9 → 9 - i = d → n < 128 ^ i → i ≤ s.size → 2 * d + 2 ≤ k →
    imageeditorref05_read.l0 k s (n : Int) (i : Int) = some (readS s i n) := by
  unfold readS
  induction d with
  | zero => ?_
  | succ d ih => ?_
  all_goals
    intro i n k hi hd hn hpi hk
    obtain ⟨k, rfl⟩ : ∃ m, k = m + 2 := ⟨k - 2, by omega⟩
    simp only [imageeditorref05_read.l0]
    rw [if_pos (by omega)]
    by_cases hend : 0 + i < s.size
    · have hc := nb_le s (0 + i)
      have hb : IntKind.u64.wrap (bt s (i : Int)) = ((nb s (0 + i) : Nat) : Int) := by
        rw [Nat.zero_add] at hc ⊢
        rw [bt_nb, wrap_u64]
        omega
      rw [if_neg (by omega), if_pos (by omega), if_pos (by omega), hb]
      by_cases hf : (i = 9 ∧ 1 < nb s (0 + i)) ∨ (0 < i ∧ nb s (0 + i) = 0)
      · rw [dec_form hend hf]
        simp only [imageeditorref05_read.j1]
        by_cases h9 : i = 9
        · rw [if_pos (by omega)]
          by_cases h1 : 1 < nb s (0 + i)
          · rw [if_pos (decide_eq_true (by omega))]
          · rw [if_neg (by rw [decide_eq_false (by omega)]; simp), wrap_id (7 * (i : Int)) (by omega) (by omega), if_pos (by omega), if_pos (by omega), if_pos (by omega), if_pos (by omega)]
        · rw [if_neg (by omega), if_neg (by simp), wrap_id (7 * (i : Int)) (by omega) (by omega), if_pos (by omega), if_pos (by omega), if_pos (by omega), if_pos (by omega)]
      · have h9 : i = 9 → nb s (0 + i) ≤ 1 := fun h => by
          rcases Nat.lt_or_ge 1 (nb s (0 + i)) with hz | hz
          · exact absurd (.inl ⟨h, hz⟩) hf
          · exact hz
        have hgo : imageeditorref05_read.j1 (k + 1) s (n : Int) (i : Int) ((nb s (0 + i) : Nat) : Int) false = some (match dec s 0 i n with | .ok v u => ((v : Int), ((u : Nat) : Int), 0) | .bad b => (0, 0, b)) := by
          simp only [imageeditorref05_read.j1]
          rw [if_neg (by simp), share2 n _ i hc hi hn h9, wrap_id (7 * (i : Int)) (by omega) (by omega), if_pos (by omega)]
          by_cases hl : nb s (0 + i) < 128
          · rw [if_pos (by omega), dec_last hend hf hl, wrap_id ((i : Int) + 1) (by omega) (by omega)]
            by_cases hz : nb s (0 + i) = 0
            · rw [if_pos (by omega), if_neg (by
                intro h
                exact hf (.inr ⟨by omega, hz⟩))]
              rfl
            · rw [if_neg (by omega)]
              rfl
          · rw [if_neg (by omega), dec_more hend hf hl, wrap_id ((i : Int) + 1) (by omega) (by omega)]
            first
            | exact absurd (h9 (by omega)) (by omega)
            | (have := ih (i + 1) (n + nb s (0 + i) % 128 * 128 ^ i) k (by have := h9; omega) (by omega) (share_next n _ i hn) (by omega) (by omega)
               exact this)
        by_cases h9' : i = 9
        · rw [if_pos (by omega), decide_eq_false (by have := h9 h9'; omega)]
          exact hgo
        · rw [if_neg (by omega)]
          exact hgo
    · rw [if_pos (by omega), dec_end hend]
theorem read_eq (s : ByteArray) (k : Nat) (hs : s.size ≤ 9223372036854775000) (hk : 20 ≤ k) : imageeditorref05_read.f k s = some (readS s 0 0) := by
  unfold imageeditorref05_read.f
  exact read_l0 s hs 9 0 0 k (by omega) (by omega) (by simp) (by omega) (by omega)
theorem ropen_eq (s : ByteArray) (k : Nat) (hs : s.size ≤ 4611686018427387000) (hk : 10 * s.size + 101 ≤ k) : imageeditorref05_Open.f k s = some (openS s) := by
  unfold imageeditorref05_Open.f
  rw [read_eq s k (by omega) (by omega), Option.bind_some]
  unfold readS openS
  cases hd : dec s 0 0 0 with
  | bad b =>
    have hb : ¬ b = 0 := by rcases dec_bad s 0 _ 0 0 b rfl hd with h | h <;> omega
    simp only
    rw [if_neg hb]
    rfl
  | ok n u =>
    obtain ⟨q, h1, h2, h3, h4, h5, h6⟩ := dec_ok s 0 _ 0 0 n u rfl (by omega) (by simp) hd
    rw [Nat.zero_add] at h4
    simp only [if_true]
    by_cases hn : 1048576 < n
    · rw [if_pos (by omega), if_pos hn]
      rfl
    · rw [if_neg (by omega), if_neg hn]
      have e1 : wrap64 (((u : Nat) : Int) + wrap64 ((n : Nat) : Int)) = ((u + n : Nat) : Int) := by rw [wrap_id ((n : Nat) : Int) (by omega) (by omega), wrap_id _ (by omega) (by omega)]; omega
      have e2 : wrap64 (((u + n : Nat) : Int) + 4) = ((u + n + 4 : Nat) : Int) := by rw [wrap_id _ (by omega) (by omega)]; omega
      rw [e1, e2]
      by_cases hf : s.size < u + n + 4
      · rw [if_pos (by omega), if_pos hf]
        rfl
      · rw [if_neg (by omega), if_neg hf, if_pos (by omega), if_pos (by omega), if_pos (by omega), if_pos (by omega), Int.toNat_natCast, Int.toNat_natCast, Int.toNat_natCast]
        rw [DigRefCrc.crc_eq _ k (by rw [size_ext _ _ _ (by omega)]; omega) (by rw [size_ext _ _ _ (by omega)]; omega), Option.bind_some, four_eq _ k (crc_lt _) (by omega), Option.bind_some]
        by_cases hx : s.extract (u + n) (u + n + 4) = le4 (crc (s.extract 0 (u + n)))
        · rw [if_pos (toList_inj.2 hx), if_pos hx, if_pos (by omega), if_pos (by omega)]
        · rw [if_neg (fun h => hx (toList_inj.1 h)), if_neg hx]
          rfl

end Go.Proofs.Ytnppfhjfnjinlaa.DigRO

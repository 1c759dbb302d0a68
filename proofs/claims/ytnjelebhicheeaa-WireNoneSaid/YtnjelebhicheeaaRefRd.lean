/- The reference's reader of numbers and texts: each method is the same plain function as the program's. -/
import Derived.Test.YtnjelebhicheeaaWireMid
import Derived.Test.YtnjelebhicheeaaQx7
import Derived.Test.YtnjelebhicheeaaQx6
namespace Go.Proofs.Ytnjelebhicheeaa.RefRd
open Go.RowKit Go.Proofs.YtnjelebhicheeaaW.PrintWords Go.Proofs.YtnjelebhicheeaaW.PrintLast Go.Proofs.YtnjelebhicheeaaW.PrintMore Go.Proofs.Ytnjelebhicheeaa.Q Go.Proofs.Ytnjelebhicheeaa.Spec Go.Proofs.Ytnjelebhicheeaa.WireEnc Go.Proofs.Ytnjelebhicheeaa.WireDec Go.Proofs.Ytnjelebhicheeaa.WireMid
set_option linter.unusedVariables false
set_option linter.unusedSimpArgs false

theorem good_eq (s : ByteArray) (p : Int) (e : Int) (m : Bool) : imageeditorref04_Reader_good.f s p e m = some (good m e, s, p, e, m) := by
  unfold imageeditorref04_Reader_good.f good
  cases m <;> simp
theorem ruint_l0 (s : ByteArray) (p : Nat) (hs : s.size ≤ 9223372036854775000) (hp : p ≤ s.size) (d : Nat) : ∀ (i n k : Nat), i ≤ 9 → 9 - i = d → n < 128 ^ i → p + i ≤ s.size → 2 * d + 2 ≤ k →
    imageeditorref04_Reader_Uint.l0 k (n : Int) (i : Int) s (p : Int) 0 true =
      some (match dec s p i n with | .ok v u => ((v : Int), s, ((p + u : Nat) : Int), 0, true) | .bad b => (0, s, (p : Int), b, true)) := by
  induction d with
  | zero => ?_
  | succ d ih => ?_
  all_goals
    intro i n k hi hd hn hpi hk
    obtain ⟨k, rfl⟩ : ∃ m, k = m + 2 := ⟨k - 2, by omega⟩
    simp only [imageeditorref04_Reader_Uint.l0]
    have hpi2 : wrap64 ((p : Int) + (i : Int)) = ((p + i : Nat) : Int) := by rw [wrap_id _ (by omega) (by omega)]; omega
    rw [hpi2]
    by_cases hend : p + i < s.size
    · rw [if_neg (by omega), if_pos (by omega), if_pos (by omega), bt_nb]
      have hc := nb_le s (p + i)
      by_cases hf : (i = 9 ∧ 1 < nb s (p + i)) ∨ (0 < i ∧ nb s (p + i) = 0)
      · rw [dec_form hend hf]
        have hj : imageeditorref04_Reader_Uint.j1 (k + 1) (n : Int) (i : Int) ((nb s (p + i) : Nat) : Int) true s (p : Int) 0 true = some (0, s, (p : Int), 4, true) := by
          simp only [imageeditorref04_Reader_Uint.j1]
          rw [if_pos trivial]
        have hz0 : nb s (p + i) = 0 → ((((nb s (p + i) : Nat) : Int) == 0) = true) := fun h => by rw [h]; rfl
        by_cases h9 : i = 9
        · rw [if_pos (by omega)]
          by_cases h1 : 1 < nb s (p + i)
          · rw [if_pos (by omega), hj]
          · have hz : nb s (p + i) = 0 := by rcases hf with ⟨_, h⟩ | ⟨_, h⟩ <;> omega
            rw [if_neg (by omega), if_pos (by omega), hz0 hz, hj]
        · have hz : 0 < i ∧ nb s (p + i) = 0 := by rcases hf with ⟨h, _⟩ | h; exact absurd h h9; exact h
          rw [if_neg (by omega), if_pos (by omega), hz0 hz.2, hj]
      · have hgo : imageeditorref04_Reader_Uint.j1 (k + 1) (n : Int) (i : Int) ((nb s (p + i) : Nat) : Int) false s (p : Int) 0 true =
            some (match dec s p i n with | .ok v u => ((v : Int), s, ((p + u : Nat) : Int), 0, true) | .bad b => (0, s, (p : Int), b, true)) := by
          have h9 : i = 9 → nb s (p + i) ≤ 1 := fun h => by
            rcases Nat.lt_or_ge 1 (nb s (p + i)) with hz | hz
            · exact absurd (.inl ⟨h, hz⟩) hf
            · exact hz
          simp only [imageeditorref04_Reader_Uint.j1]
          rw [if_neg (by simp), wrap_id (7 * (i : Int)) (by omega) (by omega), if_pos (by omega), share n _ i hc hi hn h9]
          by_cases hl : nb s (p + i) < 128
          · rw [if_pos (by omega), dec_last hend hf hl, hpi2, wrap_id _ (by omega) (by omega)]
            simp only [Option.some.injEq, Prod.mk.injEq, and_true, true_and]
            omega
          · rw [if_neg (by omega), dec_more hend hf hl, wrap_id ((i : Int) + 1) (by omega) (by omega)]
            first
            | exact absurd (h9 (by omega)) (by omega)
            | (have := ih (i + 1) (n + nb s (p + i) % 128 * 128 ^ i) k (by have := h9; omega) (by omega) (share_next n _ i hn) (by omega) (by omega)
               exact this)
        have hzf : 0 < i → ((((nb s (p + i) : Nat) : Int) == 0) = false) := fun h => by
          rw [beq_eq_false_iff_ne]
          intro h2
          exact hf (.inr ⟨h, by omega⟩)
        by_cases h9 : i = 9
        · have h1 : ¬ 1 < nb s (p + i) := fun h => hf (.inl ⟨h9, h⟩)
          rw [if_pos (by omega), if_neg (by omega), if_pos (by omega), hzf (by omega), hgo]
        · rw [if_neg (by omega)]
          by_cases h0 : 0 < i
          · rw [if_pos (by omega), hzf h0, hgo]
          · rw [if_neg (by omega), hgo]
    · rw [if_pos (by omega), dec_end hend]
theorem ruint_eq (s : ByteArray) (p k : Nat) (e : Int) (m : Bool) (hs : s.size ≤ 9223372036854775000) (hp : p ≤ s.size) (hk : 20 ≤ k) :
    imageeditorref04_Reader_Uint.f k s (p : Int) e m = some (((rU s p e m).1 : Int), s, ((rU s p e m).2.1 : Int), (rU s p e m).2.2, m) := by
  unfold imageeditorref04_Reader_Uint.f rU
  rw [good_eq, Option.bind_some]
  simp only
  by_cases hg : good m e = true
  · have hm : m = true ∧ e = 0 := by
      revert hg
      unfold good
      cases m <;> simp
    obtain ⟨rfl, rfl⟩ := hm
    rw [if_pos hg, if_pos hg]
    have := ruint_l0 s p hs hp 9 0 0 k (by omega) (by omega) (by simp) (by omega) (by omega)
    rw [show ((0 : Nat) : Int) = 0 from rfl] at this
    rw [this]
    cases dec s p 0 0 <;> rfl
  · rw [if_neg hg, if_neg hg]
    rfl
theorem rcount_eq (s : ByteArray) (p k : Nat) (e : Int) (m : Bool) (most : Int) (hs : s.size ≤ 9223372036854775000) (hp : p ≤ s.size) (h : most ≤ 9223372036854775807) (hk : 20 ≤ k) :
    imageeditorref04_Reader_Count.f k s (p : Int) e m most = some (((rC s p e m most).1 : Int), s, ((rC s p e m most).2.1 : Int), (rC s p e m most).2.2, m) := by
  have hm := mx_range most h
  unfold imageeditorref04_Reader_Count.f
  rw [ruint_eq s p k e m hs hp hk, Option.bind_some]
  simp only
  rw [wrap_u64, show mx most 0 % 18446744073709551616 = mx most 0 from by omega]
  by_cases hc : ((rU s p e m).1 : Int) > mx most 0
  · rw [if_pos hc]
    unfold imageeditorref04_Reader_Fail.f
    rw [good_eq, Option.bind_some]
    simp only
    unfold rC
    simp only
    by_cases hg : good m (rU s p e m).2.2 = true
    · rw [if_pos hg, if_pos hg, if_pos hc]
      rfl
    · rw [if_neg hg, if_neg hg]
      rfl
  · rw [if_neg hc, wrap_id _ (by omega) (by omega)]
    unfold rC
    simp only
    by_cases hg : good m (rU s p e m).2.2 = true
    · rw [if_pos hg, if_neg hc]
    · rw [if_neg hg]
      have h0 : (rU s p e m).1 = 0 := by
        unfold rU at hg ⊢
        split
        · rename_i h1
          rw [if_pos h1] at hg
          cases hd : dec s p 0 0 with
          | ok n u =>
            rw [hd] at hg
            exfalso
            apply hg
            have : m = true := by revert h1; unfold good; cases m <;> simp
            rw [this]
            rfl
          | bad b => rfl
        · rfl
      rw [h0]
theorem rtext_eq (s : ByteArray) (p k : Nat) (e : Int) (m : Bool) (most : Int) (hs : s.size ≤ 4611686018427387000) (hp : p ≤ s.size) (h : most ≤ 9223372036854775807) (hk : 20 ≤ k) :
    imageeditorref04_Reader_Text.f k s (p : Int) e m most = some ((rT s p e m most).1, s, ((rT s p e m most).2.1 : Int), (rT s p e m most).2.2, m) := by
  have hc := rC_le s p e m most hp h
  unfold imageeditorref04_Reader_Text.f
  rw [rcount_eq s p k e m most (by omega) hp h hk, Option.bind_some]
  simp only
  rw [good_eq, Option.bind_some]
  simp only
  unfold rT
  simp only
  by_cases hg : good m (rC s p e m most).2.2 = true
  · rw [if_pos hg, if_pos hg, wrap_id ((s.size : Int) - ((rC s p e m most).2.1 : Int)) (by omega) (by omega)]
    by_cases hl : s.size < (rC s p e m most).2.1 + (rC s p e m most).1
    · rw [if_pos (by omega), if_pos hl]
      rfl
    · rw [if_neg (by omega), if_neg hl, if_pos (by omega), wrap_id (((rC s p e m most).2.1 : Int) + ((rC s p e m most).1 : Int)) (by omega) (by omega), if_pos (by omega), if_pos (by omega)]
      rw [Int.toNat_natCast, show (((rC s p e m most).2.1 : Int) + ((rC s p e m most).1 : Int)).toNat = (rC s p e m most).2.1 + (rC s p e m most).1 from by omega]
      rfl
  · rw [if_neg hg, if_neg hg]
    rfl
theorem rend_eq (s : ByteArray) (p : Nat) (e : Int) (m : Bool) : imageeditorref04_Reader_End.f s (p : Int) e m = some (rEnd s p e m, s, (p : Int), e, m) := by
  unfold imageeditorref04_Reader_End.f rEnd rErr
  cases m with
  | false => simp
  | true =>
    simp only [if_true]
    by_cases he : e = 0
    · rw [if_pos he, if_pos he]
      by_cases hp : p < s.size
      · rw [if_pos (by omega), if_pos hp]
      · rw [if_neg (by omega), if_neg hp]
    · rw [if_neg he, if_neg he]

end Go.Proofs.Ytnjelebhicheeaa.RefRd

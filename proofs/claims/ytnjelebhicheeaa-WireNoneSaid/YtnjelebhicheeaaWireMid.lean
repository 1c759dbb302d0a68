/- What a reader makes of encoded values that lie one behind the other; what a bad number is. (For seats without Ints.) -/
import Derived.Test.YtnjelebhicheeaaWireDec
namespace Go.Proofs.Ytnjelebhicheeaa.WireMid
open Go.RowKit Go.Proofs.YtnjelebhicheeaaW.PrintWords Go.Proofs.YtnjelebhicheeaaW.PrintLast Go.Proofs.YtnjelebhicheeaaW.PrintMore Go.Proofs.Ytnjelebhicheeaa.Q Go.Proofs.Ytnjelebhicheeaa.Spec Go.Proofs.Ytnjelebhicheeaa.WireEnc Go.Proofs.Ytnjelebhicheeaa.WireDec
set_option linter.unusedVariables false
set_option linter.unusedSimpArgs false

theorem good0 : good true 0 = true := rfl
theorem good_ne {e : Int} (h : ¬ e = 0) : ¬ good true e = true := by unfold good; simpa using h
theorem nb_mid (a b c : ByteArray) (j : Nat) (hj : j < b.size) : nb (a ++ (b ++ c)) (a.size + j) = nb b j := by
  rw [nb_app, if_neg (by omega), show a.size + j - a.size = j from by omega, nb_app, if_pos hj]
theorem dec_mid (a c : ByteArray) (n : Nat) (h : n < 18446744073709551616) : dec (a ++ (encS n ++ c)) a.size 0 0 = .ok n (encS n).size := by
  have hsz : (a ++ (encS n ++ c)).size = a.size + ((encS n).size + c.size) := by rw [size_app, size_app]
  rw [dec_enc (a ++ (encS n ++ c)) a.size n 0 0 (by omega) (fun h => absurd h (by omega)) (by simpa using h) (by omega) (fun j hj _ => by
    rw [Nat.add_zero, nb_mid a (encS n) c j (by rw [encS_size]; exact hj), encS_nb n j hj])]
  rw [if_pos (by rw [hsz, encS_size]; omega), encS_size]
  simp
theorem rU_mid (a c : ByteArray) (n : Nat) (h : n < 18446744073709551616) : rU (a ++ (encS n ++ c)) a.size 0 true = (n, a.size + (encS n).size, 0) := by
  unfold rU
  rw [if_pos good0, dec_mid a c n h]
theorem rC_mid (a c : ByteArray) (n : Nat) (most : Int) (h : n < 18446744073709551616) (hm : (n : Int) ≤ most) : rC (a ++ (encS n ++ c)) a.size 0 true most = (n, a.size + (encS n).size, 0) := by
  unfold rC
  rw [rU_mid a c n h]
  simp only
  rw [if_pos good0, if_neg (by unfold mx; split <;> omega)]
theorem ext_mid (a b c : ByteArray) (p : Nat) (hp : p = a.size) : (a ++ (b ++ c)).extract p (p + b.size) = b := by
  have hsz : (a ++ (b ++ c)).size = a.size + (b.size + c.size) := by rw [size_app, size_app]
  apply ext_nb
  · rw [size_ext _ _ _ (by omega)]; omega
  · intro j hj
    rw [size_ext _ _ _ (by omega)] at hj
    rw [nb_ext _ _ _ _ (by omega) (by omega), hp, nb_mid a b c j (by omega)]
theorem rT_mid (a t c : ByteArray) (most : Int) (h : t.size < 18446744073709551616) (hm : (t.size : Int) ≤ most) : rT (a ++ (encS t.size ++ (t ++ c))) a.size 0 true most = (t, a.size + (encS t.size).size + t.size, 0) := by
  have hsz : (a ++ (encS t.size ++ (t ++ c))).size = a.size + ((encS t.size).size + (t.size + c.size)) := by rw [size_app, size_app, size_app]
  unfold rT
  rw [rC_mid a (t ++ c) t.size most h hm]
  simp only
  rw [if_pos good0, if_neg (by omega)]
  congr 1
  rw [← app_assoc]
  exact ext_mid (a ++ encS t.size) t c _ (by rw [size_app])
theorem dec_bad (s : ByteArray) (p : Nat) : ∀ (d i n : Nat) (b : Int), s.size - (p + i) = d → dec s p i n = .bad b → b = 4 ∨ b = 5 := by
  intro d
  induction d using Nat.strongRecOn with
  | _ d ih =>
    intro i n b hd h
    by_cases hend : p + i < s.size
    · by_cases hf : (i = 9 ∧ 1 < nb s (p + i)) ∨ (0 < i ∧ nb s (p + i) = 0)
      · rw [dec_form hend hf] at h
        injection h with h
        exact .inl h.symm
      · by_cases hl : nb s (p + i) < 128
        · rw [dec_last hend hf hl] at h
          cases h
        · rw [dec_more hend hf hl] at h
          exact ih _ (by omega) (i + 1) _ b rfl h
    · rw [dec_end hend] at h
      injection h with h
      exact .inr h.symm
theorem rU_ok (s : ByteArray) (p : Nat) (hp : p ≤ s.size) (he : (rU s p 0 true).2.2 = 0) : p ≤ (rU s p 0 true).2.1 ∧ (rU s p 0 true).2.1 ≤ s.size ∧ s.extract p (rU s p 0 true).2.1 = encS (rU s p 0 true).1 := by
  unfold rU at he ⊢
  rw [if_pos good0] at he ⊢
  cases h : dec s p 0 0 with
  | bad b =>
    rw [h] at he
    rcases dec_bad s p _ 0 0 b rfl h with hb | hb <;> simp [hb] at he
  | ok n u =>
    obtain ⟨q, h1, h2, h3, h4, h5, h6⟩ := dec_ok s p _ 0 0 n u rfl (by omega) (by simp) h
    simp only [Nat.pow_zero, Nat.mul_one, Nat.zero_add] at h1 h3
    subst h1
    show p ≤ p + u ∧ p + u ≤ s.size ∧ s.extract p (p + u) = encS n
    refine ⟨by omega, h4, ext_nb (by rw [size_ext _ _ _ h4, encS_size]; omega) fun j hj => ?_⟩
    rw [size_ext _ _ _ h4] at hj
    rw [nb_ext _ _ _ _ h4 hj]
    have a1 := h6 j (by omega)
    have a2 := encS_nb n j (by omega)
    rw [Nat.add_zero] at a1
    omega
theorem ext_all (s : ByteArray) : s.extract 0 s.size = s := by
  apply ext_nb
  · rw [size_ext _ _ _ (by omega)]; omega
  · intro j hj
    rw [size_ext _ _ _ (by omega)] at hj
    rw [nb_ext _ _ _ _ (by omega) (by omega), Nat.zero_add]
theorem ext_front (a c : ByteArray) : (a ++ c).extract 0 a.size = a := by
  have := ext_mid ByteArray.empty a c 0 rfl
  rw [empty_app, Nat.zero_add] at this
  exact this
theorem ext_len {s t : ByteArray} {p q : Nat} (h : s.extract p q = t) (hq : q ≤ s.size) : q - p = t.size := by
  rw [← h, size_ext _ _ _ hq]
theorem ext_app (x y : ByteArray) (m : Nat) (h1 : x.size ≤ m) (h2 : m ≤ (x ++ y).size) : (x ++ y).extract 0 m = x ++ y.extract 0 (m - x.size) := by
  have hz : (x ++ y).size = x.size + y.size := size_app x y
  apply ext_nb
  · rw [size_ext _ _ _ h2, size_app, size_ext _ _ _ (by omega)]; omega
  · intro j hj
    rw [size_ext _ _ _ h2] at hj
    rw [nb_ext _ _ _ _ h2 hj, nb_app, nb_app, Nat.zero_add]
    by_cases h : j < x.size
    · rw [if_pos h, if_pos h]
    · rw [if_neg h, if_neg h, nb_ext _ _ _ _ (by omega) (by omega), Nat.zero_add]
/-- a number whose end is missing -/
theorem dec_cut (a c : ByteArray) (n m : Nat) (h : n < 18446744073709551616) (hm : m < (encS n).size) : dec (a ++ (encS n ++ c).extract 0 m) a.size 0 0 = .bad 5 := by
  have hz : (encS n ++ c).size = (encS n).size + c.size := size_app _ _
  have hsz : (a ++ (encS n ++ c).extract 0 m).size = a.size + m := by rw [size_app, size_ext _ _ _ (by omega)]; omega
  rw [dec_enc (a ++ (encS n ++ c).extract 0 m) a.size n 0 0 (by omega) (fun h => absurd h (by omega)) (by simpa using h) (by omega) (fun j hj hs => by
    rw [Nat.add_zero] at hs ⊢
    rw [nb_app, if_neg (by omega), show a.size + j - a.size = j from by omega, nb_ext _ _ _ _ (by omega) (by omega), Nat.zero_add, nb_app, if_pos (by rw [encS_size]; exact hj), encS_nb n j hj])]
  rw [if_neg (by rw [hsz, ← encS_size]; omega)]
theorem rU_cut (a c : ByteArray) (n m : Nat) (h : n < 18446744073709551616) (hm : m < (encS n).size) : rU (a ++ (encS n ++ c).extract 0 m) a.size 0 true = (0, a.size, 5) := by
  unfold rU
  rw [if_pos good0, dec_cut a c n m h hm]
end Go.Proofs.Ytnjelebhicheeaa.WireMid

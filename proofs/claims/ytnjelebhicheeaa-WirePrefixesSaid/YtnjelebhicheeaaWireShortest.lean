/- WireShortest, the plain law: what is decoded without an error is encoded as just these bytes (texts of at most 2^44 bytes). -/
import Derived.Test.YtnjelebhicheeaaWireRd
import Derived.Test.YtnjelebhicheeaaWireEx
import Derived.Test.YtnjelebhicheeaaQx8
namespace Go.Proofs.Ytnjelebhicheeaa.WireShortest
open Go.RowKit Go.Proofs.YtnjelebhicheeaaW.PrintWords Go.Proofs.YtnjelebhicheeaaW.PrintLast Go.Proofs.YtnjelebhicheeaaW.PrintMore Go.Proofs.Ytnjelebhicheeaa.Q Go.Proofs.Ytnjelebhicheeaa.Spec Go.Proofs.Ytnjelebhicheeaa.WireEnc Go.Proofs.Ytnjelebhicheeaa.WireDec Go.Proofs.Ytnjelebhicheeaa.WireRd
set_option linter.unusedVariables false
set_option linter.unusedSimpArgs false

theorem dec_bad (s : ByteArray) (p : Nat) : ∀ (d i n : Nat) (b : Int), s.size - (p + i) = d → dec s p i n = .bad b → b = 4 ∨ b = 5 := by
  intro d
  induction d using Nat.strongRecOn with
  | _ d ih =>
    intro i n b hd h
    by_cases hend : p + i < s.size
    · by_cases hf : (i = 9 ∧ 1 < nb s (p + i)) ∨ (0 < i ∧ nb s (p + i) = 0)
      · rw [dec_form hend hf] at h
        injection h with h
        exact .inl h.symm
      · by_cases hl : nb s (p + i) < 128
        · rw [dec_last hend hf hl] at h
          cases h
        · rw [dec_more hend hf hl] at h
          exact ih _ (by omega) (i + 1) _ b rfl h
    · rw [dec_end hend] at h
      injection h with h
      exact .inr h.symm
theorem rU_ok (s : ByteArray) (p : Nat) (hp : p ≤ s.size) (he : (rU s p 0 true).2.2 = 0) : p ≤ (rU s p 0 true).2.1 ∧ (rU s p 0 true).2.1 ≤ s.size ∧ s.extract p (rU s p 0 true).2.1 = encS (rU s p 0 true).1 := by
  unfold rU at he ⊢
  rw [if_pos good0] at he ⊢
  cases h : dec s p 0 0 with
  | bad b =>
    rw [h] at he
    rcases dec_bad s p _ 0 0 b rfl h with hb | hb <;> simp [hb] at he
  | ok n u =>
    obtain ⟨q, h1, h2, h3, h4, h5, h6⟩ := dec_ok s p _ 0 0 n u rfl (by omega) (by simp) h
    simp only [Nat.pow_zero, Nat.mul_one, Nat.zero_add] at h1 h3
    subst h1
    show p ≤ p + u ∧ p + u ≤ s.size ∧ s.extract p (p + u) = encS n
    refine ⟨by omega, h4, ext_nb (by rw [size_ext _ _ _ h4, encS_size]; omega) fun j hj => ?_⟩
    rw [size_ext _ _ _ h4] at hj
    rw [nb_ext _ _ _ _ h4 hj]
    have a1 := h6 j (by omega)
    have a2 := encS_nb n j (by omega)
    rw [Nat.add_zero] at a1
    omega
theorem rC_ok (s : ByteArray) (p : Nat) (most : Int) (hp : p ≤ s.size) (he : (rC s p 0 true most).2.2 = 0) :
    p ≤ (rC s p 0 true most).2.1 ∧ (rC s p 0 true most).2.1 ≤ s.size ∧ s.extract p (rC s p 0 true most).2.1 = encS (rC s p 0 true most).1 := by
  unfold rC at he ⊢
  simp only at he ⊢
  split at he
  · rename_i hg
    rw [if_pos hg]
    split at he
    · simp at he
    · rename_i hc
      rw [if_neg hc]
      exact rU_ok s p hp he
  · rename_i hg
    exact absurd (show good true (rU s p 0 true).2.2 = true from by simp only at he; rw [he]; rfl) hg
theorem rC_most (s : ByteArray) (p : Nat) (e : Int) (m : Bool) (most : Int) : ((rC s p e m most).1 : Int) ≤ mx most 0 := by
  have h0 : (0 : Int) ≤ mx most 0 := by unfold mx; split <;> omega
  unfold rC
  simp only
  split
  · split
    · show ((0 : Nat) : Int) ≤ _
      omega
    · omega
  · show ((0 : Nat) : Int) ≤ _
    omega
theorem ext_join (s : ByteArray) (p q r : Nat) (h1 : p ≤ q) (h2 : q ≤ r) (h3 : r ≤ s.size) : s.extract p q ++ s.extract q r = s.extract p r := by
  apply ext_nb
  · rw [size_app, size_ext _ _ _ (by omega), size_ext _ _ _ h3, size_ext _ _ _ h3]
    omega
  · intro j hj
    rw [size_app, size_ext _ _ _ (by omega), size_ext _ _ _ h3] at hj
    rw [nb_app, size_ext _ _ _ (by omega), nb_ext s p r j h3 (by omega)]
    split
    · rw [nb_ext s p q j (by omega) (by omega)]
    · rw [nb_ext s q r _ h3 (by omega)]
      congr 1
      omega
theorem rT_ok (s : ByteArray) (p : Nat) (most : Int) (hp : p ≤ s.size) (he : (rT s p 0 true most).2.2 = 0) :
    p ≤ (rT s p 0 true most).2.1 ∧ (rT s p 0 true most).2.1 ≤ s.size ∧ s.extract p (rT s p 0 true most).2.1 = encS (rT s p 0 true most).1.size ++ (rT s p 0 true most).1 := by
  unfold rT at he ⊢
  simp only at he ⊢
  split at he
  · rename_i hg
    rw [if_pos hg]
    split at he
    · simp at he
    · rename_i hc
      rw [if_neg hc]
      obtain ⟨h1, h2, h3⟩ := rC_ok s p most hp he
      simp only
      refine ⟨by omega, by omega, ?_⟩
      rw [size_ext _ _ _ (by omega), show (rC s p 0 true most).2.1 + (rC s p 0 true most).1 - (rC s p 0 true most).2.1 = (rC s p 0 true most).1 from by omega, ← h3, ext_join s _ _ _ h1 (by omega) (by omega)]
  · rename_i hg
    exact absurd (show good true (rC s p 0 true most).2.2 = true from by simp only at he; rw [he]; rfl) hg
theorem rT_le (s : ByteArray) (p : Nat) (e : Int) (m : Bool) (most : Int) (hp : p ≤ s.size) (h : most ≤ 9223372036854775807) : (rT s p e m most).1.size ≤ s.size ∧ (rT s p e m most).2.1 ≤ s.size := by
  have hc := rC_le s p e m most hp h
  unfold rT
  simp only
  split
  · split
    · exact ⟨Nat.zero_le _, hc.1⟩
    · simp only
      rw [size_ext _ _ _ (by omega)]
      omega
  · exact ⟨Nat.zero_le _, hc.1⟩
theorem rI_ok (s : ByteArray) (p : Nat) (hp : p ≤ s.size) (he : (rI s p 0 true).2.2 = 0) : p ≤ (rI s p 0 true).2.1 ∧ (rI s p 0 true).2.1 ≤ s.size ∧ s.extract p (rI s p 0 true).2.1 = encS (zig (rI s p 0 true).1) := by
  have h := rU_ok s p hp he
  unfold rI
  simp only
  rw [zig_unzig]
  exact h
theorem rI_range (s : ByteArray) (p : Nat) (e : Int) (m : Bool) (hp : p ≤ s.size) : -9223372036854775808 ≤ (rI s p e m).1 ∧ (rI s p e m).1 ≤ 9223372036854775807 := unzig_range _ (rU_pos s p e m hp).2
theorem ext_none (s : ByteArray) (p : Nat) (hp : p ≤ s.size) : s.extract p p = ByteArray.empty := ext_nb (by rw [size_ext _ _ _ hp]; show p - p = 0; omega) fun j hj => by rw [size_ext _ _ _ hp] at hj; omega
theorem rLg_ok (s : ByteArray) : ∀ (d p : Nat) (acc : List Int), p ≤ s.size → Fits acc → (rLg s d p acc).2.2 = 0 →
    p ≤ (rLg s d p acc).2.1 ∧ (rLg s d p acc).2.1 ≤ s.size ∧ Fits (rLg s d p acc).1 ∧ ∃ l, (rLg s d p acc).1 = acc ++ l ∧ l.length = d ∧ s.extract p (rLg s d p acc).2.1 = encZ l := by
  intro d
  induction d with
  | zero =>
    intro p acc hp hf _
    exact ⟨Nat.le_refl _, hp, hf, [], by rw [List.append_nil]; rfl, rfl, ext_none s p hp⟩
  | succ d ih =>
    intro p acc hp hf he
    rw [rLg] at he ⊢
    split at he
    · rename_i h0
      rw [if_pos h0]
      obtain ⟨h1, h2, h3⟩ := rI_ok s p hp h0
      obtain ⟨g1, g2, g3, l, g4, g5, g6⟩ := ih (rI s p 0 true).2.1 (acc ++ [(rI s p 0 true).1]) h2 (fun x hx => by
        rcases List.mem_append.1 hx with hx | hx
        · exact hf x hx
        · rw [List.mem_singleton] at hx
          subst hx
          exact rI_range s p 0 true hp) he
      refine ⟨by omega, g2, g3, (rI s p 0 true).1 :: l, by rw [g4, List.append_assoc, List.singleton_append], by rw [List.length_cons, g5], ?_⟩
      rw [encZ, ← h3, ← g6, ext_join s _ _ _ h1 g1 g2]
    · rename_i h0
      simp only at he
      exact absurd he h0
theorem rL_ok (s : ByteArray) (p : Nat) (most : Int) (hp : p ≤ s.size) (he : (rL s p 0 true most).2.2 = 0) :
    p ≤ (rL s p 0 true most).2.1 ∧ (rL s p 0 true most).2.1 ≤ s.size ∧ Fits (rL s p 0 true most).1 ∧ (rL s p 0 true most).1.length = (rC s p 0 true most).1 ∧ s.extract p (rL s p 0 true most).2.1 = encS (rL s p 0 true most).1.length ++ encZ (rL s p 0 true most).1 := by
  unfold rL at he ⊢
  split at he
  · rename_i hg
    rw [if_pos hg]
    have h0 : (rC s p 0 true most).2.2 = 0 := by
      unfold good at hg
      simpa using hg
    obtain ⟨h1, h2, h3⟩ := rC_ok s p most hp h0
    obtain ⟨g1, g2, g3, l, g4, g5, g6⟩ := rLg_ok s (rC s p 0 true most).1 (rC s p 0 true most).2.1 [] h2 (fun x hx => by cases hx) he
    rw [List.nil_append] at g4
    refine ⟨by omega, g2, g3, by rw [g4, g5], ?_⟩
    rw [g4, g5, ← h3, ← g6, ext_join s _ _ _ h1 g1 g2]
  · rename_i hg
    exact absurd (show good true (rC s p 0 true most).2.2 = true from by simp only at he; rw [he]; rfl) hg
theorem rL_bad (s : ByteArray) (p : Nat) (most : Int) (he : ¬ (rL s p 0 true most).2.2 = 0) : (rL s p 0 true most).1 = [] := by
  have hg : ∀ (d p : Nat) (acc : List Int), ¬ (rLg s d p acc).2.2 = 0 → (rLg s d p acc).1 = [] := by
    intro d
    induction d with
    | zero => intro p acc h; exact absurd rfl h
    | succ d ih =>
      intro p acc h
      rw [rLg] at h ⊢
      split
      · rename_i h0
        rw [if_pos h0] at h
        exact ih _ _ h
      · rfl
  unfold rL at he ⊢
  split
  · rename_i h0
    rw [if_pos h0] at he
    exact hg _ _ _ he
  · rfl

theorem j1_ok (s t : ByteArray) (x : Nat) (p k : Nat) (e : Int) (hs : s.size ≤ 17592186044416) (hx : x < 4) (hp : p ≤ s.size) (h : e = 0 → s.extract 0 p = t) :
    imageeditorlaw04_WireShortest.j1 (k + 1) s (x : Int) t s (p : Int) e true = imageeditorlaw04_WireShortest.l0 k s ((x + 1 : Nat) : Int) := by
  simp only [imageeditorlaw04_WireShortest.j1]
  rw [err_eq, Option.bind_some]
  simp only
  rw [show rErr e true = e from by unfold rErr; rw [if_pos rfl], wrap_id ((x : Int) + 1) (by omega) (by omega)]
  by_cases he : e = 0
  · subst he
    rw [if_pos rfl, left_eq s p 0 true (by omega) hp, Option.bind_some]
    simp only
    rw [show rLeft s p 0 true = (s.size : Int) - (p : Int) from by unfold rLeft; rw [if_pos good0], wrap_id _ (by omega) (by omega), if_neg (by omega), if_neg (by omega), if_pos (by omega), if_pos (by omega)]
    rw [if_pos (by rw [show ((s.size : Int) - ((s.size : Int) - (p : Int))).toNat = p from by omega, h rfl])]
    rfl
  · rw [if_neg he]
    rfl

theorem law (s : ByteArray) (hs : s.size ≤ 17592186044416) : imageeditorlaw04_WireShortest.f (s.size + 100) s = some true := by
  unfold imageeditorlaw04_WireShortest.f
  obtain ⟨k, hk⟩ : ∃ k, s.size + 100 = k + 9 := ⟨s.size + 91, by omega⟩
  rw [hk, show (0 : Int) = ((0 : Nat) : Int) from rfl]
  have u0 := rU_pos s 0 0 true (by omega)
  have c1 := rC_le s 0 0 true (s.size : Int) (by omega) (by omega)
  -- Uint
  simp only [imageeditorlaw04_WireShortest.l0]
  rw [if_pos (by omega), new_eq, Option.bind_some]
  simp only
  rw [if_pos (by omega), uint_eq s 0 _ 0 true (by omega) (by omega) (by omega), Option.bind_some]
  simp only
  rw [wire_Uint_eq _ _ u0.2 (by omega), Option.bind_some, j1_ok s _ 0 _ _ _ hs (by omega) u0.1 (fun he => (rU_ok s 0 (by omega) he).2.2)]
  -- Int
  simp only [imageeditorlaw04_WireShortest.l0]
  rw [if_pos (by omega), new_eq, Option.bind_some]
  simp only
  rw [if_neg (by omega), if_pos (by omega), int_eq s 0 _ 0 true (by omega) (by omega) (by omega), Option.bind_some]
  simp only
  have ir := rI_range s 0 0 true (by omega)
  rw [wire_Int_eq _ _ ir.1 ir.2 (by omega), Option.bind_some, j1_ok s _ 1 _ _ _ hs (by omega) (rI_pos s 0 0 true (by omega)) (fun he => (rI_ok s 0 (by omega) he).2.2)]
  -- Text
  simp only [imageeditorlaw04_WireShortest.l0]
  rw [if_pos (by omega), new_eq, Option.bind_some]
  simp only
  rw [if_neg (by omega), if_neg (by omega), if_pos (by omega), text_eq s 0 _ 0 true _ (by omega) (by omega) (by omega) (by omega), Option.bind_some]
  simp only
  have tr := rT_le s 0 0 true (s.size : Int) (by omega) (by omega)
  rw [wire_Text_eq _ _ (by omega) (by omega), Option.bind_some, j1_ok s _ 2 _ _ _ hs (by omega) tr.2 (fun he => (rT_ok s 0 _ (by omega) he).2.2)]
  -- Ints
  have cm := rC_most s 0 0 true (s.size : Int)
  have cm2 : (rC s 0 0 true (s.size : Int)).1 ≤ s.size := by unfold mx at cm; split at cm <;> omega
  simp only [imageeditorlaw04_WireShortest.l0]
  rw [if_pos (by omega), new_eq, Option.bind_some]
  simp only
  rw [if_neg (by omega), if_neg (by omega), if_neg (by omega), if_pos (by omega), ints_eq s 0 _ 0 true _ (by omega) (by omega) (by omega) (by omega) (by omega), Option.bind_some]
  simp only
  have hw : wire_Ints.f (rL s 0 0 true (s.size : Int)).1 = some (encS (rL s 0 0 true (s.size : Int)).1.length ++ encZ (rL s 0 0 true (s.size : Int)).1) := by
    by_cases he : (rL s 0 0 true (s.size : Int)).2.2 = 0
    · obtain ⟨g1, g2, g3, g4, g5⟩ := rL_ok s 0 _ (by omega) he
      exact WireEx.ints_eq _ (by omega) g3
    · rw [rL_bad s 0 _ he]
      exact WireEx.ints_eq [] (by simp) (fun x hx => by cases hx)
  rw [hw, Option.bind_some, j1_ok s _ 3 _ _ _ hs (by omega) (rL_pos s 0 0 true _ (by omega) (by omega)) (fun he => (rL_ok s 0 _ (by omega) he).2.2.2.2)]
  -- the examples
  simp only [imageeditorlaw04_WireShortest.l0]
  rw [if_neg (by omega), WireEx.example_ok _ (by omega), Option.bind_some]

end Go.Proofs.Ytnjelebhicheeaa.WireShortest

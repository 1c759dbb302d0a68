/- JournalGrows, the plain law (inputs of at most 1048576 bytes): a journal to which a record was appended has one record more. -/
import Derived.Test.YtnppfhjfnjinlaaJrnSc
import Derived.Test.YtnppfhjfnjinlaaQx7
namespace Go.Proofs.Ytnppfhjfnjinlaa.JrnGrows
open Go.RowKit Go.Proofs.YtnppfhjfnjinlaaW.PrintWords Go.Proofs.YtnppfhjfnjinlaaW.PrintLast Go.Proofs.YtnppfhjfnjinlaaW.PrintMore Go.Proofs.Ytnppfhjfnjinlaa.Q Go.Proofs.Ytnppfhjfnjinlaa.Spec Go.Proofs.Ytnppfhjfnjinlaa.CrcSpec Go.Proofs.Ytnppfhjfnjinlaa.WireEnc Go.Proofs.Ytnppfhjfnjinlaa.WireDec Go.Proofs.Ytnppfhjfnjinlaa.WireMid Go.Proofs.Ytnppfhjfnjinlaa.DigP Go.Proofs.Ytnppfhjfnjinlaa.JrnP Go.Proofs.Ytnppfhjfnjinlaa.JrnX Go.Proofs.Ytnppfhjfnjinlaa.JrnSc
set_option linter.unusedVariables false
set_option linter.unusedSimpArgs false

/-! ### what was read is read with anything behind it -/
theorem dec_app (s c : ByteArray) (p : Nat) : ∀ (d i n m u : Nat), s.size - (p + i) = d → dec s p i n = .ok m u → dec (s ++ c) p i n = .ok m u := by
  intro d
  induction d using Nat.strongRecOn with
  | _ d ih =>
    intro i n m u hd h
    by_cases hend : p + i < s.size
    · have hn : nb (s ++ c) (p + i) = nb s (p + i) := by rw [nb_app, if_pos hend]
      have hend2 : p + i < (s ++ c).size := by rw [size_app]; omega
      by_cases hf : (i = 9 ∧ 1 < nb s (p + i)) ∨ (0 < i ∧ nb s (p + i) = 0)
      · rw [dec_form hend hf] at h
        cases h
      · by_cases hl : nb s (p + i) < 128
        · rw [dec_last hend hf hl] at h
          rw [dec_last hend2 (by rw [hn]; exact hf) (by rw [hn]; exact hl), hn]
          exact h
        · rw [dec_more hend hf hl] at h
          rw [dec_more hend2 (by rw [hn]; exact hf) (by rw [hn]; exact hl), hn]
          exact ih _ (by omega) (i + 1) _ m u rfl h
    · rw [dec_end hend] at h
      cases h
theorem ext_in (s c : ByteArray) (a b : Nat) (hb : b ≤ s.size) : (s ++ c).extract a b = s.extract a b := by
  have hz : (s ++ c).size = s.size + c.size := size_app s c
  apply ext_nb
  · rw [size_ext _ _ _ (by omega), size_ext _ _ _ hb]
  · intro j hj
    rw [size_ext _ _ _ (by omega)] at hj
    rw [nb_ext _ _ _ _ (by omega) hj, nb_ext _ _ _ _ hb hj, nb_app, if_pos (by omega)]
theorem ext_behind (s c : ByteArray) (a : Nat) (ha : a ≤ s.size) : (s ++ c).extract a (s ++ c).size = s.extract a s.size ++ c := by
  have hz : (s ++ c).size = s.size + c.size := size_app s c
  have hz2 : (s.extract a s.size).size = s.size - a := size_ext _ _ _ (by omega)
  apply ext_nb
  · rw [size_ext _ _ _ (by omega), size_app (s.extract a s.size), hz2]
    omega
  · intro j hj
    rw [size_ext _ _ _ (by omega)] at hj
    rw [nb_ext _ _ _ _ (by omega) hj, nb_app, nb_app, hz2]
    by_cases h : j < s.size - a
    · rw [if_pos (by omega), if_pos h, nb_ext _ _ _ _ (by omega) h]
    · rw [if_neg (by omega), if_neg h, show a + j - s.size = j - (s.size - a) from by omega]
theorem open_app (s c : ByteArray) (h : (openS s).2.2 = 0) : openS (s ++ c) = openS s := by
  unfold openS at h ⊢
  cases hd : dec s 0 0 0 with
  | bad b =>
    rw [hd] at h
    rcases dec_bad s 0 _ 0 0 b rfl hd with hb | hb <;> simp [hb] at h
  | ok n u =>
    rw [hd] at h
    rw [dec_app s c 0 _ 0 0 n u rfl hd]
    simp only at h ⊢
    by_cases c1 : 1048576 < n
    · rw [if_pos c1] at h
      simp at h
    · rw [if_neg c1] at h ⊢
      rw [if_neg c1]
      by_cases c2 : s.size < u + n + 4
      · rw [if_pos c2] at h
        simp at h
      · rw [if_neg c2] at h ⊢
        rw [if_neg (by rw [size_app]; omega), ext_in _ _ _ _ (by omega), ext_in _ _ _ _ (by omega), ext_in _ _ _ _ (by omega)]
theorem rec_app (s c : ByteArray) (b : Nat) (h : (rec_ s b).2.2.2.2 = 0) : rec_ (s ++ c) b = rec_ s b := by
  have ho : (openS s).2.2 = 0 := by
    unfold rec_ at h
    by_cases ho : (openS s).2.2 = 0
    · exact ho
    · rw [if_neg ho] at h
      exact absurd h ho
  unfold rec_
  rw [open_app s c ho]
theorem header_app (s c : ByteArray) (h : (header s).2.2 = 0) : header (s ++ c) = header s := by
  unfold header at h ⊢
  by_cases h4 : 4 ≤ s.size ∧ s.extract 0 4 = magic
  · rw [if_pos h4] at h
    have ho : (openS (s.extract 4 s.size)).2.2 = 0 := by
      by_cases ho : (openS (s.extract 4 s.size)).2.2 = 0
      · exact ho
      · rw [if_neg ho] at h
        exact absurd h ho
    rw [if_pos h4, if_pos ⟨by rw [size_app]; omega, by rw [ext_in _ _ _ _ h4.1]; exact h4.2⟩, ext_behind _ _ _ h4.1, open_app _ c ho]
  · rw [if_neg h4] at h
    simp at h
theorem header_le (s : ByteArray) (h : (header s).2.2 = 0) : (header s).2.1.toNat ≤ s.size := by
  unfold header at h ⊢
  split at h
  · rename_i h1
    have hz : (s.extract 4 s.size).size = s.size - 4 := size_ext _ _ _ (by omega)
    have hh := h1.1
    rw [if_pos h1]
    split at h
    · rename_i h2
      obtain ⟨n, e1, _, e3, _⟩ := open_range _ h2
      rw [if_pos h2]
      split at h
      · rename_i h3
        rw [if_pos h3]
        split at h
        · simp at h
        · rename_i h4
          rw [if_neg h4, e1]
          show ((4 : Int) + (n : Int)).toNat ≤ s.size
          omega
      · simp at h
    · rename_i h2
      exact absurd h h2
  · simp at h
/-- Scan of a whole journal goes on behind it -/
theorem scan_app (s c : ByteArray) : ∀ (d : Nat) (l : List Rc) (p : Nat), p ≤ s.size → s.size ≤ p + d → (scanG s d l p).2.2 = 0 →
    (scanG s d l p).2.1 = s.size ∧ ∃ d1, (scanG s d l p).1.length = l.length + d1 ∧ ∀ e, scanG (s ++ c) (d1 + e) l p = scanG (s ++ c) e (scanG s d l p).1 s.size := by
  intro d
  induction d with
  | zero =>
    intro l p h1 h2 _
    obtain rfl : p = s.size := by omega
    exact ⟨rfl, 0, rfl, fun e => by rw [Nat.zero_add]; rfl⟩
  | succ d ih =>
    intro l p h1 h2 h3
    by_cases hp : p < s.size
    · by_cases he : (rec_ (s.extract p s.size) l.length).2.2.2.2 = 0
      · obtain ⟨n, e1, e2, e3⟩ := rec_range _ _ he
        rw [size_ext _ _ _ (by omega)] at e3
        have hs : scanG s (d + 1) l p = scanG s d (l ++ [⟨(rec_ (s.extract p s.size) l.length).1, (rec_ (s.extract p s.size) l.length).2.1, (rec_ (s.extract p s.size) l.length).2.2.1⟩]) (p + n) := by rw [scanG, if_pos hp, if_pos he, e1, Int.toNat_natCast]
        rw [hs] at h3 ⊢
        obtain ⟨r1, d1, r2, r3⟩ := ih _ (p + n) (by omega) (by omega) h3
        refine ⟨r1, d1 + 1, by rw [r2, List.length_append, List.length_singleton]; omega, fun e => ?_⟩
        have hr : rec_ ((s ++ c).extract p (s ++ c).size) l.length = rec_ (s.extract p s.size) l.length := by rw [ext_behind _ _ _ (by omega), rec_app _ _ _ he]
        rw [show d1 + 1 + e = (d1 + e) + 1 from by omega, scanG, if_pos (by rw [size_app]; omega), hr, if_pos he, e1, Int.toNat_natCast]
        exact r3 e
      · rw [scanG, if_pos hp, if_neg he] at h3
        exact absurd h3 he
    · obtain rfl : p = s.size := by omega
      have hs : scanG s (d + 1) l s.size = (l, s.size, 0) := by rw [scanG, if_neg (by omega)]
      rw [hs]
      exact ⟨rfl, 0, rfl, fun e => by rw [Nat.zero_add]⟩

/-! ### the law -/
theorem grown (j : ByteArray) (kind seq : Int) (d : ByteArray) (h0 : (scanS j).2.2.2 = 0) (hseq : seq = (((scanS j).2.1.length + 1 : Nat) : Int)) (he : (encode kind seq d).2 = 0) :
    scanS (j ++ (encode kind seq d).1) = ((scanS j).1, (scanS j).2.1 ++ [⟨kind, seq, d⟩], (((j ++ (encode kind seq d).1).size : Nat) : Int), 0) := by
  have hh : (header j).2.2 = 0 := by
    unfold scanS at h0
    by_cases hh : (header j).2.2 = 0
    · exact hh
    · rw [if_neg hh] at h0
      exact absurd h0 hh
  have hs : scanS j = ((header j).1, (scanG j j.size [] (header j).2.1.toNat).1, ((scanG j j.size [] (header j).2.1.toNat).2.1 : Int), (scanG j j.size [] (header j).2.1.toNat).2.2) := by
    unfold scanS
    rw [if_pos hh]
  have hp := header_le j hh
  have hl := scanS_len j
  have hsz := size_app j (encode kind seq d).1
  obtain ⟨_, _, _, _, hez, he5⟩ := encode_ok kind seq d he
  have ha := header_app j (encode kind seq d).1 hh
  rw [hs] at h0 hseq hl ⊢
  have h0' : (scanG j j.size [] (header j).2.1.toNat).2.2 = 0 := h0
  have hseq' : seq = (((scanG j j.size [] (header j).2.1.toNat).1.length + 1 : Nat) : Int) := hseq
  have hl' : (scanG j j.size [] (header j).2.1.toNat).1.length ≤ j.size := hl
  obtain ⟨_, d1, r2, r3⟩ := scan_app j (encode kind seq d).1 j.size [] (header j).2.1.toNat hp (by omega) h0'
  clear h0 hseq hl hs
  generalize (scanG j j.size [] (header j).2.1.toNat).1 = l at hseq' hl' r2 r3 ⊢
  rw [List.length_nil, Nat.zero_add] at r2
  have hr : rec_ ((j ++ (encode kind seq d).1).extract j.size (j ++ (encode kind seq d).1).size) l.length = (kind, seq, d, (((encode kind seq d).1.size : Nat) : Int), 0) := by
    rw [ext_tail]
    have := rec_enc kind seq d ByteArray.empty l.length he hseq'
    rw [app_empty] at this
    exact this
  obtain ⟨E, hE⟩ : ∃ E, (j ++ (encode kind seq d).1).size = d1 + (E + 2) := ⟨(j ++ (encode kind seq d).1).size - d1 - 2, by omega⟩
  have hg : scanG (j ++ (encode kind seq d).1) (j ++ (encode kind seq d).1).size [] (header j).2.1.toNat = (l ++ [⟨kind, seq, d⟩], (j ++ (encode kind seq d).1).size, 0) := by
    rw [show scanG (j ++ (encode kind seq d).1) (j ++ (encode kind seq d).1).size [] (header j).2.1.toNat = scanG (j ++ (encode kind seq d).1) (d1 + (E + 2)) [] (header j).2.1.toNat from by rw [← hE], r3, scanG, if_pos (by omega), hr]
    simp only
    rw [if_pos trivial, Int.toNat_natCast, ← hsz, scanG, if_neg (by omega)]
  unfold scanS
  rw [ha, if_pos hh, hg]
theorem law (j : ByteArray) (kind seq : Int) (d : ByteArray) (hj : j.size ≤ 1048576) (hd : d.size ≤ 1048576) (hs : -9223372036854775808 ≤ seq ∧ seq ≤ 9223372036854775807) :
    imageeditorlaw44_JournalGrows.f 1048800 j kind seq d = some true := by
  have hl := scanS_len j
  unfold imageeditorlaw44_JournalGrows.f
  rw [append_f j kind seq d _ hj hd hs (by omega), Option.bind_some]
  by_cases h0 : (appendS j kind seq d).2 = 0
  · rw [if_pos h0]
    unfold appendS at h0 ⊢
    by_cases h1 : (scanS j).2.2.2 = 0
    · rw [if_pos h1] at h0 ⊢
      by_cases h2 : seq = (((scanS j).2.1.length + 1 : Nat) : Int)
      · rw [if_pos h2] at h0 ⊢
        by_cases h3 : (encode kind seq d).2 = 0
        · rw [if_pos h3] at h0 ⊢
          by_cases h4 : j.size + (encode kind seq d).1.size > 1048576
          · rw [if_pos h4] at h0
            simp at h0
          · rw [if_neg h4]
            have hz := size_app j (encode kind seq d).1
            have hg := grown j kind seq d h1 h2 h3
            have hk1 : journal_Scan.f 1048800 j = some (scanS j) := scan_f j _ hj (by omega)
            have hk2 : journal_Scan.f 1048800 (j ++ (encode kind seq d).1) = some (scanS (j ++ (encode kind seq d).1)) := scan_f _ _ (by omega) (by omega)
            have hw : journal_Whole.f 1048800 (j ++ (encode kind seq d).1) = some true := by
              unfold journal_Whole.f
              rw [hk2, hg, Option.bind_some]
              rfl
            rw [hk1, Option.bind_some]
            simp only
            rw [hk2, Option.bind_some, hg, hw]
            simp only
            generalize scanS j = sc at hl h2 ⊢
            have hlen : (sc.2.1 ++ [(⟨kind, seq, d⟩ : Rc)]).length = sc.2.1.length + 1 := by rw [List.length_append, List.length_singleton]
            have ht : (sc.2.1 ++ [(⟨kind, seq, d⟩ : Rc)]).take sc.2.1.length = sc.2.1 := by rw [List.take_left']; rfl
            have hrd : rd_T23 (sc.2.1 ++ [(⟨kind, seq, d⟩ : Rc)]) (sc.2.1.length : Int) = ⟨kind, seq, d⟩ := by
              unfold rd_T23
              rw [Int.toNat_natCast, List.getD_eq_getElem?_getD, List.getElem?_append_right (Nat.le_refl _), Nat.sub_self]
              rfl
            rw [if_pos trivial, if_pos trivial, hlen, if_pos (by rw [wrap_id _ (by omega) (by omega)]; omega), if_pos (by omega), if_pos (by omega), Int.toNat_natCast, ht, same_eq _ _ (by omega) (by omega), Option.bind_some, if_pos rfl, if_pos (by omega), hrd, if_pos (by simp), if_pos trivial, Option.bind_some, if_pos rfl, example_ok _ (by omega), Option.bind_some]
        · rw [if_neg h3] at h0
          exact absurd h0 h3
      · rw [if_neg h2] at h0
        simp at h0
    · rw [if_neg h1] at h0
      exact absurd h0 h1
  · rw [if_neg h0, example_ok _ (by omega), Option.bind_some]

end Go.Proofs.Ytnppfhjfnjinlaa.JrnGrows

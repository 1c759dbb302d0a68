/- The reference's header, record and Scan of the journal are the program's. -/
import Derived.Test.YtnppfhjfnjinlaaJrnX
import Derived.Test.YtnppfhjfnjinlaaDigRO
import Derived.Test.YtnppfhjfnjinlaaRefRd
import Derived.Test.YtnppfhjfnjinlaaQx9
import Derived.Test.YtnppfhjfnjinlaaQx14
namespace Go.Proofs.Ytnppfhjfnjinlaa.JrnRS
open Go.RowKit Go.Proofs.YtnppfhjfnjinlaaW.PrintWords Go.Proofs.YtnppfhjfnjinlaaW.PrintLast Go.Proofs.YtnppfhjfnjinlaaW.PrintMore Go.Proofs.Ytnppfhjfnjinlaa.Q Go.Proofs.Ytnppfhjfnjinlaa.Spec Go.Proofs.Ytnppfhjfnjinlaa.CrcSpec Go.Proofs.Ytnppfhjfnjinlaa.WireEnc Go.Proofs.Ytnppfhjfnjinlaa.WireDec Go.Proofs.Ytnppfhjfnjinlaa.WireMid Go.Proofs.Ytnppfhjfnjinlaa.DigP Go.Proofs.Ytnppfhjfnjinlaa.DigRO Go.Proofs.Ytnppfhjfnjinlaa.RefRd Go.Proofs.Ytnppfhjfnjinlaa.JrnP Go.Proofs.Ytnppfhjfnjinlaa.JrnX
set_option linter.unusedVariables false
set_option linter.unusedSimpArgs false

theorem new_eq2 (s : ByteArray) : imageeditorref04_New.f s = some (s, ((0 : Nat) : Int), 0, true) := rfl
theorem known_eq (x : Int) : imageeditorref44_known.f x = some (decide (1 ≤ x ∧ x ≤ 6)) := by
  unfold imageeditorref44_known.f
  by_cases h : x ≥ 1
  · rw [if_pos h]
    congr 1
    simp [show 1 ≤ x from h]
  · rw [if_neg h]
    congr 1
    simp [show ¬ 1 ≤ x from h]
theorem magic_list : magic.toList = ([73, 69, 74, 49] : List UInt8) := by rw [toList_eq]; rfl
theorem rheader_eq (j : ByteArray) (k : Nat) (hs : j.size ≤ 4611686018427386000) (hk : 10 * j.size + 200 ≤ k) : imageeditorref44_header.f k j = some (header j) := by
  obtain ⟨k, rfl⟩ : ∃ m, k = m + 1 := ⟨k - 1, by omega⟩
  unfold imageeditorref44_header.f header
  simp only [imageeditorref44_header.j0]
  by_cases h4 : j.size < 4
  · rw [if_pos (by omega), if_pos trivial, if_neg (fun h => by have := h.1; omega)]
  · have hz : (j.extract 4 j.size).size = j.size - 4 := size_ext _ _ _ (by omega)
    rw [if_neg (by omega), if_pos (by omega), if_pos (by omega)]
    by_cases hx : j.extract 0 4 = magic
    · have hb : ((j.extract 0 4).toList != ([73, 69, 74, 49] : List UInt8)) = false := by rw [hx, magic_list]; rfl
      have h44 : 4 ≤ j.size ∧ j.extract 0 4 = magic := ⟨by omega, hx⟩
      rw [hb, if_neg (by simp), if_pos (by omega), if_pos h44, ropen_eq _ _ (by omega) (by omega), Option.bind_some]
      by_cases he : (openS (j.extract 4 j.size)).2.2 = 0
      · obtain ⟨n, e1, e2, e3, e4⟩ := open_range _ he
        rw [if_pos he, if_pos he, e1]
        generalize (openS (j.extract 4 j.size)).1 = p at e4 ⊢
        rw [new_eq2, Option.bind_some]
        simp only
        rw [ruint_eq p 0 k 0 true (by omega) (by omega) (by omega), Option.bind_some]
        simp only
        rw [rend_eq, Option.bind_some]
        simp only
        by_cases hend : rEnd p (rU p 0 0 true).2.1 (rU p 0 0 true).2.2 true = 0
        · rw [if_pos hend, if_pos hend]
          by_cases h1 : (rU p 0 0 true).1 < 1
          · rw [if_pos (by omega), if_pos (.inl h1)]
          · rw [if_neg (by omega)]
            by_cases h2 : 1073741824 < (rU p 0 0 true).1
            · rw [if_pos (by omega), if_pos (.inr h2)]
            · have h12 : ¬ ((rU p 0 0 true).1 < 1 ∨ 1073741824 < (rU p 0 0 true).1) := by omega
              rw [if_neg (by omega), if_neg h12, wrap_id _ (by omega) (by omega), wrap_id _ (by omega) (by omega)]
        · rw [if_neg hend, if_neg hend]
      · rw [if_neg he, if_neg he]
    · have hb : ((j.extract 0 4).toList != ([73, 69, 74, 49] : List UInt8)) = true := by
        rw [bne_iff_ne, ← magic_list]
        exact fun h => hx (toList_inj.1 h)
      rw [hb, if_pos rfl, if_neg (fun h => hx h.2)]
theorem rrec_eq (s : ByteArray) (b k : Nat) (hs : s.size ≤ 4611686018427386000) (hb : b < 4611686018427387904) (hk : 10 * s.size + 200 ≤ k) : imageeditorref44_record.f k s ((b + 1 : Nat) : Int) = some (rec_ s b) := by
  unfold imageeditorref44_record.f rec_
  rw [ropen_eq _ _ (by omega) (by omega), Option.bind_some]
  by_cases he : (openS s).2.2 = 0
  · obtain ⟨n, e1, e2, e3, e4⟩ := open_range _ he
    rw [if_pos he, if_pos he]
    generalize (openS s).1 = p at e4 ⊢
    have hu := rU_pos p 0 0 true (by omega)
    rw [new_eq2, Option.bind_some]
    simp only
    rw [ruint_eq p 0 k 0 true (by omega) (by omega) (by omega), Option.bind_some]
    simp only
    generalize rU p 0 0 true = u at hu ⊢
    have hv := rU_pos p u.2.1 u.2.2 true hu.1
    rw [ruint_eq p u.2.1 k u.2.2 true (by omega) hu.1 (by omega), Option.bind_some]
    simp only
    generalize rU p u.2.1 u.2.2 true = v at hv ⊢
    rw [rtext_eq p v.2.1 k v.2.2 true 1048576 (by omega) hv.1 (by omega) (by omega), Option.bind_some]
    simp only
    generalize rT p v.2.1 v.2.2 true 1048576 = t
    rw [rend_eq, Option.bind_some]
    simp only
    by_cases hend : rEnd p t.2.1 t.2.2 true = 0
    · rw [if_pos hend, if_pos hend, known_eq, Option.bind_some]
      by_cases h1 : u.1 < 1 ∨ 6 < u.1
      · rw [if_pos h1, if_neg (by simp only [decide_eq_true_eq]; omega)]
        rfl
      · rw [if_neg h1, if_pos (decide_eq_true (by omega)), wrap_u64, show ((b + 1 : Nat) : Int) % 18446744073709551616 = ((b + 1 : Nat) : Int) from by omega]
        by_cases h3 : v.1 = b + 1
        · rw [if_pos (by omega), if_pos h3, wrap_id _ (by omega) (by omega)]
        · rw [if_neg (by omega), if_neg h3]
          rfl
    · rw [if_neg hend, if_neg hend]
      rfl
  · rw [if_neg he, if_neg he]
    rfl

/-! ### Scan -/
def scanG (s : ByteArray) : Nat → List Rc → Nat → List Rc × Nat × Int
  | 0, l, p => (l, p, 0)
  | d + 1, l, p => if p < s.size then
      (if (rec_ (s.extract p s.size) l.length).2.2.2.2 = 0 then scanG s d (l ++ [⟨(rec_ (s.extract p s.size) l.length).1, (rec_ (s.extract p s.size) l.length).2.1, (rec_ (s.extract p s.size) l.length).2.2.1⟩]) (p + (rec_ (s.extract p s.size) l.length).2.2.2.1.toNat)
      else (l, p, (rec_ (s.extract p s.size) l.length).2.2.2.2)) else (l, p, 0)
theorem scanG_len (s : ByteArray) : ∀ (d : Nat) (l : List Rc) (p : Nat), (scanG s d l p).1.length ≤ l.length + d
  | 0, l, p => by rw [scanG]; exact Nat.le_add_right _ _
  | d + 1, l, p => by
    rw [scanG]
    split
    · split
      · refine Nat.le_trans (scanG_len s d _ _) ?_
        rw [List.length_append, List.length_singleton]
        omega
      · show l.length ≤ _; omega
    · show l.length ≤ _; omega
theorem scan_eq (s : ByteArray) (g : Int) (hs : s.size ≤ 1048576) : ∀ (d : Nat) (l : List Rc) (p k : Nat), s.size ≤ p + d → l.length + d ≤ 2097152 → d + 30 ≤ k →
    journal_Scan.l0 k s g l (p : Int) = some (g, (scanG s d l p).1, ((scanG s d l p).2.1 : Int), (scanG s d l p).2.2) := by
  intro d
  induction d with
  | zero =>
    intro l p k hp hl hk
    obtain ⟨k, rfl⟩ : ∃ m, k = m + 1 := ⟨k - 1, by omega⟩
    rw [scan_end _ _ _ _ _ (by omega)]
    rfl
  | succ d ih =>
    intro l p k hp hl hk
    obtain ⟨k, rfl⟩ : ∃ m, k = m + 1 := ⟨k - 1, by omega⟩
    by_cases h : p < s.size
    · by_cases he : (rec_ (s.extract p s.size) l.length).2.2.2.2 = 0
      · obtain ⟨n, e1, e2, e3⟩ := rec_range _ _ he
        rw [scan_ok s g l p k n (by omega) h (by omega) (by omega) he e1, ih _ _ _ (by omega) (by rw [List.length_append, List.length_singleton]; omega) (by omega)]
        rw [show scanG s (d + 1) l p = scanG s d (l ++ [⟨(rec_ (s.extract p s.size) l.length).1, (rec_ (s.extract p s.size) l.length).2.1, (rec_ (s.extract p s.size) l.length).2.2.1⟩]) (p + n) from by rw [scanG, if_pos h, if_pos he, e1, Int.toNat_natCast]]
      · rw [scan_err s g l p k (by omega) h (by omega) (by omega) he]
        rw [show scanG s (d + 1) l p = (l, p, (rec_ (s.extract p s.size) l.length).2.2.2.2) from by rw [scanG, if_pos h, if_neg he]]
    · rw [scan_end _ _ _ _ _ (by omega)]
      rw [show scanG s (d + 1) l p = (l, p, 0) from by rw [scanG, if_neg h]]
theorem rscan_eq (s : ByteArray) (g : Int) (hs : s.size ≤ 1048576) : ∀ (d : Nat) (l : List Rc) (p k : Nat), s.size ≤ p + d → l.length + d ≤ 2097152 → d + 10485960 + 30 ≤ k →
    imageeditorref44_Scan.l0 k s g (p : Int) l = some (g, (scanG s d l p).1, ((scanG s d l p).2.1 : Int), (scanG s d l p).2.2) := by
  intro d
  induction d with
  | zero =>
    intro l p k hp hl hk
    obtain ⟨k, rfl⟩ : ∃ m, k = m + 1 := ⟨k - 1, by omega⟩
    simp only [imageeditorref44_Scan.l0]
    rw [if_neg (by omega)]
    rfl
  | succ d ih =>
    intro l p k hp hl hk
    obtain ⟨k, rfl⟩ : ∃ m, k = m + 1 := ⟨k - 1, by omega⟩
    simp only [imageeditorref44_Scan.l0]
    by_cases h : p < s.size
    · have hz : (s.extract p s.size).size = s.size - p := size_ext _ _ _ (by omega)
      rw [if_pos (by omega), if_pos (by omega), if_pos (by omega), Int.toNat_natCast, show wrap64 ((l.length : Int) + 1) = ((l.length + 1 : Nat) : Int) from by rw [wrap_id _ (by omega) (by omega)]; omega, rrec_eq _ _ _ (by omega) (by omega) (by omega), Option.bind_some]
      by_cases he : (rec_ (s.extract p s.size) l.length).2.2.2.2 = 0
      · obtain ⟨n, e1, e2, e3⟩ := rec_range _ _ he
        rw [if_pos he, if_pos (by omega), e1, show wrap64 ((p : Int) + (n : Int)) = ((p + n : Nat) : Int) from by rw [wrap_id _ (by omega) (by omega)]; omega, ih _ _ _ (by omega) (by rw [List.length_append, List.length_singleton]; omega) (by omega)]
        rw [show scanG s (d + 1) l p = scanG s d (l ++ [⟨(rec_ (s.extract p s.size) l.length).1, (rec_ (s.extract p s.size) l.length).2.1, (rec_ (s.extract p s.size) l.length).2.2.1⟩]) (p + n) from by rw [scanG, if_pos h, if_pos he, e1, Int.toNat_natCast]]
      · rw [if_neg he]
        rw [show scanG s (d + 1) l p = (l, p, (rec_ (s.extract p s.size) l.length).2.2.2.2) from by rw [scanG, if_pos h, if_neg he]]
    · rw [if_neg (by omega)]
      rw [show scanG s (d + 1) l p = (l, p, 0) from by rw [scanG, if_neg h]]
/-- what Scan answers -/
def scanS (s : ByteArray) : Int × List Rc × Int × Int :=
  if (header s).2.2 = 0 then ((header s).1, (scanG s s.size [] (header s).2.1.toNat).1, ((scanG s s.size [] (header s).2.1.toNat).2.1 : Int), (scanG s s.size [] (header s).2.1.toNat).2.2) else (0, [], 0, (header s).2.2)
theorem header_pos (s : ByteArray) (h : (header s).2.2 = 0) : 0 ≤ (header s).2.1 := by
  unfold header at h ⊢
  split at h
  · rename_i h1
    rw [if_pos h1]
    split at h
    · rename_i h2
      obtain ⟨n, e1, _⟩ := open_range _ h2
      rw [if_pos h2]
      split at h
      · rename_i h3
        rw [if_pos h3]
        split at h
        · simp at h
        · rename_i h4
          rw [if_neg h4, e1]
          show (0 : Int) ≤ 4 + (n : Int)
          omega
      · simp at h
    · rename_i h2
      exact absurd h h2
  · simp at h
theorem scan_f (s : ByteArray) (k : Nat) (hs : s.size ≤ 1048576) (hk : s.size + 60 ≤ k) : journal_Scan.f k s = some (scanS s) := by
  unfold journal_Scan.f scanS
  rw [header_eq _ _ (by omega) (by omega), Option.bind_some]
  by_cases h : (header s).2.2 = 0
  · have hp := header_pos s h
    rw [if_pos h, if_pos h, show (header s).2.1 = (((header s).2.1.toNat : Nat) : Int) from by omega, scan_eq s _ hs s.size [] _ _ (by omega) (by show 0 + _ ≤ _; omega) (by omega)]
    rfl
  · rw [if_neg h, if_neg h]
theorem rscan_f (s : ByteArray) (k : Nat) (hs : s.size ≤ 1048576) (hk : s.size + 10490000 ≤ k) : imageeditorref44_Scan.f k s = some (scanS s) := by
  unfold imageeditorref44_Scan.f scanS
  rw [rheader_eq _ _ (by omega) (by omega), Option.bind_some]
  by_cases h : (header s).2.2 = 0
  · have hp := header_pos s h
    rw [if_pos h, if_pos h, show (header s).2.1 = (((header s).2.1.toNat : Nat) : Int) from by omega, rscan_eq s _ hs s.size [] _ _ (by omega) (by show 0 + _ ≤ _; omega) (by omega)]
    rfl
  · rw [if_neg h, if_neg h]
theorem scanS_len (s : ByteArray) : (scanS s).2.1.length ≤ s.size := by
  unfold scanS
  split
  · have := scanG_len s s.size [] (header s).2.1.toNat
    simpa using this
  · simp

end Go.Proofs.Ytnppfhjfnjinlaa.JrnRS

/- The program's Scan and Append of the journal as plain functions (inputs of at most 1048576 bytes). -/
import Derived.Test.YtnppfhjfnjinlaaJrnX
import Derived.Test.YtnppfhjfnjinlaaQx6
namespace Go.Proofs.Ytnppfhjfnjinlaa.JrnSc
open Go.RowKit Go.Proofs.YtnppfhjfnjinlaaW.PrintWords Go.Proofs.YtnppfhjfnjinlaaW.PrintLast Go.Proofs.YtnppfhjfnjinlaaW.PrintMore Go.Proofs.Ytnppfhjfnjinlaa.Q Go.Proofs.Ytnppfhjfnjinlaa.Spec Go.Proofs.Ytnppfhjfnjinlaa.CrcSpec Go.Proofs.Ytnppfhjfnjinlaa.WireEnc Go.Proofs.Ytnppfhjfnjinlaa.WireDec Go.Proofs.Ytnppfhjfnjinlaa.WireMid Go.Proofs.Ytnppfhjfnjinlaa.DigP Go.Proofs.Ytnppfhjfnjinlaa.JrnP Go.Proofs.Ytnppfhjfnjinlaa.JrnX
set_option linter.unusedVariables false
set_option linter.unusedSimpArgs false

/-! ### Scan -/
def scanG (s : ByteArray) : Nat → List Rc → Nat → List Rc × Nat × Int
  | 0, l, p => (l, p, 0)
  | d + 1, l, p => if p < s.size then
      (if (rec_ (s.extract p s.size) l.length).2.2.2.2 = 0 then scanG s d (l ++ [⟨(rec_ (s.extract p s.size) l.length).1, (rec_ (s.extract p s.size) l.length).2.1, (rec_ (s.extract p s.size) l.length).2.2.1⟩]) (p + (rec_ (s.extract p s.size) l.length).2.2.2.1.toNat)
      else (l, p, (rec_ (s.extract p s.size) l.length).2.2.2.2)) else (l, p, 0)
theorem scanG_len (s : ByteArray) : ∀ (d : Nat) (l : List Rc) (p : Nat), (scanG s d l p).1.length ≤ l.length + d
  | 0, l, p => by rw [scanG]; exact Nat.le_add_right _ _
  | d + 1, l, p => by
    rw [scanG]
    split
    · split
      · refine Nat.le_trans (scanG_len s d _ _) ?_
        rw [List.length_append, List.length_singleton]
        omega
      · show l.length ≤ _; omega
    · show l.length ≤ _; omega
theorem scan_eq (s : ByteArray) (g : Int) (hs : s.size ≤ 1048576) : ∀ (d : Nat) (l : List Rc) (p k : Nat), s.size ≤ p + d → l.length + d ≤ 2097152 → d + 30 ≤ k →
    journal_Scan.l0 k s g l (p : Int) = some (g, (scanG s d l p).1, ((scanG s d l p).2.1 : Int), (scanG s d l p).2.2) := by
  intro d
  induction d with
  | zero =>
    intro l p k hp hl hk
    obtain ⟨k, rfl⟩ : ∃ m, k = m + 1 := ⟨k - 1, by omega⟩
    rw [scan_end _ _ _ _ _ (by omega)]
    rfl
  | succ d ih =>
    intro l p k hp hl hk
    obtain ⟨k, rfl⟩ : ∃ m, k = m + 1 := ⟨k - 1, by omega⟩
    by_cases h : p < s.size
    · by_cases he : (rec_ (s.extract p s.size) l.length).2.2.2.2 = 0
      · obtain ⟨n, e1, e2, e3⟩ := rec_range _ _ he
        rw [scan_ok s g l p k n (by omega) h (by omega) (by omega) he e1, ih _ _ _ (by omega) (by rw [List.length_append, List.length_singleton]; omega) (by omega)]
        rw [show scanG s (d + 1) l p = scanG s d (l ++ [⟨(rec_ (s.extract p s.size) l.length).1, (rec_ (s.extract p s.size) l.length).2.1, (rec_ (s.extract p s.size) l.length).2.2.1⟩]) (p + n) from by rw [scanG, if_pos h, if_pos he, e1, Int.toNat_natCast]]
      · rw [scan_err s g l p k (by omega) h (by omega) (by omega) he]
        rw [show scanG s (d + 1) l p = (l, p, (rec_ (s.extract p s.size) l.length).2.2.2.2) from by rw [scanG, if_pos h, if_neg he]]
    · rw [scan_end _ _ _ _ _ (by omega)]
      rw [show scanG s (d + 1) l p = (l, p, 0) from by rw [scanG, if_neg h]]
/-- what Scan answers -/
def scanS (s : ByteArray) : Int × List Rc × Int × Int :=
  if (header s).2.2 = 0 then ((header s).1, (scanG s s.size [] (header s).2.1.toNat).1, ((scanG s s.size [] (header s).2.1.toNat).2.1 : Int), (scanG s s.size [] (header s).2.1.toNat).2.2) else (0, [], 0, (header s).2.2)
theorem header_pos (s : ByteArray) (h : (header s).2.2 = 0) : 0 ≤ (header s).2.1 := by
  unfold header at h ⊢
  split at h
  · rename_i h1
    rw [if_pos h1]
    split at h
    · rename_i h2
      obtain ⟨n, e1, _⟩ := open_range _ h2
      rw [if_pos h2]
      split at h
      · rename_i h3
        rw [if_pos h3]
        split at h
        · simp at h
        · rename_i h4
          rw [if_neg h4, e1]
          show (0 : Int) ≤ 4 + (n : Int)
          omega
      · simp at h
    · rename_i h2
      exact absurd h h2
  · simp at h
theorem scan_f (s : ByteArray) (k : Nat) (hs : s.size ≤ 1048576) (hk : s.size + 60 ≤ k) : journal_Scan.f k s = some (scanS s) := by
  unfold journal_Scan.f scanS
  rw [header_eq _ _ (by omega) (by omega), Option.bind_some]
  by_cases h : (header s).2.2 = 0
  · have hp := header_pos s h
    rw [if_pos h, if_pos h, show (header s).2.1 = (((header s).2.1.toNat : Nat) : Int) from by omega, scan_eq s _ hs s.size [] _ _ (by omega) (by show 0 + _ ≤ _; omega) (by omega)]
    rfl
  · rw [if_neg h, if_neg h]
theorem scanS_len (s : ByteArray) : (scanS s).2.1.length ≤ s.size := by
  unfold scanS
  split
  · have := scanG_len s s.size [] (header s).2.1.toNat
    simpa using this
  · simp

/-! ### Append -/
/-- what Append answers -/
def appendS (j : ByteArray) (kind seq : Int) (d : ByteArray) : ByteArray × Int :=
  if (scanS j).2.2.2 = 0 then
    (if seq = (((scanS j).2.1.length + 1 : Nat) : Int) then
      (if (encode kind seq d).2 = 0 then (if j.size + (encode kind seq d).1.size > 1048576 then (ByteArray.empty, 22) else (j ++ (encode kind seq d).1, 0)) else (ByteArray.empty, (encode kind seq d).2))
    else (ByteArray.empty, 24))
  else (ByteArray.empty, (scanS j).2.2.2)
theorem enc_small_ (kind seq : Int) (d : ByteArray) : (encode kind seq d).2 = 0 → (encode kind seq d).1.size ≤ 1048590 := fun h => (encode_ok kind seq d h).2.2.2.2.1
theorem append_f (j : ByteArray) (kind seq : Int) (d : ByteArray) (k : Nat) (hj : j.size ≤ 1048576) (hd : d.size ≤ 1048576) (hs : -9223372036854775808 ≤ seq ∧ seq ≤ 9223372036854775807) (hk : j.size + 100 ≤ k) :
    journal_Append.f k j kind seq d = some (appendS j kind seq d) := by
  have hl := scanS_len j
  obtain ⟨k, rfl⟩ : ∃ m, k = m + 1 := ⟨k - 1, by omega⟩
  have hsc := scan_f j (k + 1) hj (by omega)
  have he := enc_small_ kind seq d
  unfold journal_Append.f appendS
  rw [hsc, Option.bind_some]
  generalize scanS j = sc at hl ⊢
  by_cases h0 : sc.2.2.2 = 0
  · rw [if_pos h0, if_pos h0]
    simp only [journal_Append.j0]
    by_cases hq : seq = ((sc.2.1.length + 1 : Nat) : Int)
    · rw [if_pos (by rw [wrap_id _ (by omega) (by omega)]; omega), if_pos hq, if_neg (by simp only [decide_eq_true_eq]; omega), encode_eq _ _ _ _ (by omega) (by omega), Option.bind_some]
      by_cases he0 : (encode kind seq d).2 = 0
      · have hez := he he0
        rw [if_pos he0, if_pos he0, wrap_id _ (by omega) (by omega)]
        by_cases hz : j.size + (encode kind seq d).1.size > 1048576
        · rw [if_pos (by omega), if_pos hz]
          rfl
        · rw [if_neg (by omega), if_neg hz, if_pos (by omega)]
      · rw [if_neg he0, if_neg he0]
        rfl
    · rw [if_neg hq]
      by_cases hw : (sc.2.1.length : Int) = wrap64 (seq - 1)
      · have hlo : seq < 1 := by
          by_cases hm : seq = -9223372036854775808
          · omega
          · rw [wrap_id _ (by omega) (by omega)] at hw
            omega
        rw [if_pos hw, if_pos (decide_eq_true hlo)]
        rfl
      · rw [if_neg hw, if_pos trivial]
        rfl
  · rw [if_neg h0, if_neg h0]
    rfl

end Go.Proofs.Ytnppfhjfnjinlaa.JrnSc

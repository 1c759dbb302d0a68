/- The program's journal, as plain functions: the header, a record, what Scan does in a round; what is written is scanned. -/
import Derived.Test.YtnppfhjfnjinlaaDigP
import Derived.Test.YtnppfhjfnjinlaaQx4
import Derived.Test.YtnppfhjfnjinlaaQx5
import Derived.Test.YtnppfhjfnjinlaaQx6
namespace Go.Proofs.Ytnppfhjfnjinlaa.JrnP
open Go.RowKit Go.Proofs.YtnppfhjfnjinlaaW.PrintWords Go.Proofs.YtnppfhjfnjinlaaW.PrintLast Go.Proofs.YtnppfhjfnjinlaaW.PrintMore Go.Proofs.Ytnppfhjfnjinlaa.Q Go.Proofs.Ytnppfhjfnjinlaa.Spec Go.Proofs.Ytnppfhjfnjinlaa.CrcSpec Go.Proofs.Ytnppfhjfnjinlaa.WireEnc Go.Proofs.Ytnppfhjfnjinlaa.WireDec Go.Proofs.Ytnppfhjfnjinlaa.WireMid Go.Proofs.Ytnppfhjfnjinlaa.DigP
set_option linter.unusedVariables false
set_option linter.unusedSimpArgs false

/-! ### what Open answers -/
theorem open_range (s : ByteArray) (h : (openS s).2.2 = 0) : ∃ n : Nat, (openS s).2.1 = (n : Int) ∧ 5 ≤ n ∧ n ≤ s.size ∧ (openS s).1.size ≤ s.size := by
  unfold openS at h ⊢
  cases hd : dec s 0 0 0 with
  | bad b =>
    rw [hd] at h
    rcases dec_bad s 0 _ 0 0 b rfl hd with hb | hb <;> simp [hb] at h
  | ok n u =>
    rw [hd] at h
    obtain ⟨q, h1, h2, h3, h4, h5, h6⟩ := dec_ok s 0 _ 0 0 n u rfl (by omega) (by simp) hd
    have := enc_pos q
    simp only at h ⊢
    by_cases c1 : 1048576 < n
    · rw [if_pos c1] at h
      simp at h
    · rw [if_neg c1] at h ⊢
      by_cases c2 : s.size < u + n + 4
      · rw [if_pos c2] at h
        simp at h
      · rw [if_neg c2] at h ⊢
        by_cases c3 : s.extract (u + n) (u + n + 4) = le4 (crc (s.extract 0 (u + n)))
        · rw [if_pos c3]
          refine ⟨u + n + 4, rfl, by omega, by omega, ?_⟩
          show (s.extract u (u + n)).size ≤ _
          rw [size_ext _ _ _ (by omega)]
          omega
        · rw [if_neg c3] at h
          simp at h

/-! ### the header -/
def magic : ByteArray := ⟨#[73, 69, 74, 49]⟩
theorem magic_size : magic.size = 4 := rfl
theorem pre_eq (s : ByteArray) (hs : s.size ≤ 4611686018427387000) : stringslite_HasPrefix.f s magic = some (decide (4 ≤ s.size ∧ s.extract 0 4 = magic)) := by
  unfold stringslite_HasPrefix.f
  rw [magic_size]
  by_cases h4 : 4 ≤ s.size
  · rw [if_pos (by omega), if_pos (by omega), if_pos (by omega)]
    congr 1
    show ((s.extract 0 4).toList == magic.toList) = _
    by_cases hx : s.extract 0 4 = magic
    · rw [decide_eq_true ⟨h4, hx⟩, hx, beq_self_eq_true]
    · rw [decide_eq_false (fun h => hx h.2), beq_eq_false_iff_ne]
      exact fun h => hx (toList_inj.1 h)
  · rw [if_neg (by omega), decide_eq_false (fun h => h4 h.1)]
theorem cut_eq (s : ByteArray) (hs : s.size ≤ 4611686018427387000) : strings_CutPrefix.f s (⟨#[73, 69, 74, 49]⟩ : ByteArray) = some (if 4 ≤ s.size ∧ s.extract 0 4 = magic then (s.extract 4 s.size, true) else (s, false)) := by
  unfold strings_CutPrefix.f stringslite_CutPrefix.f
  show (Option.bind (Option.bind (stringslite_HasPrefix.f s magic) _) _) = _
  rw [pre_eq s hs, Option.bind_some]
  by_cases h : 4 ≤ s.size ∧ s.extract 0 4 = magic
  · have hh := h.1
    rw [if_pos (decide_eq_true h), if_pos h]
    show (Option.bind (if (0 : Int) ≤ 4 then (if (4 : Int) ≤ (s.size : Int) then (some (s.extract 4 s.size, true)) else none) else none) _) = _
    rw [if_pos (by omega), if_pos (by omega), Option.bind_some]
  · rw [if_neg (by simpa using h), if_neg h, Option.bind_some]
def header (j : ByteArray) : Int × Int × Int :=
  if 4 ≤ j.size ∧ j.extract 0 4 = magic then
    (if (openS (j.extract 4 j.size)).2.2 = 0 then
      (if rEnd (openS (j.extract 4 j.size)).1 (rU (openS (j.extract 4 j.size)).1 0 0 true).2.1 (rU (openS (j.extract 4 j.size)).1 0 0 true).2.2 true = 0 then
        (if (rU (openS (j.extract 4 j.size)).1 0 0 true).1 < 1 ∨ 1073741824 < (rU (openS (j.extract 4 j.size)).1 0 0 true).1 then (0, 0, 4)
        else (((rU (openS (j.extract 4 j.size)).1 0 0 true).1 : Int), 4 + (openS (j.extract 4 j.size)).2.1, 0))
      else (0, 0, 4))
    else (0, 0, (openS (j.extract 4 j.size)).2.2))
  else (0, 0, 4)
theorem header_eq (j : ByteArray) (k : Nat) (hs : j.size ≤ 4611686018427386000) (hk : 20 ≤ k) : journal_header.f k j = some (header j) := by
  unfold journal_header.f header
  rw [cut_eq j (by omega), Option.bind_some]
  by_cases h : 4 ≤ j.size ∧ j.extract 0 4 = magic
  · have hz : (j.extract 4 j.size).size = j.size - 4 := size_ext _ _ _ (by omega)
    rw [if_pos h, if_pos h, if_pos rfl]
    simp only
    rw [open_eq _ _ (by omega) hk, Option.bind_some]
    by_cases he : (openS (j.extract 4 j.size)).2.2 = 0
    · obtain ⟨n, e1, e2, e3, e4⟩ := open_range _ he
      rw [if_pos he, if_pos he, e1]
      generalize (openS (j.extract 4 j.size)).1 = p at e4 ⊢
      rw [new_eq, Option.bind_some]
      simp only
      rw [uint_eq p 0 k 0 true (by omega) (by omega) hk, Option.bind_some]
      simp only
      rw [end_eq, Option.bind_some]
      simp only
      by_cases hend : rEnd p (rU p 0 0 true).2.1 (rU p 0 0 true).2.2 true = 0
      · rw [if_pos hend, if_pos hend]
        by_cases h1 : (rU p 0 0 true).1 < 1
        · rw [if_pos (by omega), if_pos (.inl h1)]
        · rw [if_neg (by omega)]
          by_cases h2 : 1073741824 < (rU p 0 0 true).1
          · rw [if_pos (by omega), if_pos (.inr h2)]
          · rw [if_neg (by omega), if_neg (by omega), wrap_id _ (by omega) (by omega), wrap_id _ (by omega) (by omega)]
      · rw [if_neg hend, if_neg hend]
    · rw [if_neg he, if_neg he]
  · rw [if_neg h, if_neg h]
    simp only
    rw [if_neg (by simp)]

/-! ### a record -/
def rec_ (s : ByteArray) (b : Nat) : Int × Int × ByteArray × Int × Int :=
  if (openS s).2.2 = 0 then
    (if rEnd (openS s).1 (rT (openS s).1 (rU (openS s).1 (rU (openS s).1 0 0 true).2.1 (rU (openS s).1 0 0 true).2.2 true).2.1 (rU (openS s).1 (rU (openS s).1 0 0 true).2.1 (rU (openS s).1 0 0 true).2.2 true).2.2 true 1048576).2.1 (rT (openS s).1 (rU (openS s).1 (rU (openS s).1 0 0 true).2.1 (rU (openS s).1 0 0 true).2.2 true).2.1 (rU (openS s).1 (rU (openS s).1 0 0 true).2.1 (rU (openS s).1 0 0 true).2.2 true).2.2 true 1048576).2.2 true = 0 then
      (if (rU (openS s).1 0 0 true).1 < 1 ∨ 6 < (rU (openS s).1 0 0 true).1 then (0, 0, ByteArray.empty, 0, 8)
      else if (rU (openS s).1 (rU (openS s).1 0 0 true).2.1 (rU (openS s).1 0 0 true).2.2 true).1 = b + 1 then
        (((rU (openS s).1 0 0 true).1 : Int), ((b + 1 : Nat) : Int), (rT (openS s).1 (rU (openS s).1 (rU (openS s).1 0 0 true).2.1 (rU (openS s).1 0 0 true).2.2 true).2.1 (rU (openS s).1 (rU (openS s).1 0 0 true).2.1 (rU (openS s).1 0 0 true).2.2 true).2.2 true 1048576).1, (openS s).2.1, 0)
      else (0, 0, ByteArray.empty, 0, 24))
    else (0, 0, ByteArray.empty, 0, rEnd (openS s).1 (rT (openS s).1 (rU (openS s).1 (rU (openS s).1 0 0 true).2.1 (rU (openS s).1 0 0 true).2.2 true).2.1 (rU (openS s).1 (rU (openS s).1 0 0 true).2.1 (rU (openS s).1 0 0 true).2.2 true).2.2 true 1048576).2.1 (rT (openS s).1 (rU (openS s).1 (rU (openS s).1 0 0 true).2.1 (rU (openS s).1 0 0 true).2.2 true).2.1 (rU (openS s).1 (rU (openS s).1 0 0 true).2.1 (rU (openS s).1 0 0 true).2.2 true).2.2 true 1048576).2.2 true))
  else (0, 0, ByteArray.empty, 0, (openS s).2.2)
theorem rec_eq (s : ByteArray) (b k : Nat) (hs : s.size ≤ 4611686018427386000) (hb : b < 4611686018427387904) (hk : 21 ≤ k) : journal_record.f k s (b : Int) = some (rec_ s b) := by
  unfold journal_record.f rec_
  rw [open_eq _ _ (by omega) (by omega), Option.bind_some]
  by_cases he : (openS s).2.2 = 0
  · obtain ⟨n, e1, e2, e3, e4⟩ := open_range _ he
    rw [if_pos he, if_pos he]
    generalize (openS s).1 = p at e4 ⊢
    have hu := rU_pos p 0 0 true (by omega)
    rw [new_eq, Option.bind_some]
    simp only
    rw [uint_eq p 0 k 0 true (by omega) (by omega) (by omega), Option.bind_some]
    simp only
    generalize rU p 0 0 true = u at hu ⊢
    have hv := rU_pos p u.2.1 u.2.2 true hu.1
    rw [uint_eq p u.2.1 k u.2.2 true (by omega) hu.1 (by omega), Option.bind_some]
    simp only
    generalize rU p u.2.1 u.2.2 true = v at hv ⊢
    rw [text_eq p v.2.1 k v.2.2 true 1048576 (by omega) hv.1 (by omega) (by omega), Option.bind_some]
    simp only
    generalize rT p v.2.1 v.2.2 true 1048576 = t
    rw [end_eq, Option.bind_some]
    simp only
    by_cases hend : rEnd p t.2.1 t.2.2 true = 0
    · rw [if_pos hend, if_pos hend]
      obtain ⟨k, rfl⟩ : ∃ m, k = m + 1 := ⟨k - 1, by omega⟩
      simp only [journal_record.j0]
      by_cases h1 : u.1 < 1
      · rw [if_pos (by omega), if_pos trivial, if_pos (.inl h1)]
        rfl
      · rw [if_neg (by omega)]
        by_cases h2 : 6 < u.1
        · rw [if_pos (decide_eq_true (by omega)), if_pos (.inr h2)]
          rfl
        · have h12 : ¬ (u.1 < 1 ∨ 6 < u.1) := by omega
          rw [if_neg (by rw [decide_eq_false (by omega)]; simp), if_neg h12, wrap_u64, wrap_u64, show ((b : Int) % 18446744073709551616 + 1) % 18446744073709551616 = ((b + 1 : Nat) : Int) from by omega]
          by_cases h3 : v.1 = b + 1
          · rw [if_pos (by omega), if_pos h3, wrap_id _ (by omega) (by omega), wrap_id _ (by omega) (by omega), h3]
          · rw [if_neg (by omega), if_neg h3]
            rfl
    · rw [if_neg hend, if_neg hend]
      rfl
  · rw [if_neg he, if_neg he]
    rfl
theorem rec_range (s : ByteArray) (b : Nat) (h : (rec_ s b).2.2.2.2 = 0) : ∃ n : Nat, (rec_ s b).2.2.2.1 = (n : Int) ∧ 5 ≤ n ∧ n ≤ s.size := by
  unfold rec_ at h ⊢
  by_cases he : (openS s).2.2 = 0
  · obtain ⟨n, e1, e2, e3, e4⟩ := open_range _ he
    rw [if_pos he] at h ⊢
    split at h
    · rename_i hend
      rw [if_pos hend]
      split at h
      · simp at h
      · rename_i h1
        rw [if_neg h1]
        split at h
        · rename_i h2
          rw [if_pos h2]
          exact ⟨n, e1, e2, e3⟩
        · simp at h
    · rename_i hend
      exact absurd h hend
  · rw [if_neg he] at h
    exact absurd h he

/-! ### Scan's rounds -/
theorem scan_end (s : ByteArray) (g : Int) (l : List S23) (p k : Nat) (hp : s.size ≤ p) : journal_Scan.l0 (k + 1) s g l (p : Int) = some (g, l, (p : Int), 0) := by
  simp only [journal_Scan.l0]
  rw [if_neg (by omega)]
theorem scan_err (s : ByteArray) (g : Int) (l : List S23) (p k : Nat) (hs : s.size ≤ 4611686018427386000) (hp : p < s.size) (hl : l.length < 4611686018427387904) (hk : 21 ≤ k) (h : ¬ (rec_ (s.extract p s.size) l.length).2.2.2.2 = 0) :
    journal_Scan.l0 (k + 1) s g l (p : Int) = some (g, l, (p : Int), (rec_ (s.extract p s.size) l.length).2.2.2.2) := by
  simp only [journal_Scan.l0]
  rw [if_pos (by omega), if_pos (by omega), if_pos (by omega), Int.toNat_natCast, rec_eq _ _ _ (by rw [size_ext _ _ _ (by omega)]; omega) hl hk, Option.bind_some, if_neg h]
theorem scan_ok (s : ByteArray) (g : Int) (l : List S23) (p k n : Nat) (hs : s.size ≤ 4611686018427386000) (hp : p < s.size) (hl : l.length < 4398046511104) (hk : 21 ≤ k) (h : (rec_ (s.extract p s.size) l.length).2.2.2.2 = 0) (hn : (rec_ (s.extract p s.size) l.length).2.2.2.1 = (n : Int)) :
    journal_Scan.l0 (k + 1) s g l (p : Int) = journal_Scan.l0 k s g (l ++ [⟨(rec_ (s.extract p s.size) l.length).1, (rec_ (s.extract p s.size) l.length).2.1, (rec_ (s.extract p s.size) l.length).2.2.1⟩]) ((p + n : Nat) : Int) := by
  obtain ⟨n', e1, e2, e3⟩ := rec_range _ _ h
  obtain rfl : n' = n := by omega
  rw [size_ext _ _ _ (by omega)] at e3
  simp only [journal_Scan.l0]
  rw [if_pos (by omega), if_pos (by omega), if_pos (by omega), Int.toNat_natCast, rec_eq _ _ _ (by rw [size_ext _ _ _ (by omega)]; omega) (by omega) hk, Option.bind_some, if_pos h, if_pos hl, hn, wrap_id _ (by omega) (by omega)]
  rfl

/-! ### Head, Encode -/
theorem within_eq (a b c : Int) : journal_within.f a b c = some (decide (b ≤ a ∧ a ≤ c)) := by
  unfold journal_within.f
  by_cases h : b ≤ a
  · rw [if_pos h]
    congr 1
    simp [h]
  · rw [if_neg h]
    congr 1
    simp [h]
def head (g : Int) : ByteArray × Int := if 1 ≤ g ∧ g ≤ 1073741824 then (magic ++ (frame (encS g.toNat)).1, 0) else (ByteArray.empty, 2)
theorem head_eq (g : Int) (k : Nat) (hk : 10 ≤ k) : journal_Head.f k g = some (head g) := by
  unfold journal_Head.f head
  rw [within_eq, Option.bind_some]
  by_cases h : 1 ≤ g ∧ g ≤ 1073741824
  · have hz := encS_le g.toNat (by omega)
    have hf : frame (encS g.toNat) = (body (encS g.toNat) ++ le4 (crc (body (encS g.toNat))), 0) := by unfold frame; rw [if_neg (by omega)]
    have hb := body_le (encS g.toNat) (by omega)
    have h2 : (frame (encS g.toNat)).1.size ≤ 24 := by rw [hf]; show (_ ++ _ : ByteArray).size ≤ _; rw [size_app, le4_size]; omega
    rw [if_pos (decide_eq_true h), if_pos h, wrap_u64, show g % 18446744073709551616 = ((g.toNat : Nat) : Int) from by omega, wire_Uint_eq _ _ (by omega) hk, Option.bind_some, frame_eq _ _ (by omega) hk, Option.bind_some, if_pos (by rw [hf]), if_pos (by omega)]
    rfl
  · rw [if_neg (by simpa using h), if_neg h]
    rfl
def pay (kind seq : Int) (d : ByteArray) : ByteArray := encS kind.toNat ++ encS seq.toNat ++ (encS d.size ++ d)
def encode (kind seq : Int) (d : ByteArray) : ByteArray × Int :=
  if 1 ≤ kind ∧ kind ≤ 6 then (if 1 ≤ seq ∧ seq ≤ 1073741824 then frame (pay kind seq d) else (ByteArray.empty, 2)) else (ByteArray.empty, 8)
theorem encode_eq (kind seq : Int) (d : ByteArray) (k : Nat) (hd : d.size ≤ 4611686018427387000) (hk : 10 ≤ k) : journal_Encode.f k kind seq d = some (encode kind seq d) := by
  unfold journal_Encode.f encode
  rw [within_eq, Option.bind_some]
  by_cases h : 1 ≤ kind ∧ kind ≤ 6
  · rw [if_pos (decide_eq_true h), if_pos h, within_eq, Option.bind_some]
    by_cases h2 : 1 ≤ seq ∧ seq ≤ 1073741824
    · have z1 := encS_le kind.toNat (by omega)
      have z2 := encS_le seq.toNat (by omega)
      have z3 := encS_le d.size (by omega)
      rw [if_pos (decide_eq_true h2), if_pos h2, wrap_u64, wrap_u64, show kind % 18446744073709551616 = ((kind.toNat : Nat) : Int) from by omega, show seq % 18446744073709551616 = ((seq.toNat : Nat) : Int) from by omega,
        wire_Uint_eq _ _ (by omega) hk, Option.bind_some, wire_Uint_eq _ _ (by omega) hk, Option.bind_some, if_pos (by omega), wire_Text_eq _ _ (by omega) hk, Option.bind_some, if_pos (by simp only [size_app]; omega), frame_eq _ _ (by simp only [size_app]; omega) hk, Option.bind_some]
      rfl
    · rw [if_neg (by simpa using h2), if_neg h2]
      rfl
  · rw [if_neg (by simpa using h), if_neg h]
    rfl

/-! ### what is written is read -/
theorem frame_ok (s : ByteArray) (h : (frame s).2 = 0) : s.size ≤ 1048576 ∧ (frame s).1.size ≤ s.size + 14 ∧ 5 ≤ (frame s).1.size := by
  unfold frame at h ⊢
  by_cases c : 1048576 < s.size
  · rw [if_pos c] at h
    simp at h
  · rw [if_neg c]
    have hb := body_le s (by omega)
    have hp : 0 < (encS s.size).size := by rw [encS_size]; exact enc_pos _
    refine ⟨by omega, ?_, ?_⟩
    · show (_ ++ _ : ByteArray).size ≤ _
      rw [size_app, le4_size]
      omega
    · show _ ≤ (_ ++ _ : ByteArray).size
      rw [size_app, le4_size]
      unfold body
      rw [size_app]
      omega
theorem encode_ok (kind seq : Int) (d : ByteArray) (h : (encode kind seq d).2 = 0) : (1 ≤ kind ∧ kind ≤ 6) ∧ (1 ≤ seq ∧ seq ≤ 1073741824) ∧ (encode kind seq d) = frame (pay kind seq d) ∧ (pay kind seq d).size ≤ 1048576 ∧ (encode kind seq d).1.size ≤ 1048590 ∧ 5 ≤ (encode kind seq d).1.size := by
  unfold encode at h ⊢
  by_cases h1 : 1 ≤ kind ∧ kind ≤ 6
  · rw [if_pos h1] at h ⊢
    by_cases h2 : 1 ≤ seq ∧ seq ≤ 1073741824
    · rw [if_pos h2] at h ⊢
      have := frame_ok _ h
      exact ⟨h1, h2, rfl, this.1, by omega, this.2.2⟩
    · rw [if_neg h2] at h
      simp at h
  · rw [if_neg h1] at h
    simp at h
theorem header_head (g : Int) (c : ByteArray) (h : (head g).2 = 0) : header ((head g).1 ++ c) = (g, (((head g).1.size : Nat) : Int), 0) ∧ 1 ≤ g ∧ g ≤ 1073741824 ∧ (head g).1.size ≤ 28 ∧ 9 ≤ (head g).1.size := by
  have hg : 1 ≤ g ∧ g ≤ 1073741824 := by
    unfold head at h
    by_cases c : 1 ≤ g ∧ g ≤ 1073741824
    · exact c
    · rw [if_neg c] at h
      simp at h
  have e : head g = (magic ++ (frame (encS g.toNat)).1, 0) := by unfold head; rw [if_pos hg]
  have hz := encS_le g.toNat (by omega)
  have f0 : (frame (encS g.toNat)).2 = 0 := by unfold frame; rw [if_neg (by omega)]
  have f1 := frame_ok _ f0
  have hsz : (magic ++ (frame (encS g.toNat)).1).size = 4 + (frame (encS g.toNat)).1.size := by rw [size_app, magic_size]
  rw [e]
  refine ⟨?_, hg.1, hg.2, ?_, ?_⟩
  · show header (magic ++ (frame (encS g.toNat)).1 ++ c) = _
    have hall : (magic ++ (frame (encS g.toNat)).1 ++ c).size = 4 + (frame (encS g.toNat)).1.size + c.size := by rw [size_app, hsz]
    have x1 : (magic ++ (frame (encS g.toNat)).1 ++ c).extract 0 4 = magic := by rw [app_assoc]; exact ext_front magic _
    have x2 : (magic ++ (frame (encS g.toNat)).1 ++ c).extract 4 (magic ++ (frame (encS g.toNat)).1 ++ c).size = (frame (encS g.toNat)).1 ++ c := by
      have := ext_mid magic ((frame (encS g.toNat)).1 ++ c) ByteArray.empty 4 rfl
      rw [app_empty, size_app] at this
      rw [hall, app_assoc]
      rw [← Nat.add_assoc] at this
      exact this
    unfold header
    rw [if_pos ⟨by rw [hall]; omega, x1⟩, x2, open_frame _ _ f1.1]
    simp only [if_true]
    have r := rU_mid ByteArray.empty ByteArray.empty g.toNat (by omega)
    rw [empty_app, app_empty, show (ByteArray.empty).size = 0 from rfl, Nat.zero_add] at r
    rw [r]
    simp only
    rw [if_pos (by unfold rEnd rErr; rw [if_pos rfl, if_pos rfl, if_neg (by omega)]), if_neg (by omega)]
    congr 1
    · omega
    · congr 1
      rw [hsz]
      omega
  · show (magic ++ (frame (encS g.toNat)).1).size ≤ 28
    omega
  · show 9 ≤ (magic ++ (frame (encS g.toNat)).1).size
    omega
theorem rec_enc (kind seq : Int) (d c : ByteArray) (b : Nat) (h : (encode kind seq d).2 = 0) (hb : seq = ((b + 1 : Nat) : Int)) :
    rec_ ((encode kind seq d).1 ++ c) b = (kind, seq, d, (((encode kind seq d).1.size : Nat) : Int), 0) := by
  obtain ⟨h1, h2, h3, h4, h5, h6⟩ := encode_ok kind seq d h
  have z : (pay kind seq d).size = (encS kind.toNat).size + (encS seq.toNat).size + ((encS d.size).size + d.size) := by unfold pay; simp only [size_app]
  have hd : d.size ≤ (pay kind seq d).size := by omega
  unfold rec_
  rw [h3, open_frame _ _ h4]
  simp only [if_true]
  have r1 : rU (pay kind seq d) 0 0 true = (kind.toNat, (encS kind.toNat).size, 0) := by
    have := rU_mid ByteArray.empty (encS seq.toNat ++ (encS d.size ++ d)) kind.toNat (by omega)
    rw [empty_app, show (ByteArray.empty).size = 0 from rfl, Nat.zero_add, ← app_assoc] at this
    exact this
  have r2 : rU (pay kind seq d) (encS kind.toNat).size 0 true = (seq.toNat, (encS kind.toNat).size + (encS seq.toNat).size, 0) := by
    have := rU_mid (encS kind.toNat) (encS d.size ++ d) seq.toNat (by omega)
    rw [← app_assoc] at this
    exact this
  have r3 : rT (pay kind seq d) ((encS kind.toNat).size + (encS seq.toNat).size) 0 true 1048576 = (d, (pay kind seq d).size, 0) := by
    have := rT_mid (encS kind.toNat ++ encS seq.toNat) d ByteArray.empty 1048576 (by omega) (by omega)
    rw [app_empty, size_app] at this
    rw [z]
    have e : (encS kind.toNat).size + (encS seq.toNat).size + ((encS d.size).size + d.size) = (encS kind.toNat).size + (encS seq.toNat).size + (encS d.size).size + d.size := by omega
    rw [e]
    exact this
  rw [r1]
  simp only
  rw [r2]
  simp only
  rw [r3]
  simp only
  rw [if_pos (by unfold rEnd rErr; rw [if_pos rfl, if_pos rfl, if_neg (by omega)]), if_neg (by omega), if_pos (by omega)]
  congr 1
  · omega
  · rw [hb]

end Go.Proofs.Ytnppfhjfnjinlaa.JrnP

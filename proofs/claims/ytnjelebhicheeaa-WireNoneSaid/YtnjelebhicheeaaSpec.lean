/- Numbers as bytes: what the document's encoding of numbers is, and what a reader makes of any bytes; plain mathematics, no program in sight. -/
import Derived.Test.YtnjelebhicheeaaWMore
namespace Go.Proofs.Ytnjelebhicheeaa.Spec
open Go.RowKit Go.Proofs.YtnjelebhicheeaaW.PrintWords Go.Proofs.YtnjelebhicheeaaW.PrintMore
set_option linter.unusedVariables false
set_option linter.unusedSimpArgs false

/-- a byte as a number; 0 beyond the end -/
def nb (s : ByteArray) (j : Nat) : Nat := (bt s (j : Int)).toNat
theorem bt_nb (s : ByteArray) (j : Nat) : bt s (j : Int) = (nb s j : Int) := by
  have := (bt_range s (j : Int)).1
  unfold nb
  omega
theorem nb_le (s : ByteArray) (j : Nat) : nb s j ≤ 255 := by
  have := (bt_range s (j : Int)).2
  unfold nb
  omega
theorem nb_get (s : ByteArray) (j : Nat) (h : j < s.size) : nb s j = (s.data.toList[j]'(by rw [data_length]; exact h)).toNat := by
  unfold nb bt
  rw [dif_pos (by simpa using h)]
  rfl
theorem ext_nb {a b : ByteArray} (hs : a.size = b.size) (h : ∀ j, j < a.size → nb a j = nb b j) : a = b := by
  have e : a.data.toList = b.data.toList := by
    apply List.ext_getElem
    · rw [data_length, data_length, hs]
    · intro j h1 h2
      rw [data_length] at h1 h2
      have := h j h1
      rw [nb_get a j h1, nb_get b j h2] at this
      exact UInt8.toNat_inj.1 this
  cases a; cases b
  congr
  exact Array.toList_inj.1 e
theorem size_app (a b : ByteArray) : (a ++ b).size = a.size + b.size := ByteArray.size_append
theorem data_app (a b : ByteArray) : (a ++ b).data.toList = a.data.toList ++ b.data.toList := by
  rw [ByteArray.data_append, Array.toList_append]
theorem nb_app (a b : ByteArray) (j : Nat) : nb (a ++ b) j = if j < a.size then nb a j else nb b (j - a.size) := by
  by_cases hj : j < (a ++ b).size
  · have hj' := hj
    rw [size_app] at hj'
    rw [nb_get _ j hj]
    by_cases h : j < a.size
    · rw [if_pos h, nb_get a j h]
      congr 1
      rw [List.getElem_of_eq (data_app a b), List.getElem_append_left]
    · rw [if_neg h, nb_get b _ (by omega)]
      congr 1
      rw [List.getElem_of_eq (data_app a b), List.getElem_append_right (by rw [data_length]; omega)]
      simp only [data_length]
  · have hz : ∀ (s : ByteArray) (i : Nat), ¬ i < s.size → nb s i = 0 := by
      intro s i hi
      unfold nb bt
      rw [dif_neg (by simpa using hi)]
      rfl
    rw [hz _ _ hj]
    rw [size_app] at hj
    rw [if_neg (by omega), hz _ _ (by omega)]
theorem nb_beyond (s : ByteArray) (i : Nat) (h : s.size ≤ i) : nb s i = 0 := by
  unfold nb bt
  rw [dif_neg (by simpa using h)]
  rfl
theorem size_ext (s : ByteArray) (a b : Nat) (hb : b ≤ s.size) : (s.extract a b).size = b - a := by
  rw [ByteArray.size_extract]
  omega
theorem nb_ext (s : ByteArray) (a b j : Nat) (hb : b ≤ s.size) (hj : j < b - a) : nb (s.extract a b) j = nb s (a + j) := by
  rw [nb_get _ j (by rw [size_ext s a b hb]; exact hj), nb_get s (a + j) (by omega)]
  congr 1
  simp [ByteArray.data_extract]

/-- a list of numbers as a string -/
theorem nb_str (l : List Int) (h : ∀ x ∈ l, 0 ≤ x ∧ x ≤ 255) (j : Nat) (hj : j < l.length) : (nb (strOfNums l) j : Int) = l.getD j 0 := by
  rw [nb_get _ j (by rw [strOfNums_size]; exact hj)]
  simp only [strOfNums_data, List.getElem_map]
  have hm := h l[j] (List.getElem_mem _)
  rw [List.getD_eq_getElem?_getD, List.getElem?_eq_getElem hj, Option.getD_some]
  rw [UInt8.toNat_ofNat']
  omega
theorem str_app (a b : List Int) : strOfNums (a ++ b) = strOfNums a ++ strOfNums b := by
  have e : (strOfNums (a ++ b)).data.toList = (strOfNums a ++ strOfNums b).data.toList := by
    rw [data_app, strOfNums_data, strOfNums_data, strOfNums_data, List.map_append]
  cases ha : strOfNums (a ++ b) with | mk x => cases hb : strOfNums a ++ strOfNums b with | mk y =>
    rw [ha, hb] at e
    congr
    exact Array.toList_inj.1 e
theorem str_bytes (s : ByteArray) : strOfNums (bytesOf s) = s := by
  have e : (strOfNums (bytesOf s)).data.toList = s.data.toList := by
    rw [strOfNums_data, bytesOf, List.map_map]
    conv => rhs; rw [← List.map_id s.data.toList]
    apply List.map_congr_left
    intro x _
    simp
  cases ha : strOfNums (bytesOf s) with | mk x => cases s with | mk y =>
    rw [ha] at e
    congr
    exact Array.toList_inj.1 e
theorem toList_eq (s : ByteArray) : s.toList = s.data.toList := by
  rw [ByteArray.toList_eq]
theorem toList_inj {a b : ByteArray} : a.toList = b.toList ↔ a = b := by
  constructor
  · intro h
    rw [toList_eq, toList_eq] at h
    cases a; cases b
    congr
    exact Array.toList_inj.1 h
  · intro h
    rw [h]

/-! ### the encoding of a number -/
def enc (n : Nat) : List Int :=
  if n < 128 then [(n : Int)] else ((n % 128 + 128 : Nat) : Int) :: enc (n / 128)
termination_by n
decreasing_by omega
theorem enc_small {n : Nat} (h : n < 128) : enc n = [(n : Int)] := by rw [enc, if_pos h]
theorem enc_big {n : Nat} (h : ¬ n < 128) : enc n = ((n % 128 + 128 : Nat) : Int) :: enc (n / 128) := by rw [enc, if_neg h]
theorem enc_pos (n : Nat) : 0 < (enc n).length := by
  by_cases h : n < 128
  · rw [enc_small h]; simp
  · rw [enc_big h]; simp
theorem enc_byte (n : Nat) : ∀ x ∈ enc n, 0 ≤ x ∧ x ≤ 255 := by
  induction n using Nat.strongRecOn with
  | _ n ih =>
    intro x hx
    by_cases h : n < 128
    · rw [enc_small h] at hx
      simp at hx
      omega
    · rw [enc_big h] at hx
      rcases List.mem_cons.1 hx with hx | hx
      · omega
      · exact ih (n / 128) (by omega) x hx
theorem enc_len (d n : Nat) (h : n < 128 ^ (d + 1)) : (enc n).length ≤ d + 1 := by
  induction d generalizing n with
  | zero => rw [enc_small (by simpa using h)]; simp
  | succ d ih =>
    by_cases hn : n < 128
    · rw [enc_small hn]; simp
    · rw [enc_big hn, List.length_cons]
      have : n / 128 < 128 ^ (d + 1) := by
        rw [Nat.div_lt_iff_lt_mul (by decide)]
        rw [Nat.pow_succ] at h
        exact h
      have := ih _ this
      omega
theorem enc_len64 (n : Nat) (h : n < 18446744073709551616) : (enc n).length ≤ 10 := enc_len 9 n (by omega)

/-- the bytes of the encoding, as a string -/
def encS (n : Nat) : ByteArray := strOfNums (enc n)
theorem encS_size (n : Nat) : (encS n).size = (enc n).length := strOfNums_size _
theorem encS_nb (n j : Nat) (hj : j < (enc n).length) : (nb (encS n) j : Int) = (enc n).getD j 0 := nb_str _ (enc_byte n) j hj

/-- a number with a sign -/
def zig (n : Int) : Nat := if 0 ≤ n then (2 * n).toNat else (-(2 * n) - 1).toNat
def unzig (u : Nat) : Int := if u % 2 = 1 then -((u / 2 : Nat) : Int) - 1 else ((u / 2 : Nat) : Int)
theorem unzig_zig (n : Int) : unzig (zig n) = n := by
  unfold unzig zig
  split <;> split <;> omega
theorem zig_unzig (u : Nat) : zig (unzig u) = u := by
  unfold unzig zig
  split <;> split <;> omega
theorem zig_lt (n : Int) (h1 : -9223372036854775808 ≤ n) (h2 : n ≤ 9223372036854775807) : zig n < 18446744073709551616 := by
  unfold zig
  split <;> omega
theorem unzig_range (u : Nat) (h : u < 18446744073709551616) : -9223372036854775808 ≤ unzig u ∧ unzig u ≤ 9223372036854775807 := by
  unfold unzig
  split <;> omega
/-! ### decoding -/
inductive Dec where
  | ok (n u : Nat)
  | bad (e : Int)

/-- bytes from p on, i of which have been read and have given n -/
def dec (s : ByteArray) (p i n : Nat) : Dec :=
  if p + i < s.size then
    if (i = 9 ∧ 1 < nb s (p + i)) ∨ (0 < i ∧ nb s (p + i) = 0) then .bad 4
    else if nb s (p + i) < 128 then .ok (n + nb s (p + i) % 128 * 128 ^ i) (i + 1)
    else dec s p (i + 1) (n + nb s (p + i) % 128 * 128 ^ i)
  else .bad 5
termination_by s.size - (p + i)

theorem dec_end {s : ByteArray} {p i n : Nat} (h : ¬ p + i < s.size) : dec s p i n = .bad 5 := by rw [dec, if_neg h]
theorem dec_form {s : ByteArray} {p i n : Nat} (h : p + i < s.size) (h2 : (i = 9 ∧ 1 < nb s (p + i)) ∨ (0 < i ∧ nb s (p + i) = 0)) : dec s p i n = .bad 4 := by rw [dec, if_pos h, if_pos h2]
theorem dec_last {s : ByteArray} {p i n : Nat} (h : p + i < s.size) (h2 : ¬ ((i = 9 ∧ 1 < nb s (p + i)) ∨ (0 < i ∧ nb s (p + i) = 0))) (h3 : nb s (p + i) < 128) : dec s p i n = .ok (n + nb s (p + i) % 128 * 128 ^ i) (i + 1) := by rw [dec, if_pos h, if_neg h2, if_pos h3]
theorem dec_more {s : ByteArray} {p i n : Nat} (h : p + i < s.size) (h2 : ¬ ((i = 9 ∧ 1 < nb s (p + i)) ∨ (0 < i ∧ nb s (p + i) = 0))) (h3 : ¬ nb s (p + i) < 128) : dec s p i n = dec s p (i + 1) (n + nb s (p + i) % 128 * 128 ^ i) := by rw [dec, if_pos h, if_neg h2, if_neg h3]

theorem pow9 : (128 : Nat) ^ 9 = 9223372036854775808 := by decide
theorem pow_le9 (i : Nat) (h : i ≤ 9) : (128 : Nat) ^ i ≤ 9223372036854775808 := by rw [← pow9]; exact Nat.pow_le_pow_right (by decide) h

/-- an encoded number is read, or its end is missing -/
theorem dec_enc (s : ByteArray) (p : Nat) : ∀ (m i n : Nat), i ≤ 9 → (0 < i → 0 < m) → n + m * 128 ^ i < 18446744073709551616 → p + i ≤ s.size →
    (∀ j, j < (enc m).length → p + i + j < s.size → (nb s (p + i + j) : Int) = (enc m).getD j 0) →
    dec s p i n = if p + i + (enc m).length ≤ s.size then .ok (n + m * 128 ^ i) (i + (enc m).length) else .bad 5 := by
  intro m
  induction m using Nat.strongRecOn with
  | _ m ih =>
    intro i n hi hm hlt hp hb
    by_cases hend : p + i < s.size
    · have h0 := hb 0 (enc_pos m) hend
      rw [Nat.add_zero] at h0
      by_cases hs : m < 128
      · have he := enc_small hs
        rw [he] at h0
        have hv : nb s (p + i) = m := by
          rw [List.getD_cons_zero] at h0
          omega
        rw [he, List.length_singleton, if_pos (by omega)]
        rw [dec_last hend (by
          rw [hv]
          rintro (⟨rfl, h⟩ | ⟨h, h'⟩)
          · rw [pow9] at hlt; omega
          · have := hm h; omega) (by omega), hv, Nat.mod_eq_of_lt hs]
      · have he := enc_big hs
        rw [he] at h0
        have hv : nb s (p + i) = m % 128 + 128 := by
          rw [List.getD_cons_zero] at h0
          omega
        have hi9 : i ≠ 9 := by
          rintro rfl
          rw [pow9] at hlt
          omega
        rw [dec_more hend (by
          rw [hv]
          rintro (⟨h, _⟩ | ⟨_, h'⟩)
          · exact hi9 h
          · omega) (by omega), hv]
        have hmod : (m % 128 + 128) % 128 = m % 128 := by omega
        rw [hmod]
        have hsum : n + m % 128 * 128 ^ i + m / 128 * 128 ^ (i + 1) = n + m * 128 ^ i := by
          rw [Nat.pow_succ, Nat.add_assoc]
          congr 1
          rw [Nat.mul_comm (128 ^ i) 128, ← Nat.mul_assoc, ← Nat.add_mul]
          congr 1
          omega
        rw [ih (m / 128) (by omega) (i + 1) _ (by omega) (fun _ => by omega) (by rw [hsum]; exact hlt) (by omega) (fun j hj hjs => by
          have := hb (j + 1) (by rw [he, List.length_cons]; omega) (by omega)
          rw [he, List.getD_cons_succ] at this
          rw [← this]
          congr 2
          omega), hsum, he, List.length_cons]
        by_cases hc : p + (i + 1) + (enc (m / 128)).length ≤ s.size
        · rw [if_pos hc, if_pos (by omega)]
          congr 1
          omega
        · rw [if_neg hc, if_neg (by omega)]
    · rw [dec_end hend, if_neg (by have := enc_pos m; omega)]

/-- what is read is the shortest encoding -/
theorem dec_ok (s : ByteArray) (p : Nat) : ∀ (d i n m u : Nat), s.size - (p + i) = d → i ≤ 9 → n < 128 ^ i → dec s p i n = .ok m u →
    ∃ q, m = n + q * 128 ^ i ∧ (0 < i → 0 < q) ∧ u = i + (enc q).length ∧ p + u ≤ s.size ∧ m < 18446744073709551616 ∧ ∀ j, j < (enc q).length → (nb s (p + i + j) : Int) = (enc q).getD j 0 := by
  intro d
  induction d using Nat.strongRecOn with
  | _ d ih =>
    intro i n m u hd hi hn h
    by_cases hend : p + i < s.size
    · by_cases hf : (i = 9 ∧ 1 < nb s (p + i)) ∨ (0 < i ∧ nb s (p + i) = 0)
      · rw [dec_form hend hf] at h
        cases h
      · have hc := nb_le s (p + i)
        by_cases hl : nb s (p + i) < 128
        · rw [dec_last hend hf hl] at h
          injection h with h1 h2
          rw [Nat.mod_eq_of_lt hl] at h1
          have he := enc_small hl
          refine ⟨nb s (p + i), h1.symm, fun h0 => ?_, ?_, by omega, ?_, ?_⟩
          · rcases Nat.eq_zero_or_pos (nb s (p + i)) with hz | hz
            · exact absurd (.inr ⟨h0, hz⟩) hf
            · exact hz
          · rw [he]; simp; omega
          · rw [← h1]
            by_cases h9 : i = 9
            · subst h9
              have : nb s (p + 9) ≤ 1 := by
                rcases Nat.lt_or_ge 1 (nb s (p + 9)) with hz | hz
                · exact absurd (.inl ⟨rfl, hz⟩) hf
                · exact hz
              rw [pow9] at hn ⊢
              omega
            · have hp : (128 : Nat) ^ (i + 1) ≤ 9223372036854775808 := pow_le9 _ (by omega)
              have : n + nb s (p + i) * 128 ^ i < 128 ^ (i + 1) := by
                rw [Nat.pow_succ, Nat.mul_comm (128 ^ i)]
                calc n + nb s (p + i) * 128 ^ i < 128 ^ i + nb s (p + i) * 128 ^ i := by omega
                  _ = (nb s (p + i) + 1) * 128 ^ i := by rw [Nat.add_mul, Nat.one_mul, Nat.add_comm]
                  _ ≤ 128 * 128 ^ i := Nat.mul_le_mul_right _ (by omega)
              omega
          · intro j hj
            rw [he] at hj ⊢
            have : j = 0 := by simpa using hj
            subst this
            simp
        · rw [dec_more hend hf hl] at h
          have h9 : i ≠ 9 := by
            rintro rfl
            exact hf (.inl ⟨rfl, by omega⟩)
          have hn' : n + nb s (p + i) % 128 * 128 ^ i < 128 ^ (i + 1) := by
            rw [Nat.pow_succ, Nat.mul_comm (128 ^ i)]
            calc n + nb s (p + i) % 128 * 128 ^ i < 128 ^ i + nb s (p + i) % 128 * 128 ^ i := by omega
              _ = (nb s (p + i) % 128 + 1) * 128 ^ i := by rw [Nat.add_mul, Nat.one_mul, Nat.add_comm]
              _ ≤ 128 * 128 ^ i := Nat.mul_le_mul_right _ (by omega)
          obtain ⟨q, h1, h2, h3, h4, h5, h6⟩ := ih _ (by omega) (i + 1) _ m u rfl (by omega) hn' h
          have hq := h2 (by omega)
          have hbig : ¬ (q * 128 + nb s (p + i) % 128) < 128 := by omega
          have he := enc_big hbig
          have e1 : (q * 128 + nb s (p + i) % 128) % 128 = nb s (p + i) % 128 := by omega
          have e2 : (q * 128 + nb s (p + i) % 128) / 128 = q := by omega
          rw [e1, e2] at he
          refine ⟨q * 128 + nb s (p + i) % 128, ?_, fun _ => by omega, ?_, h4, h5, ?_⟩
          · rw [h1, Nat.pow_succ, Nat.add_assoc]
            congr 1
            rw [Nat.mul_comm (128 ^ i) 128, ← Nat.mul_assoc, ← Nat.add_mul, Nat.add_comm]
          · rw [he, List.length_cons, h3]
            omega
          · intro j hj
            rw [he] at hj ⊢
            cases j with
            | zero =>
              rw [List.getD_cons_zero, Nat.add_zero]
              omega
            | succ j =>
              rw [List.getD_cons_succ, ← h6 j (by simpa using hj)]
              congr 2
              omega
    · rw [dec_end hend] at h
      cases h

end Go.Proofs.Ytnjelebhicheeaa.Spec

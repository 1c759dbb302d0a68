/- DigestLinear, the plain law: the CRCs of two strings, of their exclusive-or and of zero bytes cancel. -/
import Derived.Test.YtfmcikffoinbmaaDigLaws
import Derived.Test.YtfmcikffoinbmaaQx8
namespace Go.Proofs.Ytfmcikffoinbmaa.DigLinear
open Go.RowKit Go.Proofs.YtfmcikffoinbmaaW.PrintWords Go.Proofs.YtfmcikffoinbmaaW.PrintLast Go.Proofs.YtfmcikffoinbmaaW.PrintMore Go.Proofs.Ytfmcikffoinbmaa.Q Go.Proofs.Ytfmcikffoinbmaa.Spec Go.Proofs.Ytfmcikffoinbmaa.CrcSpec Go.Proofs.Ytfmcikffoinbmaa.WireEnc Go.Proofs.Ytfmcikffoinbmaa.WireDec Go.Proofs.Ytfmcikffoinbmaa.WireMid Go.Proofs.Ytfmcikffoinbmaa.DigSums Go.Proofs.Ytfmcikffoinbmaa.DigFO Go.Proofs.Ytfmcikffoinbmaa.DigLaws
set_option linter.unusedVariables false
set_option linter.unusedSimpArgs false

/-! ### the registers cancel -/
theorem four_xor (a b c d x y z w : Nat) (h : a ^^^ b ^^^ c ^^^ d = 0) (h2 : x ^^^ y ^^^ z ^^^ w = 0) : (a ^^^ x) ^^^ (b ^^^ y) ^^^ (c ^^^ z) ^^^ (d ^^^ w) = 0 := by
  have e : (a ^^^ x) ^^^ (b ^^^ y) ^^^ (c ^^^ z) ^^^ (d ^^^ w) = (a ^^^ b ^^^ c ^^^ d) ^^^ (x ^^^ y ^^^ z ^^^ w) := by
    apply Nat.eq_of_testBit_eq
    intro j
    simp only [Nat.testBit_xor]
    cases a.testBit j <;> cases b.testBit j <;> cases c.testBit j <;> cases d.testBit j <;> cases x.testBit j <;> cases y.testBit j <;> cases z.testBit j <;> cases w.testBit j <;> rfl
  rw [e, h, h2]
  rfl
theorem regs (u v w z : ByteArray) (n : Nat) (hw : ∀ j, j < n → nb w j = nb u j ^^^ nb v j) (hz : ∀ j, j < n → nb z j = 0) : ∀ i, i ≤ n → crcReg u i ^^^ crcReg v i ^^^ crcReg w i ^^^ crcReg z i = 0 := by
  intro i
  induction i with
  | zero =>
    intro _
    simp only [crcReg]
    decide
  | succ i ih =>
    intro hi
    have h := ih (by omega)
    simp only [crcReg]
    rw [← stepsC_xor, ← stepsC_xor, ← stepsC_xor, hw i (by omega), hz i (by omega)]
    rw [four_xor _ _ _ _ (nb u i) (nb v i) (nb u i ^^^ nb v i) 0 h (by rw [Nat.xor_zero, Nat.xor_self])]
    rfl
theorem crcs (u v w z : ByteArray) (n : Nat) (hu : u.size = n) (hv : v.size = n) (hws : w.size = n) (hzs : z.size = n) (hw : ∀ j, j < n → nb w j = nb u j ^^^ nb v j) (hz : ∀ j, j < n → nb z j = 0) : crc u ^^^ crc v ^^^ crc w ^^^ crc z = 0 := by
  unfold crc
  rw [hu, hv, hws, hzs]
  exact four_xor _ _ _ _ _ _ _ _ (by rfl) (regs u v w z n hw hz n (by omega))

/-! ### the loop -/
def xs (u v : ByteArray) (n i : Nat) : List Int := (List.range n).map fun j => if j < i then ((nb u j ^^^ nb v j : Nat) : Int) else 0
theorem xs_len (u v : ByteArray) (n i : Nat) : (xs u v n i).length = n := by simp [xs]
theorem xs_zero (u v : ByteArray) (n : Nat) : xs u v n 0 = List.replicate n 0 := by
  apply List.ext_getElem
  · simp [xs]
  · intro j h1 h2
    simp [xs]
theorem xs_set (u v : ByteArray) (n i : Nat) (hi : i < n) : (xs u v n i).set i ((nb u i ^^^ nb v i : Nat) : Int) = xs u v n (i + 1) := by
  apply List.ext_getElem
  · simp [xs]
  · intro j h1 h2
    rw [List.getElem_set]
    by_cases h : i = j
    · subst h
      simp [xs]
    · rw [if_neg h]
      simp only [xs, List.getElem_map, List.getElem_range]
      by_cases h3 : j < i
      · rw [if_pos h3, if_pos (by omega)]
      · rw [if_neg h3, if_neg (by omega)]
theorem xor8 (a b : Nat) (ha : a ≤ 255) (hb : b ≤ 255) : bits .xor .u8 (a : Int) (b : Int) = ((a ^^^ b : Nat) : Int) := by
  rw [u8_xor _ _ (by omega) (by omega) (by omega) (by omega), Int.toNat_natCast, Int.toNat_natCast]
theorem xor_le (a b : Nat) (ha : a ≤ 255) (hb : b ≤ 255) : (a ^^^ b) ≤ 255 := by
  have := Nat.xor_lt_two_pow (n := 8) (x := a) (y := b) (by omega) (by omega)
  omega
theorem xor32 (a b : Nat) (ha : a < 4294967296) (hb : b < 4294967296) : bits .xor .u32 (a : Int) (b : Int) = ((a ^^^ b : Nat) : Int) := by
  rw [u32_xor _ _ (by omega) (by omega) (by omega) (by omega), Int.toNat_natCast, Int.toNat_natCast]
theorem loop (u v : ByteArray) (n : Nat) (hu : n ≤ u.size) (hv : n ≤ v.size) (hn : n ≤ 140737488351232) : ∀ (d i k : Nat), i + d = n → d + 100 ≤ k →
    imageeditorlaw05_DigestLinear.l0 k u v (n : Int) (xs u v n i) (List.replicate n 0) (n : Int) (i : Int) = some true := by
  intro d
  induction d with
  | zero =>
    intro i k hi hk
    obtain ⟨k, rfl⟩ : ∃ m, k = m + 1 := ⟨k - 1, by omega⟩
    obtain rfl : i = n := by omega
    simp only [imageeditorlaw05_DigestLinear.l0]
    have z1 : (u.extract 0 i).size = i := by rw [size_ext _ _ _ hu]; omega
    have z2 : (v.extract 0 i).size = i := by rw [size_ext _ _ _ hv]; omega
    have z3 : (strOfNums (xs u v i i)).size = i := by rw [strOfNums_size, xs_len]
    have z4 : (strOfNums (List.replicate i (0 : Int))).size = i := by rw [strOfNums_size, List.length_replicate]
    rw [if_neg (by omega), awake_ok _ (by omega), Option.bind_some, if_pos rfl, if_pos (by omega), if_pos (by omega), Int.toNat_natCast, crcf_eq _ (by omega), Option.bind_some, if_pos (by omega), crcf_eq _ (by omega), Option.bind_some, crcf_eq _ (by omega), Option.bind_some, crcf_eq _ (by omega), Option.bind_some]
    have c1 := crc_lt (u.extract 0 i)
    have c2 := crc_lt (v.extract 0 i)
    have c3 := crc_lt (strOfNums (xs u v i i))
    have c4 := crc_lt (strOfNums (List.replicate i (0 : Int)))
    rw [xor32 _ _ c1 c2, xor32 _ _ (xor_lt32 c1 c2) c3, xor32 _ _ (xor_lt32 (xor_lt32 c1 c2) c3) c4]
    rw [crcs _ _ _ _ i z1 z2 z3 z4 (fun j hj => ?_) (fun j hj => ?_)]
    · rfl
    · have hb : ∀ x ∈ xs u v i i, 0 ≤ x ∧ x ≤ 255 := by
        intro x hx
        obtain ⟨q, _, rfl⟩ := List.mem_map.1 hx
        have := xor_le (nb u q) (nb v q) (nb_le u q) (nb_le v q)
        by_cases hq : q < i
        · rw [if_pos hq]; omega
        · rw [if_neg hq]; omega
      have h := nb_str (xs u v i i) hb j (by rw [xs_len]; exact hj)
      rw [List.getD_eq_getElem?_getD, List.getElem?_eq_getElem (by rw [xs_len]; exact hj), Option.getD_some] at h
      simp only [xs, List.getElem_map, List.getElem_range] at h
      rw [if_pos hj] at h
      rw [nb_ext _ _ _ _ hu (by omega), nb_ext _ _ _ _ hv (by omega), Nat.zero_add]
      unfold xs
      omega
    · have h := nb_str (List.replicate i (0 : Int)) (fun x hx => by rw [(List.mem_replicate.1 hx).2]; omega) j (by rw [List.length_replicate]; exact hj)
      rw [List.getD_eq_getElem?_getD, List.getElem?_replicate, if_pos hj, Option.getD_some] at h
      omega
  | succ d ih =>
    intro i k hi hk
    obtain ⟨k, rfl⟩ : ∃ m, k = m + 1 := ⟨k - 1, by omega⟩
    simp only [imageeditorlaw05_DigestLinear.l0]
    rw [if_pos (by omega), if_pos (by omega), if_pos (by omega), if_pos (by omega), if_pos (by rw [xs_len]; omega), bt_nb, bt_nb, xor8 _ _ (nb_le u i) (nb_le v i), Int.toNat_natCast, xs_set _ _ _ _ (by omega), WireDec.wrap_id _ (by omega) (by omega)]
    exact ih (i + 1) k (by omega) (by omega)
theorem linear (s t : ByteArray) (hs : s.size ≤ 140737488351232) (ht : t.size ≤ 140737488351232) : ∃ k, imageeditorlaw05_DigestLinear.f k s t = some true := by
  obtain ⟨n, hn, h1, h2⟩ : ∃ n : Nat, mn (s.size : Int) (t.size : Int) = (n : Int) ∧ n ≤ s.size ∧ n ≤ t.size := by
    unfold mn
    split
    · exact ⟨t.size, rfl, by omega, by omega⟩
    · exact ⟨s.size, rfl, by omega, by omega⟩
  refine ⟨n + 100, ?_⟩
  unfold imageeditorlaw05_DigestLinear.f
  rw [hn, if_pos (by omega), Int.toNat_natCast, if_pos (by omega), ← xs_zero s t n]
  conv => lhs; rw [show xs s t n 0 = xs s t n 0 from rfl]
  have := loop s t n h1 h2 (by omega) n 0 (n + 100) (by omega) (by omega)
  rw [← xs_zero s t n] at this
  exact this

end Go.Proofs.Ytfmcikffoinbmaa.DigLinear

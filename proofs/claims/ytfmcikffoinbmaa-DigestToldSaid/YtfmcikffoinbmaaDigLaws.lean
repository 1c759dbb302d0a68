/- The examples of the chapter, and what the laws of the digest say, in plain terms. -/
import Derived.Test.YtfmcikffoinbmaaDigFO
namespace Go.Proofs.Ytfmcikffoinbmaa.DigLaws
open Go.RowKit Go.Proofs.YtfmcikffoinbmaaW.PrintWords Go.Proofs.YtfmcikffoinbmaaW.PrintLast Go.Proofs.YtfmcikffoinbmaaW.PrintMore Go.Proofs.Ytfmcikffoinbmaa.Q Go.Proofs.Ytfmcikffoinbmaa.Spec Go.Proofs.Ytfmcikffoinbmaa.CrcSpec Go.Proofs.Ytfmcikffoinbmaa.WireEnc Go.Proofs.Ytfmcikffoinbmaa.WireDec Go.Proofs.Ytfmcikffoinbmaa.WireMid Go.Proofs.Ytfmcikffoinbmaa.DigSums Go.Proofs.Ytfmcikffoinbmaa.DigFO
set_option linter.unusedVariables false
set_option linter.unusedSimpArgs false

theorem enc0 : encS 0 = ⟨#[0]⟩ := by
  unfold encS
  rw [enc_small (by omega)]
  rfl
theorem frame0 : frame (⟨#[]⟩ : ByteArray) = (⟨#[0, 141, 239, 2, 210]⟩, 0) := by
  unfold frame
  rw [if_neg (by decide +kernel)]
  unfold body
  rw [show (⟨#[]⟩ : ByteArray).size = 0 from rfl, enc0, show (⟨#[0]⟩ : ByteArray) ++ (⟨#[]⟩ : ByteArray) = ⟨#[0]⟩ from rfl, show crc ⟨#[0]⟩ = 3523407757 from by kernel_rfl]
  rfl
theorem dec0 (s : ByteArray) (h0 : 0 < s.size) (h : nb s 0 = 0) : dec s 0 0 0 = .ok 0 1 := by
  rw [dec_last (by omega) (by simp) (by rw [Nat.add_zero, h]; omega), Nat.add_zero, h]
theorem open1 : openS (⟨#[0, 141, 239, 2, 210]⟩ : ByteArray) = (⟨#[]⟩, 5, 0) := by
  unfold openS
  rw [dec0 _ (by decide +kernel) (by kernel_rfl)]
  simp only
  rw [if_neg (by decide +kernel), if_neg (by decide +kernel), if_pos (by kernel_rfl)]
  rfl
theorem open2 : (openS (⟨#[0, 0, 0, 0, 0]⟩ : ByteArray)).2.2 = 7 := by
  unfold openS
  rw [dec0 _ (by decide +kernel) (by kernel_rfl)]
  simp only
  rw [if_neg (by decide +kernel), if_neg (by decide +kernel), if_neg (by decide +kernel)]
theorem awake_ok (k : Nat) (hk : 24 ≤ k) : imageeditorlaw05_awake.f k = some true := by
  obtain ⟨k, rfl⟩ : ∃ m, k = m + 2 := ⟨k - 2, by omega⟩
  unfold imageeditorlaw05_awake.f
  rw [crcf_eq _ (by decide +kernel), show crc (⟨#[49, 50, 51, 52, 53, 54, 55, 56, 57]⟩ : ByteArray) = 3421780262 from by kernel_rfl, Option.bind_some, if_pos (by rfl)]
  rw [crcf_eq _ (by decide +kernel), show crc (⟨#[]⟩ : ByteArray) = 0 from by kernel_rfl, Option.bind_some, if_pos (by rfl)]
  rw [crcf_eq _ (by decide +kernel), show crc (⟨#[0]⟩ : ByteArray) = 3523407757 from by kernel_rfl, Option.bind_some, if_pos (by rfl)]
  rw [adler_eq _ _ (by decide +kernel) (by show 9 < k + 2; omega), show adler (⟨#[87, 105, 107, 105, 112, 101, 100, 105, 97]⟩ : ByteArray) = 300286872 from by kernel_rfl, Option.bind_some, if_pos (by rfl)]
  rw [adler_eq _ _ (by decide +kernel) (by show 0 < k + 2; omega), show adler (⟨#[]⟩ : ByteArray) = 1 from by kernel_rfl, Option.bind_some, if_pos (by rfl)]
  rw [fnv_eq _ _ (by decide +kernel) (by show 1 < k + 2; omega), show fnv (⟨#[97]⟩ : ByteArray) = 12638187200555641996 from by kernel_rfl, Option.bind_some]
  rw [show ((((12638187200555641996 : Nat) : Int)) != 12638187200555641996) = false from by decide +kernel]
  simp only [imageeditorlaw05_awake.j0]
  rw [if_neg (by simp), frame_eq _ _ (by decide +kernel) (by omega), frame0, Option.bind_some]
  simp only
  rw [if_pos (by decide +kernel), show ((0 : Int) != 0) = false from rfl]
  simp only [imageeditorlaw05_awake.j1]
  rw [if_neg (by simp), open_eq _ _ (by decide +kernel) (by omega), open1, Option.bind_some, open_eq _ _ (by decide +kernel) (by omega), Option.bind_some]
  simp only
  rw [if_pos (by decide +kernel), if_pos trivial, if_pos trivial, open2]
  rfl

/-! ### the laws -/
theorem sums (a0 : ByteArray) (h : a0.size ≤ 140737488351232) : ∃ k, imageeditorlaw05_DigestSums.f k a0 = some true := by
  refine ⟨10 * a0.size + 101, ?_⟩
  unfold imageeditorlaw05_DigestSums.f
  rw [awake_ok _ (by omega), Option.bind_some, if_pos rfl, crcf_eq _ (by omega), Option.bind_some, DigRefCrc.crc_eq _ _ (by omega) (by omega), Option.bind_some, if_pos rfl, adler_eq _ _ (by omega) (by omega), Option.bind_some, radler_eq _ _ (by omega) (by omega), Option.bind_some, if_pos rfl, fnv_eq _ _ (by omega) (by omega), Option.bind_some, rfnv_eq _ _ (by omega) (by omega), Option.bind_some, beq_self_eq_true]
theorem frames (a0 : ByteArray) (h : a0.size ≤ 140737488351232) : ∃ k, imageeditorlaw05_DigestFrames.f k a0 = some true := by
  refine ⟨10 * a0.size + 101, ?_⟩
  unfold imageeditorlaw05_DigestFrames.f
  rw [frame_eq _ _ (by omega) (by omega), Option.bind_some, rframe_eq _ _ (by omega) (by omega), Option.bind_some, awake_ok _ (by omega), Option.bind_some, if_pos rfl, if_pos rfl, beq_self_eq_true]
theorem opens (a0 : ByteArray) (h : a0.size ≤ 140737488351232) : ∃ k, imageeditorlaw05_DigestOpens.f k a0 = some true := by
  refine ⟨10 * a0.size + 101, ?_⟩
  unfold imageeditorlaw05_DigestOpens.f
  rw [open_eq _ _ (by omega) (by omega), Option.bind_some, ropen_eq _ _ (by omega) (by omega), Option.bind_some, awake_ok _ (by omega), Option.bind_some, if_pos rfl, if_pos rfl, if_pos rfl, beq_self_eq_true]

/-- a frame, and any bytes behind it -/
theorem open_frame (s c : ByteArray) (h : s.size ≤ 1048576) : openS ((frame s).1 ++ c) = (s, (((frame s).1.size : Nat) : Int), 0) := by
  have hf : frame s = (body s ++ le4 (crc (body s)), 0) := by unfold frame; rw [if_neg (by omega)]
  rw [hf]
  simp only
  have hb : (body s).size = (encS s.size).size + s.size := by unfold body; rw [size_app]
  have hd : dec (body s ++ le4 (crc (body s)) ++ c) 0 0 0 = .ok s.size (encS s.size).size := by
    have := dec_mid ByteArray.empty (s ++ (le4 (crc (body s)) ++ c)) s.size (by omega)
    rw [empty_app] at this
    unfold body at this ⊢
    rw [app_assoc, app_assoc]
    exact this
  have hz : (body s ++ le4 (crc (body s)) ++ c).size = (body s).size + 4 + c.size := by rw [size_app, size_app, le4_size]
  unfold openS
  rw [hd]
  simp only
  rw [if_neg (by omega), if_neg (by omega), ← hb]
  have x1 : (body s ++ le4 (crc (body s)) ++ c).extract 0 (body s).size = body s := by rw [app_assoc]; exact ext_front _ _
  have x2 : (body s ++ le4 (crc (body s)) ++ c).extract (body s).size ((body s).size + 4) = le4 (crc (body s)) := by
    have := ext_mid (body s) (le4 (crc (body s))) c _ rfl
    rw [le4_size] at this
    rw [app_assoc]
    exact this
  have x3 : (body s ++ le4 (crc (body s)) ++ c).extract (encS s.size).size (body s).size = s := by
    have := ext_mid (encS s.size) s (le4 (crc (body s)) ++ c) _ rfl
    rw [← app_assoc, ← hb, ← app_assoc] at this
    exact this
  rw [x1, x2, x3, if_pos rfl]
  congr 2
  rw [size_app, le4_size]
theorem back (a0 a1 : ByteArray) (h : a0.size ≤ 140737488351232) (h1 : a1.size ≤ 140737488351232) : ∃ k, imageeditorlaw05_DigestBack.f k a0 a1 = some true := by
  refine ⟨100, ?_⟩
  unfold imageeditorlaw05_DigestBack.f
  rw [awake_ok _ (by omega), Option.bind_some, if_pos rfl, frame_eq _ _ (by omega) (by omega), Option.bind_some]
  by_cases hs : 1048576 < a0.size
  · rw [if_pos (by omega)]
    unfold frame
    rw [if_pos hs, if_pos (by rw [toList_eq]; rfl)]
    rfl
  · have hf : frame a0 = (body a0 ++ le4 (crc (body a0)), 0) := by unfold frame; rw [if_neg hs]
    have hb := body_le a0 (by omega)
    have hz : (frame a0).1.size ≤ 1048590 := by rw [hf]; show (body a0 ++ _).size ≤ _; rw [size_app, le4_size]; omega
    have he : (frame a0).2 = 0 := by rw [hf]
    rw [if_neg (by omega), if_pos (by omega), open_eq _ _ (by rw [size_app]; omega) (by omega), Option.bind_some, open_frame a0 a1 (by omega), if_pos he]
    simp only [if_true, beq_self_eq_true]

/-! ### Adler's halves, and one more byte of Fnv -/
theorem adA_app (s t : ByteArray) : ∀ i, i ≤ t.size → adA (s ++ t) (s.size + i) = (adA s s.size + adA t i + 65520) % 65521 := by
  have hpre : ∀ i, i ≤ s.size → adA (s ++ t) i = adA s i := by
    intro i
    induction i with
    | zero => intro _; rfl
    | succ i ih =>
      intro hi
      rw [adA, adA, ih (by omega), nb_app, if_pos (by omega)]
  intro i
  induction i with
  | zero =>
    intro _
    rw [Nat.add_zero, hpre _ (by omega)]
    have := adA_lt s s.size
    show _ = (adA s s.size + 1 + 65520) % 65521
    omega
  | succ i ih =>
    intro hi
    rw [← Nat.add_assoc, adA, ih (by omega), nb_app, if_neg (by omega), show s.size + i - s.size = i from by omega, adA]
    omega
theorem mul_next (m i a : Nat) : (i + 1) % m * a % m = (i % m * a + a) % m := by
  have e1 : (i + 1) % m * a % m = (i + 1) * a % m := by rw [Nat.mul_mod, Nat.mod_mod, ← Nat.mul_mod]
  have e2 : i % m * a % m = i * a % m := by rw [Nat.mul_mod, Nat.mod_mod, ← Nat.mul_mod]
  rw [e1, Nat.add_mul, Nat.one_mul, Nat.add_mod, ← e2, ← Nat.add_mod]
theorem mod_step0 (a b x y p q : Nat) (hm : p % 65521 = (q + (a + 65520)) % 65521) : ((b + y + q) % 65521 + (a + x + 65520) % 65521) % 65521 = (b + (y + x) % 65521 + p) % 65521 := by
  omega
theorem mod_step (a b x y i : Nat) : ((b + y + i % 65521 * (a + 65520)) % 65521 + (a + x + 65520) % 65521) % 65521 = (b + (y + x) % 65521 + (i + 1) % 65521 * (a + 65520)) % 65521 :=
  mod_step0 a b x y _ _ (mul_next 65521 i (a + 65520))
theorem adB_app (s t : ByteArray) : ∀ i, i ≤ t.size → adB (s ++ t) (s.size + i) = (adB s s.size + adB t i + i % 65521 * (adA s s.size + 65520)) % 65521 := by
  have hpreA : ∀ i, i ≤ s.size → adA (s ++ t) i = adA s i := by
    intro i
    induction i with
    | zero => intro _; rfl
    | succ i ih =>
      intro hi
      rw [adA, adA, ih (by omega), nb_app, if_pos (by omega)]
  have hpre : ∀ i, i ≤ s.size → adB (s ++ t) i = adB s i := by
    intro i
    induction i with
    | zero => intro _; rfl
    | succ i ih =>
      intro hi
      rw [adB, adB, ih (by omega), hpreA _ hi]
  intro i
  induction i with
  | zero =>
    intro _
    rw [Nat.add_zero, hpre _ (by omega)]
    have := adB_lt s s.size
    show _ = (adB s s.size + 0 + 0 % 65521 * _) % 65521
    simp
    omega
  | succ i ih =>
    intro hi
    rw [← Nat.add_assoc, adB, ih (by omega), Nat.add_assoc s.size i 1, adA_app s t (i + 1) hi, adB]
    generalize adA s s.size = a
    exact mod_step _ _ _ _ i
theorem fnv_snoc (s : ByteArray) (c : Int) (h0 : 0 ≤ c) (h1 : c ≤ 255) : fnv (s ++ strOfNums [c]) = fnvS (fnv s) c.toNat := by
  have hpre : ∀ i, i ≤ s.size → fnvR (s ++ strOfNums [c]) i = fnvR s i := by
    intro i
    induction i with
    | zero => intro _; rfl
    | succ i ih =>
      intro hi
      rw [fnvR, fnvR, ih (by omega), nb_app, if_pos (by omega)]
  unfold fnv
  rw [size_app, show (strOfNums [c]).size = 1 from strOfNums_size _, fnvR, hpre _ (by omega), nb_app, if_neg (by omega), Nat.sub_self]
  have := nb_str [c] (by intro x hx; obtain rfl := List.mem_singleton.1 hx; omega) 0 (by simp)
  rw [List.getD_cons_zero] at this
  congr 1
  omega
end Go.Proofs.Ytfmcikffoinbmaa.DigLaws

/- JournalDamages, the plain law: another byte in the payload or the checksum of the last record: the records before it are read. -/
import Derived.Test.YtnppfhjfnjinlaaJrnW
import Derived.Test.YtnppfhjfnjinlaaCrcInj
import Derived.Test.YtnppfhjfnjinlaaQx8
namespace Go.Proofs.Ytnppfhjfnjinlaa.JrnDamages
open Go.RowKit Go.Proofs.YtnppfhjfnjinlaaW.PrintWords Go.Proofs.YtnppfhjfnjinlaaW.PrintLast Go.Proofs.YtnppfhjfnjinlaaW.PrintMore Go.Proofs.Ytnppfhjfnjinlaa.Q Go.Proofs.Ytnppfhjfnjinlaa.Spec Go.Proofs.Ytnppfhjfnjinlaa.WireEnc Go.Proofs.Ytnppfhjfnjinlaa.WireDec Go.Proofs.Ytnppfhjfnjinlaa.WireMid Go.Proofs.Ytnppfhjfnjinlaa.DigP Go.Proofs.Ytnppfhjfnjinlaa.JrnP Go.Proofs.Ytnppfhjfnjinlaa.JrnW Go.Proofs.Ytnppfhjfnjinlaa.CrcInj
set_option linter.unusedVariables false
set_option linter.unusedSimpArgs false

/-! ### the length's bytes -/
theorem enc_hi : ∀ (d n j : Nat), n < d → j + 1 < (enc n).length → 128 ≤ (enc n).getD j 0
  | 0, n, j, h, _ => absurd h (by omega)
  | d + 1, n, j, h, hj => by
    by_cases h1 : n < 128
    · rw [enc_small h1] at hj
      simp at hj
    · rw [enc_big h1] at hj ⊢
      cases j with
      | zero =>
        rw [List.getD_cons_zero]
        omega
      | succ j =>
        rw [List.getD_cons_succ]
        exact enc_hi d (n / 128) j (by omega) (by rw [List.length_cons] at hj; omega)
theorem enc_lo : ∀ (d n : Nat), n < d → (enc n).getD ((enc n).length - 1) 0 < 128
  | 0, n, h => absurd h (by omega)
  | d + 1, n, h => by
    by_cases h1 : n < 128
    · rw [enc_small h1]
      show (n : Int) < 128
      omega
    · have hp := enc_pos (n / 128)
      rw [enc_big h1, List.length_cons, Nat.add_sub_cancel]
      obtain ⟨m, hm⟩ : ∃ m, (enc (n / 128)).length = m + 1 := ⟨(enc (n / 128)).length - 1, by omega⟩
      have ih := enc_lo d (n / 128) (by omega)
      rw [hm, Nat.add_sub_cancel] at ih
      rw [hm, List.getD_cons_succ]
      exact ih
theorem encS_hi (n j : Nat) (hj : j + 1 < (encS n).size) : 128 ≤ nb (encS n) j := by
  rw [encS_size] at hj
  have := enc_hi (n + 1) n j (by omega) hj
  have e := encS_nb n j (by omega)
  omega
theorem encS_lo (n : Nat) : nb (encS n) ((encS n).size - 1) < 128 := by
  have hp := enc_pos n
  have := enc_lo (n + 1) n (by omega)
  have e := encS_nb n ((enc n).length - 1) (by omega)
  rw [encS_size]
  omega
theorem encS_pos (n : Nat) : 0 < (encS n).size := by rw [encS_size]; exact enc_pos n
theorem encS_3 (n : Nat) (h : n ≤ 1048576) : (encS n).size ≤ 3 := by rw [encS_size]; exact enc_len 2 n (by omega)

/-! ### the offsets, the records -/
theorem offs_len : ∀ (xs : List Rc) (p : Nat), (offs p xs).length = xs.length
  | [], _ => rfl
  | x :: xs, p => by rw [offs, List.length_cons, List.length_cons, offs_len xs]
theorem offs_get : ∀ (xs : List Rc) (p q : Nat), q ≤ xs.length → (((p : Nat) : Int) :: offs p xs).getD q 0 = ((p + (encL (xs.take q)).size : Nat) : Int)
  | xs, p, 0, _ => by
    rw [List.take_zero]
    rfl
  | [], p, q + 1, h => absurd h (by simp)
  | x :: xs, p, q + 1, h => by
    have := offs_get xs (p + (encR x).1.size) q (by simpa using h)
    rw [List.getD_cons_succ, offs, this, List.take_succ_cons, encL, size_app, Nat.add_assoc]
theorem rd_offs (xs : List Rc) (p q : Nat) (h : q ≤ xs.length) : rd (((p : Nat) : Int) :: offs p xs) (q : Int) = ((p + (encL (xs.take q)).size : Nat) : Int) := by
  rw [← offs_get xs p q h]
  rfl
theorem numb_split : ∀ (ys : List Rc) (z : Rc) (b : Nat), Numb b (ys ++ [z]) → Numb b ys ∧ (encR z).2 = 0
  | [], z, b, h => ⟨trivial, h.2.1⟩
  | y :: ys, z, b, h => by
    obtain ⟨h1, h2⟩ := numb_split ys z (b + 1) h.2.2
    exact ⟨⟨h.1, h.2.1, h1⟩, h2⟩

/-! ### one byte put anew behind a front -/
theorem ext_back (a f : ByteArray) (p : Nat) (hp : p ≤ f.size) : (a ++ f).extract (a.size + p) (a ++ f).size = f.extract p f.size := by
  have hz : (a ++ f).size = a.size + f.size := size_app a f
  apply ext_nb
  · rw [size_ext _ _ _ (by omega), size_ext _ _ _ (by omega)]
    omega
  · intro j hj
    rw [size_ext _ _ _ (by omega)] at hj
    rw [nb_ext _ _ _ _ (by omega) (by omega), nb_ext _ _ _ _ (by omega) (by omega), nb_app, if_neg (by omega)]
    congr 1
    omega
theorem put_app (a f x : ByteArray) (p : Nat) (hp : p < f.size) : (a ++ f).extract 0 (a.size + p) ++ x ++ (a ++ f).extract (a.size + p + 1) (a ++ f).size = a ++ (f.extract 0 p ++ x ++ f.extract (p + 1) f.size) := by
  rw [ext_app a f (a.size + p) (by omega) (by rw [size_app]; omega), show a.size + p + 1 = a.size + (p + 1) from by omega, ext_back a f (p + 1) (by omega), show a.size + p - a.size = p from by omega]
  simp only [app_assoc]
theorem rec_told (s : ByteArray) (b : Nat) (h : openS s = (ByteArray.empty, 0, 7)) : rec_ s b = (0, 0, ByteArray.empty, 0, 7) := by
  unfold rec_
  rw [h]
  simp only
  rw [if_neg (by omega)]
/-- what Scan answers where the last record was damaged -/
theorem scan_told (g : Int) (ys : List Rc) (f : ByteArray) (k : Nat) (hg : (head g).2 = 0) (hN : Numb 0 ys) (hf : openS f = (ByteArray.empty, 0, 7)) (h0 : 0 < f.size) (hs : f.size ≤ 2000000) (hk : ys.length + 30 ≤ k) :
    journal_Scan.f k ((head g).1 ++ encL ys ++ f) = some (g, ys, ((((head g).1 ++ encL ys).size : Nat) : Int), 7) := by
  have hl := numb_len ys 0 hN
  have he := encL_le ys 0 hN
  obtain ⟨_, _, _, h4, _⟩ := header_head g ByteArray.empty hg
  have hz : ((head g).1 ++ encL ys).size = (head g).1.size + (encL ys).size := size_app _ _
  have hz2 : ((head g).1 ++ encL ys ++ f).size = ((head g).1 ++ encL ys).size + f.size := size_app _ _
  have hr := rec_told f ys.length hf
  have hx : ((head g).1 ++ encL ys ++ f).extract ((head g).1 ++ encL ys).size ((head g).1 ++ encL ys ++ f).size = f := ext_tail _ _
  obtain ⟨k, rfl⟩ : ∃ m, k = m + 1 + ys.length := ⟨k - ys.length - 1, by omega⟩
  have ha := scan_all g ys f (k + 1 + ys.length) hg hN (by omega) (by omega)
  rw [← app_assoc, Nat.add_sub_cancel] at ha
  rw [ha, scan_err _ _ _ _ _ (by omega) (by omega) (by omega) (by omega) (by rw [hx, hr]; show ¬ (7 : Int) = 0; omega), hx, hr]

/-! ### the law -/
theorem tmod_nat (a b : Nat) : Int.tmod (a : Int) (b : Int) = ((a % b : Nat) : Int) := rfl
theorem j2_ok (J : ByteArray) (xs : List Rc) (F at_ b : Nat) (g : Int) (L : List Rc) (c : Int) (k : Nat) (ha : at_ < J.size) (hJ : J.size ≤ 1125914939228200) (hx : 1 ≤ xs.length) (hx2 : xs.length ≤ 4398046511104) (hk : xs.length + 100 ≤ k)
    (hs : b ≠ nb J at_ → journal_Scan.f k (J.extract 0 at_ ++ strOfNums [(b : Int)] ++ J.extract (at_ + 1) J.size) = some (g, xs.take (xs.length - 1), (F : Int), 7)) :
    imageeditorlaw44_JournalDamages.j2 (k + 1) J xs (F : Int) (at_ : Int) false g L c (b : Int) = some true := by
  simp only [imageeditorlaw44_JournalDamages.j2]
  rw [if_neg (by simp), if_pos (by omega), if_pos (by omega), bt_nb]
  by_cases hb : (nb J at_ : Int) = (b : Int)
  · rw [if_pos hb, example_ok _ (by omega), Option.bind_some]
  · have s1 : (J.extract 0 at_).size = at_ := by rw [size_ext _ _ _ (by omega)]; omega
    have s2 : (strOfNums [(b : Int)]).size = 1 := strOfNums_size _
    have s3 : (J.extract (at_ + 1) J.size).size = J.size - (at_ + 1) := size_ext _ _ _ (by omega)
    have w1 : wrap64 ((at_ : Int) + 1) = ((at_ + 1 : Nat) : Int) := by rw [wrap_id _ (by omega) (by omega)]; omega
    have w2 : wrap64 ((xs.length : Int) - 1) = ((xs.length - 1 : Nat) : Int) := by rw [wrap_id _ (by omega) (by omega)]; omega
    rw [if_neg hb, if_pos (by omega), Option.bind_some, Int.toNat_natCast, if_pos (by omega), w1, if_pos (by omega), if_pos (by omega), Int.toNat_natCast, if_pos (by rw [size_app]; omega), hs (by omega), Option.bind_some, if_pos rfl, w2, if_pos (by omega), if_pos (by omega), Int.toNat_natCast, same_eq _ _ (by rw [List.length_take]; omega) (by rw [List.length_take]; omega), Option.bind_some, if_pos rfl, if_pos rfl, if_pos rfl, example_ok _ (by omega), Option.bind_some]
theorem j1_ok (J : ByteArray) (xs : List Rc) (F E P b c : Nat) (g : Int) (L : List Rc) (k : Nat) (hz : J.size = F + E + P + 4) (hJ : J.size ≤ 1125914939228200) (hx : 1 ≤ xs.length) (hx2 : xs.length ≤ 4398046511104) (hk : xs.length + 100 ≤ k)
    (hs : ∀ q, E ≤ q → q < E + P + 4 → b ≠ nb J (F + q) → journal_Scan.f k (J.extract 0 (F + q) ++ strOfNums [(b : Int)] ++ J.extract (F + q + 1) J.size) = some (g, xs.take (xs.length - 1), (F : Int), 7)) :
    imageeditorlaw44_JournalDamages.j1 (k + 2) J xs (F : Int) (E : Int) g L (c : Int) (b : Int) = some true := by
  simp only [imageeditorlaw44_JournalDamages.j1]
  have w1 : wrap64 (wrap64 ((J.size : Int) - (F : Int)) - (E : Int)) = ((P + 4 : Nat) : Int) := by rw [wrap_id ((J.size : Int) - (F : Int)) (by omega) (by omega), wrap_id _ (by omega) (by omega)]; omega
  have w2 : IntKind.u64.wrap ((P + 4 : Nat) : Int) = ((P + 4 : Nat) : Int) := by rw [wrap_u64]; omega
  obtain ⟨m, hm⟩ : ∃ m, c % (P + 4) = m := ⟨_, rfl⟩
  have hm2 : m < P + 4 := by rw [← hm]; exact Nat.mod_lt _ (by omega)
  have w3 : wrap64 (wrap64 ((J.size : Int) - 1) - wrap64 (Int.tmod (c : Int) ((P + 4 : Nat) : Int))) = ((F + (E + P + 3 - m) : Nat) : Int) := by
    rw [tmod_nat, hm, wrap_id (m : Int) (by omega) (by omega), wrap_id ((J.size : Int) - 1) (by omega) (by omega), wrap_id _ (by omega) (by omega)]
    omega
  rw [w1, w2, w3, if_neg (by omega), if_neg (by omega), if_neg (by omega), decide_eq_false (by omega)]
  exact j2_ok J xs F (F + (E + P + 3 - m)) b g L c k (by omega) hJ hx hx2 hk (hs (E + P + 3 - m) (by omega) (by omega))
theorem l0_ok (J : ByteArray) (xs : List Rc) (F E b c : Nat) (g : Int) (L : List Rc) (k : Nat) (hE : E ≤ 3) (hz : F + E < J.size) (hJ : J.size ≤ 1125914939228200) (hhi : ∀ j, j + 1 < E → 128 ≤ nb J (F + j)) (hlo : nb J (F + (E - 1)) < 128)
    (hj : ∀ q, imageeditorlaw44_JournalDamages.j1 (k + 2 + q) J xs (F : Int) (E : Int) g L (c : Int) (b : Int) = some true) : ∀ (d q : Nat), 1 ≤ q → q + d = E → imageeditorlaw44_JournalDamages.l0 (k + 3 + d) J xs (F : Int) (q : Int) g L (c : Int) (b : Int) = some true := by
  intro d
  induction d with
  | zero =>
    intro q h1 hq
    obtain rfl : q = E := by omega
    rw [Nat.add_zero]
    simp only [imageeditorlaw44_JournalDamages.l0]
    have w : wrap64 (wrap64 ((F : Int) + (q : Int)) - 1) = ((F + (q - 1) : Nat) : Int) := by rw [wrap_id ((F : Int) + (q : Int)) (by omega) (by omega), wrap_id _ (by omega) (by omega)]; omega
    rw [w, if_pos (by omega), if_pos (by omega), if_pos (by omega), bt_nb, if_neg (by omega)]
    exact hj 0
  | succ d ih =>
    intro q h1 hq
    rw [← Nat.add_assoc]
    simp only [imageeditorlaw44_JournalDamages.l0]
    have w : wrap64 (wrap64 ((F : Int) + (q : Int)) - 1) = ((F + (q - 1) : Nat) : Int) := by rw [wrap_id ((F : Int) + (q : Int)) (by omega) (by omega), wrap_id _ (by omega) (by omega)]; omega
    have w2 : wrap64 ((q : Int) + 1) = ((q + 1 : Nat) : Int) := by rw [wrap_id _ (by omega) (by omega)]; omega
    have h128 := hhi (q - 1) (by omega)
    rw [w, w2, if_pos (by omega), if_pos (by omega), if_pos (by omega), bt_nb, if_pos (by omega)]
    exact ih (q + 1) (by omega) (by omega)
theorem core (g : Int) (ys : List Rc) (z : Rc) (L : List Rc) (b c K : Nat) (hg : (head g).2 = 0) (hN : Numb 0 (ys ++ [z])) (hb : b ≤ 255) (hl : ys.length + 1 ≤ 4398046511104) (hK : ys.length + 120 ≤ K)
    (hw : imageeditorlaw44_write.f K g L = some ((head g).1 ++ encL (ys ++ [z]), (((head g).1.size : Nat) : Int) :: offs (head g).1.size (ys ++ [z]), ys ++ [z])) :
    imageeditorlaw44_JournalDamages.f K g L (c : Int) (b : Int) = some true := by
  obtain ⟨hy, hz⟩ := numb_split ys z 0 hN
  have hyl := numb_len (ys ++ [z]) 0 hN
  rw [List.length_append, List.length_singleton] at hyl
  have hye := encL_le ys 0 hy
  obtain ⟨_, _, _, h4, _⟩ := header_head g ByteArray.empty hg
  obtain ⟨_, _, z3, z4, z5, z6⟩ := encode_ok z.f0 z.f1 z.f2 hz
  have ze : encR z = frame (pay z.f0 z.f1 z.f2) := z3
  obtain ⟨p, hp⟩ : ∃ p, pay z.f0 z.f1 z.f2 = p := ⟨_, rfl⟩
  rw [hp] at z4 ze
  have e1 : (head g).1 ++ encL (ys ++ [z]) = ((head g).1 ++ encL ys) ++ (frame p).1 := by
    rw [encL_app, ← app_assoc]
    show _ ++ ((encR z).1 ++ ByteArray.empty) = _
    rw [app_empty, ze]
  obtain ⟨A, hA⟩ : ∃ A, (head g).1 ++ encL ys = A := ⟨_, rfl⟩
  have hAz : A.size = (head g).1.size + (encL ys).size := by rw [← hA, size_app]
  have hf : (frame p).1 = encS p.size ++ (p ++ le4 (CrcSpec.crc (body p))) := by
    have : frame p = (body p ++ le4 (CrcSpec.crc (body p)), 0) := by unfold frame; rw [if_neg (by omega)]
    rw [this]
    show encS p.size ++ p ++ _ = _
    rw [app_assoc]
  obtain ⟨E, hE⟩ : ∃ E, (encS p.size).size = E := ⟨_, rfl⟩
  have hfz : (frame p).1.size = E + p.size + 4 := by rw [hf]; simp only [size_app, le4_size, hE]; omega
  have hE3 := encS_3 p.size z4
  have hEp := encS_pos p.size
  rw [hE] at hE3 hEp
  have hJz : (A ++ (frame p).1).size = A.size + E + p.size + 4 := by rw [size_app, hfz]; omega
  have hbyte : ∀ j, j < E → nb (A ++ (frame p).1) (A.size + j) = nb (encS p.size) j := by
    intro j hj
    rw [hf]
    exact nb_mid A (encS p.size) _ j (by omega)
  have hread : ∀ k, ys.length + 30 ≤ k → ∀ q, E ≤ q → q < E + p.size + 4 → b ≠ nb (A ++ (frame p).1) (A.size + q) →
      journal_Scan.f k ((A ++ (frame p).1).extract 0 (A.size + q) ++ strOfNums [(b : Int)] ++ (A ++ (frame p).1).extract (A.size + q + 1) (A ++ (frame p).1).size) = some (g, (ys ++ [z]).take ((ys ++ [z]).length - 1), (A.size : Int), 7) := by
    intro k hk q q1 q2 hne
    have hnb : nb (A ++ (frame p).1) (A.size + q) = nb (frame p).1 q := by
      rw [nb_app, if_neg (by omega), show A.size + q - A.size = q from by omega]
    rw [hnb] at hne
    have D := diff_put (frame p).1 q b (by omega) hb hne
    have ho := open_diff p _ ByteArray.empty q z4 (by omega) D
    rw [app_empty] at ho
    have hDz := D.size
    rw [put_app A (frame p).1 _ q (by omega)]
    have ht : (ys ++ [z]).take ((ys ++ [z]).length - 1) = ys := by rw [List.length_append, List.length_singleton, Nat.add_sub_cancel, List.take_left']; rfl
    rw [ht, ← hA]
    exact scan_told g ys _ k hg hy ho (by omega) (by omega) hk
  have hlen : (ys ++ [z]).length = ys.length + 1 := by rw [List.length_append, List.length_singleton]
  have hEn : (((((head g).1.size : Nat) : Int) :: offs (head g).1.size (ys ++ [z])).length : Int) = ((ys.length + 2 : Nat) : Int) := by rw [List.length_cons, offs_len, hlen]
  have w2 : wrap64 (((ys.length + 2 : Nat) : Int) - 2) = ((ys.length : Nat) : Int) := by rw [wrap_id _ (by omega) (by omega)]; omega
  have ht2 : (ys ++ [z]).take ys.length = ys := by rw [List.take_left']; rfl
  have hrd : rd ((((head g).1.size : Nat) : Int) :: offs (head g).1.size (ys ++ [z])) ((ys.length : Nat) : Int) = ((A.size : Nat) : Int) := by rw [rd_offs _ _ _ (by omega), ht2, hAz]
  unfold imageeditorlaw44_JournalDamages.f
  rw [hw, Option.bind_some]
  simp only
  rw [hEn, w2, hrd, if_neg (by omega), if_pos (by omega), if_pos (by omega), e1, hA]
  obtain ⟨k, rfl⟩ : ∃ k, K = k + 3 + (E - 1) := ⟨K - 3 - (E - 1), by omega⟩
  refine l0_ok _ _ A.size E b c g L k hE3 (by omega) (by omega) ?_ ?_ ?_ (E - 1) 1 (by omega) (by omega)
  · intro j hj
    rw [hbyte j (by omega)]
    exact encS_hi _ _ (by omega)
  · rw [hbyte (E - 1) (by omega), ← hE]
    exact encS_lo _
  · intro q
    rw [show k + 2 + q = (k + q) + 2 from by omega]
    exact j1_ok _ _ A.size E p.size b c g L (k + q) hJz (by omega) (by omega) (by omega) (by omega) (hread _ (by omega))
theorem law (g : Int) (L : List Rc) (b c : Nat) (hb : b ≤ 255) (hL : L.length ≤ 4398046511104) (hd : ∀ x ∈ L, x.f2.size ≤ 140737488351232) : imageeditorlaw44_JournalDamages.f (2 * L.length + 200) g L (c : Int) (b : Int) = some true := by
  rcases write_eq g L (2 * L.length + 200) (by omega) (fun x hx => by have := hd x hx; omega) (by omega) with hw | ⟨xs, hg, hn, hl, hw⟩
  · unfold imageeditorlaw44_JournalDamages.f
    rw [hw, Option.bind_some]
    simp only
    rw [if_pos (by show ((0 : Nat) : Int) < 2; omega), example_ok _ (by omega), Option.bind_some]
  · rcases List.eq_nil_or_concat xs with h0 | ⟨ys, z, h0⟩
    · subst h0
      unfold imageeditorlaw44_JournalDamages.f
      rw [hw, Option.bind_some]
      simp only
      rw [if_pos (by show ((1 : Nat) : Int) < 2; omega), example_ok _ (by omega), Option.bind_some]
    · rw [List.concat_eq_append] at h0
      subst h0
      rw [List.length_append, List.length_singleton] at hl
      exact core g ys z L b c _ hg hn hb (by omega) (by omega) hw

end Go.Proofs.Ytnppfhjfnjinlaa.JrnDamages

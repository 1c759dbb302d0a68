/- JournalCuts, the plain law: of a journal whose end is missing the complete records are read. -/
import Derived.Test.YtnppfhjfnjinlaaJrnW
import Derived.Test.YtnppfhjfnjinlaaQx8
namespace Go.Proofs.Ytnppfhjfnjinlaa.JrnCuts
open Go.RowKit Go.Proofs.YtnppfhjfnjinlaaW.PrintWords Go.Proofs.YtnppfhjfnjinlaaW.PrintLast Go.Proofs.YtnppfhjfnjinlaaW.PrintMore Go.Proofs.Ytnppfhjfnjinlaa.Q Go.Proofs.Ytnppfhjfnjinlaa.Spec Go.Proofs.Ytnppfhjfnjinlaa.WireEnc Go.Proofs.Ytnppfhjfnjinlaa.WireDec Go.Proofs.Ytnppfhjfnjinlaa.WireMid Go.Proofs.Ytnppfhjfnjinlaa.DigP Go.Proofs.Ytnppfhjfnjinlaa.JrnP Go.Proofs.Ytnppfhjfnjinlaa.JrnW
set_option linter.unusedVariables false
set_option linter.unusedSimpArgs false

theorem ext_front_cut (x y : ByteArray) (m : Nat) (h : m ≤ x.size) : (x ++ y).extract 0 m = x.extract 0 m := by
  have hz : (x ++ y).size = x.size + y.size := size_app x y
  apply ext_nb
  · rw [size_ext _ _ _ (by omega), size_ext _ _ _ (by omega)]
  · intro j hj
    rw [size_ext _ _ _ (by omega)] at hj
    rw [nb_ext _ _ _ _ (by omega) (by omega), nb_ext _ _ _ _ (by omega) (by omega), nb_app, if_pos (by omega)]
theorem ext_zero (x : ByteArray) : x.extract 0 0 = ByteArray.empty := by
  apply ext_nb
  · rw [size_ext _ _ _ (by omega)]; rfl
  · intro j hj
    rw [size_ext _ _ _ (by omega)] at hj
    omega
/-- how many records are complete in the first n bytes, how long they are, and what the rest is -/
def cutN : List Rc → Nat → Nat × Nat × Int
  | [], _ => (0, 0, 0)
  | x :: l, n => if n < (encR x).1.size then (0, 0, if n = 0 then 0 else 5) else ((cutN l (n - (encR x).1.size)).1 + 1, (encR x).1.size + (cutN l (n - (encR x).1.size)).2.1, (cutN l (n - (encR x).1.size)).2.2)
theorem rec_short (x : Rc) (n b : Nat) (h : (encR x).2 = 0) (hn : n < (encR x).1.size) : rec_ ((encR x).1.extract 0 n) b = (0, 0, ByteArray.empty, 0, 5) := by
  obtain ⟨h1, h2, h3, h4, h5, h6⟩ := encode_ok x.f0 x.f1 x.f2 h
  have e : encR x = frame (pay x.f0 x.f1 x.f2) := h3
  rw [e] at hn ⊢
  unfold rec_
  rw [open_short _ n h4 hn]
  simp only
  rw [if_neg (by omega)]
theorem scan_cut (g : Int) : ∀ (xs : List Rc) (a : ByteArray) (l : List Rc) (n k : Nat), Numb l.length xs → n ≤ (encL xs).size → a.size + n ≤ 4611686018427386000 → 22 + xs.length ≤ k →
    journal_Scan.l0 k (a ++ (encL xs).extract 0 n) g l (a.size : Int) = some (g, l ++ xs.take (cutN xs n).1, ((a.size + (cutN xs n).2.1 : Nat) : Int), (cutN xs n).2.2)
  | [], a, l, n, k, _, hn, _, hk => by
    obtain ⟨k, rfl⟩ : ∃ m, k = m + 1 := ⟨k - 1, by omega⟩
    obtain rfl : n = 0 := by have : (encL []).size = 0 := rfl; omega
    rw [ext_zero, app_empty, scan_end _ _ _ _ _ (by omega)]
    simp [cutN]
  | x :: xs, a, l, n, k, h, hn, hs, hk => by
    obtain ⟨h1, h2, h3⟩ := h
    have hx := encR_ok h2
    rw [List.length_cons] at hk
    obtain ⟨k, rfl⟩ : ∃ m, k = m + 1 := ⟨k - 1, by omega⟩
    have hz : (encL (x :: xs)).size = (encR x).1.size + (encL xs).size := by rw [encL, size_app]
    by_cases hc : n < (encR x).1.size
    · rw [show cutN (x :: xs) n = (0, 0, if n = 0 then 0 else 5) from by rw [cutN, if_pos hc]]
      simp only [List.take_zero, List.append_nil, Nat.add_zero]
      by_cases h0 : n = 0
      · subst h0
        rw [ext_zero, app_empty, scan_end _ _ _ _ _ (by omega), if_pos rfl]
      · rw [if_neg h0, encL, ext_front_cut _ _ _ (by omega)]
        have hsz : (a ++ (encR x).1.extract 0 n).size = a.size + n := by rw [size_app, size_ext _ _ _ (by omega)]; omega
        have hr := rec_short x n l.length h2 hc
        rw [scan_err _ _ _ _ _ (by omega) (by omega) (by omega) (by omega) (by rw [ext_tail, hr]; show ¬ (5 : Int) = 0; omega), ext_tail, hr]
    · have e : (encL (x :: xs)).extract 0 n = (encR x).1 ++ (encL xs).extract 0 (n - (encR x).1.size) := by rw [encL, ext_app _ _ _ (by omega) (by rw [← encL]; omega)]
      have hsz : (a ++ ((encR x).1 ++ (encL xs).extract 0 (n - (encR x).1.size))).size = a.size + n := by rw [size_app, size_app, size_ext _ _ _ (by omega)]; omega
      have hr := rec_at a ((encL xs).extract 0 (n - (encR x).1.size)) x l.length h2 h1
      rw [e, scan_ok _ g l a.size k (encR x).1.size (by omega) (by omega) (by omega) (by omega) (by rw [hr]) (by rw [hr]), hr]
      simp only
      have ih := scan_cut g xs (a ++ (encR x).1) (l ++ [x]) (n - (encR x).1.size) k (by rw [List.length_append, List.length_singleton]; exact h3) (by omega) (by rw [size_app]; omega) (by omega)
      rw [app_assoc, size_app] at ih
      rw [show (⟨x.f0, x.f1, x.f2⟩ : Rc) = x from rfl, ih, show cutN (x :: xs) n = ((cutN xs (n - (encR x).1.size)).1 + 1, (encR x).1.size + (cutN xs (n - (encR x).1.size)).2.1, (cutN xs (n - (encR x).1.size)).2.2) from by rw [cutN, if_neg hc]]
      simp only [List.take_succ_cons, List.append_assoc, List.singleton_append, Nat.add_assoc]
theorem cut_facts : ∀ (xs : List Rc) (b n : Nat), Numb b xs → n ≤ (encL xs).size →
    (cutN xs n).1 ≤ xs.length ∧ (cutN xs n).2.1 = (encL (xs.take (cutN xs n).1)).size ∧ (cutN xs n).2.1 ≤ n ∧ ((cutN xs n).2.2 = 0 ↔ n = (cutN xs n).2.1) ∧ ((cutN xs n).1 < xs.length → n < (encL (xs.take ((cutN xs n).1 + 1))).size)
  | [], b, n, _, hn => by
    have : (encL []).size = 0 := rfl
    obtain rfl : n = 0 := by omega
    simp [cutN, this]
  | x :: xs, b, n, h, hn => by
    obtain ⟨h1, h2, h3⟩ := h
    have hx := encR_ok h2
    have hz : (encL (x :: xs)).size = (encR x).1.size + (encL xs).size := by rw [encL, size_app]
    by_cases hc : n < (encR x).1.size
    · rw [show cutN (x :: xs) n = (0, 0, if n = 0 then 0 else 5) from by rw [cutN, if_pos hc]]
      refine ⟨by simp, rfl, by simp, ?_, fun _ => ?_⟩
      · show (if n = 0 then (0 : Int) else 5) = 0 ↔ n = 0
        by_cases h0 : n = 0
        · simp [h0]
        · rw [if_neg h0]
          omega
      · show n < (encL ((x :: xs).take (0 + 1))).size
        rw [List.take_succ_cons, List.take_zero, encL, size_app]
        omega
    · obtain ⟨a1, a2, a3, a4, a5⟩ := cut_facts xs (b + 1) (n - (encR x).1.size) h3 (by omega)
      rw [show cutN (x :: xs) n = ((cutN xs (n - (encR x).1.size)).1 + 1, (encR x).1.size + (cutN xs (n - (encR x).1.size)).2.1, (cutN xs (n - (encR x).1.size)).2.2) from by rw [cutN, if_neg hc]]
      simp only [List.take_succ_cons, encL, size_app, List.length_cons]
      refine ⟨by omega, by omega, by omega, ?_, fun h => ?_⟩
      · rw [a4]
        omega
      · have := a5 (by omega)
        omega
theorem take_mono : ∀ (xs : List Rc) (p q : Nat), p ≤ q → (encL (xs.take p)).size ≤ (encL (xs.take q)).size
  | [], p, q, _ => by simp
  | x :: xs, 0, q, _ => by simp [encL]
  | x :: xs, p + 1, 0, h => absurd h (by omega)
  | x :: xs, p + 1, q + 1, h => by
    have := take_mono xs p q (by omega)
    simp only [List.take_succ_cons, encL, size_app]
    omega
theorem offs_len : ∀ (xs : List Rc) (p : Nat), (offs p xs).length = xs.length
  | [], _ => rfl
  | x :: xs, p => by rw [offs, List.length_cons, List.length_cons, offs_len xs]
theorem offs_get : ∀ (xs : List Rc) (p q : Nat), q ≤ xs.length → (((p : Nat) : Int) :: offs p xs).getD q 0 = ((p + (encL (xs.take q)).size : Nat) : Int)
  | xs, p, 0, _ => by
    rw [List.take_zero]
    rfl
  | [], p, q + 1, h => absurd h (by simp)
  | x :: xs, p, q + 1, h => by
    have := offs_get xs (p + (encR x).1.size) q (by simpa using h)
    rw [List.getD_cons_succ, offs, this, List.take_succ_cons, encL, size_app, Nat.add_assoc]
theorem rd_offs (xs : List Rc) (p q : Nat) (h : q ≤ xs.length) : rd (((p : Nat) : Int) :: offs p xs) (q : Int) = ((p + (encL (xs.take q)).size : Nat) : Int) := by
  rw [← offs_get xs p q h]
  rfl
/-- a header whose end is missing -/
theorem header_cut (g : Int) (n : Nat) (hg : (head g).2 = 0) (hn : n < (head g).1.size) : ∃ e : Int, header ((head g).1.extract 0 n) = (0, 0, e) ∧ ¬ e = 0 := by
  obtain ⟨_, g1, g2, _, _⟩ := header_head g ByteArray.empty hg
  have e : head g = (magic ++ (frame (encS g.toNat)).1, 0) := by unfold head; rw [if_pos ⟨g1, g2⟩]
  have hz := encS_le g.toNat (by omega)
  rw [e] at hn ⊢
  have hm : n < (magic ++ (frame (encS g.toNat)).1).size := hn
  show ∃ e : Int, header ((magic ++ (frame (encS g.toNat)).1).extract 0 n) = (0, 0, e) ∧ ¬ e = 0
  have hsz : (magic ++ (frame (encS g.toNat)).1).size = 4 + (frame (encS g.toNat)).1.size := by rw [size_app, magic_size]
  have hx : ((magic ++ (frame (encS g.toNat)).1).extract 0 n).size = n := by rw [size_ext _ _ _ (by omega)]; omega
  by_cases h4 : n < 4
  · refine ⟨4, ?_, by omega⟩
    unfold header
    rw [if_neg (fun h => by have := h.1; omega)]
  · have e1 : (magic ++ (frame (encS g.toNat)).1).extract 0 n = magic ++ (frame (encS g.toNat)).1.extract 0 (n - 4) := ext_app magic _ n (by rw [magic_size]; omega) (by omega)
    refine ⟨5, ?_, by omega⟩
    rw [e1] at hx ⊢
    have x2 : (magic ++ (frame (encS g.toNat)).1.extract 0 (n - 4)).extract 4 (magic ++ (frame (encS g.toNat)).1.extract 0 (n - 4)).size = (frame (encS g.toNat)).1.extract 0 (n - 4) := ext_tail magic _
    unfold header
    rw [if_pos ⟨by omega, ext_front magic _⟩, x2, open_short _ _ (by omega) (by omega)]
    simp only
    rw [if_neg (by omega)]

/-! ### the law -/
theorem tmod_nat (a b : Nat) : Int.tmod (a : Int) (b : Int) = ((a % b : Nat) : Int) := rfl
theorem wS (S : Nat) (h : S ≤ 1125914939228200) : wrap64 ((S : Int) + 1) = ((S + 1 : Nat) : Int) := by rw [wrap_id _ (by omega) (by omega)]; omega
theorem uS (S : Nat) (h : S ≤ 1125914939228200) : IntKind.u64.wrap ((S + 1 : Nat) : Int) = ((S + 1 : Nat) : Int) := by rw [wrap_u64]; omega
theorem tS (c S n : Nat) (h : S ≤ 1125914939228200) (hn : c % (S + 1) = n) : wrap64 (Int.tmod (c : Int) ((S + 1 : Nat) : Int)) = (n : Int) := by
  have := Nat.mod_lt c (show 0 < S + 1 by omega)
  rw [hn] at this
  rw [tmod_nat, hn, wrap_id _ (by omega) (by omega)]
theorem core (g : Int) (L xs : List Rc) (c K H : Nat) (J : ByteArray) (hK : 2 * L.length + 200 ≤ K) (hL : L.length ≤ 4398046511104) (hl : xs.length = L.length) (hn : Numb 0 xs) (hH : H ≤ 28) (hsz : J.size = H + (encL xs).size) (he : (encL xs).size ≤ 1125914939228160)
    (hw : imageeditorlaw44_write.f K g L = some (J, ((H : Nat) : Int) :: offs H xs, xs))
    (hshort : ∀ n, n < H → ∃ e : Int, ¬ e = 0 ∧ journal_Scan.f K (J.extract 0 n) = some (0, [], 0, e))
    (hcut : ∀ n, H ≤ n → n ≤ J.size → journal_Scan.f K (J.extract 0 n) = some (g, xs.take (cutN xs (n - H)).1, ((H + (cutN xs (n - H)).2.1 : Nat) : Int), (cutN xs (n - H)).2.2))
    (hwhole : ∀ k m, L.length + 30 ≤ k → m ≤ xs.length → journal_Whole.f k (J.extract 0 (H + (encL (xs.take m)).size)) = some true) :
    imageeditorlaw44_JournalCuts.f K g L (c : Int) = some true := by
  have hS : J.size ≤ 1125914939228200 := by omega
  obtain ⟨S, hSS⟩ : ∃ S, J.size = S := ⟨_, rfl⟩
  obtain ⟨n, hnn⟩ : ∃ n, c % (S + 1) = n := ⟨_, rfl⟩
  have hlt : n < S + 1 := by rw [← hnn]; exact Nat.mod_lt _ (by omega)
  have q0 : ¬ ((S + 1 : Nat) : Int) = 0 := by omega
  have q1 : (0 : Int) ≤ (n : Int) := by omega
  have q2 : (n : Int) ≤ (S : Int) := by omega
  have hE : (((((H : Nat) : Int) :: offs H xs).length : Nat) : Int) = ((xs.length + 1 : Nat) : Int) := by rw [List.length_cons, offs_len]
  have r0 : rd (((H : Nat) : Int) :: offs H xs) 0 = ((H : Nat) : Int) := by unfold rd; exact List.getD_cons_zero
  have z0 : ¬ ((xs.length + 1 : Nat) : Int) = 0 := by omega
  unfold imageeditorlaw44_JournalCuts.f
  rw [hw, Option.bind_some]
  simp only
  have hS2 : S ≤ 1125914939228200 := by omega
  rw [hE, hSS, wS S (by omega), uS S (by omega), tS c S n (by omega) hnn, if_neg z0, if_neg q0, if_pos q1, if_pos q2, Int.toNat_natCast]
  by_cases hc : n < H
  · obtain ⟨e, h2, hs⟩ := hshort n hc
    rw [hs, Option.bind_some, if_pos (by omega), r0, if_pos (by omega)]
    simp only
    rw [if_pos trivial, if_pos (by rfl), if_pos trivial, if_neg h2, example_ok _ (by omega), Option.bind_some]
  · obtain ⟨c1, c2, c3, c4, c5⟩ := cut_facts xs 0 (n - H) hn (by omega)
    rw [hcut n (by omega) (by omega), Option.bind_some, if_pos (by omega), r0, if_neg (by omega)]
    simp only
    generalize hm : (cutN xs (n - H)).1 = m at c1 c2 c5 ⊢
    generalize (cutN xs (n - H)).2.1 = sz at c2 c3 c4 ⊢
    generalize (cutN xs (n - H)).2.2 = er at c4 ⊢
    have hat : rd (((H : Nat) : Int) :: offs H xs) (m : Int) = ((H + sz : Nat) : Int) := by rw [rd_offs _ _ _ c1, ← c2]
    -- behind the loop
    have hj1 : ∀ k, L.length + 100 ≤ k → imageeditorlaw44_JournalCuts.j1 k J (((H : Nat) : Int) :: offs H xs) xs (n : Int) g (xs.take m) ((H + sz : Nat) : Int) er (m : Int) g L = some true := by
      intro k hk
      obtain ⟨k, rfl⟩ : ∃ q, k = q + 2 := ⟨k - 2, by omega⟩
      simp only [imageeditorlaw44_JournalCuts.j1]
      have hb : ((er == 0) != ((n : Int) == ((H + sz : Nat) : Int))) = false := by
        by_cases h0 : er = 0
        · have := c4.1 h0
          have e2 : (n : Int) = ((H + sz : Nat) : Int) := by omega
          rw [h0, e2]
          simp
        · have : ¬ n - H = sz := fun h => h0 (c4.2 h)
          have e2 : ¬ (n : Int) = ((H + sz : Nat) : Int) := by omega
          simp only [bne_eq_false_iff_eq]
          rw [beq_eq_false_iff_ne.2 h0, beq_eq_false_iff_ne.2 e2]
      rw [if_pos trivial, if_pos (by omega), if_pos (by omega), Int.toNat_natCast, same_eq _ _ (by rw [List.length_take]; omega) (by rw [List.length_take]; omega), Option.bind_some, if_pos rfl, if_pos (by rw [hE]; omega), hat, if_pos rfl, hb]
      simp only [imageeditorlaw44_JournalCuts.j2]
      have hwm := hwhole k m (by omega) c1
      rw [← c2] at hwm
      have hsm := take_mono xs m xs.length c1
      rw [List.take_length] at hsm
      rw [if_neg (by simp), if_pos (by omega), if_pos (by omega), Int.toNat_natCast, hwm, Option.bind_some, if_pos rfl, example_ok _ (by omega), Option.bind_some]
    -- the loop
    have hloop : ∀ (d q k : Nat), q + d = m → L.length + 101 + d ≤ k → imageeditorlaw44_JournalCuts.l0 k J (((H : Nat) : Int) :: offs H xs) xs (n : Int) g (xs.take m) ((H + sz : Nat) : Int) er (q : Int) g L = some true := by
      intro d
      induction d with
      | zero =>
        intro q k hq hk
        obtain rfl : q = m := by omega
        obtain ⟨k, rfl⟩ : ∃ q, k = q + 1 := ⟨k - 1, by omega⟩
        simp only [imageeditorlaw44_JournalCuts.l0]
        rw [wrap_id _ (by omega) (by omega), hE]
        by_cases hlt2 : q < xs.length
        · have := c5 hlt2
          rw [if_pos (by omega), if_pos (by omega), show (q : Int) + 1 = ((q + 1 : Nat) : Int) from by omega, rd_offs _ _ _ (by omega), if_neg (by omega)]
          exact hj1 k (by omega)
        · rw [if_neg (by omega)]
          exact hj1 k (by omega)
      | succ d ih =>
        intro q k hq hk
        obtain ⟨k, rfl⟩ : ∃ q, k = q + 1 := ⟨k - 1, by omega⟩
        simp only [imageeditorlaw44_JournalCuts.l0]
        have := take_mono xs (q + 1) m (by omega)
        rw [wrap_id _ (by omega) (by omega), hE, if_pos (by omega), if_pos (by omega), show (q : Int) + 1 = ((q + 1 : Nat) : Int) from by omega, rd_offs _ _ _ (by omega), if_pos (by omega)]
        exact ih (q + 1) k (by omega) (by omega)
    exact hloop m 0 _ (by omega) (by omega)
theorem numb_take : ∀ (l : List Rc) (b q : Nat), Numb b l → Numb b (l.take q)
  | [], b, q, _ => by rw [List.take_nil]; trivial
  | x :: l, b, 0, _ => by rw [List.take_zero]; trivial
  | x :: l, b, q + 1, h => by rw [List.take_succ_cons]; exact ⟨h.1, h.2.1, numb_take l _ _ h.2.2⟩
theorem cut_short (g : Int) (xs : List Rc) (K n : Nat) (hg : (head g).2 = 0) (hK : 30 ≤ K) (hn : n < (head g).1.size) : ∃ e : Int, ¬ e = 0 ∧ journal_Scan.f K (((head g).1 ++ encL xs).extract 0 n) = some (0, [], 0, e) := by
  obtain ⟨_, _, _, g4, g5⟩ := header_head g ByteArray.empty hg
  obtain ⟨e, h1, h2⟩ := header_cut g n hg hn
  refine ⟨e, h2, ?_⟩
  unfold journal_Scan.f
  rw [ext_front_cut _ _ _ (by omega), header_eq _ _ (by rw [size_ext _ _ _ (by omega)]; omega) (by omega), h1, Option.bind_some]
  simp only
  rw [if_neg h2]
theorem cut_long (g : Int) (xs : List Rc) (K n : Nat) (hg : (head g).2 = 0) (hN : Numb 0 xs) (hK : 30 + xs.length ≤ K) (h1 : (head g).1.size ≤ n) (h2 : n ≤ ((head g).1 ++ encL xs).size) :
    journal_Scan.f K (((head g).1 ++ encL xs).extract 0 n) = some (g, xs.take (cutN xs (n - (head g).1.size)).1, (((head g).1.size + (cutN xs (n - (head g).1.size)).2.1 : Nat) : Int), (cutN xs (n - (head g).1.size)).2.2) := by
  obtain ⟨_, _, _, g4, g5⟩ := header_head g ByteArray.empty hg
  have he := encL_le xs 0 hN
  have hnl := numb_len xs 0 hN
  rw [size_app] at h2
  obtain ⟨hh, _⟩ := header_head g ((encL xs).extract 0 (n - (head g).1.size)) hg
  unfold journal_Scan.f
  rw [ext_app _ _ _ h1 (by rw [size_app]; omega), header_eq _ _ (by rw [size_app, size_ext _ _ _ (by omega)]; omega) (by omega), hh, Option.bind_some]
  simp only [if_true]
  rw [scan_cut g xs (head g).1 [] _ _ hN (by omega) (by omega) (by omega), List.nil_append]
theorem cut_whole (g : Int) (xs : List Rc) (k m : Nat) (hg : (head g).2 = 0) (hN : Numb 0 xs) (hk : xs.length + 30 ≤ k) (hm : m ≤ xs.length) : journal_Whole.f k (((head g).1 ++ encL xs).extract 0 ((head g).1.size + (encL (xs.take m)).size)) = some true := by
  have hx : ((head g).1 ++ encL xs).extract 0 ((head g).1.size + (encL (xs.take m)).size) = (head g).1 ++ encL (xs.take m) := by
    have e1 : encL xs = encL (xs.take m) ++ encL (xs.drop m) := by rw [← encL_app, List.take_append_drop]
    have := ext_front ((head g).1 ++ encL (xs.take m)) (encL (xs.drop m))
    rw [size_app, app_assoc, ← e1] at this
    exact this
  rw [hx]
  exact whole_ok g _ _ hg (numb_take xs 0 m hN) (by rw [List.length_take]; omega)
theorem law (g : Int) (L : List Rc) (c : Nat) (hL : L.length ≤ 4398046511104) (hd : ∀ x ∈ L, x.f2.size ≤ 140737488351232) : imageeditorlaw44_JournalCuts.f (2 * L.length + 200) g L (c : Int) = some true := by
  rcases write_eq g L (2 * L.length + 200) (by omega) (fun x hx => by have := hd x hx; omega) (by omega) with hw | ⟨xs, hg, hn, hl, hw⟩
  · unfold imageeditorlaw44_JournalCuts.f
    rw [hw, Option.bind_some]
    simp only
    rw [if_pos (by rfl), example_ok _ (by omega), Option.bind_some]
  · obtain ⟨_, _, _, g4, g5⟩ := header_head g ByteArray.empty hg
    have he := encL_le xs 0 hn
    have hnl := numb_len xs 0 hn
    exact core g L xs c _ _ _ (by omega) hL hl hn g4 (size_app _ _) (by omega) hw (fun n h => cut_short g xs _ n hg (by omega) h) (fun n h1 h2 => cut_long g xs _ n hg hn (by omega) h1 h2) (fun k m hk hm => cut_whole g xs k m hg hn (by omega) hm)

end Go.Proofs.Ytnppfhjfnjinlaa.JrnCuts

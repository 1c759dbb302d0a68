/- The law's own functions of the journal: same, example (JrnW without write, for the laws that do not write); what is written is scanned, with any bytes behind it. -/
import Derived.Test.YtnppfhjfnjinlaaJrnP
import Derived.Test.YtnppfhjfnjinlaaQx6
namespace Go.Proofs.Ytnppfhjfnjinlaa.JrnX
open Go.RowKit Go.Proofs.YtnppfhjfnjinlaaW.PrintWords Go.Proofs.YtnppfhjfnjinlaaW.PrintLast Go.Proofs.YtnppfhjfnjinlaaW.PrintMore Go.Proofs.Ytnppfhjfnjinlaa.Q Go.Proofs.Ytnppfhjfnjinlaa.Spec Go.Proofs.Ytnppfhjfnjinlaa.CrcSpec Go.Proofs.Ytnppfhjfnjinlaa.WireEnc Go.Proofs.Ytnppfhjfnjinlaa.WireDec Go.Proofs.Ytnppfhjfnjinlaa.WireMid Go.Proofs.Ytnppfhjfnjinlaa.DigP Go.Proofs.Ytnppfhjfnjinlaa.JrnP
set_option linter.unusedVariables false
set_option linter.unusedSimpArgs false

abbrev Rc := S23
def encR (x : Rc) : ByteArray × Int := encode x.f0 x.f1 x.f2
/-- records one behind the other -/
def encL : List Rc → ByteArray
  | [] => ByteArray.empty
  | x :: l => (encR x).1 ++ encL l
/-- numbered from b + 1 on, and each can be encoded -/
def Numb : Nat → List Rc → Prop
  | _, [] => True
  | b, x :: l => x.f1 = ((b + 1 : Nat) : Int) ∧ (encR x).2 = 0 ∧ Numb (b + 1) l
/-- the offsets behind each record -/
def offs : Nat → List Rc → List Int
  | _, [] => []
  | p, x :: l => ((p + (encR x).1.size : Nat) : Int) :: offs (p + (encR x).1.size) l
theorem encR_ok {x : Rc} (h : (encR x).2 = 0) : 1 ≤ x.f1 ∧ x.f1 ≤ 1073741824 ∧ (encR x).1.size ≤ 1048590 ∧ 5 ≤ (encR x).1.size := by
  have := encode_ok x.f0 x.f1 x.f2 h
  exact ⟨this.2.1.1, this.2.1.2, this.2.2.2.2.1, this.2.2.2.2.2⟩
theorem numb_len : ∀ (l : List Rc) (b : Nat), Numb b l → l.length = 0 ∨ b + l.length ≤ 1073741824
  | [], _, _ => .inl rfl
  | x :: l, b, h => by
    obtain ⟨h1, h2, h3⟩ := h
    have := encR_ok h2
    have ih := numb_len l (b + 1) h3
    rw [List.length_cons]
    omega
theorem encL_le : ∀ (l : List Rc) (b : Nat), Numb b l → (encL l).size ≤ l.length * 1048590
  | [], _, _ => by show (0 : Nat) ≤ _; omega
  | x :: l, b, h => by
    obtain ⟨h1, h2, h3⟩ := h
    have := encR_ok h2
    have ih := encL_le l (b + 1) h3
    rw [encL, size_app, List.length_cons]
    omega
theorem encL_app (l m : List Rc) : encL (l ++ m) = encL l ++ encL m := by
  induction l with
  | nil => rw [List.nil_append, encL, empty_app]
  | cons x l ih => rw [List.cons_append, encL, encL, ih, app_assoc]
theorem ext_tail (a b : ByteArray) : (a ++ b).extract a.size (a ++ b).size = b := by
  have := ext_mid a b ByteArray.empty a.size rfl
  rw [app_empty] at this
  rw [size_app]
  exact this
/-- the record at a place -/
theorem rec_at (a c : ByteArray) (x : Rc) (b : Nat) (h : (encR x).2 = 0) (hb : x.f1 = ((b + 1 : Nat) : Int)) :
    rec_ ((a ++ ((encR x).1 ++ c)).extract a.size (a ++ ((encR x).1 ++ c)).size) b = (x.f0, x.f1, x.f2, (((encR x).1.size : Nat) : Int), 0) := by
  rw [ext_tail]
  exact rec_enc x.f0 x.f1 x.f2 c b h hb
theorem scan_run (g : Int) : ∀ (xs : List Rc) (a c : ByteArray) (l : List Rc) (k : Nat), Numb l.length xs → (a ++ (encL xs ++ c)).size ≤ 4611686018427386000 → 21 ≤ k →
    journal_Scan.l0 (k + xs.length) (a ++ (encL xs ++ c)) g l (a.size : Int) = journal_Scan.l0 k (a ++ (encL xs ++ c)) g (l ++ xs) (((a ++ encL xs).size : Nat) : Int)
  | [], a, c, l, k, _, _, _ => by
    rw [List.append_nil, encL, app_empty]
    rfl
  | x :: xs, a, c, l, k, h, hs, hk => by
    obtain ⟨h1, h2, h3⟩ := h
    have hx := encR_ok h2
    have e : a ++ (encL (x :: xs) ++ c) = a ++ ((encR x).1 ++ (encL xs ++ c)) := by rw [encL, app_assoc]
    have e2 : a ++ ((encR x).1 ++ (encL xs ++ c)) = (a ++ (encR x).1) ++ (encL xs ++ c) := by rw [app_assoc]
    rw [e] at hs ⊢
    have hsz : (a ++ ((encR x).1 ++ (encL xs ++ c))).size = a.size + ((encR x).1.size + (encL xs ++ c).size) := by rw [size_app, size_app]
    have hr := rec_at a (encL xs ++ c) x l.length h2 h1
    rw [show k + (x :: xs).length = (k + xs.length) + 1 from by rw [List.length_cons]; omega]
    rw [scan_ok _ g l a.size (k + xs.length) (encR x).1.size hs (by omega) (by omega) (by omega) (by rw [hr]) (by rw [hr]), hr]
    simp only
    rw [e2] at hs ⊢
    have ih := scan_run g xs (a ++ (encR x).1) c (l ++ [x]) k (by rw [List.length_append, List.length_singleton]; exact h3) hs hk
    rw [size_app] at ih
    rw [show (⟨x.f0, x.f1, x.f2⟩ : Rc) = x from rfl, ih, List.append_assoc, List.singleton_append, encL, app_assoc, app_assoc]
/-- the whole journal, with any bytes behind it: where Scan stands -/
theorem scan_all (g : Int) (xs : List Rc) (c : ByteArray) (k : Nat) (hg : (head g).2 = 0) (h : Numb 0 xs) (hs : c.size ≤ 2305843009213693952) (hk : xs.length + 21 ≤ k) :
    journal_Scan.f k ((head g).1 ++ (encL xs ++ c)) = journal_Scan.l0 (k - xs.length) ((head g).1 ++ (encL xs ++ c)) g xs ((((head g).1 ++ encL xs).size : Nat) : Int) := by
  obtain ⟨h1, h2, h3, h4, h5⟩ := header_head g (encL xs ++ c) hg
  have hl := numb_len xs 0 h
  have he := encL_le xs 0 h
  have hsz : ((head g).1 ++ (encL xs ++ c)).size = (head g).1.size + ((encL xs).size + c.size) := by rw [size_app, size_app]
  obtain ⟨k, rfl⟩ : ∃ m, k = m + xs.length := ⟨k - xs.length, by omega⟩
  unfold journal_Scan.f
  rw [header_eq _ _ (by omega) (by omega), h1, Option.bind_some]
  simp only [if_true]
  rw [scan_run g xs (head g).1 c [] k h (by omega) (by omega), List.nil_append, Nat.add_sub_cancel]
theorem scan_whole (g : Int) (xs : List Rc) (k : Nat) (hg : (head g).2 = 0) (h : Numb 0 xs) (hk : xs.length + 22 ≤ k) :
    journal_Scan.f k ((head g).1 ++ encL xs) = some (g, xs, ((((head g).1 ++ encL xs).size : Nat) : Int), 0) := by
  have := scan_all g xs ByteArray.empty k hg h (by show 0 ≤ _; omega) (by omega)
  rw [app_empty] at this
  rw [this]
  obtain ⟨m, hm⟩ : ∃ m, k - xs.length = m + 1 := ⟨k - xs.length - 1, by omega⟩
  rw [hm, scan_end _ _ _ _ _ (by omega)]
theorem whole_ok (g : Int) (xs : List Rc) (k : Nat) (hg : (head g).2 = 0) (h : Numb 0 xs) (hk : xs.length + 22 ≤ k) : journal_Whole.f k ((head g).1 ++ encL xs) = some true := by
  unfold journal_Whole.f
  rw [scan_whole g xs k hg h hk, Option.bind_some]
  rfl

/-! ### same -/
theorem same_l0 (l : List Rc) (hl : l.length ≤ 4611686018427387904) : ∀ (d i k : Nat), i + d = l.length → d < k → imageeditorlaw44_same.l0 k l l (i : Int) = some true := by
  intro d
  induction d with
  | zero =>
    intro i k hi hk
    obtain ⟨k, rfl⟩ : ∃ m, k = m + 1 := ⟨k - 1, by omega⟩
    simp only [imageeditorlaw44_same.l0]
    rw [if_neg (by omega)]
  | succ d ih =>
    intro i k hi hk
    obtain ⟨k, rfl⟩ : ∃ m, k = m + 1 := ⟨k - 1, by omega⟩
    simp only [imageeditorlaw44_same.l0]
    rw [if_pos (by omega), if_pos (by omega), if_pos (by omega), if_neg (by simp), wrap_id _ (by omega) (by omega)]
    exact ih (i + 1) k (by omega) (by omega)
theorem same_eq (l : List Rc) (k : Nat) (hl : l.length ≤ 4611686018427387904) (hk : l.length < k) : imageeditorlaw44_same.f k l l = some true := by
  unfold imageeditorlaw44_same.f
  rw [if_pos rfl]
  exact same_l0 l hl l.length 0 k (by omega) hk
/-! ### the examples of the chapter -/
theorem enc1 : encS 1 = ⟨#[1]⟩ := by
  unfold encS
  rw [enc_small (by omega)]
  rfl
theorem frame1 : frame (encS 1) = (⟨#[1, 1]⟩ ++ le4 (crc ⟨#[1, 1]⟩), 0) := by
  have hb : body (encS 1) = ⟨#[1, 1]⟩ := by
    unfold body
    rw [enc1]
    show encS 1 ++ _ = _
    rw [enc1]
    rfl
  unfold frame
  rw [hb, if_neg (by rw [enc1]; decide +kernel)]
theorem head1 : head 1 = ((⟨#[73, 69, 74, 49, 1, 1]⟩ : ByteArray) ++ le4 (crc ⟨#[1, 1]⟩), 0) := by
  unfold head
  rw [if_pos (by omega), show (1 : Int).toNat = 1 from rfl, frame1, ← app_assoc]
  rfl
def r1 : Rc := ⟨3, 1, ByteArray.empty⟩
theorem r1_ok : (encR r1).2 = 0 := by
  show (encode 3 1 ByteArray.empty).2 = 0
  unfold encode
  rw [if_pos (by omega), if_pos (by omega)]
  have hz : (pay 3 1 ByteArray.empty).size ≤ 30 := by
    have a1 := encS_le 3 (by omega)
    have a2 := encS_le 1 (by omega)
    have a3 := encS_le 0 (by omega)
    unfold pay
    simp only [size_app]
    show (encS 3).size + (encS 1).size + ((encS 0).size + 0) ≤ 30
    omega
  unfold frame
  rw [if_neg (by omega)]
theorem example_ok (k : Nat) (hk : 60 ≤ k) : imageeditorlaw44_example.f k = some true := by
  obtain ⟨k, rfl⟩ : ∃ m, k = m + 1 := ⟨k - 1, by omega⟩
  have hg : (head 1).2 = 0 := by rw [head1]
  have hsz : (head 1).1.size = 10 := by rw [head1]; show (_ ++ _ : ByteArray).size = 10; rw [size_app, le4_size]; rfl
  have hx : (head 1).1.extract 0 6 = (⟨#[73, 69, 74, 49, 1, 1]⟩ : ByteArray) := by rw [head1]; exact ext_front _ _
  have hn : Numb 0 [r1] := ⟨rfl, r1_ok, trivial⟩
  have hs0 : ∀ k, 22 ≤ k → journal_Scan.f k (head 1).1 = some (1, [], 10, 0) := fun k hk => by
    have := scan_whole 1 [] k hg trivial hk
    rw [encL, app_empty, hsz] at this
    exact this
  have he1 : journal_Encode.f k 3 1 (⟨#[]⟩ : ByteArray) = some (encR r1) := encode_eq 3 1 ByteArray.empty k (by decide +kernel) (by omega)
  have hz := encR_ok r1_ok
  unfold imageeditorlaw44_example.f
  rw [head_eq 1 _ (by omega), Option.bind_some, if_pos hg, if_pos (by omega), if_pos (by omega), if_pos (by omega), hx]
  rw [show ((⟨#[73, 69, 74, 49, 1, 1]⟩ : ByteArray).toList != ([73, 69, 74, 49, 1, 1] : List UInt8)) = false from by rw [toList_eq]; rfl]
  simp only [imageeditorlaw44_example.j0]
  rw [if_neg (by simp)]
  -- Append with a wrong number
  have ha1 : journal_Append.f k (head 1).1 3 2 (⟨#[]⟩ : ByteArray) = some (ByteArray.empty, 24) := by
    obtain ⟨k, rfl⟩ : ∃ m, k = m + 1 := ⟨k - 1, by omega⟩
    unfold journal_Append.f
    rw [hs0 _ (by omega), Option.bind_some, if_pos rfl, if_neg (by rw [wrap_id _ (by omega) (by omega)]; show ¬ ((0 : Nat) : Int) = _; omega)]
    simp only [journal_Append.j0]
    rw [if_pos trivial]
    rfl
  rw [ha1, Option.bind_some, encode_eq 7 0 _ _ (by decide +kernel) (by omega), Option.bind_some]
  rw [show (encode 7 0 (⟨#[]⟩ : ByteArray)).2 = 8 from by unfold encode; rw [if_neg (by omega)]]
  have hm : journal_Scan.f k (⟨#[73, 69, 74, 49]⟩ : ByteArray) = some (0, [], 0, 5) := by
    have hh : header magic = (0, 0, 5) := by
      unfold header
      have e4 : magic.extract 4 magic.size = ByteArray.empty := by kernel_rfl
      rw [if_pos ⟨by rw [magic_size]; omega, by kernel_rfl⟩, e4, open_empty]
      simp only
      rw [if_neg (by omega)]
    unfold journal_Scan.f
    rw [show journal_header.f k (⟨#[73, 69, 74, 49]⟩ : ByteArray) = some (header magic) from header_eq magic k (by rw [magic_size]; omega) (by omega), hh, Option.bind_some]
    simp only
    rw [if_neg (by omega)]
  rw [hm, Option.bind_some]
  have ha2 : journal_Append.f k (head 1).1 3 1 (⟨#[]⟩ : ByteArray) = some ((head 1).1 ++ (encR r1).1, 0) := by
    unfold journal_Append.f
    rw [hs0 _ (by omega), Option.bind_some, if_pos rfl, if_pos (by rw [wrap_id _ (by omega) (by omega)]; rfl), decide_eq_false (by omega)]
    obtain ⟨k, rfl⟩ : ∃ m, k = m + 1 := ⟨k - 1, by omega⟩
    simp only [journal_Append.j0]
    rw [if_neg (by simp), encode_eq 3 1 _ _ (by decide +kernel) (by omega), Option.bind_some]
    show (if (encR r1).2 = 0 then (if (wrap64 (((head 1).1.size : Int) + ((encR r1).1.size : Int))) > 1048576 then _ else (if (head 1).1.size + (encR r1).1.size ≤ 9223372036854775807 then (some ((head 1).1 ++ (encR r1).1, (0 : Int))) else none)) else _) = _
    have hsm : (encR r1).1.size ≤ 100 := by
      have h3 := (encode_ok r1.f0 r1.f1 r1.f2 r1_ok).2.2.1
      have h2 := r1_ok
      unfold encR at h2 ⊢
      rw [h3] at h2 ⊢
      have h4 := frame_ok _ h2
      have a1 := encS_le 3 (by omega)
      have a2 := encS_le 1 (by omega)
      have a3 := encS_le 0 (by omega)
      have hz : (pay r1.f0 r1.f1 r1.f2).size = (encS 3).size + (encS 1).size + ((encS 0).size + 0) := by
        unfold pay
        simp only [size_app]
        rfl
      omega
    rw [if_pos r1_ok, wrap_id _ (by omega) (by omega), if_neg (by omega), if_pos (by omega)]
  rw [ha2, Option.bind_some]
  simp only
  have e1 : (head 1).1 ++ (encR r1).1 = (head 1).1 ++ encL [r1] := by rw [encL, encL, app_empty]
  have hw : journal_Whole.f k ((head 1).1 ++ (encR r1).1) = some true := by rw [e1]; exact whole_ok 1 [r1] k hg hn (by show 1 + 22 ≤ k; omega)
  have hsz2 : ((head 1).1 ++ (encR r1).1).size = 10 + (encR r1).1.size := by rw [size_app, hsz]
  rw [if_pos trivial, if_pos trivial, if_pos trivial, if_pos trivial, hw, Option.bind_some, if_pos rfl, if_pos (by omega)]
  have hwx : journal_Whole.f k ((head 1).1 ++ (encR r1).1 ++ (⟨#[120]⟩ : ByteArray)) = some false := by
    have hx : (⟨#[120]⟩ : ByteArray).size = 1 := rfl
    have hz3 : ((head 1).1 ++ encL [r1] ++ (⟨#[120]⟩ : ByteArray)).size = 10 + (encR r1).1.size + 1 := by rw [← e1, size_app, hsz2, hx]
    have ho : openS (⟨#[120]⟩ : ByteArray) = (ByteArray.empty, 0, 5) := by
      have h0 : nb (⟨#[120]⟩ : ByteArray) 0 = 120 := by kernel_rfl
      unfold openS
      rw [dec_last (by rw [hx]; omega) (by rw [Nat.add_zero, h0]; omega) (by rw [Nat.add_zero, h0]; omega), Nat.add_zero, h0]
      simp only
      rw [if_neg (by omega), if_pos (by rw [hx]; omega)]
    have hr : rec_ (⟨#[120]⟩ : ByteArray) [r1].length = (0, 0, ByteArray.empty, 0, 5) := by
      unfold rec_
      rw [ho]
      simp only
      rw [if_neg (by omega)]
    unfold journal_Whole.f
    have := scan_all 1 [r1] (⟨#[120]⟩ : ByteArray) k hg hn (by rw [hx]; omega) (by show 1 + 21 ≤ k; omega)
    rw [← app_assoc] at this
    rw [e1, this]
    obtain ⟨m, hm⟩ : ∃ m, k - [r1].length = m + 1 := ⟨k - 2, by show k - 1 = _; omega⟩
    have hx2 : ((head 1).1 ++ encL [r1] ++ (⟨#[120]⟩ : ByteArray)).extract ((head 1).1 ++ encL [r1]).size ((head 1).1 ++ encL [r1] ++ (⟨#[120]⟩ : ByteArray)).size = (⟨#[120]⟩ : ByteArray) := ext_tail _ _
    rw [hm, scan_err _ _ _ _ _ (by omega) (by rw [hz3, ← e1, hsz2]; omega) (by show 1 < _; omega) (by have : [r1].length = 1 := rfl; omega) (by rw [hx2, hr]; show ¬ (5 : Int) = 0; omega), hx2, hr, Option.bind_some]
    rfl
  rw [hwx, Option.bind_some]
  rfl

end Go.Proofs.Ytnppfhjfnjinlaa.JrnX

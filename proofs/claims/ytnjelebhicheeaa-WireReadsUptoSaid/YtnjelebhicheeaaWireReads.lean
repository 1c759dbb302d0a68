/- WireReads: any calls of a reader of any bytes (at most 1048576 of them): the walk of the law by hand, over 'step' and the readers' contracts. -/
import Derived.Test.YtnjelebhicheeaaWireTwo
import Derived.Test.YtnjelebhicheeaaWireEx
namespace Go.Proofs.Ytnjelebhicheeaa.WireReads
open Go.RowKit Go.Proofs.YtnjelebhicheeaaW.PrintWords Go.Proofs.YtnjelebhicheeaaW.PrintLast Go.Proofs.YtnjelebhicheeaaW.PrintMore Go.Proofs.Ytnjelebhicheeaa.Q Go.Proofs.Ytnjelebhicheeaa.Spec Go.Proofs.Ytnjelebhicheeaa.WireEnc Go.Proofs.Ytnjelebhicheeaa.WireDec Go.Proofs.Ytnjelebhicheeaa.WireMid Go.Proofs.Ytnjelebhicheeaa.RefRd Go.Proofs.Ytnjelebhicheeaa.WireStep Go.Proofs.Ytnjelebhicheeaa.WireTwo
set_option linter.unusedVariables false
set_option linter.unusedSimpArgs false

abbrev St := S49
section
variable {w0 W W' : World} {g x : Nat} {s : ByteArray} {p p' p2 : Nat} {e e' e2 : Int} {m : Bool}
theorem onP (h : Two w0 W g x s p e p2 e2 m) (hk : KeepBut W W' g none) (ha : IsS52 w0 W' g s (p' : Int) e' m) (hb : Below w0.heap.size w0 W') : Two w0 W' g x s p' e' p2 e2 m :=
  ⟨ha, ⟨hk.blk h.b.1 (fun h2 => h.ne h2.symm) (by simp), h.b.2⟩, hb⟩
theorem onX (h : Two w0 W g x s p e p2 e2 m) (hk : KeepBut W W' x none) (ha : IsS54 w0 W' x s (p' : Int) e' m) (hb : Below w0.heap.size w0 W') : Two w0 W' g x s p e p' e' m :=
  ⟨⟨hk.blk h.a.1 h.ne (by simp), h.a.2⟩, ha, hb⟩
theorem pLeft2 (h : Two w0 W g x s p e p2 e2 m) (hs : s.size ≤ 1048576) (hp : p ≤ s.size) :
    Calls Try.prog 25 #[.pointer (some ⟨g, 0, none⟩)] W fun ev W' => ev = .returned (.int .i64 (rLeft s p e m)) ∧ Two w0 W' g x s p e p2 e2 m :=
  (wire_Reader_Left.calls g s p e m _ _ _ _ _ w0 W h.a h.below (left_eq s p e m (by omega) hp)).mono fun ev W' ⟨h1, h2, h3, h4⟩ => ⟨h1, onP h h4 h2 h3⟩
theorem xLeft2 (h : Two w0 W g x s p e p2 e2 m) (hs : s.size ≤ 1048576) (hp : p2 ≤ s.size) :
    Calls Try.prog 29 #[.pointer (some ⟨x, 0, none⟩)] W fun ev W' => ev = .returned (.int .i64 (rLeft s p2 e2 m)) ∧ Two w0 W' g x s p e p2 e2 m :=
  (imageeditorref04_Reader_Left.calls x s p2 e2 m _ _ _ _ _ w0 W h.b h.below (rleft_eq s p2 e2 m (by omega) hp)).mono fun ev W' ⟨h1, h2, h3, h4⟩ => ⟨h1, onX h h4 h2 h3⟩
theorem pErr2 (h : Two w0 W g x s p e p2 e2 m) :
    Calls Try.prog 26 #[.pointer (some ⟨g, 0, none⟩)] W fun ev W' => ev = .returned (.int .i64 (rErr e m)) ∧ Two w0 W' g x s p e p2 e2 m :=
  (wire_Reader_Err.calls g s p e m _ _ _ _ _ w0 W h.a h.below (err_eq s p e m)).mono fun ev W' ⟨h1, h2, h3, h4⟩ => ⟨h1, onP h h4 h2 h3⟩
theorem xErr2 (h : Two w0 W g x s p e p2 e2 m) :
    Calls Try.prog 30 #[.pointer (some ⟨x, 0, none⟩)] W fun ev W' => ev = .returned (.int .i64 (rErr e2 m)) ∧ Two w0 W' g x s p e p2 e2 m :=
  (imageeditorref04_Reader_Err.calls x s p2 e2 m _ _ _ _ _ w0 W h.b h.below (rerr_eq s p2 e2 m)).mono fun ev W' ⟨h1, h2, h3, h4⟩ => ⟨h1, onX h h4 h2 h3⟩
theorem pEnd2 (h : Two w0 W g x s p e p2 e2 m) :
    Calls Try.prog 24 #[.pointer (some ⟨g, 0, none⟩)] W fun ev W' => ev = .returned (.int .i64 (rEnd s p e m)) ∧ Two w0 W' g x s p e p2 e2 m :=
  (wire_Reader_End.calls g s p e m _ _ _ _ _ w0 W h.a h.below (end_eq s p e m)).mono fun ev W' ⟨h1, h2, h3, h4⟩ => ⟨h1, onP h h4 h2 h3⟩
theorem xEnd2 (h : Two w0 W g x s p e p2 e2 m) :
    Calls Try.prog 31 #[.pointer (some ⟨x, 0, none⟩)] W fun ev W' => ev = .returned (.int .i64 (rEnd s p2 e2 m)) ∧ Two w0 W' g x s p e p2 e2 m :=
  (imageeditorref04_Reader_End.calls x s p2 e2 m _ _ _ _ _ w0 W h.b h.below (rend_eq s p2 e2 m)).mono fun ev W' ⟨h1, h2, h3, h4⟩ => ⟨h1, onX h h4 h2 h3⟩
end
theorem wrap1 (i : Nat) (h : i ≤ 4611686018427387904) : wrap64 ((i : Int) + 1) = ((i + 1 : Nat) : Int) := by rw [wrap_id _ (by omega) (by omega)]; omega

set_option maxHeartbeats 8000000 in
theorem reads (s : ByteArray) (A : Option Addr) (c : Nat) (l : List St) (w : World) (hr : Kd.C k49 w A l.length l) (hl : l.length ≤ 8796093022208) (hw : ∀ y ∈ l, y.f1 ≤ 9223372036854775807) (hs : s.size ≤ 1048576) :
    Calls Try.prog 7 #[.string s, .slice A l.length c] w fun ev w' => ev = .returned (.bool true) ∧ Below w.heap.size w w' := by
  have HR := Aside0.mk hr
  have HL := Aside0.mk hl
  have HW := Aside0.mk hw
  have HS := Aside0.mk hs
  have HX := Aside0.mk (WireEx.example_ok 21 (Nat.le_refl _))
  have HN1 : Aside0 (wire_New.f s = some (s, ((0 : Nat) : Int), 0, true)) := ⟨rfl⟩
  have HN2 : Aside0 (imageeditorref04_New.f s = some (s, ((0 : Nat) : Int), 0, true)) := ⟨rfl⟩
  clear hr hl hw hs
  go_enter Try.func7, Try.ntmps7
  go_wp2_with (first
    | (go_at_call 18; (with_reducible refine (wire_New.calls s _ _ _ _ w _ (Below.refl _ _) HN1.out).mono ?_); rintro ev w1 ⟨g, rfl, hi, hb, hb2⟩; have HI := Aside0.mk hi; have HB := Aside0.mk hb; clear hi hb hb2)
    | (go_at_call 27; (with_reducible refine (imageeditorref04_New.calls s _ _ _ _ w _ HB.out HN2.out).mono ?_); rintro ev w2 ⟨x, rfl, hi, hb, hb2⟩; have HT : Aside0 (Two w w2 g x s 0 0 0 0 true) := ⟨⟨HI.out.below hb2, hi, hb⟩⟩; clear HI HB hi hb hb2))
  go_loopg [7] l.length (fun kq v7 w' => ∃ (i p : Nat) (e : Int), v7 = .int .i64 (i : Int) ∧ Aside0 (kq + i = l.length) ∧ Aside0 (p ≤ s.size) ∧ Aside0 (Two w w' g x s p e p e true))
  case atStart => exact ⟨0, 0, 0, rfl, ⟨by omega⟩, ⟨Nat.zero_le _⟩, HT⟩
  case round =>
    clear HT
    obtain ⟨i, p, e, rfl, HN, HP, HT⟩ := hrel
    by_cases hi : i < l.length
    · have t1 : decide ((i : Int) < (l.length : Int)) = true := decide_eq_true (by omega)
      have t2 : decide (i < l.length) = true := decide_eq_true hi
      obtain ⟨ad, ea, hx0, hx1⟩ := at_T49 HR.out (i : Int) (by omega) (by omega)
      have HRD : Aside0 ((rd_T49 l (i : Int)).f1 ≤ 9223372036854775807) := ⟨HW.out _ (by
        unfold rd_T49
        rw [Int.toNat_natCast, List.getD_eq_getElem?_getD, List.getElem?_eq_getElem hi, Option.getD_some]
        exact List.getElem_mem _)⟩
      generalize rd_T49 l (i : Int) = y at hx0 hx1 HRD
      cases ea
      replace hx0 := (HT.out.below.cell (World.block_lt_of_cell? w _ hx0)).trans hx0
      replace hx1 := (HT.out.below.cell (World.block_lt_of_cell? w _ hx1)).trans hx1
      simp only [Int.toNat_natCast] at hx0 hx1
      have p1 : ((i : Int) < (l.length : Int)) = True := eq_true (by omega)
      have p2 : (i < l.length) = True := eq_true hi
      have HI := Aside0.mk hi
      have HQ := Aside0.mk (stepS_pos s p e true y.f0 y.f1 HP.out HRD.out)
      clear hi
      go_wp2_with (first
        | (go_at_call 28; (with_reducible refine (step_calls w _ g x s p e true y.f0 y.f1 HT.out HS.out HP.out HRD.out).mono ?_); rintro ev w3 ⟨rfl, ht⟩; have HT2 := Aside0.mk ht; clear HT ht hx0 hx1))
      go_roundg (gk - 1)
      case measure => have := HN.out; have := HI.out; omega
      case rel => exact ⟨i + 1, _, _, by first | (rw [wrap1 i (by have := HI.out; have := HL.out; omega)]) | rfl | go_num, ⟨by have := HN.out; have := HI.out; omega⟩, HQ, HT2⟩
    · have t1 : decide ((i : Int) < (l.length : Int)) = false := decide_eq_false (by omega)
      have t2 : decide (i < l.length) = false := decide_eq_false hi
      clear hi
      go_wp2_with (first
        | (go_at_call 25; (with_reducible refine (pLeft2 HT.out HS.out HP.out).mono ?_); rintro ev w4 ⟨rfl, ht⟩; have n0_ := Aside0.mk ht; clear HT; have HT := n0_; clear n0_ ht)
        | (go_at_call 29; (with_reducible refine (xLeft2 HT.out HS.out HP.out).mono ?_); rintro ev w4 ⟨rfl, ht⟩; have n0_ := Aside0.mk ht; clear HT; have HT := n0_; clear n0_ ht)
        | (go_at_call 26; (with_reducible refine (pErr2 HT.out).mono ?_); rintro ev w4 ⟨rfl, ht⟩; have n0_ := Aside0.mk ht; clear HT; have HT := n0_; clear n0_ ht)
        | (go_at_call 30; (with_reducible refine (xErr2 HT.out).mono ?_); rintro ev w4 ⟨rfl, ht⟩; have n0_ := Aside0.mk ht; clear HT; have HT := n0_; clear n0_ ht)
        | (go_at_call 24; (with_reducible refine (pEnd2 HT.out).mono ?_); rintro ev w4 ⟨rfl, ht⟩; have n0_ := Aside0.mk ht; clear HT; have HT := n0_; clear n0_ ht)
        | (go_at_call 31; (with_reducible refine (xEnd2 HT.out).mono ?_); rintro ev w4 ⟨rfl, ht⟩; have n0_ := Aside0.mk ht; clear HT; have HT := n0_; clear n0_ ht)
        | (go_at_call 17; (with_reducible refine (imageeditorlaw04_example.calls 21 true _ HX.out).mono ?_); rintro ev w5 ⟨rfl, hb⟩; have HB5 := Aside0.mk (below_step HT.out.below hb); clear hb))
      go_ret
      exact ⟨rfl, HB5.out⟩

end Go.Proofs.Ytnjelebhicheeaa.WireReads

-- WRITTEN BY A PROGRAM of this session: a widened scratch copy of the kit's print (patch_print.py). Nothing here is trusted: Lean checks it.
import Derived.Test.YtnjelebhicheeaaQx0
import Derived.Test.YtnjelebhicheeaaQx4
namespace Go.Proofs.Ytnjelebhicheeaa.Q
open Go.RowKit Go.Proofs.YtnjelebhicheeaaW.PrintWords Go.Proofs.YtnjelebhicheeaaW.PrintLast Go.Proofs.YtnjelebhicheeaaW.PrintMore
attribute [local go_sem] max2_int min2_int max_two min_two max_three min_three max_four min_four   -- for this text's walks alone
set_option linter.unusedVariables false
set_option linter.unusedSimpArgs false

/-! ### imageeditorref04_Reader_End: function 31, by hand -/
def imageeditorref04_Reader_End.f (s0_0 : ByteArray) (s0_1 : Int) (s0_2 : Int) (s0_3 : Bool) : Option (Int × ByteArray × Int × Int × Bool) := if s0_3 = true then (if s0_2 = 0 then (if s0_1 < (s0_0.size : Int) then some (6, s0_0, s0_1, s0_2, s0_3) else some (0, s0_0, s0_1, s0_2, s0_3)) else some (s0_2, s0_0, s0_1, s0_2, s0_3)) else some (14, s0_0, s0_1, s0_2, s0_3)
set_option maxHeartbeats 8000000 in
set_option maxRecDepth 100000 in
theorem imageeditorref04_Reader_good.same (g : Nat) (f0 : ByteArray) (f1 : Int) (f2 : Int) (f3 : Bool) (b : Bool) (hb : (f3 && (f2 == 0)) = b) (w : World)
    (c2 : w.cell? ⟨g, 2, none⟩ = some (.int .i64 f2)) (c3 : w.cell? ⟨g, 3, none⟩ = some (.bool f3)) :
    Calls Try.prog 43 #[.pointer (some ⟨g, 0, none⟩)] w fun e w' => e = .returned (.bool b) ∧ w' = w := by
  cases f3 with
  | true =>
    rw [Bool.true_and] at hb
    subst hb
    go_enter Try.func43, Try.ntmps43
    go_wp2
    go_ret
    exact ⟨rfl, rfl⟩
  | false =>
    rw [Bool.false_and] at hb
    subst hb
    go_enter Try.func43, Try.ntmps43
    go_wp2
    go_ret
    exact ⟨rfl, rfl⟩
set_option maxHeartbeats 8000000 in
set_option maxRecDepth 100000 in
theorem imageeditorref04_Reader_Err.same (g : Nat) (f2 : Int) (f3 : Bool) (w : World)
    (c2 : w.cell? ⟨g, 2, none⟩ = some (.int .i64 f2)) (c3 : w.cell? ⟨g, 3, none⟩ = some (.bool f3)) :
    Calls Try.prog 30 #[.pointer (some ⟨g, 0, none⟩)] w fun e w' => e = .returned (.int .i64 (if f3 = true then f2 else 14)) ∧ w' = w := by
  cases f3 with
  | true =>
    go_enter Try.func30, Try.ntmps30
    go_wp2
    go_ret
    exact ⟨rfl, rfl⟩
  | false =>
    go_enter Try.func30, Try.ntmps30
    go_wp2
    go_ret
    exact ⟨rfl, rfl⟩
set_option maxHeartbeats 8000000 in
set_option maxRecDepth 100000 in
theorem imageeditorref04_Reader_End.same (g : Nat) (f0 : ByteArray) (f1 : Int) (f2 : Int) (f3 : Bool) (r : Int) (w : World)
    (hr : r = if f3 = true then (if f2 = 0 then (if f1 < (f0.size : Int) then 6 else 0) else f2) else 14)
    (c0 : w.cell? ⟨g, 0, none⟩ = some (.string f0)) (c1 : w.cell? ⟨g, 1, none⟩ = some (.int .i64 f1)) (c2 : w.cell? ⟨g, 2, none⟩ = some (.int .i64 f2)) (c3 : w.cell? ⟨g, 3, none⟩ = some (.bool f3)) :
    Calls Try.prog 31 #[.pointer (some ⟨g, 0, none⟩)] w fun e w' => e = .returned (.int .i64 r) ∧ ∃ n, w' = w.drewN n := by
  by_cases hg : (f3 && (f2 == 0)) = true
  · have h1 : f3 = true := by revert hg; cases f3 <;> simp
    have h2 : f2 = 0 := by revert hg; subst h1; simp
    subst h1 h2
    by_cases ha : f1 < (f0.size : Int)
    · rw [if_pos rfl, if_pos rfl, if_pos ha] at hr
      subst hr
      have ha' : decide (f1 < (f0.size : Int)) = true := decide_eq_true ha
      clear ha hg
      go_enter Try.func31, Try.ntmps31
      go_wp2_with fail
      go_quiet ((go_at_call 43; exact Calls.quiet_of_same (imageeditorref04_Reader_good.same g f0 f1 0 true true rfl _ c2 c3)))
      go_wp2
      go_ret
      exact ⟨rfl, _, rfl⟩
    · rw [if_pos rfl, if_pos rfl, if_neg ha] at hr
      subst hr
      have ha' : decide (f1 < (f0.size : Int)) = false := decide_eq_false ha
      clear ha hg
      go_enter Try.func31, Try.ntmps31
      go_wp2_with fail
      go_quiet ((go_at_call 43; exact Calls.quiet_of_same (imageeditorref04_Reader_good.same g f0 f1 0 true true rfl _ c2 c3)))
      go_wp2_with (go_at_call 30; refine (imageeditorref04_Reader_Err.same g 0 true (w.drewN _) c2 c3).mono ?_; rintro e w1 ⟨rfl, rfl⟩)
      go_ret
      exact ⟨rfl, _, rfl⟩
  · have hg' : (f3 && (f2 == 0)) = false := by simpa using hg
    have hr' : r = if f3 = true then f2 else 14 := by
      cases f3 with
      | true =>
        rw [if_pos rfl] at hr ⊢
        have : f2 ≠ 0 := by revert hg'; simp
        rw [if_neg this] at hr
        exact hr
      | false => simpa using hr
    subst hr'
    clear hr hg
    go_enter Try.func31, Try.ntmps31
    go_wp2_with fail
    go_quiet ((go_at_call 43; exact Calls.quiet_of_same (imageeditorref04_Reader_good.same g f0 f1 f2 f3 false hg' _ c2 c3)))
    go_wp2_with (go_at_call 30; refine (imageeditorref04_Reader_Err.same g f2 f3 (w.drewN _) c2 c3).mono ?_; rintro e w1 ⟨rfl, rfl⟩)
    all_goals (go_ret; exact ⟨by simp [*], _, rfl⟩)
theorem imageeditorref04_Reader_End.calls (g : Nat) (s0_0 : ByteArray) (s0_1 : Int) (s0_2 : Int) (s0_3 : Bool) (r1 : Int) (r2 : ByteArray) (r3 : Int) (r4 : Int) (r5 : Bool) (w0 w : World) (hI : IsS54 w0 w g s0_0 s0_1 s0_2 s0_3) (hB : Below w0.heap.size w0 w) (h : imageeditorref04_Reader_End.f s0_0 s0_1 s0_2 s0_3 = some (r1, r2, r3, r4, r5)) :
    Calls Try.prog 31 #[.pointer (some ⟨g, 0, none⟩)] w fun e w' => e = .returned (.int .i64 r1) ∧ IsS54 w0 w' g r2 r3 r4 r5 ∧ Below w0.heap.size w0 w' ∧ KeepBut w w' g none := by
  have H : r1 = (if s0_3 = true then (if s0_2 = 0 then (if s0_1 < (s0_0.size : Int) then 6 else 0) else s0_2) else 14) ∧ r2 = s0_0 ∧ r3 = s0_1 ∧ r4 = s0_2 ∧ r5 = s0_3 := by
    unfold imageeditorref04_Reader_End.f at h
    split at h
    · rename_i h1
      rw [if_pos h1]
      split at h
      · rename_i h2
        rw [if_pos h2]
        split at h
        · rename_i h3
          rw [if_pos h3]
          simp only [Option.some.injEq, Prod.mk.injEq] at h
          exact ⟨h.1.symm, h.2.1.symm, h.2.2.1.symm, h.2.2.2.1.symm, h.2.2.2.2.symm⟩
        · rename_i h3
          rw [if_neg h3]
          simp only [Option.some.injEq, Prod.mk.injEq] at h
          exact ⟨h.1.symm, h.2.1.symm, h.2.2.1.symm, h.2.2.2.1.symm, h.2.2.2.2.symm⟩
      · rename_i h2
        rw [if_neg h2]
        simp only [Option.some.injEq, Prod.mk.injEq] at h
        exact ⟨h.1.symm, h.2.1.symm, h.2.2.1.symm, h.2.2.2.1.symm, h.2.2.2.2.symm⟩
    · rename_i h1
      rw [if_neg h1]
      simp only [Option.some.injEq, Prod.mk.injEq] at h
      exact ⟨h.1.symm, h.2.1.symm, h.2.2.1.symm, h.2.2.2.1.symm, h.2.2.2.2.symm⟩
  obtain ⟨h1, rfl, rfl, rfl, rfl⟩ := H
  refine (imageeditorref04_Reader_End.same g r2 r3 r4 r5 r1 w h1 (cellS54_0 hI.1) (cellS54_1 hI.1) (cellS54_2 hI.1) (cellS54_3 hI.1)).mono ?_
  rintro e w' ⟨rfl, n, rfl⟩
  exact ⟨rfl, IsS54.drewN hI n, pw_below_drewN hB n, keep_drewN (KeepBut.refl w g none) n⟩

end Go.Proofs.Ytnjelebhicheeaa.Q

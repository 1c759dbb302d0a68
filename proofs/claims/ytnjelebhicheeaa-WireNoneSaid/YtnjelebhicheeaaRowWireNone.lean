/- WireNone (P4.3): for any calls, a nil reader and one that was not made answer as the reference's do, the one that was not made has the state's error, and the examples of the chapter hold. No condition on the input. -/
import Derived.Test.YtnjelebhicheeaaRows
import Derived.Test.YtnjelebhicheeaaWireNone
import Derived.Test.YtnjelebhicheeaaRowSteps
namespace Go.Proofs.Ytnjelebhicheeaa.wireNone
open Go.ChangeShapes Go.WideShapes Go.ChangeAt Go.RowKit Go.Joins
open Go.ChangeMaps (open_string shut_string)
open Go.Proofs.Ytnjelebhicheeaa.RowKit_ Go.Proofs.YtnjelebhicheeaaW.PrintWords
set_option linter.unusedVariables false
set_option linter.unusedSimpArgs false
theorem own : ownKnob Try.prog.godebug = none := by kernel_rfl
theorem laidOut : laidOutB Try.prog = true := by kernel_rfl
theorem walk (A : Option Addr) (c : Nat) (l : List RowSteps.St) (W : World) (hr : Kd.C Q.k49 W A l.length l) (hl : l.length ≤ 8796093022208) (hw : ∀ x ∈ l, (Lit.int .i64 x.f0).wf = true ∧ (Lit.int .i64 x.f1).wf = true) :
    Calls Try.prog 8 #[.slice A l.length c] W fun e W' => e = .returned (.bool true) ∧ Below W.heap.size W W' :=
  WireNone.nones A c l W hr hl (fun y hy => (Go.bounds_i64 (hw y hy).2).2)

set_option maxRecDepth 100000 in
theorem lifted (os : Os) (started : os.Started) (H : Type) (enc : TypeId × Value → H) :
    ReturnsInHanded {} Try.checked os 8 .any (Rows.wireNoneSpec.pre6 enc Try.prog Try.f8 Rows.wireNoneRow.domain false) (Rows.wireNoneSpec.post enc Try.prog Try.f8 false true false false) := by
  refine returnsInHanded_of_change_sized (C := Try.checked) own started (by kernel_rfl) Try.func8
    (ChangeSpec.witness6 (enc := enc) (C := Try.checked) false ⟨#[], #[.slice none 0 0], []⟩ 8 (by kernel_rfl) (by kernel_rfl) (by kernel_rfl) (by kernel_rfl)) ?_
  intro W base args ds gs before hval0 hW hcnd hsz0 _
  have hsz : (DataW.weightsEach Try.prog (Try.f8.params.toList ++ Rows.wireNoneSpec.plain.varTypes Try.prog) (ds ++ gs)).all (· ≤ reachBytes) = true := hsz0
  have hval : ∀ (j : Nat) t v, Try.f8.params[j]? = some t → args[j]? = some v → Value.okWide Try.prog W .any base t v := hval0
  have hW' := hW
  obtain ⟨p, q, hA0, hV, rfl, hfz, hnd⟩ := hW
  have hA : DataW.TrodAll enc Try.prog W 0 (fun _ => true) true Try.f8.params.toList args.toList ds p := hA0
  rw [Try.params8] at hA hval hsz
  obtain ⟨v0, vs0, d0, ds0, p0, q0, hargs, rfl, rfl, h0, r0⟩ := trodAll_cons hA
  obtain ⟨rfl, rfl, rfl⟩ := trodAll_nil r0
  obtain rfl : args = #[v0] := by cases args; simp_all
  obtain ⟨rfl, rfl⟩ := trodVars_none hV
  have k0 := h0
  have lt0 : ∀ x ∈ p0, x.block < W.heap.size := by obtain ⟨m, hm⟩ := k0; exact DataW.trod_lt m _ _ _ hm
  obtain ⟨b0, b1, b2, rfl⟩ := okWide_slice Try.underlying44 (hval 0 44 v0 rfl rfl)
  have gw : ∀ n ∈ DataW.weights Try.prog 44 d0, n ≤ reachBytes := fun n hn => by
    have := List.all_eq_true.1 hsz n (DataW.weights_mem_each (j := 0) rfl rfl n hn)
    simpa using this
  obtain ⟨m1, t1⟩ := h0
  have t1' : DataW.trod enc Try.prog W 0 (fun _ => true) true m1 44 [.slice b0 b1 b2] = some (d0, p0) := t1
  obtain ⟨A, c, l, e1, hr, hc, hl, hw⟩ := RowSteps.steps_of t1' (RowSteps.len_weight gw)
  injection e1 with f1 f2 f3
  subst f1 f2 f3
  clear hA0 hval0 hsz0 hsz
  refine (walk _ _ l W hr hl hw).mono fun e W' ⟨he, bel⟩ => ?_
  subst he
  exact ⟨_, rfl, _, _, _, [], _, [], hW', trodAll_mk1 (shut_bool Try.underlying4 _), (trodAll_cons_mk (Below.trod laidOut (by kernel_rfl) (of_decide_eq_true (by kernel_rfl)) k0 bel lt0) trodAll_mk0), rfl, bel.frame _, fun h => by cases h⟩
theorem over : Rows.wireNoneRow.holds Try.pinned (OpenSpec.ofChange Rows.wireNoneSpec) :=
  OpenClaim.holds_of_wide 8 Try.f8 rfl rfl rfl rfl rfl rfl rfl ⟨rfl, rfl, rfl, rfl, rfl⟩ rfl rfl rfl rfl rfl (by kernel_rfl) Try.func8 (by kernel_rfl)
    (of_decide_eq_true (by kernel_rfl)) (by unfold Func.isWrapper; first | (rw [if_pos (by decide +kernel)]; kernel_rfl) | (rw [if_neg (by decide +kernel)]; exact ⟨rfl, rfl⟩))
    (fun os started H enc _ => lifted os started H enc)
theorem proved : Rows.WireNoneSaid := over
#print axioms proved
end Go.Proofs.Ytnjelebhicheeaa.wireNone
namespace Go.Proofs.Ytnjelebhicheeaa
/-- The row, under a short name, for the claim. -/
theorem wireNone_holds : Rows.WireNoneSaid := wireNone.proved
end Go.Proofs.Ytnjelebhicheeaa

/- JournalHeads (P44.1, P44.2): for every generation and every record, the program's header and the record's encoding, or the error, are the reference's, and the examples of the chapter hold. No condition on the input. -/
import Derived.Test.YtnppfhjfnjinlaaRows
import Derived.Test.YtnppfhjfnjinlaaJrnHeads
import Derived.Test.YtnppfhjfnjinlaaRowKit
namespace Go.Proofs.Ytnppfhjfnjinlaa.journalHeads
open Go.ChangeShapes Go.WideShapes Go.ChangeAt Go.RowKit Go.Joins
open Go.ChangeMaps (open_string shut_string)
open Go.Proofs.Ytnppfhjfnjinlaa.RowKit_ Go.Proofs.YtnppfhjfnjinlaaW.PrintWords
set_option linter.unusedVariables false
set_option linter.unusedSimpArgs false
theorem own : ownKnob Try.prog.godebug = none := by kernel_rfl
theorem laidOut : laidOutB Try.prog = true := by kernel_rfl
theorem cells25 : Try.prog.cellsOf 23 = 3 := by kernel_rfl

theorem walk (g kind seq : Int) (d : ByteArray) (W : World) (hk : (Lit.int .i64 kind).wf = true) (hd : d.size ≤ 140737488351232) :
    Calls Try.prog 5 #[.int .i64 g, .agg #[.int .i64 kind, .int .i64 seq, .string d]] W fun e W' => e = .returned (.bool true) ∧ Below W.heap.size W W' :=
  Q.imageeditorlaw44_JournalHeads.calls (10 * d.size + 700) g kind seq d true W (JrnHeads.law g kind seq d (Go.bounds_i64 hk) hd)

set_option maxRecDepth 100000 in
theorem lifted (os : Os) (started : os.Started) (H : Type) (enc : TypeId × Value → H) :
    ReturnsInHanded {} Try.checked os 5 .any (Rows.journalHeadsSpec.pre6 enc Try.prog Try.f5 Rows.journalHeadsRow.domain false) (Rows.journalHeadsSpec.post enc Try.prog Try.f5 false true false false) := by
  refine returnsInHanded_of_change_sized (C := Try.checked) own started (by kernel_rfl) Try.func5
    (ChangeSpec.witness6 (enc := enc) (C := Try.checked) false ⟨#[], #[.int .i64 0, .agg #[.int .i64 0, .int .i64 0, .string ByteArray.empty]], []⟩ 8 (by kernel_rfl) (by kernel_rfl) (by kernel_rfl) (by kernel_rfl)) ?_
  intro W base args ds gs before hval0 hW hcnd hsz0 _
  have hsz : (DataW.weightsEach Try.prog (Try.f5.params.toList ++ Rows.journalHeadsSpec.plain.varTypes Try.prog) (ds ++ gs)).all (· ≤ reachBytes) = true := hsz0
  have hval : ∀ (j : Nat) t v, Try.f5.params[j]? = some t → args[j]? = some v → Value.okWide Try.prog W .any base t v := hval0
  have hW' := hW
  obtain ⟨p, q, hA0, hV, rfl, hfz, hnd⟩ := hW
  have hA : DataW.TrodAll enc Try.prog W 0 (fun _ => true) true Try.f5.params.toList args.toList ds p := hA0
  rw [Try.params5] at hA hval hsz
  obtain ⟨v0, vs0, d0, ds0, p0, q0, hargs, rfl, rfl, h0, r0⟩ := trodAll_cons hA
  obtain ⟨v1, vs1, d1, ds1, p1, q1, rfl, rfl, rfl, h1, r1⟩ := trodAll_cons r0
  obtain ⟨rfl, rfl, rfl⟩ := trodAll_nil r1
  obtain rfl : args = #[v0, v1] := by cases args; simp_all
  obtain ⟨rfl, rfl⟩ := trodVars_none hV
  obtain ⟨ag, rfl, rfl, rfl, wg⟩ := open_int Try.underlying3 (hval 0 3 v0 rfl rfl) h0
  have k0 := h1
  have lt0 : ∀ x ∈ p1, x.block < W.heap.size := by obtain ⟨m, hm⟩ := k0; exact DataW.trod_lt m _ _ _ hm
  obtain ⟨c0, c1, c2, y0, y1, y2, m, rfl, hd0, hp0, t0, t1, t2⟩ := open_agg3 Try.underlying23 (by kernel_rfl) cells25 (hval 1 23 v1 rfl rfl) h1
  obtain ⟨a0, e0, e0', wf0⟩ := DataW.trod_int Try.underlying3 t0
  obtain ⟨a1, e1, e1', wf1⟩ := DataW.trod_int Try.underlying3 t1
  obtain ⟨a2, e2, e2', wf2⟩ := DataW.trod_string Try.underlying9 t2
  simp only [List.cons.injEq, and_true] at e0 e1 e2
  subst e0 e1 e2
  have g : (DataW.weightsEach Try.prog [3, 3, 9] [y0.1, y1.1, y2.1]).all (· ≤ reachBytes) = true := by
    have h := weights_next hsz
    rw [hd0] at h
    exact (weights_agg Try.underlying23 h).1
  have s2 : a2.size ≤ 140737488351232 := string_le (j := 2) g rfl (by rw [e2']; rfl)
  clear hA0 hval0 hsz0 hsz
  refine (walk ag a0 a1 a2 W wf0 s2).mono fun e W' ⟨he, bel⟩ => ?_
  subst he
  exact ⟨_, rfl, _, _, _, [], _, [], hW', trodAll_mk1 (shut_bool Try.underlying4 _), (trodAll_cons_mk (shut_int Try.underlying3 wg) (trodAll_cons_mk (Below.trod laidOut (by kernel_rfl) (of_decide_eq_true (by kernel_rfl)) k0 bel lt0) trodAll_mk0)), rfl, bel.frame _, fun h => by cases h⟩
theorem over : Rows.journalHeadsRow.holds Try.pinned (OpenSpec.ofChange Rows.journalHeadsSpec) :=
  OpenClaim.holds_of_wide 5 Try.f5 rfl rfl rfl rfl rfl rfl rfl ⟨rfl, rfl, rfl, rfl, rfl⟩ rfl rfl rfl rfl rfl (by kernel_rfl) Try.func5 (by kernel_rfl)
    (of_decide_eq_true (by kernel_rfl)) (by unfold Func.isWrapper; first | (rw [if_pos (by decide +kernel)]; kernel_rfl) | (rw [if_neg (by decide +kernel)]; exact ⟨rfl, rfl⟩))
    (fun os started H enc _ => lifted os started H enc)
theorem proved : Rows.JournalHeadsSaid := over
#print axioms proved
end Go.Proofs.Ytnppfhjfnjinlaa.journalHeads
namespace Go.Proofs.Ytnppfhjfnjinlaa
/-- The row, under a short name, for the claim. -/
theorem journalHeads_holds : Rows.JournalHeadsSaid := journalHeads.proved
end Go.Proofs.Ytnppfhjfnjinlaa

/- JournalDamages (P44.9): for every tale (a generation and records), every place and every byte: with another byte in the payload or the checksum of the last record of the journal that is written of the tale, the records before it are read, with the checksum's error, and the examples of the chapter hold. No condition on the input. -/
import Derived.Test.YtnppfhjfnjinlaaRows
import Derived.Test.YtnppfhjfnjinlaaJrnDamages
import Derived.Test.YtnppfhjfnjinlaaRowRecs
namespace Go.Proofs.Ytnppfhjfnjinlaa.journalDamages
open Go.ChangeShapes Go.WideShapes Go.ChangeAt Go.RowKit Go.Joins
open Go.ChangeMaps (open_string shut_string)
open Go.Proofs.Ytnppfhjfnjinlaa.RowKit_ Go.Proofs.YtnppfhjfnjinlaaW.PrintWords
set_option linter.unusedVariables false
set_option linter.unusedSimpArgs false
theorem own : ownKnob Try.prog.godebug = none := by kernel_rfl
theorem laidOut : laidOutB Try.prog = true := by kernel_rfl
theorem cells25 : Try.prog.cellsOf 35 = 2 := by kernel_rfl

theorem cellsH : Try.prog.cellsOf 38 = 2 := by kernel_rfl
theorem walk (g : Int) (A : Option Addr) (c : Nat) (l : List RowRecs.Rc) (x y : Int) (W : World) (hx : (Lit.int .u64 x).wf = true) (hy : (Lit.int .u8 y).wf = true) (hr : Kd.C Q.k23 W A l.length l) (hc : l.length ≤ c) (hl : l.length ≤ 4398046511104) (hw : ∀ x ∈ l, x.f2.size ≤ 140737488351232) :
    Calls Try.prog 4 #[.agg #[.int .i64 g, .slice A l.length c], .agg #[.int .u64 x, .int .u8 y]] W fun e W' => e = .returned (.bool true) ∧ Below W.heap.size W W' := by
  have h3 := Go.bounds_u64 hx
  have h4 := Go.bounds_u8 hy
  have e2 : x = ((x.toNat : Nat) : Int) := by omega
  have e3 : y = ((y.toNat : Nat) : Int) := by omega
  refine Q.imageeditorlaw44_JournalDamages.calls (2 * l.length + 200) g A c l x y true W hr hc ?_
  rw [e2, e3]
  exact JrnDamages.law g l y.toNat x.toNat (by omega) hl hw

set_option maxRecDepth 100000 in
theorem lifted (os : Os) (started : os.Started) (H : Type) (enc : TypeId × Value → H) :
    ReturnsInHanded {} Try.checked os 4 .any (Rows.journalDamagesSpec.pre6 enc Try.prog Try.f4 Rows.journalDamagesRow.domain false) (Rows.journalDamagesSpec.post enc Try.prog Try.f4 false true false false) := by
  refine returnsInHanded_of_change_sized (C := Try.checked) own started (by kernel_rfl) Try.func4
    (ChangeSpec.witness6 (enc := enc) (C := Try.checked) false ⟨#[], #[.agg #[.int .i64 0, .slice none 0 0], .agg #[.int .u64 0, .int .u8 0]], []⟩ 8 (by kernel_rfl) (by kernel_rfl) (by kernel_rfl) (by kernel_rfl)) ?_
  intro W base args ds gs before hval0 hW hcnd hsz0 _
  have hsz : (DataW.weightsEach Try.prog (Try.f4.params.toList ++ Rows.journalDamagesSpec.plain.varTypes Try.prog) (ds ++ gs)).all (· ≤ reachBytes) = true := hsz0
  have hval : ∀ (j : Nat) t v, Try.f4.params[j]? = some t → args[j]? = some v → Value.okWide Try.prog W .any base t v := hval0
  have hW' := hW
  obtain ⟨p, q, hA0, hV, rfl, hfz, hnd⟩ := hW
  have hA : DataW.TrodAll enc Try.prog W 0 (fun _ => true) true Try.f4.params.toList args.toList ds p := hA0
  rw [Try.params4] at hA hval hsz
  obtain ⟨v0, vs0, d0, ds0, p0, q0, hargs, rfl, rfl, h0, r0⟩ := trodAll_cons hA
  obtain ⟨v1, vs1, d1, ds1, p1, q1, rfl, rfl, rfl, h1, r1⟩ := trodAll_cons r0
  obtain ⟨rfl, rfl, rfl⟩ := trodAll_nil r1
  obtain rfl : args = #[v0, v1] := by cases args; simp_all
  obtain ⟨rfl, rfl⟩ := trodVars_none hV
  have k0 := h0
  have lt0 : ∀ x ∈ p0, x.block < W.heap.size := by obtain ⟨m, hm⟩ := k0; exact DataW.trod_lt m _ _ _ hm
  obtain ⟨c0, c1, y0, y1, m, rfl, hd0, hp0, t0, t1⟩ := open_agg2 Try.underlying35 (by kernel_rfl) cells25 (hval 0 35 v0 rfl rfl) h0
  obtain ⟨a0, e0, e0', wf0⟩ := DataW.trod_int Try.underlying3 t0
  simp only [List.cons.injEq, and_true] at e0
  subst e0
  have g : (DataW.weightsEach Try.prog [3, 28] [y0.1, y1.1]).all (· ≤ reachBytes) = true := by
    have h := hsz
    rw [hd0] at h
    exact (weights_agg Try.underlying35 h).1
  have gw : ∀ n ∈ DataW.weights Try.prog 28 y1.1, n ≤ reachBytes := fun n hn => by
    have := List.all_eq_true.1 g n (DataW.weights_mem_each (j := 1) rfl rfl n hn)
    simpa using this
  obtain ⟨A, c, l, e1, hr, hc, hl, hw⟩ := RowRecs.recs_of t1 gw
  subst e1
  have k1 := h1
  have lt1 : ∀ x ∈ p1, x.block < W.heap.size := by obtain ⟨m, hm⟩ := k1; exact DataW.trod_lt m _ _ _ hm
  obtain ⟨b0, b1, z0, z1, m1, rfl, hd1, hp1, t2, t3⟩ := open_agg2 Try.underlying38 (by kernel_rfl) cellsH (hval 1 38 v1 rfl rfl) h1
  obtain ⟨ax, f0, f0', wx⟩ := DataW.trod_int Try.underlying36 t2
  obtain ⟨ay, f1, f1', wy⟩ := DataW.trod_int Try.underlying5 t3
  simp only [List.cons.injEq, and_true] at f0 f1
  subst f0 f1
  clear hA0 hval0 hsz0 hsz
  refine (walk a0 A c l ax ay W wx wy hr hc hl (fun x hx => (hw x hx).2.2)).mono fun e W' ⟨he, bel⟩ => ?_
  subst he
  exact ⟨_, rfl, _, _, _, [], _, [], hW', trodAll_mk1 (shut_bool Try.underlying4 _), (trodAll_cons_mk (Below.trod laidOut (by kernel_rfl) (of_decide_eq_true (by kernel_rfl)) k0 bel lt0) (trodAll_cons_mk (Below.trod laidOut (by kernel_rfl) (of_decide_eq_true (by kernel_rfl)) k1 bel lt1) trodAll_mk0)), rfl, bel.frame _, fun h => by cases h⟩
theorem over : Rows.journalDamagesRow.holds Try.pinned (OpenSpec.ofChange Rows.journalDamagesSpec) :=
  OpenClaim.holds_of_wide 4 Try.f4 rfl rfl rfl rfl rfl rfl rfl ⟨rfl, rfl, rfl, rfl, rfl⟩ rfl rfl rfl rfl rfl (by kernel_rfl) Try.func4 (by kernel_rfl)
    (of_decide_eq_true (by kernel_rfl)) (by unfold Func.isWrapper; first | (rw [if_pos (by decide +kernel)]; kernel_rfl) | (rw [if_neg (by decide +kernel)]; exact ⟨rfl, rfl⟩))
    (fun os started H enc _ => lifted os started H enc)
theorem proved : Rows.JournalDamagesSaid := over
#print axioms proved
end Go.Proofs.Ytnppfhjfnjinlaa.journalDamages
namespace Go.Proofs.Ytnppfhjfnjinlaa
/-- The row, under a short name, for the claim. -/
theorem journalDamages_holds : Rows.JournalDamagesSaid := journalDamages.proved
end Go.Proofs.Ytnppfhjfnjinlaa

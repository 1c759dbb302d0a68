/- JournalGrows (P44.8), for inputs of bulk at most 1048576 (the given bound of the '..UptoSaid' statement): a journal to which a record was appended has one record more, and the examples of the chapter hold. -/
import Derived.Test.YtnppfhjfnjinlaaRows
import Derived.Test.YtnppfhjfnjinlaaJrnGrows
import Derived.Test.YtnppfhjfnjinlaaRowKit
import Derived.JoinedCond
namespace Go.Proofs.Ytnppfhjfnjinlaa.journalGrows
open Go.ChangeShapes Go.WideShapes Go.ChangeAt Go.RowKit Go.Joins
open Go.ChangeMaps (open_string shut_string)
open Go.Proofs.Ytnppfhjfnjinlaa.RowKit_ Go.Proofs.YtnppfhjfnjinlaaW.PrintWords
set_option linter.unusedVariables false
set_option linter.unusedSimpArgs false
theorem own : ownKnob Try.prog.godebug = none := by kernel_rfl
theorem laidOut : laidOutB Try.prog = true := by kernel_rfl
theorem cells25 : Try.prog.cellsOf 23 = 3 := by kernel_rfl
theorem len_eq (s : ByteArray) : s.data.toList.length = s.size := by rw [Array.length_toList]; rfl
theorem short {H : Type} {s d : ByteArray} {x y : DataW H} (hk : Rows.uptoSmall H [.lit (.string s.data.toList), .agg [x, y, .lit (.string d.data.toList)]] = true) : s.size ≤ 1048576 ∧ d.size ≤ 1048576 := by
  have h : Rows.uptoBulkAll [DataW.lit (H := H) (.string s.data.toList), .agg [x, y, .lit (.string d.data.toList)]] ≤ 1048576 := of_decide_eq_true hk
  simp only [Rows.uptoBulkAll, Rows.uptoBulk, len_eq] at h
  omega
theorem walk (s : ByteArray) (kind seq : Int) (d : ByteArray) (W : World) (hk : (Lit.int .i64 kind).wf = true) (hq : (Lit.int .i64 seq).wf = true) (hs : s.size ≤ 1048576 ∧ d.size ≤ 1048576) :
    Calls Try.prog 3 #[.string s, .agg #[.int .i64 kind, .int .i64 seq, .string d]] W fun e w' => e = .returned (.bool true) ∧ Below W.heap.size W w' :=
  Q.imageeditorlaw44_JournalGrows.calls 1048800 s kind seq d true W (JrnGrows.law s kind seq d hs.1 hs.2 (Go.bounds_i64 hq)) rfl

set_option maxRecDepth 100000 in
theorem lifted (os : Os) (started : os.Started) (H : Type) (enc : TypeId × Value → H) (F : Stop.Interp) :
    ReturnsInHanded {} Try.checked os 3 .any ((Rows.OpenSpec.upto Rows.journalGrowsSpec).pre6 enc Try.prog Try.f3 Rows.journalGrowsUptoRow.domain false) (((Rows.OpenSpec.upto Rows.journalGrowsSpec).at F).post enc Try.prog Try.f3 false true false false) := by
  refine returnsInHanded_of_cond (C := Try.checked) (s := Rows.OpenSpec.upto Rows.journalGrowsSpec) (k := Rows.uptoSmall) rfl own started (by kernel_rfl) Try.func3
    (OpenSpec.witness (enc := enc) (C := Try.checked) (s := Rows.OpenSpec.upto Rows.journalGrowsSpec) (k := Rows.uptoSmall) rfl false ⟨#[], #[.string .empty, .agg #[.int .i64 0, .int .i64 0, .string ByteArray.empty]], []⟩ 8 (by kernel_rfl) (by kernel_rfl) (by kernel_rfl)
      (x := ([.lit (.string []), .agg [.lit (.int .i64 0), .lit (.int .i64 0), .lit (.string [])]], [], [])) (by kernel_rfl) rfl (by kernel_rfl)) ?_
  intro W base args ds gs before hval0 hW _ hk0 _
  have hval : ∀ (j : Nat) t v, Try.f3.params[j]? = some t → args[j]? = some v → Value.okWide Try.prog W .any base t v := hval0
  have hk : Rows.uptoSmall H (ds ++ gs) = true := hk0
  have hW' := hW
  obtain ⟨p, q, hA0, hV, rfl, hfz, hnd⟩ := hW
  have hA : DataW.TrodAll enc Try.prog W 0 (fun _ => true) true Try.f3.params.toList args.toList ds p := hA0
  rw [Try.params3] at hA hval
  obtain ⟨v0, vs0, d0, ds0, p0, q0, hargs, rfl, rfl, h0, r0⟩ := trodAll_cons hA
  obtain ⟨v1, vs1, d1, ds1, p1, q1, rfl, rfl, rfl, h1, r1⟩ := trodAll_cons r0
  obtain ⟨rfl, rfl, rfl⟩ := trodAll_nil r1
  obtain rfl : args = #[v0, v1] := by cases args; simp_all
  obtain ⟨rfl, rfl⟩ := trodVars_none hV
  have k0 := h0
  have lt0 : ∀ x ∈ p0, x.block < W.heap.size := by obtain ⟨m, hm⟩ := k0; exact DataW.trod_lt m _ _ _ hm
  obtain ⟨a0, rfl, rfl, rfl, y0⟩ := open_string Try.underlying9 (hval 0 9 v0 rfl rfl) h0
  have k1 := h1
  have lt1 : ∀ x ∈ p1, x.block < W.heap.size := by obtain ⟨m, hm⟩ := k1; exact DataW.trod_lt m _ _ _ hm
  obtain ⟨c0, c1, c2, z0, z1, z2, m, rfl, hd1, hp1, t0, t1, t2⟩ := open_agg3 Try.underlying23 (by kernel_rfl) cells25 (hval 1 23 v1 rfl rfl) h1
  obtain ⟨b0, e0, e0', wf0⟩ := DataW.trod_int Try.underlying3 t0
  obtain ⟨b1, e1, e1', wf1⟩ := DataW.trod_int Try.underlying3 t1
  obtain ⟨b2, e2, e2', wf2⟩ := DataW.trod_string Try.underlying9 t2
  simp only [List.cons.injEq, and_true] at e0 e1 e2
  subst e0 e1 e2
  have hsm : a0.size ≤ 1048576 ∧ b2.size ≤ 1048576 := by
    rw [hd1, e0', e1', e2'] at hk
    exact short hk
  clear hA0 hval0 hk0
  refine (walk a0 b0 b1 b2 W wf0 wf1 hsm).mono fun e W' ⟨he, bel⟩ => ?_
  subst he
  exact ⟨_, rfl, _, _, _, [], _, [], hW', trodAll_mk1 (shut_bool Try.underlying4 _), (trodAll_cons_mk (Below.trod laidOut (by kernel_rfl) (of_decide_eq_true (by kernel_rfl)) k0 bel lt0) (trodAll_cons_mk (Below.trod laidOut (by kernel_rfl) (of_decide_eq_true (by kernel_rfl)) k1 bel lt1) trodAll_mk0)), rfl, bel.frame _, fun h => by cases h⟩
theorem proved : Rows.JournalGrowsUptoSaid :=
  OpenClaim.holds_of_cond 3 Try.f3 rfl rfl rfl rfl rfl rfl rfl ⟨rfl, rfl, rfl, rfl, rfl⟩ rfl rfl rfl rfl rfl (by kernel_rfl) Try.func3 (by kernel_rfl)
    (of_decide_eq_true (by kernel_rfl)) (by unfold Func.isWrapper; first | (rw [if_pos (by decide +kernel)]; kernel_rfl) | (rw [if_neg (by decide +kernel)]; exact ⟨rfl, rfl⟩))
    (fun os started H enc _ F => lifted os started H enc F)
#print axioms proved
end Go.Proofs.Ytnppfhjfnjinlaa.journalGrows
namespace Go.Proofs.Ytnppfhjfnjinlaa
/-- The row, under a short name, for the claim. -/
theorem journalGrowsUpto_holds : Rows.JournalGrowsUptoSaid := journalGrows.proved
end Go.Proofs.Ytnppfhjfnjinlaa

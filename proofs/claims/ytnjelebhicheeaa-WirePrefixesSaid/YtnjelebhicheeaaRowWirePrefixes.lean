/- WirePrefixes (P4.6): for every value of a number, a number with a sign, a text and a list of numbers, and any cut, a reader of a proper beginning of the encoding ends with ErrShort, and the examples of the chapter hold. No condition on the input. -/
import Derived.Test.YtnjelebhicheeaaRows
import Derived.Test.YtnjelebhicheeaaWirePrefixes
import Derived.Test.YtnjelebhicheeaaRowKit
namespace Go.Proofs.Ytnjelebhicheeaa.wirePrefixes
open Go.ChangeShapes Go.WideShapes Go.ChangeAt Go.RowKit Go.Joins
open Go.ChangeMaps (open_string shut_string)
open Go.Proofs.Ytnjelebhicheeaa.RowKit_ Go.Proofs.YtnjelebhicheeaaW.PrintWords
set_option linter.unusedVariables false
set_option linter.unusedSimpArgs false
theorem own : ownKnob Try.prog.godebug = none := by kernel_rfl
theorem laidOut : laidOutB Try.prog = true := by kernel_rfl
theorem cells25 : Try.prog.cellsOf 25 = 4 := by kernel_rfl

theorem walk (n i : Int) (s : ByteArray) (A : Option Addr) (c : Nat) (l : List Int) (x : Int) (W : World) (hx : (Lit.int .u64 x).wf = true) (hn : (Lit.int .u64 n).wf = true) (hi : (Lit.int .i64 i).wf = true) (hs : s.size ≤ 140737488351232)
    (hr : Kd.C (Kd.int .i64) W A l.length l) (hc : l.length ≤ c) (hl : l.length * 8 ≤ 140737488351232) (hw : ∀ x ∈ l, (Lit.int .i64 x).wf = true) :
    Calls Try.prog 6 #[.agg #[.int .u64 n, .int .i64 i, .string s, .slice A l.length c], .int .u64 x] W fun e w' => e = .returned (.bool true) ∧ Below W.heap.size W w' := by
  have h1 := Go.bounds_u64 hn
  have h2 := Go.bounds_i64 hi
  have h3 := Go.bounds_u64 hx
  have e : n = ((n.toNat : Nat) : Int) := by omega
  have e2 : x = ((x.toNat : Nat) : Int) := by omega
  refine Q.imageeditorlaw04_WirePrefixes.calls (l.length + 60) n i s A c l x true W hr hc ?_
  rw [e, e2]
  exact WirePrefixes.law n.toNat i s l x.toNat (by omega) h2.1 h2.2 (by omega) (by omega) (fun x hx => Go.bounds_i64 (hw x hx))

set_option maxRecDepth 100000 in
theorem lifted (os : Os) (started : os.Started) (H : Type) (enc : TypeId × Value → H) :
    ReturnsInHanded {} Try.checked os 6 .any (Rows.wirePrefixesSpec.pre6 enc Try.prog Try.f6 Rows.wirePrefixesRow.domain false) (Rows.wirePrefixesSpec.post enc Try.prog Try.f6 false true false false) := by
  refine returnsInHanded_of_change_sized (C := Try.checked) own started (by kernel_rfl) Try.func6
    (ChangeSpec.witness6 (enc := enc) (C := Try.checked) false ⟨#[], #[.agg #[.int .u64 0, .int .i64 0, .string ByteArray.empty, .slice none 0 0], .int .u64 0], []⟩ 8 (by kernel_rfl) (by kernel_rfl) (by kernel_rfl) (by kernel_rfl)) ?_
  intro W base args ds gs before hval0 hW hcnd hsz0 _
  have hsz : (DataW.weightsEach Try.prog (Try.f6.params.toList ++ Rows.wirePrefixesSpec.plain.varTypes Try.prog) (ds ++ gs)).all (· ≤ reachBytes) = true := hsz0
  have hval : ∀ (j : Nat) t v, Try.f6.params[j]? = some t → args[j]? = some v → Value.okWide Try.prog W .any base t v := hval0
  have hW' := hW
  obtain ⟨p, q, hA0, hV, rfl, hfz, hnd⟩ := hW
  have hA : DataW.TrodAll enc Try.prog W 0 (fun _ => true) true Try.f6.params.toList args.toList ds p := hA0
  rw [Try.params6] at hA hval hsz
  obtain ⟨v0, vs0, d0, ds0, p0, q0, hargs, rfl, rfl, h0, r0⟩ := trodAll_cons hA
  obtain ⟨v1, vs1, d1, ds1, p1, q1, rfl, rfl, rfl, h1, r1⟩ := trodAll_cons r0
  obtain ⟨rfl, rfl, rfl⟩ := trodAll_nil r1
  obtain rfl : args = #[v0, v1] := by cases args; simp_all
  obtain ⟨rfl, rfl⟩ := trodVars_none hV
  have k0 := h0
  have lt0 : ∀ x ∈ p0, x.block < W.heap.size := by obtain ⟨m, hm⟩ := k0; exact DataW.trod_lt m _ _ _ hm
  obtain ⟨c0, c1, c2, c3, y0, y1, y2, y3, m, rfl, hd0, hp0, t0, t1, t2, t3⟩ := open_agg4 Try.underlying25 (by kernel_rfl) cells25 (hval 0 25 v0 rfl rfl) h0
  obtain ⟨a0, e0, e0', wf0⟩ := DataW.trod_int Try.underlying22 t0
  obtain ⟨a1, e1, e1', wf1⟩ := DataW.trod_int Try.underlying3 t1
  obtain ⟨a2, e2, e2', wf2⟩ := DataW.trod_string Try.underlying9 t2
  simp only [List.cons.injEq, and_true] at e0 e1 e2
  subst e0 e1 e2
  have g : (DataW.weightsEach Try.prog [22, 3, 9, 23] [y0.1, y1.1, y2.1, y3.1]).all (· ≤ reachBytes) = true := by
    have h := hsz
    rw [hd0] at h
    exact (weights_agg Try.underlying25 h).1
  have s2 : a2.size ≤ 140737488351232 := string_le (j := 2) g rfl (by rw [e2']; rfl)
  obtain ⟨A, c, l, e3, hr, hc, hw⟩ := ints_of Try.underlying23 Try.underlying3 (by kernel_rfl) t3
  subst e3
  have s3 : l.length * 8 ≤ 140737488351232 := sized_ints (j := 3) g rfl rfl Try.underlying23 Try.underlying3 (by kernel_rfl) (by kernel_rfl) ⟨_, by simpa [Value.cells] using t3⟩
  obtain ⟨ax, rfl, rfl, rfl, wx⟩ := open_int Try.underlying41 (hval 1 41 v1 rfl rfl) h1
  clear hA0 hval0 hsz0 hsz
  refine (walk a0 a1 a2 A c l ax W wx wf0 wf1 s2 hr hc s3 hw).mono fun e W' ⟨he, bel⟩ => ?_
  subst he
  exact ⟨_, rfl, _, _, _, [], _, [], hW', trodAll_mk1 (shut_bool Try.underlying4 _), (trodAll_cons_mk (Below.trod laidOut (by kernel_rfl) (of_decide_eq_true (by kernel_rfl)) k0 bel lt0) (trodAll_cons_mk (shut_int Try.underlying41 wx) trodAll_mk0)), rfl, bel.frame _, fun h => by cases h⟩
theorem over : Rows.wirePrefixesRow.holds Try.pinned (OpenSpec.ofChange Rows.wirePrefixesSpec) :=
  OpenClaim.holds_of_wide 6 Try.f6 rfl rfl rfl rfl rfl rfl rfl ⟨rfl, rfl, rfl, rfl, rfl⟩ rfl rfl rfl rfl rfl (by kernel_rfl) Try.func6 (by kernel_rfl)
    (of_decide_eq_true (by kernel_rfl)) (by unfold Func.isWrapper; first | (rw [if_pos (by decide +kernel)]; kernel_rfl) | (rw [if_neg (by decide +kernel)]; exact ⟨rfl, rfl⟩))
    (fun os started H enc _ => lifted os started H enc)
theorem proved : Rows.WirePrefixesSaid := over
#print axioms proved
end Go.Proofs.Ytnjelebhicheeaa.wirePrefixes
namespace Go.Proofs.Ytnjelebhicheeaa
/-- The row, under a short name, for the claim. -/
theorem wirePrefixes_holds : Rows.WirePrefixesSaid := wirePrefixes.proved
end Go.Proofs.Ytnjelebhicheeaa

/- WireNone: readers that are nil or were not made: the walk of the law by hand, over 'step' and the readers' contracts. -/
import Derived.Test.YtnjelebhicheeaaWireNil
import Derived.Test.YtnjelebhicheeaaWireEx
namespace Go.Proofs.Ytnjelebhicheeaa.WireNone
open Go.RowKit Go.Proofs.YtnjelebhicheeaaW.PrintWords Go.Proofs.YtnjelebhicheeaaW.PrintLast Go.Proofs.YtnjelebhicheeaaW.PrintMore Go.Proofs.Ytnjelebhicheeaa.Q Go.Proofs.Ytnjelebhicheeaa.Spec Go.Proofs.Ytnjelebhicheeaa.WireEnc Go.Proofs.Ytnjelebhicheeaa.WireDec Go.Proofs.Ytnjelebhicheeaa.WireMid Go.Proofs.Ytnjelebhicheeaa.RefRd Go.Proofs.Ytnjelebhicheeaa.WireStep Go.Proofs.Ytnjelebhicheeaa.WireTwo Go.Proofs.Ytnjelebhicheeaa.WireNil
set_option linter.unusedVariables false
set_option linter.unusedSimpArgs false

abbrev St := S49
/-- a reader that was not made stays as it is -/
theorem unmade (s : ByteArray) (p : Nat) (e : Int) (k0 k1 : Int) : stepS s p e false k0 k1 = (p, e) := by
  have hg : good false e = false := rfl
  have hu : rU s p e false = (0, p, e) := by unfold rU; rw [hg]; rfl
  have hc : rC s p e false k1 = (0, p, e) := by unfold rC; simp only [hu]; rw [hg]; rfl
  have ht : (rT s p e false k1).2 = (p, e) := by unfold rT; simp only [hc]; rw [hg]; rfl
  have hl : (rLs s p e false k1).2 = (p, e) := by unfold rLs; simp only [hc]; rw [hg]; rfl
  have hf : rF p e false k1 = (p, e) := by unfold rF; rw [hg]; rfl
  unfold stepS
  rw [hu, hc, ht, hl, hf]
  have hi : (rI s p e false).2 = (p, e) := by unfold rI; rw [hu]
  rw [hi]
  repeat' split
  all_goals rfl
def nos : ByteArray := ⟨#[]⟩
section
variable {w0 W : World} {g : Nat}
theorem errU (hI : IsS52 w0 W g nos ((0 : Nat) : Int) 0 false) (hB : Below w0.heap.size w0 W) :
    Calls Try.prog 26 #[.pointer (some ⟨g, 0, none⟩)] W fun ev W' => ev = .returned (.int .i64 14) ∧ IsS52 w0 W' g nos ((0 : Nat) : Int) 0 false ∧ Below w0.heap.size w0 W' :=
  (wire_Reader_Err.calls g nos ((0 : Nat) : Int) 0 false 14 nos ((0 : Nat) : Int) 0 false w0 W hI hB (by rw [err_eq]; rfl)).mono fun ev W' ⟨h1, h2, h3, _⟩ => ⟨h1, h2, h3⟩
theorem endU (hI : IsS52 w0 W g nos ((0 : Nat) : Int) 0 false) (hB : Below w0.heap.size w0 W) :
    Calls Try.prog 24 #[.pointer (some ⟨g, 0, none⟩)] W fun ev W' => ev = .returned (.int .i64 14) ∧ IsS52 w0 W' g nos ((0 : Nat) : Int) 0 false ∧ Below w0.heap.size w0 W' :=
  (wire_Reader_End.calls g nos ((0 : Nat) : Int) 0 false 14 nos ((0 : Nat) : Int) 0 false w0 W hI hB (by rw [end_eq]; rfl)).mono fun ev W' ⟨h1, h2, h3, _⟩ => ⟨h1, h2, h3⟩
theorem stepU {x : Nat} {k0 k1 : Int} (hT : Two w0 W g x nos 0 0 0 0 false) (hm : k1 ≤ 9223372036854775807) :
    Calls Try.prog 28 #[.pointer (some ⟨g, 0, none⟩), .pointer (some ⟨x, 0, none⟩), .agg #[.int .i64 k0, .int .i64 k1]] W fun ev W' => ev = .returned (.bool true) ∧ IsS52 w0 W' g nos ((0 : Nat) : Int) 0 false ∧ Below w0.heap.size w0 W' := by
  have h := step_calls w0 W g x nos 0 0 false k0 k1 hT (by show (0 : Nat) ≤ _; omega) (by show (0 : Nat) ≤ _; omega) hm
  rw [unmade] at h
  exact h.mono fun ev W' ⟨h1, h2⟩ => ⟨h1, h2.a, h2.below⟩
end
theorem stepV {w0 W : World} {g : Nat} {k0 k1 : Int} (hI : IsS52 w0 W g nos ((0 : Nat) : Int) 0 false) (hB : Below w0.heap.size w0 W) (hm : k1 ≤ 9223372036854775807) :
    Calls Try.prog 28 #[.pointer (some ⟨g, 0, none⟩), .pointer (some ⟨W.heap.size, 0, none⟩), .agg #[.int .i64 k0, .int .i64 k1]] (W.alloc (.cells #[.string (⟨#[]⟩ : ByteArray), .int .i64 0, .int .i64 0, .bool false] 54)) fun ev W' => ev = .returned (.bool true) ∧ IsS52 w0 W' g nos ((0 : Nat) : Int) 0 false ∧ Below w0.heap.size w0 W' :=
  stepU ⟨hI.alloc _, IsS54.new w0 W nos ((0 : Nat) : Int) 0 false hB, below_alloc hB _⟩ hm
theorem wrap1 (i : Nat) (h : i ≤ 4611686018427387904) : wrap64 ((i : Int) + 1) = ((i + 1 : Nat) : Int) := by rw [wrap_id _ (by omega) (by omega)]; omega

set_option maxHeartbeats 1000000 in
theorem nones (A : Option Addr) (c : Nat) (l : List St) (w : World) (hr : Kd.C k49 w A l.length l) (hl : l.length ≤ 8796093022208) (hw : ∀ y ∈ l, y.f1 ≤ 9223372036854775807) :
    Calls Try.prog 8 #[.slice A l.length c] w fun ev w' => ev = .returned (.bool true) ∧ Below w.heap.size w w' := by
  have HR := Aside0.mk hr
  have HL := Aside0.mk hl
  have HW := Aside0.mk hw
  have HX := Aside0.mk (WireEx.example_ok 21 (Nat.le_refl _))
  have hu1 := Try.underlying52
  have hu2 := Try.underlying54
  clear hr hl hw
  go_enter Try.func8, Try.ntmps8
  go_wp2_with (first
    | ((with_reducible refine gate_dst (N := 6) rfl ?_); refine box_event ?hg (N := 6) ?hd (cs := #[.string nos, .int .i64 0, .int .i64 0, .bool false]) (t := 52) ?hr ?_; (case hd => rfl); (case hg => rfl); (case hr => first | (go_simp; done) | (go_simp; rfl)); intro g hg w1 hbox hb; have HI : Aside0 (IsS52 w w1 g nos ((0 : Nat) : Int) 0 false) := ⟨⟨hbox, by rw [hg]; exact Nat.le_refl _⟩⟩; have HB := Aside0.mk hb; clear hg hbox hb))
  go_loopg [4] l.length (fun kq v4 w' => ∃ (i : Nat), v4 = .int .i64 (i : Int) ∧ Aside0 (kq + i = l.length) ∧ Aside0 (IsS52 w w' g nos ((0 : Nat) : Int) 0 false) ∧ Aside0 (Below w.heap.size w w'))
  case atStart => exact ⟨0, rfl, ⟨by omega⟩, HI, HB⟩
  case round =>
    clear HI HB
    obtain ⟨i, rfl, HN, HI, HB⟩ := hrel
    by_cases hi : i < l.length
    · have t1 : decide ((i : Int) < (l.length : Int)) = true := decide_eq_true (by omega)
      have t2 : decide (i < l.length) = true := decide_eq_true hi
      obtain ⟨ad, ea, hx0, hx1⟩ := at_T49 HR.out (i : Int) (by omega) (by omega)
      have HRD : Aside0 ((rd_T49 l (i : Int)).f1 ≤ 9223372036854775807) := ⟨HW.out _ (by
        unfold rd_T49
        rw [Int.toNat_natCast, List.getD_eq_getElem?_getD, List.getElem?_eq_getElem hi, Option.getD_some]
        exact List.getElem_mem _)⟩
      generalize rd_T49 l (i : Int) = y at hx0 hx1 HRD
      cases ea
      simp only [Int.toNat_natCast] at hx0 hx1
      have HC0 := Aside0.mk hx0
      have HC1 := Aside0.mk hx1
      clear hx0 hx1
      have hz0 := (HB.out.cell (World.block_lt_of_cell? w _ HC0.out)).trans HC0.out
      have hz1 := (HB.out.cell (World.block_lt_of_cell? w _ HC1.out)).trans HC1.out
      have p1 : ((i : Int) < (l.length : Int)) = True := eq_true (by omega)
      have p2 : (i < l.length) = True := eq_true hi
      have HH := Aside0.mk hi
      clear hi
      go_wp2_with (first
        | (go_at_call 28; (with_reducible refine (step_nil _ y.f0 y.f1).mono ?_); rintro ev w3 ⟨rfl, hb⟩; have n0_ := Aside0.mk (HI.out.below hb); have n1_ := Aside0.mk (below_step HB.out hb); clear HI HB hb hz0 hz1; have HI := n0_; have HB := n1_; clear n0_ n1_; have hz0 := fun o => ((below_alloc HB.out o).cell (World.block_lt_of_cell? w _ HC0.out)).trans HC0.out; have hz1 := fun o => ((below_alloc HB.out o).cell (World.block_lt_of_cell? w _ HC1.out)).trans HC1.out)
        | (go_at_call 28; (with_reducible refine (stepV HI.out HB.out HRD.out).mono ?_); rintro ev w5 ⟨rfl, hi, hb⟩; clear HI HB hz0 hz1; have HI := Aside0.mk hi; have HB := Aside0.mk hb; clear hi hb))
      go_roundg (gk - 1)
      case measure => have := HN.out; have := HH.out; omega
      case rel => exact ⟨i + 1, by first | (rw [wrap1 i (by have := HH.out; have := HL.out; omega)]) | rfl | go_num, ⟨by have := HN.out; have := HH.out; omega⟩, HI, HB⟩
    · have t1 : decide ((i : Int) < (l.length : Int)) = false := decide_eq_false (by omega)
      have t2 : decide (i < l.length) = false := decide_eq_false hi
      clear hi
      go_wp2_with (first
        | (go_at_call 26; refine (errU HI.out HB.out).mono ?_; rintro ev w3 ⟨rfl, hi, hb⟩; clear HI HB; have HI := Aside0.mk hi; have HB := Aside0.mk hb; clear hi hb)
        | (go_at_call 24; refine (endU HI.out HB.out).mono ?_; rintro ev w3 ⟨rfl, hi, hb⟩; clear HI HB; have HI := Aside0.mk hi; have HB := Aside0.mk hb; clear hi hb)
        | (go_at_call 17; refine (imageeditorlaw04_example.calls 21 true _ HX.out).mono ?_; rintro ev w5 ⟨rfl, hb⟩; have HB5 := Aside0.mk (below_step HB.out hb); clear hb))
      go_ret
      exact ⟨rfl, HB5.out⟩

end Go.Proofs.Ytnjelebhicheeaa.WireNone

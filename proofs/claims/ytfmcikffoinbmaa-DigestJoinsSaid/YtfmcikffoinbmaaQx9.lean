-- WRITTEN BY A PROGRAM of this session: a widened scratch copy of the kit's print (patch_print.py). Nothing here is trusted: Lean checks it.
import Derived.Test.YtfmcikffoinbmaaQx0
import Derived.Test.YtfmcikffoinbmaaQx3
import Derived.Test.YtfmcikffoinbmaaQx5
namespace Go.Proofs.Ytfmcikffoinbmaa.Q
open Go.RowKit Go.Proofs.YtfmcikffoinbmaaW.PrintWords Go.Proofs.YtfmcikffoinbmaaW.PrintLast Go.Proofs.YtfmcikffoinbmaaW.PrintMore
attribute [local go_sem] max2_int min2_int max_two min_two max_three min_three max_four min_four   -- for this text's walks alone
set_option linter.unusedVariables false
set_option linter.unusedSimpArgs false

/-! ### imageeditorlaw05_DigestJoins: function 9 -/
mutual
def imageeditorlaw05_DigestJoins.j0 : Nat → ByteArray → ByteArray → Int → Bool → Option (Bool)
  | 0, _, _, _, _ => none
  | k + 1, x0, x1, x2, x26 => if x26 = true then ((imageeditorlaw05_awake.f k).bind fun t240 => (some t240)) else ((digest_Adler.f k x0).bind fun t241 => ((digest_Adler.f k x1).bind fun t242 => (if x0.size + x1.size ≤ 9223372036854775807 then ((digest_Adler.f k (x0 ++ x1)).bind fun t243 => (if (Int.tmod (IntKind.u64.wrap (t241)) 65536) ≥ 65521 then (imageeditorlaw05_DigestJoins.j1 k x0 x1 x2 (IntKind.u64.wrap (t242)) (IntKind.u64.wrap (t243)) (Int.tmod (IntKind.u64.wrap (t241)) 65536) (IntKind.u64.wrap (Int.tdiv (IntKind.u64.wrap (t241)) 65536)) (Int.tmod (IntKind.u64.wrap (t242)) 65536) true) else (if (IntKind.u64.wrap (Int.tdiv (IntKind.u64.wrap (t241)) 65536)) ≥ 65521 then (imageeditorlaw05_DigestJoins.j1 k x0 x1 x2 (IntKind.u64.wrap (t242)) (IntKind.u64.wrap (t243)) (Int.tmod (IntKind.u64.wrap (t241)) 65536) (IntKind.u64.wrap (Int.tdiv (IntKind.u64.wrap (t241)) 65536)) (Int.tmod (IntKind.u64.wrap (t242)) 65536) true) else (if (Int.tmod (IntKind.u64.wrap (t242)) 65536) ≥ 65521 then (imageeditorlaw05_DigestJoins.j1 k x0 x1 x2 (IntKind.u64.wrap (t242)) (IntKind.u64.wrap (t243)) (Int.tmod (IntKind.u64.wrap (t241)) 65536) (IntKind.u64.wrap (Int.tdiv (IntKind.u64.wrap (t241)) 65536)) (Int.tmod (IntKind.u64.wrap (t242)) 65536) true) else (imageeditorlaw05_DigestJoins.j1 k x0 x1 x2 (IntKind.u64.wrap (t242)) (IntKind.u64.wrap (t243)) (Int.tmod (IntKind.u64.wrap (t241)) 65536) (IntKind.u64.wrap (Int.tdiv (IntKind.u64.wrap (t241)) 65536)) (Int.tmod (IntKind.u64.wrap (t242)) 65536) (decide ((IntKind.u64.wrap (Int.tdiv (IntKind.u64.wrap (t242)) 65536)) ≥ 65521))))))) else (none))))
def imageeditorlaw05_DigestJoins.j1 : Nat → ByteArray → ByteArray → Int → Int → Int → Int → Int → Int → Bool → Option (Bool)
  | 0, _, _, _, _, _, _, _, _, _ => none
  | k + 1, x0, x1, x2, x8, x9, x10, x11, x12, x59 => if x59 = true then (some false) else (if x9 = (IntKind.u64.wrap ((IntKind.u64.wrap ((Int.tmod (IntKind.u64.wrap ((IntKind.u64.wrap (x11 + (IntKind.u64.wrap (Int.tdiv x8 65536)))) + (IntKind.u64.wrap ((Int.tmod (IntKind.u64.wrap ((x1.size : Int))) 65521) * (IntKind.u64.wrap (x10 + 65520)))))) 65521) * 65536)) + (Int.tmod (IntKind.u64.wrap ((IntKind.u64.wrap (x10 + x12)) + 65520)) 65521))) then ((some (([x2] : List Int) : List Int)).bind fun y244 => (if x0.size + (strOfNums y244).size ≤ 9223372036854775807 then ((digest_Fnv.f k (x0 ++ (strOfNums y244))).bind fun t247 => ((digest_Fnv.f k x0).bind fun t248 => (some (t247 == (IntKind.u64.wrap ((Go.bits .xor .u64 t248 (IntKind.u64.wrap (x2))) * 1099511628211)))))) else (none))) else (some false))
end
def imageeditorlaw05_DigestJoins.f (k : Nat) (a0 : ByteArray) (a1 : ByteArray) (a2 : Int) : Option (Bool) := (imageeditorlaw05_awake.f k).bind fun t239 => (if t239 = true then (if (a0.size : Int) > 100000 then (imageeditorlaw05_DigestJoins.j0 k a0 a1 a2 true) else (imageeditorlaw05_DigestJoins.j0 k a0 a1 a2 (decide ((a1.size : Int) > 100000)))) else (imageeditorlaw05_DigestJoins.j0 k a0 a1 a2 true))
theorem imageeditorlaw05_DigestJoins.mono_l : ∀ k, (∀ y0 y1 y2 y3, LeO (imageeditorlaw05_DigestJoins.j0 k y0 y1 y2 y3) (imageeditorlaw05_DigestJoins.j0 (k + 1) y0 y1 y2 y3)) ∧ (∀ y0 y1 y2 y3 y4 y5 y6 y7 y8, LeO (imageeditorlaw05_DigestJoins.j1 k y0 y1 y2 y3 y4 y5 y6 y7 y8) (imageeditorlaw05_DigestJoins.j1 (k + 1) y0 y1 y2 y3 y4 y5 y6 y7 y8))
  | 0 => ⟨fun _ _ _ _ r h => by simp [imageeditorlaw05_DigestJoins.j0] at h, fun _ _ _ _ _ _ _ _ _ r h => by simp [imageeditorlaw05_DigestJoins.j1] at h⟩
  | k + 1 => by
    obtain ⟨ih0, ih1⟩ := imageeditorlaw05_DigestJoins.mono_l k
    refine ⟨?_, ?_⟩
    · intro y0 y1 y2 y3
      unfold imageeditorlaw05_DigestJoins.j0
      repeat' first
      | (with_reducible exact ih0 _ _ _ _)
      | (with_reducible exact ih1 _ _ _ _ _ _ _ _ _)
      | (with_reducible exact digest_Adler.mono _ _)
      | (with_reducible exact digest_Fnv.mono _ _)
      | (with_reducible exact imageeditorlaw05_awake.mono _)
      | (with_reducible exact LeO.refl _)
      | (with_reducible exact LeO.none _)
      | (with_reducible refine LeO.ite ?_ ?_)
      | (with_reducible refine LeO.bind ?_ (fun _ => ?_))
      | exact ih0 _ _ _ _
      | exact ih1 _ _ _ _ _ _ _ _ _
      | exact digest_Adler.mono _ _
      | exact digest_Fnv.mono _ _
      | exact imageeditorlaw05_awake.mono _
      | exact LeO.none _
      | refine LeO.ite ?_ ?_
      | refine LeO.bind ?_ (fun _ => ?_)
    · intro y0 y1 y2 y3 y4 y5 y6 y7 y8
      unfold imageeditorlaw05_DigestJoins.j1
      repeat' first
      | (with_reducible exact ih0 _ _ _ _)
      | (with_reducible exact ih1 _ _ _ _ _ _ _ _ _)
      | (with_reducible exact digest_Adler.mono _ _)
      | (with_reducible exact digest_Fnv.mono _ _)
      | (with_reducible exact imageeditorlaw05_awake.mono _)
      | (with_reducible exact LeO.refl _)
      | (with_reducible exact LeO.none _)
      | (with_reducible refine LeO.ite ?_ ?_)
      | (with_reducible refine LeO.bind ?_ (fun _ => ?_))
      | exact ih0 _ _ _ _
      | exact ih1 _ _ _ _ _ _ _ _ _
      | exact digest_Adler.mono _ _
      | exact digest_Fnv.mono _ _
      | exact imageeditorlaw05_awake.mono _
      | exact LeO.none _
      | refine LeO.ite ?_ ?_
      | refine LeO.bind ?_ (fun _ => ?_)
theorem imageeditorlaw05_DigestJoins.mono : ∀ a0 a1 a2 k, LeO (imageeditorlaw05_DigestJoins.f k a0 a1 a2) (imageeditorlaw05_DigestJoins.f (k + 1) a0 a1 a2) := by
  intro a0 a1 a2 k
  obtain ⟨ih0, ih1⟩ := imageeditorlaw05_DigestJoins.mono_l k
  unfold imageeditorlaw05_DigestJoins.f
  repeat' first
      | (with_reducible exact ih0 _ _ _ _)
      | (with_reducible exact ih1 _ _ _ _ _ _ _ _ _)
      | (with_reducible exact digest_Adler.mono _ _)
      | (with_reducible exact digest_Fnv.mono _ _)
      | (with_reducible exact imageeditorlaw05_awake.mono _)
      | (with_reducible exact LeO.refl _)
      | (with_reducible exact LeO.none _)
      | (with_reducible refine LeO.ite ?_ ?_)
      | (with_reducible refine LeO.bind ?_ (fun _ => ?_))
      | exact ih0 _ _ _ _
      | exact ih1 _ _ _ _ _ _ _ _ _
      | exact digest_Adler.mono _ _
      | exact digest_Fnv.mono _ _
      | exact imageeditorlaw05_awake.mono _
      | exact LeO.none _
      | refine LeO.ite ?_ ?_
      | refine LeO.bind ?_ (fun _ => ?_)
set_option maxHeartbeats 8000000 in
set_option maxRecDepth 100000 in
theorem imageeditorlaw05_DigestJoins.calls (k : Nat) (a0 : ByteArray) (a1 : ByteArray) (a2 : Int) (r : Bool) (w : World) (h : imageeditorlaw05_DigestJoins.f k a0 a1 a2 = some r) :
    Calls Try.prog 9 #[.string a0, .string a1, .int .u8 a2] w fun e w' => e = .returned (.bool r) ∧ Below w.heap.size w w' := by
  have HB := Aside0.mk (Below.refl w.heap.size w)
  have H : ((imageeditorlaw05_awake.f k).bind fun t239 => (if t239 = true then (if (a0.size : Int) > 100000 then (imageeditorlaw05_DigestJoins.j0 k a0 a1 a2 true) else (imageeditorlaw05_DigestJoins.j0 k a0 a1 a2 (decide ((a1.size : Int) > 100000)))) else (imageeditorlaw05_DigestJoins.j0 k a0 a1 a2 true))) = some r := h
  clear h
  have HC4 := Aside0.mk H
  clear H
  go_enter Try.func9, Try.ntmps9
  go_upto_region 1 with (fail)
  go_cut [26] (fun v26 wc => ∃ (kq : Nat) (x26_3 : Bool), v26 = .bool x26_3 ∧ Aside0 (imageeditorlaw05_DigestJoins.j0 kq a0 a1 a2 x26_3 = some r) ∧ Aside0 (kq ≤ k) ∧ Aside0 (Below w.heap.size w wc))
  case first =>
    have H := HC4.out
    clear HC4
    replace H := Option.bind_eq_some_iff.mp H
    obtain ⟨t239, A50, H⟩ := H
    replace H : (if t239 = true then (if (a0.size : Int) > 100000 then (imageeditorlaw05_DigestJoins.j0 k a0 a1 a2 true) else (imageeditorlaw05_DigestJoins.j0 k a0 a1 a2 (decide ((a1.size : Int) > 100000)))) else (imageeditorlaw05_DigestJoins.j0 k a0 a1 a2 true)) = some r := H
    have A5 := Aside0.mk A50
    clear A50
    by_cases c6 : t239 = true
    · subst c6
      have H1 : (if (a0.size : Int) > 100000 then (imageeditorlaw05_DigestJoins.j0 k a0 a1 a2 true) else (imageeditorlaw05_DigestJoins.j0 k a0 a1 a2 (decide ((a1.size : Int) > 100000)))) = some r := by rw [if_pos rfl] at H; exact H
      clear H
      have H := H1
      clear H1
      by_cases c7 : (a0.size : Int) > 100000
      · rw [if_pos c7] at H
        have c7b0 : decide (100000 < (a0.size : Int)) = true := decide_eq_true c7
        have c7b1 : decide (100000 < a0.size) = true := decide_eq_true (by omega)
        clear c7
        (first | rw [c7b0] | (simp only [i64_w, i32_w]; rw [c7b0]) | skip)
        have H' := Aside0.mk H
        clear H
        go_wp2_with (first | ((with_reducible refine gate_callee (f := 10) rfl ?_); refine goesL_ (some 15) rfl rfl Try.func10 (by kernel_rfl) rfl #[] rfl (by (try simp only [List.map_toArray, List.map_cons, List.map_nil]); first | done | rfl | (simp only [List.length_drop, List.length_take]; rfl)) ?_; (with_reducible refine (imageeditorlaw05_awake.calls k  true _ A5.out).mono ?_); rintro e w8 ⟨rfl, hb⟩; refine ⟨_, rfl, ?_⟩; have n0_ := Aside0.mk (below_step (by repeat (first | (with_reducible first | exact HB.out | apply below_alloc | apply pw_below_drewN | apply below_drew1) | exact HB.out)) hb); clear HB; have HB := n0_; clear n0_; (try clear hb); (try clear hb2); (try clear hk); (try clear hi)))
        go_meet
        case rel => exact ⟨_, (true), (by first | rfl | (simp; done) | (simp [*]; done)), H', ⟨by first | omega | exact Nat.le_refl _⟩, ⟨by repeat (first | (with_reducible first | exact HB.out | apply below_alloc | apply pw_below_drewN | apply below_drew1) | exact HB.out)⟩⟩
      · rw [if_neg c7] at H
        have c7b0 : decide (100000 < (a0.size : Int)) = false := decide_eq_false c7
        have c7b1 : decide (100000 < a0.size) = false := decide_eq_false (by omega)
        clear c7
        (first | rw [c7b0] | (simp only [i64_w, i32_w]; rw [c7b0]) | skip)
        have H' := Aside0.mk H
        clear H
        go_wp2_with (first | ((with_reducible refine gate_callee (f := 10) rfl ?_); refine goesL_ (some 15) rfl rfl Try.func10 (by kernel_rfl) rfl #[] rfl (by (try simp only [List.map_toArray, List.map_cons, List.map_nil]); first | done | rfl | (simp only [List.length_drop, List.length_take]; rfl)) ?_; (with_reducible refine (imageeditorlaw05_awake.calls k  true _ A5.out).mono ?_); rintro e w9 ⟨rfl, hb⟩; refine ⟨_, rfl, ?_⟩; have n0_ := Aside0.mk (below_step (by repeat (first | (with_reducible first | exact HB.out | apply below_alloc | apply pw_below_drewN | apply below_drew1) | exact HB.out)) hb); clear HB; have HB := n0_; clear n0_; (try clear hb); (try clear hb2); (try clear hk); (try clear hi)))
        go_meet
        case rel => exact ⟨_, (decide ((a1.size : Int) > 100000)), (by first | rfl | (simp; done) | (simp [*]; done)), H', ⟨by first | omega | exact Nat.le_refl _⟩, ⟨by repeat (first | (with_reducible first | exact HB.out | apply below_alloc | apply pw_below_drewN | apply below_drew1) | exact HB.out)⟩⟩
    · replace c6 := Bool.eq_false_iff.mpr c6
      subst c6
      have H1 : (imageeditorlaw05_DigestJoins.j0 k a0 a1 a2 true) = some r := by rw [if_neg (show ¬ (false = true) by decide)] at H; exact H
      clear H
      have H := H1
      clear H1
      have H' := Aside0.mk H
      clear H
      go_wp2_with (first | ((with_reducible refine gate_callee (f := 10) rfl ?_); refine goesL_ (some 15) rfl rfl Try.func10 (by kernel_rfl) rfl #[] rfl (by (try simp only [List.map_toArray, List.map_cons, List.map_nil]); first | done | rfl | (simp only [List.length_drop, List.length_take]; rfl)) ?_; (with_reducible refine (imageeditorlaw05_awake.calls k  false _ A5.out).mono ?_); rintro e w10 ⟨rfl, hb⟩; refine ⟨_, rfl, ?_⟩; have n0_ := Aside0.mk (below_step (by repeat (first | (with_reducible first | exact HB.out | apply below_alloc | apply pw_below_drewN | apply below_drew1) | exact HB.out)) hb); clear HB; have HB := n0_; clear n0_; (try clear hb); (try clear hb2); (try clear hk); (try clear hi)))
      go_meet
      case rel => exact ⟨_, (true), (by first | rfl | (simp; done) | (simp [*]; done)), H', ⟨by first | omega | exact Nat.le_refl _⟩, ⟨by repeat (first | (with_reducible first | exact HB.out | apply below_alloc | apply pw_below_drewN | apply below_drew1) | exact HB.out)⟩⟩
  case rest =>
    clear HC4
    try clear c1
    try clear p2
    try clear c6
    try clear c7
    try clear c7b0
    try clear c7b1
    try clear c9
    try clear c10
    obtain ⟨kq, x26_3, rfl, HA, HJ3, HB⟩ := hcut
    cases kq with
    | zero => exact absurd HA.out (by simp [imageeditorlaw05_DigestJoins.j0])
    | succ kj3 =>
      have H := HA.out
      clear HA
      simp only [imageeditorlaw05_DigestJoins.j0] at H
      by_cases c11 : x26_3 = true
      · subst c11
        have H1 : ((imageeditorlaw05_awake.f kj3).bind fun t240 => (some t240)) = some r := by rw [if_pos rfl] at H; exact H
        clear H
        have H := H1
        clear H1
        replace H := Option.bind_eq_some_iff.mp H
        obtain ⟨t240, A120, H⟩ := H
        replace H : (some t240) = some r := H
        have A12 := Aside0.mk A120
        clear A120
        obtain rfl := Option.some.inj H
        go_wp2_with (first | ((with_reducible refine gate_callee (f := 10) rfl ?_); refine goesL_ (some 27) rfl rfl Try.func10 (by kernel_rfl) rfl #[] rfl (by (try simp only [List.map_toArray, List.map_cons, List.map_nil]); first | done | rfl | (simp only [List.length_drop, List.length_take]; rfl)) ?_; (with_reducible refine (imageeditorlaw05_awake.calls kj3  t240 _ A12.out).mono ?_); rintro e w13 ⟨rfl, hb⟩; refine ⟨_, rfl, ?_⟩; have n0_ := Aside0.mk (below_step (by repeat (first | (with_reducible first | exact HB.out | apply below_alloc | apply pw_below_drewN | apply below_drew1) | exact HB.out)) hb); clear HB; have HB := n0_; clear n0_; (try clear hb); (try clear hb2); (try clear hk); (try clear hi)))
        go_ret
        exact ⟨by first | rfl | (simp [errW_none, errW_some] <;> rfl) | (simp [*, errW_none, errW_some] <;> rfl), by repeat (first | (with_reducible first | exact HB.out | apply below_alloc | apply pw_below_drewN | apply below_drew1) | exact HB.out)⟩
      · replace c11 := Bool.eq_false_iff.mpr c11
        subst c11
        have H1 : ((digest_Adler.f kj3 a0).bind fun t241 => ((digest_Adler.f kj3 a1).bind fun t242 => (if a0.size + a1.size ≤ 9223372036854775807 then ((digest_Adler.f kj3 (a0 ++ a1)).bind fun t243 => (if (Int.tmod (IntKind.u64.wrap (t241)) 65536) ≥ 65521 then (imageeditorlaw05_DigestJoins.j1 kj3 a0 a1 a2 (IntKind.u64.wrap (t242)) (IntKind.u64.wrap (t243)) (Int.tmod (IntKind.u64.wrap (t241)) 65536) (IntKind.u64.wrap (Int.tdiv (IntKind.u64.wrap (t241)) 65536)) (Int.tmod (IntKind.u64.wrap (t242)) 65536) true) else (if (IntKind.u64.wrap (Int.tdiv (IntKind.u64.wrap (t241)) 65536)) ≥ 65521 then (imageeditorlaw05_DigestJoins.j1 kj3 a0 a1 a2 (IntKind.u64.wrap (t242)) (IntKind.u64.wrap (t243)) (Int.tmod (IntKind.u64.wrap (t241)) 65536) (IntKind.u64.wrap (Int.tdiv (IntKind.u64.wrap (t241)) 65536)) (Int.tmod (IntKind.u64.wrap (t242)) 65536) true) else (if (Int.tmod (IntKind.u64.wrap (t242)) 65536) ≥ 65521 then (imageeditorlaw05_DigestJoins.j1 kj3 a0 a1 a2 (IntKind.u64.wrap (t242)) (IntKind.u64.wrap (t243)) (Int.tmod (IntKind.u64.wrap (t241)) 65536) (IntKind.u64.wrap (Int.tdiv (IntKind.u64.wrap (t241)) 65536)) (Int.tmod (IntKind.u64.wrap (t242)) 65536) true) else (imageeditorlaw05_DigestJoins.j1 kj3 a0 a1 a2 (IntKind.u64.wrap (t242)) (IntKind.u64.wrap (t243)) (Int.tmod (IntKind.u64.wrap (t241)) 65536) (IntKind.u64.wrap (Int.tdiv (IntKind.u64.wrap (t241)) 65536)) (Int.tmod (IntKind.u64.wrap (t242)) 65536) (decide ((IntKind.u64.wrap (Int.tdiv (IntKind.u64.wrap (t242)) 65536)) ≥ 65521))))))) else (none)))) = some r := by rw [if_neg (show ¬ (false = true) by decide)] at H; exact H
        clear H
        have H := H1
        clear H1
        replace H := Option.bind_eq_some_iff.mp H
        obtain ⟨t241, A140, H⟩ := H
        replace H : ((digest_Adler.f kj3 a1).bind fun t242 => (if a0.size + a1.size ≤ 9223372036854775807 then ((digest_Adler.f kj3 (a0 ++ a1)).bind fun t243 => (if (Int.tmod (IntKind.u64.wrap (t241)) 65536) ≥ 65521 then (imageeditorlaw05_DigestJoins.j1 kj3 a0 a1 a2 (IntKind.u64.wrap (t242)) (IntKind.u64.wrap (t243)) (Int.tmod (IntKind.u64.wrap (t241)) 65536) (IntKind.u64.wrap (Int.tdiv (IntKind.u64.wrap (t241)) 65536)) (Int.tmod (IntKind.u64.wrap (t242)) 65536) true) else (if (IntKind.u64.wrap (Int.tdiv (IntKind.u64.wrap (t241)) 65536)) ≥ 65521 then (imageeditorlaw05_DigestJoins.j1 kj3 a0 a1 a2 (IntKind.u64.wrap (t242)) (IntKind.u64.wrap (t243)) (Int.tmod (IntKind.u64.wrap (t241)) 65536) (IntKind.u64.wrap (Int.tdiv (IntKind.u64.wrap (t241)) 65536)) (Int.tmod (IntKind.u64.wrap (t242)) 65536) true) else (if (Int.tmod (IntKind.u64.wrap (t242)) 65536) ≥ 65521 then (imageeditorlaw05_DigestJoins.j1 kj3 a0 a1 a2 (IntKind.u64.wrap (t242)) (IntKind.u64.wrap (t243)) (Int.tmod (IntKind.u64.wrap (t241)) 65536) (IntKind.u64.wrap (Int.tdiv (IntKind.u64.wrap (t241)) 65536)) (Int.tmod (IntKind.u64.wrap (t242)) 65536) true) else (imageeditorlaw05_DigestJoins.j1 kj3 a0 a1 a2 (IntKind.u64.wrap (t242)) (IntKind.u64.wrap (t243)) (Int.tmod (IntKind.u64.wrap (t241)) 65536) (IntKind.u64.wrap (Int.tdiv (IntKind.u64.wrap (t241)) 65536)) (Int.tmod (IntKind.u64.wrap (t242)) 65536) (decide ((IntKind.u64.wrap (Int.tdiv (IntKind.u64.wrap (t242)) 65536)) ≥ 65521))))))) else (none))) = some r := H
        have A14 := Aside0.mk A140
        clear A140
        replace H := Option.bind_eq_some_iff.mp H
        obtain ⟨t242, A150, H⟩ := H
        replace H : (if a0.size + a1.size ≤ 9223372036854775807 then ((digest_Adler.f kj3 (a0 ++ a1)).bind fun t243 => (if (Int.tmod (IntKind.u64.wrap (t241)) 65536) ≥ 65521 then (imageeditorlaw05_DigestJoins.j1 kj3 a0 a1 a2 (IntKind.u64.wrap (t242)) (IntKind.u64.wrap (t243)) (Int.tmod (IntKind.u64.wrap (t241)) 65536) (IntKind.u64.wrap (Int.tdiv (IntKind.u64.wrap (t241)) 65536)) (Int.tmod (IntKind.u64.wrap (t242)) 65536) true) else (if (IntKind.u64.wrap (Int.tdiv (IntKind.u64.wrap (t241)) 65536)) ≥ 65521 then (imageeditorlaw05_DigestJoins.j1 kj3 a0 a1 a2 (IntKind.u64.wrap (t242)) (IntKind.u64.wrap (t243)) (Int.tmod (IntKind.u64.wrap (t241)) 65536) (IntKind.u64.wrap (Int.tdiv (IntKind.u64.wrap (t241)) 65536)) (Int.tmod (IntKind.u64.wrap (t242)) 65536) true) else (if (Int.tmod (IntKind.u64.wrap (t242)) 65536) ≥ 65521 then (imageeditorlaw05_DigestJoins.j1 kj3 a0 a1 a2 (IntKind.u64.wrap (t242)) (IntKind.u64.wrap (t243)) (Int.tmod (IntKind.u64.wrap (t241)) 65536) (IntKind.u64.wrap (Int.tdiv (IntKind.u64.wrap (t241)) 65536)) (Int.tmod (IntKind.u64.wrap (t242)) 65536) true) else (imageeditorlaw05_DigestJoins.j1 kj3 a0 a1 a2 (IntKind.u64.wrap (t242)) (IntKind.u64.wrap (t243)) (Int.tmod (IntKind.u64.wrap (t241)) 65536) (IntKind.u64.wrap (Int.tdiv (IntKind.u64.wrap (t241)) 65536)) (Int.tmod (IntKind.u64.wrap (t242)) 65536) (decide ((IntKind.u64.wrap (Int.tdiv (IntKind.u64.wrap (t242)) 65536)) ≥ 65521))))))) else (none)) = some r := H
        have A15 := Aside0.mk A150
        clear A150
        by_cases c16 : a0.size + a1.size ≤ 9223372036854775807
        · rw [if_pos c16] at H
          have c16b0 := eq_true c16
          have c16b1 : decide (a0.size + a1.size ≤ 9223372036854775807) = true := decide_eq_true c16
          try have c16b2 : (9223372036854775807 < a0.size + a1.size) = False := eq_false (Nat.not_lt.2 c16)
          clear c16
          replace H := Option.bind_eq_some_iff.mp H
          obtain ⟨t243, A170, H⟩ := H
          replace H : (if (Int.tmod (IntKind.u64.wrap (t241)) 65536) ≥ 65521 then (imageeditorlaw05_DigestJoins.j1 kj3 a0 a1 a2 (IntKind.u64.wrap (t242)) (IntKind.u64.wrap (t243)) (Int.tmod (IntKind.u64.wrap (t241)) 65536) (IntKind.u64.wrap (Int.tdiv (IntKind.u64.wrap (t241)) 65536)) (Int.tmod (IntKind.u64.wrap (t242)) 65536) true) else (if (IntKind.u64.wrap (Int.tdiv (IntKind.u64.wrap (t241)) 65536)) ≥ 65521 then (imageeditorlaw05_DigestJoins.j1 kj3 a0 a1 a2 (IntKind.u64.wrap (t242)) (IntKind.u64.wrap (t243)) (Int.tmod (IntKind.u64.wrap (t241)) 65536) (IntKind.u64.wrap (Int.tdiv (IntKind.u64.wrap (t241)) 65536)) (Int.tmod (IntKind.u64.wrap (t242)) 65536) true) else (if (Int.tmod (IntKind.u64.wrap (t242)) 65536) ≥ 65521 then (imageeditorlaw05_DigestJoins.j1 kj3 a0 a1 a2 (IntKind.u64.wrap (t242)) (IntKind.u64.wrap (t243)) (Int.tmod (IntKind.u64.wrap (t241)) 65536) (IntKind.u64.wrap (Int.tdiv (IntKind.u64.wrap (t241)) 65536)) (Int.tmod (IntKind.u64.wrap (t242)) 65536) true) else (imageeditorlaw05_DigestJoins.j1 kj3 a0 a1 a2 (IntKind.u64.wrap (t242)) (IntKind.u64.wrap (t243)) (Int.tmod (IntKind.u64.wrap (t241)) 65536) (IntKind.u64.wrap (Int.tdiv (IntKind.u64.wrap (t241)) 65536)) (Int.tmod (IntKind.u64.wrap (t242)) 65536) (decide ((IntKind.u64.wrap (Int.tdiv (IntKind.u64.wrap (t242)) 65536)) ≥ 65521)))))) = some r := H
          have A17 := Aside0.mk A170
          clear A170
          have HC18 := Aside0.mk H
          clear H
          go_upto_region 5 with (first | ((with_reducible refine gate_callee (f := 13) rfl ?_); refine goesL_ (some 29) rfl rfl Try.func13 (by kernel_rfl) rfl #[.string a0] rfl (by (try simp only [List.map_toArray, List.map_cons, List.map_nil]); first | done | rfl | (simp only [List.length_drop, List.length_take]; rfl)) ?_; (with_reducible refine (digest_Adler.calls kj3 a0 t241 _ A14.out).mono ?_); rintro e w' ⟨rfl, ⟨nd, rfl⟩⟩; refine ⟨_, rfl, ?_⟩) | ((with_reducible refine gate_callee (f := 13) rfl ?_); refine goesL_ (some 32) rfl rfl Try.func13 (by kernel_rfl) rfl #[.string a1] rfl (by (try simp only [List.map_toArray, List.map_cons, List.map_nil]); first | done | rfl | (simp only [List.length_drop, List.length_take]; rfl)) ?_; (with_reducible refine (digest_Adler.calls kj3 a1 t242 _ A15.out).mono ?_); rintro e w' ⟨rfl, ⟨nd, rfl⟩⟩; refine ⟨_, rfl, ?_⟩) | ((with_reducible refine gate_callee (f := 13) rfl ?_); refine goesL_ (some 37) rfl rfl Try.func13 (by kernel_rfl) rfl #[.string (a0 ++ a1)] rfl (by (try simp only [List.map_toArray, List.map_cons, List.map_nil]); first | done | rfl | (simp only [List.length_drop, List.length_take]; rfl)) ?_; (with_reducible refine (digest_Adler.calls kj3 (a0 ++ a1) t243 _ A17.out).mono ?_); rintro e w' ⟨rfl, ⟨nd, rfl⟩⟩; refine ⟨_, rfl, ?_⟩))
          (try simp only [Act.put, List.setIfInBounds_toArray, List.set_cons_zero, List.set_cons_succ])
          go_cut [59] (fun v59 wc => ∃ (kq : Nat) (x59_17 : Bool), v59 = .bool x59_17 ∧ Aside0 (imageeditorlaw05_DigestJoins.j1 kq a0 a1 a2 (IntKind.u64.wrap (t242)) (IntKind.u64.wrap (t243)) (Int.tmod (IntKind.u64.wrap (t241)) 65536) (IntKind.u64.wrap (Int.tdiv (IntKind.u64.wrap (t241)) 65536)) (Int.tmod (IntKind.u64.wrap (t242)) 65536) x59_17 = some r) ∧ Aside0 (kq ≤ kj3) ∧ Aside0 (Below w.heap.size w wc))
          case first =>
            have H := HC18.out
            clear HC18
            by_cases c19 : (Int.tmod (IntKind.u64.wrap (t241)) 65536) ≥ 65521
            · rw [if_pos c19] at H
              have c19b0 : decide (65521 ≤ (Int.tmod (IntKind.u64.wrap (t241)) 65536)) = true := decide_eq_true c19
              clear c19
              (first | rw [c19b0] | (simp only [i64_w, i32_w]; rw [c19b0]) | skip)
              have H' := Aside0.mk H
              clear H
              go_wp2
              go_meet
              case rel => exact ⟨_, (true), (by first | rfl | (simp; done) | (simp [*]; done)), H', ⟨by have := HJ3.out; first | omega | exact Nat.le_refl _⟩, ⟨by repeat (first | (with_reducible first | exact HB.out | apply below_alloc | apply pw_below_drewN | apply below_drew1) | exact HB.out)⟩⟩
            · rw [if_neg c19] at H
              have c19b0 : decide (65521 ≤ (Int.tmod (IntKind.u64.wrap (t241)) 65536)) = false := decide_eq_false c19
              clear c19
              (first | rw [c19b0] | (simp only [i64_w, i32_w]; rw [c19b0]) | skip)
              by_cases c20 : (IntKind.u64.wrap (Int.tdiv (IntKind.u64.wrap (t241)) 65536)) ≥ 65521
              · rw [if_pos c20] at H
                have c20b0 : decide (65521 ≤ (IntKind.u64.wrap (Int.tdiv (IntKind.u64.wrap (t241)) 65536))) = true := decide_eq_true c20
                clear c20
                have H' := Aside0.mk H
                clear H
                go_wp2
                go_meet
                case rel => exact ⟨_, (true), (by first | rfl | (simp; done) | (simp [*]; done)), H', ⟨by have := HJ3.out; first | omega | exact Nat.le_refl _⟩, ⟨by repeat (first | (with_reducible first | exact HB.out | apply below_alloc | apply pw_below_drewN | apply below_drew1) | exact HB.out)⟩⟩
              · rw [if_neg c20] at H
                have c20b0 : decide (65521 ≤ (IntKind.u64.wrap (Int.tdiv (IntKind.u64.wrap (t241)) 65536))) = false := decide_eq_false c20
                clear c20
                by_cases c21 : (Int.tmod (IntKind.u64.wrap (t242)) 65536) ≥ 65521
                · rw [if_pos c21] at H
                  have c21b0 : decide (65521 ≤ (Int.tmod (IntKind.u64.wrap (t242)) 65536)) = true := decide_eq_true c21
                  clear c21
                  have H' := Aside0.mk H
                  clear H
                  go_wp2
                  go_meet
                  case rel => exact ⟨_, (true), (by first | rfl | (simp; done) | (simp [*]; done)), H', ⟨by have := HJ3.out; first | omega | exact Nat.le_refl _⟩, ⟨by repeat (first | (with_reducible first | exact HB.out | apply below_alloc | apply pw_below_drewN | apply below_drew1) | exact HB.out)⟩⟩
                · rw [if_neg c21] at H
                  have c21b0 : decide (65521 ≤ (Int.tmod (IntKind.u64.wrap (t242)) 65536)) = false := decide_eq_false c21
                  clear c21
                  have H' := Aside0.mk H
                  clear H
                  go_wp2
                  go_meet
                  case rel => exact ⟨_, (decide ((IntKind.u64.wrap (Int.tdiv (IntKind.u64.wrap (t242)) 65536)) ≥ 65521)), (by first | rfl | (simp; done) | (simp [*]; done)), H', ⟨by have := HJ3.out; first | omega | exact Nat.le_refl _⟩, ⟨by repeat (first | (with_reducible first | exact HB.out | apply below_alloc | apply pw_below_drewN | apply below_drew1) | exact HB.out)⟩⟩
          case rest =>
            clear HC18
            try clear c1
            try clear c2
            try clear p2
            try clear c6
            try clear c7
            try clear c7b0
            try clear c7b1
            try clear c9
            try clear c10
            try clear c11
            try clear c13
            try clear c16
            try clear c16b0
            try clear c16b1
            try clear c16b2
            try clear c19
            try clear c19b0
            try clear c20
            try clear c20b0
            try clear c21
            try clear c21b0
            try clear p2
            obtain ⟨kq, x59_17, rfl, HA, HJ17, HB⟩ := hcut
            cases kq with
            | zero => exact absurd HA.out (by simp [imageeditorlaw05_DigestJoins.j1])
            | succ kj17 =>
              have H := HA.out
              clear HA
              simp only [imageeditorlaw05_DigestJoins.j1] at H
              by_cases c22 : x59_17 = true
              · subst c22
                have H1 : (some false) = some r := by rw [if_pos rfl] at H; exact H
                clear H
                have H := H1
                clear H1
                obtain rfl := Option.some.inj H
                go_wp2
                go_ret
                exact ⟨by first | rfl | (simp [errW_none, errW_some] <;> rfl) | (simp [*, errW_none, errW_some] <;> rfl), by repeat (first | (with_reducible first | exact HB.out | apply below_alloc | apply pw_below_drewN | apply below_drew1) | exact HB.out)⟩
              · replace c22 := Bool.eq_false_iff.mpr c22
                subst c22
                have H1 : (if (IntKind.u64.wrap (t243)) = (IntKind.u64.wrap ((IntKind.u64.wrap ((Int.tmod (IntKind.u64.wrap ((IntKind.u64.wrap ((IntKind.u64.wrap (Int.tdiv (IntKind.u64.wrap (t241)) 65536)) + (IntKind.u64.wrap (Int.tdiv (IntKind.u64.wrap (t242)) 65536)))) + (IntKind.u64.wrap ((Int.tmod (IntKind.u64.wrap ((a1.size : Int))) 65521) * (IntKind.u64.wrap ((Int.tmod (IntKind.u64.wrap (t241)) 65536) + 65520)))))) 65521) * 65536)) + (Int.tmod (IntKind.u64.wrap ((IntKind.u64.wrap ((Int.tmod (IntKind.u64.wrap (t241)) 65536) + (Int.tmod (IntKind.u64.wrap (t242)) 65536))) + 65520)) 65521))) then ((some (([a2] : List Int) : List Int)).bind fun y244 => (if a0.size + (strOfNums y244).size ≤ 9223372036854775807 then ((digest_Fnv.f kj17 (a0 ++ (strOfNums y244))).bind fun t247 => ((digest_Fnv.f kj17 a0).bind fun t248 => (some (t247 == (IntKind.u64.wrap ((Go.bits .xor .u64 t248 (IntKind.u64.wrap (a2))) * 1099511628211)))))) else (none))) else (some false)) = some r := by rw [if_neg (show ¬ (false = true) by decide)] at H; exact H
                clear H
                have H := H1
                clear H1
                by_cases c23 : (IntKind.u64.wrap (t243)) = (IntKind.u64.wrap ((IntKind.u64.wrap ((Int.tmod (IntKind.u64.wrap ((IntKind.u64.wrap ((IntKind.u64.wrap (Int.tdiv (IntKind.u64.wrap (t241)) 65536)) + (IntKind.u64.wrap (Int.tdiv (IntKind.u64.wrap (t242)) 65536)))) + (IntKind.u64.wrap ((Int.tmod (IntKind.u64.wrap ((a1.size : Int))) 65521) * (IntKind.u64.wrap ((Int.tmod (IntKind.u64.wrap (t241)) 65536) + 65520)))))) 65521) * 65536)) + (Int.tmod (IntKind.u64.wrap ((IntKind.u64.wrap ((Int.tmod (IntKind.u64.wrap (t241)) 65536) + (Int.tmod (IntKind.u64.wrap (t242)) 65536))) + 65520)) 65521)))
                · rw [if_pos c23] at H
                  have c23b0 : ((IntKind.u64.wrap (t243)) == (IntKind.u64.wrap ((IntKind.u64.wrap ((Int.tmod (IntKind.u64.wrap ((IntKind.u64.wrap ((IntKind.u64.wrap (Int.tdiv (IntKind.u64.wrap (t241)) 65536)) + (IntKind.u64.wrap (Int.tdiv (IntKind.u64.wrap (t242)) 65536)))) + (IntKind.u64.wrap ((Int.tmod (IntKind.u64.wrap ((a1.size : Int))) 65521) * (IntKind.u64.wrap ((Int.tmod (IntKind.u64.wrap (t241)) 65536) + 65520)))))) 65521) * 65536)) + (Int.tmod (IntKind.u64.wrap ((IntKind.u64.wrap ((Int.tmod (IntKind.u64.wrap (t241)) 65536) + (Int.tmod (IntKind.u64.wrap (t242)) 65536))) + 65520)) 65521)))) = true := beq_iff_eq.mpr c23
                  have c23b1 : ((IntKind.u64.wrap (t243)) != (IntKind.u64.wrap ((IntKind.u64.wrap ((Int.tmod (IntKind.u64.wrap ((IntKind.u64.wrap ((IntKind.u64.wrap (Int.tdiv (IntKind.u64.wrap (t241)) 65536)) + (IntKind.u64.wrap (Int.tdiv (IntKind.u64.wrap (t242)) 65536)))) + (IntKind.u64.wrap ((Int.tmod (IntKind.u64.wrap ((a1.size : Int))) 65521) * (IntKind.u64.wrap ((Int.tmod (IntKind.u64.wrap (t241)) 65536) + 65520)))))) 65521) * 65536)) + (Int.tmod (IntKind.u64.wrap ((IntKind.u64.wrap ((Int.tmod (IntKind.u64.wrap (t241)) 65536) + (Int.tmod (IntKind.u64.wrap (t242)) 65536))) + 65520)) 65521)))) = false := bne_eq_false_iff_eq.mpr c23
                  clear c23
                  obtain ⟨y244, hy244⟩ : ∃ y_ : List Int, y_ = (([a2] : List Int)) := ⟨_, rfl⟩
                  replace H : (if a0.size + (strOfNums y244).size ≤ 9223372036854775807 then ((digest_Fnv.f kj17 (a0 ++ (strOfNums y244))).bind fun t247 => ((digest_Fnv.f kj17 a0).bind fun t248 => (some (t247 == (IntKind.u64.wrap ((Go.bits .xor .u64 t248 (IntKind.u64.wrap (a2))) * 1099511628211)))))) else (none)) = some r := by first | (rw [hy244]; with_reducible exact H) | (have H2_ := (Option.bind_some _ _).symm.trans H; rw [hy244]; with_reducible exact H2_) | (have H2_ := (Option.bind_some _ _).symm.trans H; with_reducible exact H2_) | with_reducible exact H | (rw [hy244]; exact H) | exact H
                  have Ny244 := Aside0.mk hy244
                  clear hy244
                  by_cases c24 : a0.size + (strOfNums y244).size ≤ 9223372036854775807
                  · rw [if_pos c24] at H
                    have c24b0 := eq_true c24
                    have c24b1 : decide (a0.size + (strOfNums y244).size ≤ 9223372036854775807) = true := decide_eq_true c24
                    try have c24b2 : (9223372036854775807 < a0.size + (strOfNums y244).size) = False := eq_false (Nat.not_lt.2 c24)
                    clear c24
                    replace H := Option.bind_eq_some_iff.mp H
                    obtain ⟨t247, A250, H⟩ := H
                    replace H : ((digest_Fnv.f kj17 a0).bind fun t248 => (some (t247 == (IntKind.u64.wrap ((Go.bits .xor .u64 t248 (IntKind.u64.wrap (a2))) * 1099511628211))))) = some r := H
                    have A25 := Aside0.mk A250
                    clear A250
                    replace H := Option.bind_eq_some_iff.mp H
                    obtain ⟨t248, A260, H⟩ := H
                    replace H : (some (t247 == (IntKind.u64.wrap ((Go.bits .xor .u64 t248 (IntKind.u64.wrap (a2))) * 1099511628211)))) = some r := H
                    have A26 := Aside0.mk A260
                    clear A260
                    obtain rfl := Option.some.inj H
                    go_wp2_with (first | ((with_reducible refine gate_dst (N := 87) rfl ?_); (try (refine gate_guard (by rfl) ?_; dsimp only)); refine Kd.R_lit (Kd.int .u8) _ 5 ?hg (N := 87) ?hd (xs := ([a2] : List Int)) (inner := [.int .u8 a2]) (ok := fun _ => True) (okp := fun _ => True) ?hr ?hp (fun _ hk => hk) trivial (Below.refl _ _) (Nat.le_refl _) (by simp) ?_; (case hd => rfl); (case hg => rfl); (case hr => first | (go_simp; done) | (go_simp; rfl)); (case hp => exact (Reps.one (show Kd.M (Kd.int .u8) _ _ _ a2 [.int .u8 a2] from rfl) (Reps.none _ _))); intro v245 w27 ho28 hb hg_ hnew_; clear hg_ hnew_; (first | rw [← Ny244.out] at ho28 | (simp only [Int.reduceToNat] at ho28; rw [← Ny244.out] at ho28)); have n0_ := Aside0.mk (Kd.R_lower ho28 (below_size (by repeat (first | (with_reducible first | exact HB.out | apply below_alloc | apply pw_below_drewN | apply below_drew1) | exact HB.out)))); have n1_ := Aside0.mk (below_step (by repeat (first | (with_reducible first | exact HB.out | apply below_alloc | apply pw_below_drewN | apply below_drew1) | exact HB.out)) hb); clear HB; have HO246 := n0_; have HB := n1_; clear n0_ n1_; clear hb ho28; have hcv29 := own_string (P := Try.prog) Try.underlying35 Try.underlying5 Try.underlying9 (Kd.own_of_R HO246.out)) | (go_at_call 15; (with_reducible refine (digest_Fnv.calls kj17 (a0 ++ (strOfNums y244)) t247 _ A25.out).mono ?_); rintro e w' ⟨rfl, ⟨nd, rfl⟩⟩) | (go_at_call 15; (with_reducible refine (digest_Fnv.calls kj17 a0 t248 _ A26.out).mono ?_); rintro e w' ⟨rfl, ⟨nd, rfl⟩⟩))
                    go_ret
                    exact ⟨by first | rfl | (simp [errW_none, errW_some] <;> rfl) | (simp [*, errW_none, errW_some] <;> rfl), by repeat (first | (with_reducible first | exact HB.out | apply below_alloc | apply pw_below_drewN | apply below_drew1) | exact HB.out)⟩
                  · rw [if_neg c24] at H
                    exact absurd H (by simp)
                · rw [if_neg c23] at H
                  have c23b0 : ((IntKind.u64.wrap (t243)) == (IntKind.u64.wrap ((IntKind.u64.wrap ((Int.tmod (IntKind.u64.wrap ((IntKind.u64.wrap ((IntKind.u64.wrap (Int.tdiv (IntKind.u64.wrap (t241)) 65536)) + (IntKind.u64.wrap (Int.tdiv (IntKind.u64.wrap (t242)) 65536)))) + (IntKind.u64.wrap ((Int.tmod (IntKind.u64.wrap ((a1.size : Int))) 65521) * (IntKind.u64.wrap ((Int.tmod (IntKind.u64.wrap (t241)) 65536) + 65520)))))) 65521) * 65536)) + (Int.tmod (IntKind.u64.wrap ((IntKind.u64.wrap ((Int.tmod (IntKind.u64.wrap (t241)) 65536) + (Int.tmod (IntKind.u64.wrap (t242)) 65536))) + 65520)) 65521)))) = false := beq_eq_false_iff_ne.mpr c23
                  have c23b1 : ((IntKind.u64.wrap (t243)) != (IntKind.u64.wrap ((IntKind.u64.wrap ((Int.tmod (IntKind.u64.wrap ((IntKind.u64.wrap ((IntKind.u64.wrap (Int.tdiv (IntKind.u64.wrap (t241)) 65536)) + (IntKind.u64.wrap (Int.tdiv (IntKind.u64.wrap (t242)) 65536)))) + (IntKind.u64.wrap ((Int.tmod (IntKind.u64.wrap ((a1.size : Int))) 65521) * (IntKind.u64.wrap ((Int.tmod (IntKind.u64.wrap (t241)) 65536) + 65520)))))) 65521) * 65536)) + (Int.tmod (IntKind.u64.wrap ((IntKind.u64.wrap ((Int.tmod (IntKind.u64.wrap (t241)) 65536) + (Int.tmod (IntKind.u64.wrap (t242)) 65536))) + 65520)) 65521)))) = true := bne_iff_ne.mpr c23
                  obtain rfl := Option.some.inj H
                  go_wp2
                  go_ret
                  exact ⟨by first | rfl | (simp [errW_none, errW_some] <;> rfl) | (simp [*, errW_none, errW_some] <;> rfl), by repeat (first | (with_reducible first | exact HB.out | apply below_alloc | apply pw_below_drewN | apply below_drew1) | exact HB.out)⟩
        · rw [if_neg c16] at H
          exact absurd H (by simp)

/-- THE ONE PURE STATEMENT of imageeditorlaw05_DigestJoins: yours. -/
def imageeditorlaw05_DigestJoins.Pure : Prop := ∀ (a0 : ByteArray) (a1 : ByteArray) (a2 : Int), a0.size ≤ 140737488351232 → a1.size ≤ 140737488351232 → (Lit.int .u8 a2).wf = true → ∃ k, imageeditorlaw05_DigestJoins.f k a0 a1 a2 = some true
theorem imageeditorlaw05_DigestJoins.walk (P : imageeditorlaw05_DigestJoins.Pure) (a0 : ByteArray) (a1 : ByteArray) (a2 : Int) (w : World) (w0 : a0.size ≤ 140737488351232) (w1 : a1.size ≤ 140737488351232) (w2 : (Lit.int .u8 a2).wf = true) :
    Calls Try.prog 9 #[.string a0, .string a1, .int .u8 a2] w fun e w' => e = .returned (.bool true) ∧ Below w.heap.size w w' := by
  obtain ⟨k, h⟩ := P a0 a1 a2 w0 w1 w2
  refine (imageeditorlaw05_DigestJoins.calls k a0 a1 a2 true w h).mono ?_
  rintro e w' ⟨rfl, hd⟩
  exact ⟨rfl, hd⟩

end Go.Proofs.Ytfmcikffoinbmaa.Q

/- The readers' methods and one call of both readers ('step') where both readers are nil: walked by hand. -/
import Derived.Test.YtnjelebhicheeaaWireTwo
namespace Go.Proofs.Ytnjelebhicheeaa.WireNil
open Go.RowKit Go.Proofs.YtnjelebhicheeaaW.PrintWords Go.Proofs.YtnjelebhicheeaaW.PrintLast Go.Proofs.YtnjelebhicheeaaW.PrintMore Go.Proofs.Ytnjelebhicheeaa.Q Go.Proofs.Ytnjelebhicheeaa.Spec Go.Proofs.Ytnjelebhicheeaa.WireEnc Go.Proofs.Ytnjelebhicheeaa.WireDec Go.Proofs.Ytnjelebhicheeaa.WireMid Go.Proofs.Ytnjelebhicheeaa.RefRd Go.Proofs.Ytnjelebhicheeaa.WireStep Go.Proofs.Ytnjelebhicheeaa.WireTwo
attribute [local go_sem] max2_int min2_int max_two min_two max_three min_three max_four min_four
set_option linter.unusedVariables false
set_option linter.unusedSimpArgs false

theorem pGood (w : World) : Calls Try.prog 35 #[.pointer none] w fun ev w' => ev = .returned (.bool false) ∧ Below w.heap.size w w' := by
  have HB := Aside0.mk (Below.refl w.heap.size w)
  go_enter Try.func35, Try.ntmps35
  go_wp2
  go_ret
  exact ⟨rfl, by repeat (first | (with_reducible first | exact HB.out | apply below_alloc | apply pw_below_drewN | apply below_drew1) | exact HB.out)⟩
theorem pUint (w : World) : Calls Try.prog 23 #[.pointer none] w fun ev w' => ev = .returned (.int .u64 0) ∧ Below w.heap.size w w' := by
  have HB := Aside0.mk (Below.refl w.heap.size w)
  go_enter Try.func23, Try.ntmps23
  go_wp2_with (first | (go_at_call 35; refine (pGood _).mono ?_; rintro ev w1 ⟨rfl, hb⟩; have n0_ := Aside0.mk (below_step HB.out hb); clear HB hb; have HB := n0_; clear n0_))
  go_ret
  exact ⟨rfl, by repeat (first | (with_reducible first | exact HB.out | apply below_alloc | apply pw_below_drewN | apply below_drew1) | exact HB.out)⟩
theorem pInt (w : World) : Calls Try.prog 22 #[.pointer none] w fun ev w' => ev = .returned (.int .i64 0) ∧ Below w.heap.size w w' := by
  have HB := Aside0.mk (Below.refl w.heap.size w)
  go_enter Try.func22, Try.ntmps22
  go_wp2_with (first | (go_at_call 23; refine (pUint _).mono ?_; rintro ev w1 ⟨rfl, hb⟩; have n0_ := Aside0.mk (below_step HB.out hb); clear HB hb; have HB := n0_; clear n0_))
  go_ret
  exact ⟨rfl, by repeat (first | (with_reducible first | exact HB.out | apply below_alloc | apply pw_below_drewN | apply below_drew1) | exact HB.out)⟩
theorem pFail (w : World) (k1 : Int) : Calls Try.prog 41 #[.pointer none, .int .i64 k1] w fun ev w' => ev = .returned (.tuple #[]) ∧ Below w.heap.size w w' := by
  have HB := Aside0.mk (Below.refl w.heap.size w)
  go_enter Try.func41, Try.ntmps41
  go_wp2_with (first | (go_at_call 35; refine (pGood _).mono ?_; rintro ev w1 ⟨rfl, hb⟩; have n0_ := Aside0.mk (below_step HB.out hb); clear HB hb; have HB := n0_; clear n0_))
  first | go_end0 | ((try simp only [Exit.inBlock, Exit.then]); refine bodyPost_ret (results_none rfl _ _ _) rfl ?_)
  exact ⟨rfl, by repeat (first | (with_reducible first | exact HB.out | apply below_alloc | apply pw_below_drewN | apply below_drew1) | exact HB.out)⟩
theorem pCount (w : World) (k1 : Int) : Calls Try.prog 34 #[.pointer none, .int .i64 k1] w fun ev w' => ev = .returned (.int .i64 0) ∧ Below w.heap.size w w' := by
  have HB := Aside0.mk (Below.refl w.heap.size w)
  go_enter Try.func34, Try.ntmps34
  go_wp2_with (first | (go_at_call 23; refine (pUint _).mono ?_; rintro ev w1 ⟨rfl, hb⟩; have n0_ := Aside0.mk (below_step HB.out hb); clear HB hb; have HB := n0_; clear n0_) | (go_at_call 35; refine (pGood _).mono ?_; rintro ev w1 ⟨rfl, hb⟩; have n0_ := Aside0.mk (below_step HB.out hb); clear HB hb; have HB := n0_; clear n0_))
  go_ret
  exact ⟨rfl, by repeat (first | (with_reducible first | exact HB.out | apply below_alloc | apply pw_below_drewN | apply below_drew1) | exact HB.out)⟩
theorem pText (w : World) (k1 : Int) : Calls Try.prog 19 #[.pointer none, .int .i64 k1] w fun ev w' => ev = .returned (.string (⟨#[]⟩ : ByteArray)) ∧ Below w.heap.size w w' := by
  have HB := Aside0.mk (Below.refl w.heap.size w)
  go_enter Try.func19, Try.ntmps19
  go_wp2_with (first | (go_at_call 34; refine (pCount _ _).mono ?_; rintro ev w1 ⟨rfl, hb⟩; have n0_ := Aside0.mk (below_step HB.out hb); clear HB hb; have HB := n0_; clear n0_) | (go_at_call 35; refine (pGood _).mono ?_; rintro ev w1 ⟨rfl, hb⟩; have n0_ := Aside0.mk (below_step HB.out hb); clear HB hb; have HB := n0_; clear n0_))
  go_ret
  exact ⟨rfl, by repeat (first | (with_reducible first | exact HB.out | apply below_alloc | apply pw_below_drewN | apply below_drew1) | exact HB.out)⟩
theorem pLeft (w : World) : Calls Try.prog 25 #[.pointer none] w fun ev w' => ev = .returned (.int .i64 0) ∧ Below w.heap.size w w' := by
  have HB := Aside0.mk (Below.refl w.heap.size w)
  go_enter Try.func25, Try.ntmps25
  go_wp2_with (first | (go_at_call 35; refine (pGood _).mono ?_; rintro ev w1 ⟨rfl, hb⟩; have n0_ := Aside0.mk (below_step HB.out hb); clear HB hb; have HB := n0_; clear n0_))
  go_ret
  exact ⟨rfl, by repeat (first | (with_reducible first | exact HB.out | apply below_alloc | apply pw_below_drewN | apply below_drew1) | exact HB.out)⟩
theorem pErr (w : World) : Calls Try.prog 26 #[.pointer none] w fun ev w' => ev = .returned (.int .i64 14) ∧ Below w.heap.size w w' := by
  have HB := Aside0.mk (Below.refl w.heap.size w)
  go_enter Try.func26, Try.ntmps26
  go_wp2
  go_ret
  exact ⟨rfl, by repeat (first | (with_reducible first | exact HB.out | apply below_alloc | apply pw_below_drewN | apply below_drew1) | exact HB.out)⟩
theorem pEnd (w : World) : Calls Try.prog 24 #[.pointer none] w fun ev w' => ev = .returned (.int .i64 14) ∧ Below w.heap.size w w' := by
  have HB := Aside0.mk (Below.refl w.heap.size w)
  go_enter Try.func24, Try.ntmps24
  go_wp2_with (first | (go_at_call 26; refine (pErr _).mono ?_; rintro ev w1 ⟨rfl, hb⟩; have n0_ := Aside0.mk (below_step HB.out hb); clear HB hb; have HB := n0_; clear n0_))
  go_ret
  exact ⟨rfl, by repeat (first | (with_reducible first | exact HB.out | apply below_alloc | apply pw_below_drewN | apply below_drew1) | exact HB.out)⟩
theorem xGood (w : World) : Calls Try.prog 43 #[.pointer none] w fun ev w' => ev = .returned (.bool false) ∧ Below w.heap.size w w' := by
  have HB := Aside0.mk (Below.refl w.heap.size w)
  go_enter Try.func43, Try.ntmps43
  go_wp2
  go_ret
  exact ⟨rfl, by repeat (first | (with_reducible first | exact HB.out | apply below_alloc | apply pw_below_drewN | apply below_drew1) | exact HB.out)⟩
theorem xUint (w : World) : Calls Try.prog 36 #[.pointer none] w fun ev w' => ev = .returned (.int .u64 0) ∧ Below w.heap.size w w' := by
  have HB := Aside0.mk (Below.refl w.heap.size w)
  go_enter Try.func36, Try.ntmps36
  go_wp2_with (first | (go_at_call 43; refine (xGood _).mono ?_; rintro ev w1 ⟨rfl, hb⟩; have n0_ := Aside0.mk (below_step HB.out hb); clear HB hb; have HB := n0_; clear n0_))
  go_ret
  exact ⟨rfl, by repeat (first | (with_reducible first | exact HB.out | apply below_alloc | apply pw_below_drewN | apply below_drew1) | exact HB.out)⟩
theorem xInt (w : World) : Calls Try.prog 37 #[.pointer none] w fun ev w' => ev = .returned (.int .i64 0) ∧ Below w.heap.size w w' := by
  have HB := Aside0.mk (Below.refl w.heap.size w)
  go_enter Try.func37, Try.ntmps37
  go_wp2_with (first | (go_at_call 36; refine (xUint _).mono ?_; rintro ev w1 ⟨rfl, hb⟩; have n0_ := Aside0.mk (below_step HB.out hb); clear HB hb; have HB := n0_; clear n0_))
  go_ret
  exact ⟨rfl, by repeat (first | (with_reducible first | exact HB.out | apply below_alloc | apply pw_below_drewN | apply below_drew1) | exact HB.out)⟩
theorem xFail (w : World) (k1 : Int) : Calls Try.prog 42 #[.pointer none, .int .i64 k1] w fun ev w' => ev = .returned (.tuple #[]) ∧ Below w.heap.size w w' := by
  have HB := Aside0.mk (Below.refl w.heap.size w)
  go_enter Try.func42, Try.ntmps42
  go_wp2_with (first | (go_at_call 43; refine (xGood _).mono ?_; rintro ev w1 ⟨rfl, hb⟩; have n0_ := Aside0.mk (below_step HB.out hb); clear HB hb; have HB := n0_; clear n0_))
  first | go_end0 | ((try simp only [Exit.inBlock, Exit.then]); refine bodyPost_ret (results_none rfl _ _ _) rfl ?_)
  exact ⟨rfl, by repeat (first | (with_reducible first | exact HB.out | apply below_alloc | apply pw_below_drewN | apply below_drew1) | exact HB.out)⟩
theorem xCount (w : World) (k1 : Int) : Calls Try.prog 39 #[.pointer none, .int .i64 k1] w fun ev w' => ev = .returned (.int .i64 0) ∧ Below w.heap.size w w' := by
  have HB := Aside0.mk (Below.refl w.heap.size w)
  have hm : (if k1 < 0 then 0 else k1) = mx k1 0 := rfl
  obtain ⟨j, hj⟩ : ∃ j : Int, mx k1 0 = j := ⟨_, rfl⟩
  have h0 : 0 ≤ IntKind.u64.wrap j := by rw [wrap_u64]; omega
  rw [hj] at hm
  have d0 : decide (IntKind.u64.wrap j < 0) = false := decide_eq_false (by omega)
  clear h0 hj
  go_enter Try.func39, Try.ntmps39
  go_wp2_with (first | (go_at_call 36; refine (xUint _).mono ?_; rintro ev w1 ⟨rfl, hb⟩; have n0_ := Aside0.mk (below_step HB.out hb); clear HB hb; have HB := n0_; clear n0_) | (go_at_call 43; refine (xGood _).mono ?_; rintro ev w1 ⟨rfl, hb⟩; have n0_ := Aside0.mk (below_step HB.out hb); clear HB hb; have HB := n0_; clear n0_))
  go_ret
  exact ⟨rfl, by repeat (first | (with_reducible first | exact HB.out | apply below_alloc | apply pw_below_drewN | apply below_drew1) | exact HB.out)⟩
theorem xText (w : World) (k1 : Int) : Calls Try.prog 38 #[.pointer none, .int .i64 k1] w fun ev w' => ev = .returned (.string (⟨#[]⟩ : ByteArray)) ∧ Below w.heap.size w w' := by
  have HB := Aside0.mk (Below.refl w.heap.size w)
  go_enter Try.func38, Try.ntmps38
  go_wp2_with (first | (go_at_call 39; refine (xCount _ _).mono ?_; rintro ev w1 ⟨rfl, hb⟩; have n0_ := Aside0.mk (below_step HB.out hb); clear HB hb; have HB := n0_; clear n0_) | (go_at_call 43; refine (xGood _).mono ?_; rintro ev w1 ⟨rfl, hb⟩; have n0_ := Aside0.mk (below_step HB.out hb); clear HB hb; have HB := n0_; clear n0_))
  go_ret
  exact ⟨rfl, by repeat (first | (with_reducible first | exact HB.out | apply below_alloc | apply pw_below_drewN | apply below_drew1) | exact HB.out)⟩
theorem xLeft (w : World) : Calls Try.prog 29 #[.pointer none] w fun ev w' => ev = .returned (.int .i64 0) ∧ Below w.heap.size w w' := by
  have HB := Aside0.mk (Below.refl w.heap.size w)
  go_enter Try.func29, Try.ntmps29
  go_wp2_with (first | (go_at_call 43; refine (xGood _).mono ?_; rintro ev w1 ⟨rfl, hb⟩; have n0_ := Aside0.mk (below_step HB.out hb); clear HB hb; have HB := n0_; clear n0_))
  go_ret
  exact ⟨rfl, by repeat (first | (with_reducible first | exact HB.out | apply below_alloc | apply pw_below_drewN | apply below_drew1) | exact HB.out)⟩
theorem xErr (w : World) : Calls Try.prog 30 #[.pointer none] w fun ev w' => ev = .returned (.int .i64 14) ∧ Below w.heap.size w w' := by
  have HB := Aside0.mk (Below.refl w.heap.size w)
  go_enter Try.func30, Try.ntmps30
  go_wp2
  go_ret
  exact ⟨rfl, by repeat (first | (with_reducible first | exact HB.out | apply below_alloc | apply pw_below_drewN | apply below_drew1) | exact HB.out)⟩
theorem goodSame (w : World) : Calls Try.prog 43 #[.pointer none] w fun ev w' => ev = .returned (.bool false) ∧ w' = w := by
  go_enter Try.func43, Try.ntmps43
  go_wp2
  go_ret
  exact ⟨rfl, rfl⟩
theorem xEnd (w : World) : Calls Try.prog 31 #[.pointer none] w fun ev w' => ev = .returned (.int .i64 14) ∧ Below w.heap.size w w' := by
  have HB := Aside0.mk (Below.refl w.heap.size w)
  go_enter Try.func31, Try.ntmps31
  go_wp2_with fail
  go_quiet ((go_at_call 43; exact Calls.quiet_of_same (goodSame _)))
  go_wp2_with (first | (go_at_call 30; refine (xErr _).mono ?_; rintro ev w1 ⟨rfl, hb⟩; have HB2 := Aside0.mk (below_step (pw_below_drewN HB.out _) hb); clear hb))
  go_ret
  exact ⟨rfl, HB2.out⟩
theorem pInts (w : World) (k1 : Int) : Calls Try.prog 21 #[.pointer none, .int .i64 k1] w fun ev w' => ev = .returned (.slice none 0 0) ∧ Below w.heap.size w w' := by
  have HB := Aside0.mk (Below.refl w.heap.size w)
  go_enter Try.func21, Try.ntmps21
  go_wp2_with (first | (go_at_call 34; refine (pCount _ _).mono ?_; rintro ev w1 ⟨rfl, hb⟩; have n0_ := Aside0.mk (below_step HB.out hb); clear HB hb; have HB := n0_; clear n0_))
  go_loopg [6, 7] 0 (fun kq v6 v7 w' => v6 = .slice none 0 0 ∧ v7 = .int .i64 0 ∧ Aside0 (Below w.heap.size w w'))
  case atStart => exact ⟨rfl, rfl, HB⟩
  case round =>
    clear HB
    obtain ⟨rfl, rfl, HB⟩ := hrel
    go_wp2_with (first | (go_at_call 35; refine (pGood _).mono ?_; rintro ev w1 ⟨rfl, hb⟩; have n0_ := Aside0.mk (below_step HB.out hb); clear HB hb; have HB := n0_; clear n0_))
    go_ret
    exact ⟨rfl, HB.out⟩
theorem xInts (w : World) (k1 : Int) : Calls Try.prog 40 #[.pointer none, .int .i64 k1] w fun ev w' => ev = .returned (.slice none 0 0) ∧ Below w.heap.size w w' := by
  have HB := Aside0.mk (Below.refl w.heap.size w)
  go_enter Try.func40, Try.ntmps40
  go_wp2_with (first | (go_at_call 39; refine (xCount _ _).mono ?_; rintro ev w1 ⟨rfl, hb⟩; have n0_ := Aside0.mk (below_step HB.out hb); clear HB hb; have HB := n0_; clear n0_) | ((with_reducible refine gate_dst (N := 11) rfl ?_); refine Kd.R_lit (Kd.int .i64) _ 3 ?hg (N := 11) ?hd (xs := ([] : List Int)) (inner := []) (ok := fun _ => True) (okp := fun _ => True) ?hr ?hp (fun _ hk => hk) trivial (Below.refl _ _) (Nat.le_refl _) (by simp) ?_; (case hd => rfl); (case hg => rfl); (case hr => first | (go_simp; done) | (go_simp; rfl)); (case hp => exact (Reps.none _ _)); intro v6 w5 ho6 hb hg_ hnew_; clear hg_ hnew_ ho6; have n0_ := Aside0.mk (below_step HB.out hb); clear HB hb; have HB := n0_; clear n0_))
  go_loopg [6, 7] 0 (fun kq v6 v7 w' => v7 = .int .i64 0 ∧ Aside0 (Below w.heap.size w w'))
  case atStart => exact ⟨rfl, HB⟩
  case round =>
    clear HB
    obtain ⟨rfl, HB⟩ := hrel
    go_wp2_with (first | (go_at_call 43; refine (xGood _).mono ?_; rintro ev w1 ⟨rfl, hb⟩; have n0_ := Aside0.mk (below_step HB.out hb); clear HB hb; have HB := n0_; clear n0_))
    go_ret
    exact ⟨rfl, HB.out⟩
theorem sameNil (w : World) : Calls Try.prog 20 #[.slice none 0 0, .slice none 0 0] w fun ev w' => ev = .returned (.bool true) ∧ Below w.heap.size w w' := by
  have h0 : Kd.C (Kd.int .i64) w none ([] : List Int).length [] := ⟨rfl, by simp, fun h => absurd h (by simp)⟩
  refine (imageeditorlaw04_same.calls 1 none 0 [] none 0 [] true w h0 (Nat.le_refl _) h0 (Nat.le_refl _) (same_eq [] 1 (by simp) (by simp))).mono fun ev w' ⟨hr, hd⟩ => ⟨hr, ?_⟩
  obtain ⟨n, rfl⟩ := hd
  exact pw_below_drewN (Below.refl _ _) n
/-- the box of the step -/
structure NB (w W : World) (q : Nat) (k0 k1 : Int) : Prop where
  below : Below w.heap.size w W
  box : W.heap[q]? = some (.cells #[.int .i64 k0, .int .i64 k1] 49 (0, 0))
section
variable {w W W' : World} {q : Nat} {k0 k1 : Int}
theorem NB.on (h : NB w W q k0 k1) (hb : Below W.heap.size W W') : NB w W' q k0 k1 := ⟨below_then h.below h.below.size hb, (hb.block q (blk_lt h.box)).trans h.box⟩
theorem NB.drew (h : NB w W q k0 k1) : NB w W.drew q k0 k1 := ⟨below_drew1 h.below, h.box⟩
theorem NB.c0 (h : NB w W q k0 k1) : W.cell? ⟨q, 0, none⟩ = some (.int .i64 k0) := (blk_cell h.box 0).trans rfl
theorem NB.c1 (h : NB w W q k0 k1) : W.cell? ⟨q, 1, none⟩ = some (.int .i64 k1) := (blk_cell h.box 1).trans rfl
end
set_option maxHeartbeats 4000000 in
theorem nstep0 (w : World) (k1 : Int) :
    Calls Try.prog 28 #[.pointer none, .pointer none, .agg #[.int .i64 0, .int .i64 k1]] w fun ev w' => ev = .returned (.bool true) ∧ Below w.heap.size w w' := by
  go_enter Try.func28, Try.ntmps28
  go_wp2_with (first | ((with_reducible refine gate_dst (N := 5) rfl ?_); refine box_event ?hg (N := 5) ?hd (cs := #[.int .i64 0, .int .i64 k1]) (t := 49) ?hr ?_; (case hd => rfl); (case hg => rfl); (case hr => first | (go_simp; done) | (go_simp; rfl)); intro gq hg w5 hbox hb; have HT : Aside0 (NB w w5 gq 0 k1) := ⟨⟨hb, hbox⟩⟩; clear hb hbox hg; have hz0 := HT.out.c0; have hz1 := HT.out.c1; have hy0 := blk_frozen HT.out.box 0; have hy1 := blk_frozen HT.out.box 1) | (go_at_call 23; refine (pUint _).mono ?_; rintro ev w7 ⟨rfl, hb⟩; have n0_ := Aside0.mk (HT.out.on hb); clear HT hb; have HT := n0_; clear n0_; have hz0 := HT.out.c0; have hz1 := HT.out.c1; have hy0 := blk_frozen HT.out.box 0; have hy1 := blk_frozen HT.out.box 1) | (go_at_call 36; refine (xUint _).mono ?_; rintro ev w7 ⟨rfl, hb⟩; have n0_ := Aside0.mk (HT.out.on hb); clear HT hb; have HT := n0_; clear n0_; have hz0 := HT.out.c0; have hz1 := HT.out.c1; have hy0 := blk_frozen HT.out.box 0; have hy1 := blk_frozen HT.out.box 1) | (go_at_call 25; refine (pLeft _).mono ?_; rintro ev w7 ⟨rfl, hb⟩; have n0_ := Aside0.mk (HT.out.on hb); clear HT hb; have HT := n0_; clear n0_; have hz0 := HT.out.c0; have hz1 := HT.out.c1; have hy0 := blk_frozen HT.out.box 0; have hy1 := blk_frozen HT.out.box 1) | (go_at_call 29; refine (xLeft _).mono ?_; rintro ev w7 ⟨rfl, hb⟩; have n0_ := Aside0.mk (HT.out.on hb); clear HT hb; have HT := n0_; clear n0_; have hz0 := HT.out.c0; have hz1 := HT.out.c1; have hy0 := blk_frozen HT.out.box 0; have hy1 := blk_frozen HT.out.box 1) | (go_at_call 26; refine (pErr _).mono ?_; rintro ev w7 ⟨rfl, hb⟩; have n0_ := Aside0.mk (HT.out.on hb); clear HT hb; have HT := n0_; clear n0_; have hz0 := HT.out.c0; have hz1 := HT.out.c1; have hy0 := blk_frozen HT.out.box 0; have hy1 := blk_frozen HT.out.box 1) | (go_at_call 30; refine (xErr _).mono ?_; rintro ev w7 ⟨rfl, hb⟩; have n0_ := Aside0.mk (HT.out.on hb); clear HT hb; have HT := n0_; clear n0_; have hz0 := HT.out.c0; have hz1 := HT.out.c1; have hy0 := blk_frozen HT.out.box 0; have hy1 := blk_frozen HT.out.box 1) | (go_at_call 24; refine (pEnd _).mono ?_; rintro ev w7 ⟨rfl, hb⟩; have n0_ := Aside0.mk (HT.out.on hb); clear HT hb; have HT := n0_; clear n0_; have hz0 := HT.out.c0; have hz1 := HT.out.c1; have hy0 := blk_frozen HT.out.box 0; have hy1 := blk_frozen HT.out.box 1) | (go_at_call 31; refine (xEnd _).mono ?_; rintro ev w7 ⟨rfl, hb⟩; have n0_ := Aside0.mk (HT.out.on hb); clear HT hb; have HT := n0_; clear n0_; have hz0 := HT.out.c0; have hz1 := HT.out.c1; have hy0 := blk_frozen HT.out.box 0; have hy1 := blk_frozen HT.out.box 1))
  go_ret
  exact ⟨rfl, HT.out.below⟩
set_option maxHeartbeats 4000000 in
theorem nstep1 (w : World) (k1 : Int) :
    Calls Try.prog 28 #[.pointer none, .pointer none, .agg #[.int .i64 1, .int .i64 k1]] w fun ev w' => ev = .returned (.bool true) ∧ Below w.heap.size w w' := by
  go_enter Try.func28, Try.ntmps28
  go_wp2_with (first | ((with_reducible refine gate_dst (N := 5) rfl ?_); refine box_event ?hg (N := 5) ?hd (cs := #[.int .i64 1, .int .i64 k1]) (t := 49) ?hr ?_; (case hd => rfl); (case hg => rfl); (case hr => first | (go_simp; done) | (go_simp; rfl)); intro gq hg w5 hbox hb; have HT : Aside0 (NB w w5 gq 1 k1) := ⟨⟨hb, hbox⟩⟩; clear hb hbox hg; have hz0 := HT.out.c0; have hz1 := HT.out.c1; have hy0 := blk_frozen HT.out.box 0; have hy1 := blk_frozen HT.out.box 1) | (go_at_call 22; refine (pInt _).mono ?_; rintro ev w7 ⟨rfl, hb⟩; have n0_ := Aside0.mk (HT.out.on hb); clear HT hb; have HT := n0_; clear n0_; have hz0 := HT.out.c0; have hz1 := HT.out.c1; have hy0 := blk_frozen HT.out.box 0; have hy1 := blk_frozen HT.out.box 1) | (go_at_call 37; refine (xInt _).mono ?_; rintro ev w7 ⟨rfl, hb⟩; have n0_ := Aside0.mk (HT.out.on hb); clear HT hb; have HT := n0_; clear n0_; have hz0 := HT.out.c0; have hz1 := HT.out.c1; have hy0 := blk_frozen HT.out.box 0; have hy1 := blk_frozen HT.out.box 1) | (go_at_call 25; refine (pLeft _).mono ?_; rintro ev w7 ⟨rfl, hb⟩; have n0_ := Aside0.mk (HT.out.on hb); clear HT hb; have HT := n0_; clear n0_; have hz0 := HT.out.c0; have hz1 := HT.out.c1; have hy0 := blk_frozen HT.out.box 0; have hy1 := blk_frozen HT.out.box 1) | (go_at_call 29; refine (xLeft _).mono ?_; rintro ev w7 ⟨rfl, hb⟩; have n0_ := Aside0.mk (HT.out.on hb); clear HT hb; have HT := n0_; clear n0_; have hz0 := HT.out.c0; have hz1 := HT.out.c1; have hy0 := blk_frozen HT.out.box 0; have hy1 := blk_frozen HT.out.box 1) | (go_at_call 26; refine (pErr _).mono ?_; rintro ev w7 ⟨rfl, hb⟩; have n0_ := Aside0.mk (HT.out.on hb); clear HT hb; have HT := n0_; clear n0_; have hz0 := HT.out.c0; have hz1 := HT.out.c1; have hy0 := blk_frozen HT.out.box 0; have hy1 := blk_frozen HT.out.box 1) | (go_at_call 30; refine (xErr _).mono ?_; rintro ev w7 ⟨rfl, hb⟩; have n0_ := Aside0.mk (HT.out.on hb); clear HT hb; have HT := n0_; clear n0_; have hz0 := HT.out.c0; have hz1 := HT.out.c1; have hy0 := blk_frozen HT.out.box 0; have hy1 := blk_frozen HT.out.box 1) | (go_at_call 24; refine (pEnd _).mono ?_; rintro ev w7 ⟨rfl, hb⟩; have n0_ := Aside0.mk (HT.out.on hb); clear HT hb; have HT := n0_; clear n0_; have hz0 := HT.out.c0; have hz1 := HT.out.c1; have hy0 := blk_frozen HT.out.box 0; have hy1 := blk_frozen HT.out.box 1) | (go_at_call 31; refine (xEnd _).mono ?_; rintro ev w7 ⟨rfl, hb⟩; have n0_ := Aside0.mk (HT.out.on hb); clear HT hb; have HT := n0_; clear n0_; have hz0 := HT.out.c0; have hz1 := HT.out.c1; have hy0 := blk_frozen HT.out.box 0; have hy1 := blk_frozen HT.out.box 1))
  go_ret
  exact ⟨rfl, HT.out.below⟩
set_option maxHeartbeats 4000000 in
theorem nstep2 (w : World) (k1 : Int) :
    Calls Try.prog 28 #[.pointer none, .pointer none, .agg #[.int .i64 2, .int .i64 k1]] w fun ev w' => ev = .returned (.bool true) ∧ Below w.heap.size w w' := by
  go_enter Try.func28, Try.ntmps28
  go_wp2_with (first | ((with_reducible refine gate_dst (N := 5) rfl ?_); refine box_event ?hg (N := 5) ?hd (cs := #[.int .i64 2, .int .i64 k1]) (t := 49) ?hr ?_; (case hd => rfl); (case hg => rfl); (case hr => first | (go_simp; done) | (go_simp; rfl)); intro gq hg w5 hbox hb; have HT : Aside0 (NB w w5 gq 2 k1) := ⟨⟨hb, hbox⟩⟩; clear hb hbox hg; have hz0 := HT.out.c0; have hz1 := HT.out.c1; have hy0 := blk_frozen HT.out.box 0; have hy1 := blk_frozen HT.out.box 1))
  refine start_ (n := 10) (S := fun w' => w'.cell? ⟨gq, 1, none⟩ = some (.int .i64 k1)) (ds := []) #[false, false, false, false, false, false, false, false, false, false] (by kernel_rfl) rfl rfl hz1 (fun hHeld => ?_); refine with_tabW tab8 bits8 (fun HT_ HW_ => ?_)
  have n0_ := Aside0.mk HT.out.drew
  clear HT hz0 hz1 hy0 hy1
  have HT := n0_
  clear n0_
  generalize w5.drew = w6 at HT hHeld ⊢
  refine pure_ (i := 0) (N := some 26) (v := ?_) (a' := ?_) #[true, false, false, false, false, false, false, false, false, false] rfl rfl (any_of HT_.out (by kernel_rfl)) (fun _ _ _ h => h) (Or.inl ⟨by rfl, ?_⟩) ?_ ?_
  rotate_left
  · intro w'
    go_simp
    with_reducible rfl
  rotate_left
  · simp only [Act.put, List.setIfInBounds_toArray, List.set_cons_zero, List.set_cons_succ, i64_w, i32_w]
    rfl
  refine pure_ (i := 1) (N := some 27) (v := ?_) (a' := ?_) #[true, true, false, false, false, false, false, false, false, false] rfl rfl (any_of HT_.out (by kernel_rfl)) (fun _ _ _ h => h) (Or.inl ⟨by rfl, ?_⟩) ?_ ?_
  rotate_left
  · intro w'
    go_simp
    with_reducible rfl
  rotate_left
  · simp only [Act.put, List.setIfInBounds_toArray, List.set_cons_zero, List.set_cons_succ, i64_w, i32_w]
    rfl
  refine take_ (i := 2) (N := some 28) (v := ?_) (a' := ?_) #[true, true, true, false, false, false, false, false, false, false] rfl rfl (take_ofW HT_.out HW_.out (by kernel_rfl)) (fun _ _ _ h => h) (Or.inl ⟨by rfl, ?_⟩) hHeld ?_ ?_
  rotate_left
  · intro w' s0
    go_simp
    with_reducible rfl
  rotate_left
  · simp only [Act.put, List.setIfInBounds_toArray, List.set_cons_zero, List.set_cons_succ, i64_w, i32_w]
    rfl
  refine pure_ (i := 4) (N := some 30) (v := ?_) (a' := ?_) #[true, true, true, false, true, false, false, false, false, false] rfl rfl (any_of HT_.out (by kernel_rfl)) (fun _ _ _ h => h) (Or.inl ⟨by rfl, ?_⟩) ?_ ?_
  rotate_left
  · intro w'
    go_simp
    with_reducible rfl
  rotate_left
  · simp only [Act.put, List.setIfInBounds_toArray, List.set_cons_zero, List.set_cons_succ, i64_w, i32_w]
    rfl
  refine pure_ (i := 5) (N := some 31) (v := ?_) (a' := ?_) #[true, true, true, false, true, true, false, false, false, false] rfl rfl (any_of HT_.out (by kernel_rfl)) (fun _ _ _ h => h) (Or.inl ⟨by rfl, ?_⟩) ?_ ?_
  rotate_left
  · intro w'
    go_simp
    with_reducible rfl
  rotate_left
  · simp only [Act.put, List.setIfInBounds_toArray, List.set_cons_zero, List.set_cons_succ, i64_w, i32_w]
    rfl
  refine take_ (i := 6) (N := some 32) (v := ?_) (a' := ?_) #[true, true, true, false, true, true, true, false, false, false] rfl rfl (take_ofW HT_.out HW_.out (by kernel_rfl)) (fun _ _ _ h => h) (Or.inl ⟨by rfl, ?_⟩) hHeld ?_ ?_
  rotate_left
  · intro w' s0
    go_simp
    with_reducible rfl
  rotate_left
  · simp only [Act.put, List.setIfInBounds_toArray, List.set_cons_zero, List.set_cons_succ, i64_w, i32_w]
    rfl
  refine one_ (i := 3) (N := some 29) #[true, true, true, true, true, true, true, false, false, false] rfl rfl (one_of HT_.out (by kernel_rfl)) (by decide) (fun K hK => ?_)
  refine goes_ Try.func19 (by kernel_rfl) rfl #[.pointer none, .int .i64 k1] (by rfl) rfl rfl (by (try simp only [List.map_toArray, List.map_cons, List.map_nil]); first | done | rfl) ?_
  refine (pText _ _).mono ?_
  rintro ev w7 ⟨rfl, hb⟩
  refine ⟨_, rfl, ?_⟩
  have n0_ := Aside0.mk (HT.out.on hb)
  clear HT hb
  have HT := n0_
  clear n0_
  refine hK.out _ _ HT.out.c1 (fun hHeld => ?_)
  clear hK K
  refine norm_ (a' := ?_) ?_ ?_
  rotate_left
  · show Act.put _ (some 29) _ = _
    simp only [Act.put, List.setIfInBounds_toArray, List.set_cons_zero, List.set_cons_succ, i64_w, i32_w]
    rfl
  refine one_ (i := 7) (N := some 33) #[true, true, true, true, true, true, true, true, false, false] rfl rfl (one_of HT_.out (by kernel_rfl)) (by decide) (fun K hK => ?_)
  refine goes_ Try.func38 (by kernel_rfl) rfl #[.pointer none, .int .i64 k1] (by rfl) rfl rfl (by (try simp only [List.map_toArray, List.map_cons, List.map_nil]); first | done | rfl) ?_
  refine (xText _ _).mono ?_
  rintro ev w7 ⟨rfl, hb⟩
  refine ⟨_, rfl, ?_⟩
  have n0_ := Aside0.mk (HT.out.on hb)
  clear HT hb
  have HT := n0_
  clear n0_
  refine hK.out _ _ HT.out.c1 (fun hHeld => ?_)
  clear hK K
  refine norm_ (a' := ?_) ?_ ?_
  rotate_left
  · show Act.put _ (some 33) _ = _
    simp only [Act.put, List.setIfInBounds_toArray, List.set_cons_zero, List.set_cons_succ, i64_w, i32_w]
    rfl
  refine pure_ (i := 8) (N := some 34) (v := ?_) (a' := ?_) #[true, true, true, true, true, true, true, true, true, false] rfl rfl (any_of HT_.out (by kernel_rfl)) (fun _ _ _ h => h) (Or.inl ⟨by rfl, ?_⟩) ?_ ?_
  rotate_left
  · intro w'
    go_simp
    with_reducible rfl
  rotate_left
  · simp only [Act.put, List.setIfInBounds_toArray, List.set_cons_zero, List.set_cons_succ, i64_w, i32_w]
    rfl
  refine pure_ (i := 9) (N := some 7) (v := ?_) (a' := ?_) #[true, true, true, true, true, true, true, true, true, true] rfl rfl (any_of HT_.out (by kernel_rfl)) (fun _ _ _ h => h) (Or.inl ⟨by rfl, ?_⟩) ?_ ?_
  rotate_left
  · intro w'
    go_simp
    with_reducible rfl
  rotate_left
  · simp only [Act.put, List.setIfInBounds_toArray, List.set_cons_zero, List.set_cons_succ, i64_w, i32_w]
    rfl
  refine done_ (done_of HT_.out (by kernel_rfl)) ?_
  have hz0 := HT.out.c0; have hz1 := HT.out.c1; have hy0 := blk_frozen HT.out.box 0; have hy1 := blk_frozen HT.out.box 1
  go_wp2_with (first | (go_at_call 25; refine (pLeft _).mono ?_; rintro ev w7 ⟨rfl, hb⟩; have n0_ := Aside0.mk (HT.out.on hb); clear HT hb; have HT := n0_; clear n0_; have hz0 := HT.out.c0; have hz1 := HT.out.c1; have hy0 := blk_frozen HT.out.box 0; have hy1 := blk_frozen HT.out.box 1) | (go_at_call 29; refine (xLeft _).mono ?_; rintro ev w7 ⟨rfl, hb⟩; have n0_ := Aside0.mk (HT.out.on hb); clear HT hb; have HT := n0_; clear n0_; have hz0 := HT.out.c0; have hz1 := HT.out.c1; have hy0 := blk_frozen HT.out.box 0; have hy1 := blk_frozen HT.out.box 1) | (go_at_call 26; refine (pErr _).mono ?_; rintro ev w7 ⟨rfl, hb⟩; have n0_ := Aside0.mk (HT.out.on hb); clear HT hb; have HT := n0_; clear n0_; have hz0 := HT.out.c0; have hz1 := HT.out.c1; have hy0 := blk_frozen HT.out.box 0; have hy1 := blk_frozen HT.out.box 1) | (go_at_call 30; refine (xErr _).mono ?_; rintro ev w7 ⟨rfl, hb⟩; have n0_ := Aside0.mk (HT.out.on hb); clear HT hb; have HT := n0_; clear n0_; have hz0 := HT.out.c0; have hz1 := HT.out.c1; have hy0 := blk_frozen HT.out.box 0; have hy1 := blk_frozen HT.out.box 1) | (go_at_call 24; refine (pEnd _).mono ?_; rintro ev w7 ⟨rfl, hb⟩; have n0_ := Aside0.mk (HT.out.on hb); clear HT hb; have HT := n0_; clear n0_; have hz0 := HT.out.c0; have hz1 := HT.out.c1; have hy0 := blk_frozen HT.out.box 0; have hy1 := blk_frozen HT.out.box 1) | (go_at_call 31; refine (xEnd _).mono ?_; rintro ev w7 ⟨rfl, hb⟩; have n0_ := Aside0.mk (HT.out.on hb); clear HT hb; have HT := n0_; clear n0_; have hz0 := HT.out.c0; have hz1 := HT.out.c1; have hy0 := blk_frozen HT.out.box 0; have hy1 := blk_frozen HT.out.box 1))
  go_ret
  exact ⟨rfl, HT.out.below⟩
set_option maxHeartbeats 4000000 in
theorem nstep3 (w : World) (k1 : Int) :
    Calls Try.prog 28 #[.pointer none, .pointer none, .agg #[.int .i64 3, .int .i64 k1]] w fun ev w' => ev = .returned (.bool true) ∧ Below w.heap.size w w' := by
  go_enter Try.func28, Try.ntmps28
  go_wp2_with (first | ((with_reducible refine gate_dst (N := 5) rfl ?_); refine box_event ?hg (N := 5) ?hd (cs := #[.int .i64 3, .int .i64 k1]) (t := 49) ?hr ?_; (case hd => rfl); (case hg => rfl); (case hr => first | (go_simp; done) | (go_simp; rfl)); intro gq hg w5 hbox hb; have HT : Aside0 (NB w w5 gq 3 k1) := ⟨⟨hb, hbox⟩⟩; clear hb hbox hg; have hz0 := HT.out.c0; have hz1 := HT.out.c1; have hy0 := blk_frozen HT.out.box 0; have hy1 := blk_frozen HT.out.box 1))
  refine start_ (n := 10) (S := fun w' => w'.cell? ⟨gq, 1, none⟩ = some (.int .i64 k1)) (ds := []) #[false, false, false, false, false, false, false, false, false, false] (by kernel_rfl) rfl rfl hz1 (fun hHeld => ?_); refine with_tabW tab10 bits10 (fun HT_ HW_ => ?_)
  have n0_ := Aside0.mk HT.out.drew
  clear HT hz0 hz1 hy0 hy1
  have HT := n0_
  clear n0_
  generalize w5.drew = w6 at HT hHeld ⊢
  refine pure_ (i := 0) (N := some 37) (v := ?_) (a' := ?_) #[true, false, false, false, false, false, false, false, false, false] rfl rfl (any_of HT_.out (by kernel_rfl)) (fun _ _ _ h => h) (Or.inl ⟨by rfl, ?_⟩) ?_ ?_
  rotate_left
  · intro w'
    go_simp
    with_reducible rfl
  rotate_left
  · simp only [Act.put, List.setIfInBounds_toArray, List.set_cons_zero, List.set_cons_succ, i64_w, i32_w]
    rfl
  refine pure_ (i := 1) (N := some 38) (v := ?_) (a' := ?_) #[true, true, false, false, false, false, false, false, false, false] rfl rfl (any_of HT_.out (by kernel_rfl)) (fun _ _ _ h => h) (Or.inl ⟨by rfl, ?_⟩) ?_ ?_
  rotate_left
  · intro w'
    go_simp
    with_reducible rfl
  rotate_left
  · simp only [Act.put, List.setIfInBounds_toArray, List.set_cons_zero, List.set_cons_succ, i64_w, i32_w]
    rfl
  refine take_ (i := 2) (N := some 39) (v := ?_) (a' := ?_) #[true, true, true, false, false, false, false, false, false, false] rfl rfl (take_ofW HT_.out HW_.out (by kernel_rfl)) (fun _ _ _ h => h) (Or.inl ⟨by rfl, ?_⟩) hHeld ?_ ?_
  rotate_left
  · intro w' s0
    go_simp
    with_reducible rfl
  rotate_left
  · simp only [Act.put, List.setIfInBounds_toArray, List.set_cons_zero, List.set_cons_succ, i64_w, i32_w]
    rfl
  refine pure_ (i := 4) (N := some 41) (v := ?_) (a' := ?_) #[true, true, true, false, true, false, false, false, false, false] rfl rfl (any_of HT_.out (by kernel_rfl)) (fun _ _ _ h => h) (Or.inl ⟨by rfl, ?_⟩) ?_ ?_
  rotate_left
  · intro w'
    go_simp
    with_reducible rfl
  rotate_left
  · simp only [Act.put, List.setIfInBounds_toArray, List.set_cons_zero, List.set_cons_succ, i64_w, i32_w]
    rfl
  refine pure_ (i := 5) (N := some 42) (v := ?_) (a' := ?_) #[true, true, true, false, true, true, false, false, false, false] rfl rfl (any_of HT_.out (by kernel_rfl)) (fun _ _ _ h => h) (Or.inl ⟨by rfl, ?_⟩) ?_ ?_
  rotate_left
  · intro w'
    go_simp
    with_reducible rfl
  rotate_left
  · simp only [Act.put, List.setIfInBounds_toArray, List.set_cons_zero, List.set_cons_succ, i64_w, i32_w]
    rfl
  refine take_ (i := 6) (N := some 43) (v := ?_) (a' := ?_) #[true, true, true, false, true, true, true, false, false, false] rfl rfl (take_ofW HT_.out HW_.out (by kernel_rfl)) (fun _ _ _ h => h) (Or.inl ⟨by rfl, ?_⟩) hHeld ?_ ?_
  rotate_left
  · intro w' s0
    go_simp
    with_reducible rfl
  rotate_left
  · simp only [Act.put, List.setIfInBounds_toArray, List.set_cons_zero, List.set_cons_succ, i64_w, i32_w]
    rfl
  refine one_ (i := 3) (N := some 40) #[true, true, true, true, true, true, true, false, false, false] rfl rfl (one_of HT_.out (by kernel_rfl)) (by decide) (fun K hK => ?_)
  refine goes_ Try.func34 (by kernel_rfl) rfl #[.pointer none, .int .i64 k1] (by rfl) rfl rfl (by (try simp only [List.map_toArray, List.map_cons, List.map_nil]); first | done | rfl) ?_
  refine (pCount _ _).mono ?_
  rintro ev w7 ⟨rfl, hb⟩
  refine ⟨_, rfl, ?_⟩
  have n0_ := Aside0.mk (HT.out.on hb)
  clear HT hb
  have HT := n0_
  clear n0_
  refine hK.out _ _ HT.out.c1 (fun hHeld => ?_)
  clear hK K
  refine norm_ (a' := ?_) ?_ ?_
  rotate_left
  · show Act.put _ (some 40) _ = _
    simp only [Act.put, List.setIfInBounds_toArray, List.set_cons_zero, List.set_cons_succ, i64_w, i32_w]
    rfl
  refine one_ (i := 7) (N := some 44) #[true, true, true, true, true, true, true, true, false, false] rfl rfl (one_of HT_.out (by kernel_rfl)) (by decide) (fun K hK => ?_)
  refine goes_ Try.func39 (by kernel_rfl) rfl #[.pointer none, .int .i64 k1] (by rfl) rfl rfl (by (try simp only [List.map_toArray, List.map_cons, List.map_nil]); first | done | rfl) ?_
  refine (xCount _ _).mono ?_
  rintro ev w7 ⟨rfl, hb⟩
  refine ⟨_, rfl, ?_⟩
  have n0_ := Aside0.mk (HT.out.on hb)
  clear HT hb
  have HT := n0_
  clear n0_
  refine hK.out _ _ HT.out.c1 (fun hHeld => ?_)
  clear hK K
  refine norm_ (a' := ?_) ?_ ?_
  rotate_left
  · show Act.put _ (some 44) _ = _
    simp only [Act.put, List.setIfInBounds_toArray, List.set_cons_zero, List.set_cons_succ, i64_w, i32_w]
    rfl
  refine pure_ (i := 8) (N := some 45) (v := ?_) (a' := ?_) #[true, true, true, true, true, true, true, true, true, false] rfl rfl (any_of HT_.out (by kernel_rfl)) (fun _ _ _ h => h) (Or.inl ⟨by rfl, ?_⟩) ?_ ?_
  rotate_left
  · intro w'
    go_simp
    with_reducible rfl
  rotate_left
  · simp only [Act.put, List.setIfInBounds_toArray, List.set_cons_zero, List.set_cons_succ, i64_w, i32_w]
    rfl
  refine pure_ (i := 9) (N := some 7) (v := ?_) (a' := ?_) #[true, true, true, true, true, true, true, true, true, true] rfl rfl (any_of HT_.out (by kernel_rfl)) (fun _ _ _ h => h) (Or.inl ⟨by rfl, ?_⟩) ?_ ?_
  rotate_left
  · intro w'
    go_simp
    with_reducible rfl
  rotate_left
  · simp only [Act.put, List.setIfInBounds_toArray, List.set_cons_zero, List.set_cons_succ, i64_w, i32_w]
    rfl
  refine done_ (done_of HT_.out (by kernel_rfl)) ?_
  have hz0 := HT.out.c0; have hz1 := HT.out.c1; have hy0 := blk_frozen HT.out.box 0; have hy1 := blk_frozen HT.out.box 1
  go_wp2_with (first | (go_at_call 25; refine (pLeft _).mono ?_; rintro ev w7 ⟨rfl, hb⟩; have n0_ := Aside0.mk (HT.out.on hb); clear HT hb; have HT := n0_; clear n0_; have hz0 := HT.out.c0; have hz1 := HT.out.c1; have hy0 := blk_frozen HT.out.box 0; have hy1 := blk_frozen HT.out.box 1) | (go_at_call 29; refine (xLeft _).mono ?_; rintro ev w7 ⟨rfl, hb⟩; have n0_ := Aside0.mk (HT.out.on hb); clear HT hb; have HT := n0_; clear n0_; have hz0 := HT.out.c0; have hz1 := HT.out.c1; have hy0 := blk_frozen HT.out.box 0; have hy1 := blk_frozen HT.out.box 1) | (go_at_call 26; refine (pErr _).mono ?_; rintro ev w7 ⟨rfl, hb⟩; have n0_ := Aside0.mk (HT.out.on hb); clear HT hb; have HT := n0_; clear n0_; have hz0 := HT.out.c0; have hz1 := HT.out.c1; have hy0 := blk_frozen HT.out.box 0; have hy1 := blk_frozen HT.out.box 1) | (go_at_call 30; refine (xErr _).mono ?_; rintro ev w7 ⟨rfl, hb⟩; have n0_ := Aside0.mk (HT.out.on hb); clear HT hb; have HT := n0_; clear n0_; have hz0 := HT.out.c0; have hz1 := HT.out.c1; have hy0 := blk_frozen HT.out.box 0; have hy1 := blk_frozen HT.out.box 1) | (go_at_call 24; refine (pEnd _).mono ?_; rintro ev w7 ⟨rfl, hb⟩; have n0_ := Aside0.mk (HT.out.on hb); clear HT hb; have HT := n0_; clear n0_; have hz0 := HT.out.c0; have hz1 := HT.out.c1; have hy0 := blk_frozen HT.out.box 0; have hy1 := blk_frozen HT.out.box 1) | (go_at_call 31; refine (xEnd _).mono ?_; rintro ev w7 ⟨rfl, hb⟩; have n0_ := Aside0.mk (HT.out.on hb); clear HT hb; have HT := n0_; clear n0_; have hz0 := HT.out.c0; have hz1 := HT.out.c1; have hy0 := blk_frozen HT.out.box 0; have hy1 := blk_frozen HT.out.box 1))
  go_ret
  exact ⟨rfl, HT.out.below⟩
set_option maxHeartbeats 4000000 in
theorem nstep4 (w : World) (k1 : Int) :
    Calls Try.prog 28 #[.pointer none, .pointer none, .agg #[.int .i64 4, .int .i64 k1]] w fun ev w' => ev = .returned (.bool true) ∧ Below w.heap.size w w' := by
  go_enter Try.func28, Try.ntmps28
  go_wp2_with (first | ((with_reducible refine gate_dst (N := 5) rfl ?_); refine box_event ?hg (N := 5) ?hd (cs := #[.int .i64 4, .int .i64 k1]) (t := 49) ?hr ?_; (case hd => rfl); (case hg => rfl); (case hr => first | (go_simp; done) | (go_simp; rfl)); intro gq hg w5 hbox hb; have HT : Aside0 (NB w w5 gq 4 k1) := ⟨⟨hb, hbox⟩⟩; clear hb hbox hg; have hz0 := HT.out.c0; have hz1 := HT.out.c1; have hy0 := blk_frozen HT.out.box 0; have hy1 := blk_frozen HT.out.box 1))
  refine start_ (n := 10) (S := fun w' => w'.cell? ⟨gq, 1, none⟩ = some (.int .i64 k1)) (ds := []) #[false, false, false, false, false, false, false, false, false, false] (by kernel_rfl) rfl rfl hz1 (fun hHeld => ?_); refine with_tabW tab12 bits12 (fun HT_ HW_ => ?_)
  have n0_ := Aside0.mk HT.out.drew
  clear HT hz0 hz1 hy0 hy1
  have HT := n0_
  clear n0_
  generalize w5.drew = w6 at HT hHeld ⊢
  refine pure_ (i := 0) (N := some 48) (v := ?_) (a' := ?_) #[true, false, false, false, false, false, false, false, false, false] rfl rfl (any_of HT_.out (by kernel_rfl)) (fun _ _ _ h => h) (Or.inl ⟨by rfl, ?_⟩) ?_ ?_
  rotate_left
  · intro w'
    go_simp
    with_reducible rfl
  rotate_left
  · simp only [Act.put, List.setIfInBounds_toArray, List.set_cons_zero, List.set_cons_succ, i64_w, i32_w]
    rfl
  refine pure_ (i := 1) (N := some 49) (v := ?_) (a' := ?_) #[true, true, false, false, false, false, false, false, false, false] rfl rfl (any_of HT_.out (by kernel_rfl)) (fun _ _ _ h => h) (Or.inl ⟨by rfl, ?_⟩) ?_ ?_
  rotate_left
  · intro w'
    go_simp
    with_reducible rfl
  rotate_left
  · simp only [Act.put, List.setIfInBounds_toArray, List.set_cons_zero, List.set_cons_succ, i64_w, i32_w]
    rfl
  refine take_ (i := 2) (N := some 50) (v := ?_) (a' := ?_) #[true, true, true, false, false, false, false, false, false, false] rfl rfl (take_ofW HT_.out HW_.out (by kernel_rfl)) (fun _ _ _ h => h) (Or.inl ⟨by rfl, ?_⟩) hHeld ?_ ?_
  rotate_left
  · intro w' s0
    go_simp
    with_reducible rfl
  rotate_left
  · simp only [Act.put, List.setIfInBounds_toArray, List.set_cons_zero, List.set_cons_succ, i64_w, i32_w]
    rfl
  refine pure_ (i := 4) (N := some 52) (v := ?_) (a' := ?_) #[true, true, true, false, true, false, false, false, false, false] rfl rfl (any_of HT_.out (by kernel_rfl)) (fun _ _ _ h => h) (Or.inl ⟨by rfl, ?_⟩) ?_ ?_
  rotate_left
  · intro w'
    go_simp
    with_reducible rfl
  rotate_left
  · simp only [Act.put, List.setIfInBounds_toArray, List.set_cons_zero, List.set_cons_succ, i64_w, i32_w]
    rfl
  refine pure_ (i := 5) (N := some 53) (v := ?_) (a' := ?_) #[true, true, true, false, true, true, false, false, false, false] rfl rfl (any_of HT_.out (by kernel_rfl)) (fun _ _ _ h => h) (Or.inl ⟨by rfl, ?_⟩) ?_ ?_
  rotate_left
  · intro w'
    go_simp
    with_reducible rfl
  rotate_left
  · simp only [Act.put, List.setIfInBounds_toArray, List.set_cons_zero, List.set_cons_succ, i64_w, i32_w]
    rfl
  refine take_ (i := 6) (N := some 54) (v := ?_) (a' := ?_) #[true, true, true, false, true, true, true, false, false, false] rfl rfl (take_ofW HT_.out HW_.out (by kernel_rfl)) (fun _ _ _ h => h) (Or.inl ⟨by rfl, ?_⟩) hHeld ?_ ?_
  rotate_left
  · intro w' s0
    go_simp
    with_reducible rfl
  rotate_left
  · simp only [Act.put, List.setIfInBounds_toArray, List.set_cons_zero, List.set_cons_succ, i64_w, i32_w]
    rfl
  refine one_ (i := 3) (N := some 51) #[true, true, true, true, true, true, true, false, false, false] rfl rfl (one_of HT_.out (by kernel_rfl)) (by decide) (fun K hK => ?_)
  refine goes_ Try.func21 (by kernel_rfl) rfl #[.pointer none, .int .i64 k1] (by rfl) rfl rfl (by (try simp only [List.map_toArray, List.map_cons, List.map_nil]); first | done | rfl) ?_
  refine (pInts _ _).mono ?_
  rintro ev w7 ⟨rfl, hb⟩
  refine ⟨_, rfl, ?_⟩
  have n0_ := Aside0.mk (HT.out.on hb)
  clear HT hb
  have HT := n0_
  clear n0_
  refine hK.out _ _ HT.out.c1 (fun hHeld => ?_)
  clear hK K
  refine norm_ (a' := ?_) ?_ ?_
  rotate_left
  · show Act.put _ (some 51) _ = _
    simp only [Act.put, List.setIfInBounds_toArray, List.set_cons_zero, List.set_cons_succ, i64_w, i32_w]
    rfl
  refine one_ (i := 7) (N := some 55) #[true, true, true, true, true, true, true, true, false, false] rfl rfl (one_of HT_.out (by kernel_rfl)) (by decide) (fun K hK => ?_)
  refine goes_ Try.func40 (by kernel_rfl) rfl #[.pointer none, .int .i64 k1] (by rfl) rfl rfl (by (try simp only [List.map_toArray, List.map_cons, List.map_nil]); first | done | rfl) ?_
  refine (xInts _ _).mono ?_
  rintro ev w7 ⟨rfl, hb⟩
  refine ⟨_, rfl, ?_⟩
  have n0_ := Aside0.mk (HT.out.on hb)
  clear HT hb
  have HT := n0_
  clear n0_
  refine hK.out _ _ HT.out.c1 (fun hHeld => ?_)
  clear hK K
  refine norm_ (a' := ?_) ?_ ?_
  rotate_left
  · show Act.put _ (some 55) _ = _
    simp only [Act.put, List.setIfInBounds_toArray, List.set_cons_zero, List.set_cons_succ, i64_w, i32_w]
    rfl
  refine one_ (i := 8) (N := some 56) #[true, true, true, true, true, true, true, true, true, false] rfl rfl (one_of HT_.out (by kernel_rfl)) (by decide) (fun K hK => ?_)
  refine goes_ Try.func20 (by kernel_rfl) rfl #[.slice none 0 0, .slice none 0 0] (by rfl) rfl rfl (by (try simp only [List.map_toArray, List.map_cons, List.map_nil]); first | done | rfl) ?_
  refine (sameNil _).mono ?_
  rintro ev w7 ⟨rfl, hb⟩
  refine ⟨_, rfl, ?_⟩
  have n0_ := Aside0.mk (HT.out.on hb)
  clear HT hb
  have HT := n0_
  clear n0_
  refine hK.out _ _ HT.out.c1 (fun hHeld => ?_)
  clear hK K
  refine norm_ (a' := ?_) ?_ ?_
  rotate_left
  · show Act.put _ (some 56) _ = _
    simp only [Act.put, List.setIfInBounds_toArray, List.set_cons_zero, List.set_cons_succ, i64_w, i32_w]
    rfl
  refine pure_ (i := 9) (N := some 7) (v := ?_) (a' := ?_) #[true, true, true, true, true, true, true, true, true, true] rfl rfl (any_of HT_.out (by kernel_rfl)) (fun _ _ _ h => h) (Or.inl ⟨by rfl, ?_⟩) ?_ ?_
  rotate_left
  · intro w'
    go_simp
    with_reducible rfl
  rotate_left
  · simp only [Act.put, List.setIfInBounds_toArray, List.set_cons_zero, List.set_cons_succ, i64_w, i32_w]
    rfl
  refine done_ (done_of HT_.out (by kernel_rfl)) ?_
  have hz0 := HT.out.c0; have hz1 := HT.out.c1; have hy0 := blk_frozen HT.out.box 0; have hy1 := blk_frozen HT.out.box 1
  go_wp2_with (first | (go_at_call 25; refine (pLeft _).mono ?_; rintro ev w7 ⟨rfl, hb⟩; have n0_ := Aside0.mk (HT.out.on hb); clear HT hb; have HT := n0_; clear n0_; have hz0 := HT.out.c0; have hz1 := HT.out.c1; have hy0 := blk_frozen HT.out.box 0; have hy1 := blk_frozen HT.out.box 1) | (go_at_call 29; refine (xLeft _).mono ?_; rintro ev w7 ⟨rfl, hb⟩; have n0_ := Aside0.mk (HT.out.on hb); clear HT hb; have HT := n0_; clear n0_; have hz0 := HT.out.c0; have hz1 := HT.out.c1; have hy0 := blk_frozen HT.out.box 0; have hy1 := blk_frozen HT.out.box 1) | (go_at_call 26; refine (pErr _).mono ?_; rintro ev w7 ⟨rfl, hb⟩; have n0_ := Aside0.mk (HT.out.on hb); clear HT hb; have HT := n0_; clear n0_; have hz0 := HT.out.c0; have hz1 := HT.out.c1; have hy0 := blk_frozen HT.out.box 0; have hy1 := blk_frozen HT.out.box 1) | (go_at_call 30; refine (xErr _).mono ?_; rintro ev w7 ⟨rfl, hb⟩; have n0_ := Aside0.mk (HT.out.on hb); clear HT hb; have HT := n0_; clear n0_; have hz0 := HT.out.c0; have hz1 := HT.out.c1; have hy0 := blk_frozen HT.out.box 0; have hy1 := blk_frozen HT.out.box 1) | (go_at_call 24; refine (pEnd _).mono ?_; rintro ev w7 ⟨rfl, hb⟩; have n0_ := Aside0.mk (HT.out.on hb); clear HT hb; have HT := n0_; clear n0_; have hz0 := HT.out.c0; have hz1 := HT.out.c1; have hy0 := blk_frozen HT.out.box 0; have hy1 := blk_frozen HT.out.box 1) | (go_at_call 31; refine (xEnd _).mono ?_; rintro ev w7 ⟨rfl, hb⟩; have n0_ := Aside0.mk (HT.out.on hb); clear HT hb; have HT := n0_; clear n0_; have hz0 := HT.out.c0; have hz1 := HT.out.c1; have hy0 := blk_frozen HT.out.box 0; have hy1 := blk_frozen HT.out.box 1))
  go_ret
  exact ⟨rfl, HT.out.below⟩
set_option maxHeartbeats 4000000 in
theorem nstep5 (w : World) (k1 : Int) :
    Calls Try.prog 28 #[.pointer none, .pointer none, .agg #[.int .i64 5, .int .i64 k1]] w fun ev w' => ev = .returned (.bool true) ∧ Below w.heap.size w w' := by
  go_enter Try.func28, Try.ntmps28
  go_wp2_with (first | ((with_reducible refine gate_dst (N := 5) rfl ?_); refine box_event ?hg (N := 5) ?hd (cs := #[.int .i64 5, .int .i64 k1]) (t := 49) ?hr ?_; (case hd => rfl); (case hg => rfl); (case hr => first | (go_simp; done) | (go_simp; rfl)); intro gq hg w5 hbox hb; have HT : Aside0 (NB w w5 gq 5 k1) := ⟨⟨hb, hbox⟩⟩; clear hb hbox hg; have hz0 := HT.out.c0; have hz1 := HT.out.c1; have hy0 := blk_frozen HT.out.box 0; have hy1 := blk_frozen HT.out.box 1) | (go_at_call 41; refine (pFail _ _).mono ?_; rintro ev w7 ⟨rfl, hb⟩; have n0_ := Aside0.mk (HT.out.on hb); clear HT hb; have HT := n0_; clear n0_; have hz0 := HT.out.c0; have hz1 := HT.out.c1; have hy0 := blk_frozen HT.out.box 0; have hy1 := blk_frozen HT.out.box 1) | (go_at_call 42; refine (xFail _ _).mono ?_; rintro ev w7 ⟨rfl, hb⟩; have n0_ := Aside0.mk (HT.out.on hb); clear HT hb; have HT := n0_; clear n0_; have hz0 := HT.out.c0; have hz1 := HT.out.c1; have hy0 := blk_frozen HT.out.box 0; have hy1 := blk_frozen HT.out.box 1) | (go_at_call 25; refine (pLeft _).mono ?_; rintro ev w7 ⟨rfl, hb⟩; have n0_ := Aside0.mk (HT.out.on hb); clear HT hb; have HT := n0_; clear n0_; have hz0 := HT.out.c0; have hz1 := HT.out.c1; have hy0 := blk_frozen HT.out.box 0; have hy1 := blk_frozen HT.out.box 1) | (go_at_call 29; refine (xLeft _).mono ?_; rintro ev w7 ⟨rfl, hb⟩; have n0_ := Aside0.mk (HT.out.on hb); clear HT hb; have HT := n0_; clear n0_; have hz0 := HT.out.c0; have hz1 := HT.out.c1; have hy0 := blk_frozen HT.out.box 0; have hy1 := blk_frozen HT.out.box 1) | (go_at_call 26; refine (pErr _).mono ?_; rintro ev w7 ⟨rfl, hb⟩; have n0_ := Aside0.mk (HT.out.on hb); clear HT hb; have HT := n0_; clear n0_; have hz0 := HT.out.c0; have hz1 := HT.out.c1; have hy0 := blk_frozen HT.out.box 0; have hy1 := blk_frozen HT.out.box 1) | (go_at_call 30; refine (xErr _).mono ?_; rintro ev w7 ⟨rfl, hb⟩; have n0_ := Aside0.mk (HT.out.on hb); clear HT hb; have HT := n0_; clear n0_; have hz0 := HT.out.c0; have hz1 := HT.out.c1; have hy0 := blk_frozen HT.out.box 0; have hy1 := blk_frozen HT.out.box 1) | (go_at_call 24; refine (pEnd _).mono ?_; rintro ev w7 ⟨rfl, hb⟩; have n0_ := Aside0.mk (HT.out.on hb); clear HT hb; have HT := n0_; clear n0_; have hz0 := HT.out.c0; have hz1 := HT.out.c1; have hy0 := blk_frozen HT.out.box 0; have hy1 := blk_frozen HT.out.box 1) | (go_at_call 31; refine (xEnd _).mono ?_; rintro ev w7 ⟨rfl, hb⟩; have n0_ := Aside0.mk (HT.out.on hb); clear HT hb; have HT := n0_; clear n0_; have hz0 := HT.out.c0; have hz1 := HT.out.c1; have hy0 := blk_frozen HT.out.box 0; have hy1 := blk_frozen HT.out.box 1))
  go_ret
  exact ⟨rfl, HT.out.below⟩
set_option maxHeartbeats 4000000 in
theorem nstepX (w : World) (k1 : Int) (k0 : Int) (h0 : ¬ k0 = 0) (h1 : ¬ k0 = 1) (h2 : ¬ k0 = 2) (h3 : ¬ k0 = 3) (h4 : ¬ k0 = 4) (h5 : ¬ k0 = 5) :
    Calls Try.prog 28 #[.pointer none, .pointer none, .agg #[.int .i64 k0, .int .i64 k1]] w fun ev w' => ev = .returned (.bool true) ∧ Below w.heap.size w w' := by
  have b0 : (k0 == 0) = false := beq_eq_false_iff_ne.2 h0
  have b1 : (k0 == 1) = false := beq_eq_false_iff_ne.2 h1
  have b2 : (k0 == 2) = false := beq_eq_false_iff_ne.2 h2
  have b3 : (k0 == 3) = false := beq_eq_false_iff_ne.2 h3
  have b4 : (k0 == 4) = false := beq_eq_false_iff_ne.2 h4
  have b5 : (k0 == 5) = false := beq_eq_false_iff_ne.2 h5
  clear h0 h1 h2 h3 h4 h5
  go_enter Try.func28, Try.ntmps28
  go_wp2_with (first | ((with_reducible refine gate_dst (N := 5) rfl ?_); refine box_event ?hg (N := 5) ?hd (cs := #[.int .i64 k0, .int .i64 k1]) (t := 49) ?hr ?_; (case hd => rfl); (case hg => rfl); (case hr => first | (go_simp; done) | (go_simp; rfl)); intro gq hg w5 hbox hb; have HT : Aside0 (NB w w5 gq k0 k1) := ⟨⟨hb, hbox⟩⟩; clear hb hbox hg; have hz0 := HT.out.c0; have hz1 := HT.out.c1; have hy0 := blk_frozen HT.out.box 0; have hy1 := blk_frozen HT.out.box 1) | (go_at_call 25; refine (pLeft _).mono ?_; rintro ev w7 ⟨rfl, hb⟩; have n0_ := Aside0.mk (HT.out.on hb); clear HT hb; have HT := n0_; clear n0_; have hz0 := HT.out.c0; have hz1 := HT.out.c1; have hy0 := blk_frozen HT.out.box 0; have hy1 := blk_frozen HT.out.box 1) | (go_at_call 29; refine (xLeft _).mono ?_; rintro ev w7 ⟨rfl, hb⟩; have n0_ := Aside0.mk (HT.out.on hb); clear HT hb; have HT := n0_; clear n0_; have hz0 := HT.out.c0; have hz1 := HT.out.c1; have hy0 := blk_frozen HT.out.box 0; have hy1 := blk_frozen HT.out.box 1) | (go_at_call 26; refine (pErr _).mono ?_; rintro ev w7 ⟨rfl, hb⟩; have n0_ := Aside0.mk (HT.out.on hb); clear HT hb; have HT := n0_; clear n0_; have hz0 := HT.out.c0; have hz1 := HT.out.c1; have hy0 := blk_frozen HT.out.box 0; have hy1 := blk_frozen HT.out.box 1) | (go_at_call 30; refine (xErr _).mono ?_; rintro ev w7 ⟨rfl, hb⟩; have n0_ := Aside0.mk (HT.out.on hb); clear HT hb; have HT := n0_; clear n0_; have hz0 := HT.out.c0; have hz1 := HT.out.c1; have hy0 := blk_frozen HT.out.box 0; have hy1 := blk_frozen HT.out.box 1) | (go_at_call 24; refine (pEnd _).mono ?_; rintro ev w7 ⟨rfl, hb⟩; have n0_ := Aside0.mk (HT.out.on hb); clear HT hb; have HT := n0_; clear n0_; have hz0 := HT.out.c0; have hz1 := HT.out.c1; have hy0 := blk_frozen HT.out.box 0; have hy1 := blk_frozen HT.out.box 1) | (go_at_call 31; refine (xEnd _).mono ?_; rintro ev w7 ⟨rfl, hb⟩; have n0_ := Aside0.mk (HT.out.on hb); clear HT hb; have HT := n0_; clear n0_; have hz0 := HT.out.c0; have hz1 := HT.out.c1; have hy0 := blk_frozen HT.out.box 0; have hy1 := blk_frozen HT.out.box 1))
  go_ret
  exact ⟨rfl, HT.out.below⟩
/-- 'step' for two readers that are nil -/
theorem step_nil (w : World) (k0 k1 : Int) : Calls Try.prog 28 #[.pointer none, .pointer none, .agg #[.int .i64 k0, .int .i64 k1]] w fun ev w' => ev = .returned (.bool true) ∧ Below w.heap.size w w' := by
  by_cases h0 : k0 = 0
  · subst h0; exact nstep0 w k1
  by_cases h1 : k0 = 1
  · subst h1; exact nstep1 w k1
  by_cases h2 : k0 = 2
  · subst h2; exact nstep2 w k1
  by_cases h3 : k0 = 3
  · subst h3; exact nstep3 w k1
  by_cases h4 : k0 = 4
  · subst h4; exact nstep4 w k1
  by_cases h5 : k0 = 5
  · subst h5; exact nstep5 w k1
  exact nstepX w k1 k0 h0 h1 h2 h3 h4 h5

end Go.Proofs.Ytnjelebhicheeaa.WireNil

/- digest.table and digest.Crc: the contracts. Crc of any text whose length is an int returns the document's CRC, and writes nothing that was there. -/
import Derived.Test.YtfmcikffoinbmaaCrcSpec
import Derived.Test.YtfmcikffoinbmaaProg
import Derived.Test.YtfmcikffoinbmaaQx0
import Derived.Laws.BitsAllLaws
import Derived.Laws.IdiomCopy
namespace Go.Proofs.Ytfmcikffoinbmaa.CrcWalk
open Go.RowKit Go.Proofs.YtfmcikffoinbmaaW.PrintWords Go.Proofs.YtfmcikffoinbmaaW.PrintLast Go.Proofs.YtfmcikffoinbmaaW.PrintMore Go.Proofs.Ytfmcikffoinbmaa.Spec Go.Proofs.Ytfmcikffoinbmaa.CrcSpec
set_option linter.unusedVariables false
set_option linter.unusedSimpArgs false

theorem infoA : (Try.prog.info? 38).map (fun i => (i.zero.map (fun z => z.cells.size), i.size)) = some (some 256, 256) := by kernel_rfl
theorem sizeA : (Try.prog.info? 38).map (·.size) = some 256 := by kernel_rfl
theorem run_alloc_arr {P : Program} {w : World} {t : TypeId} {i : TypeInfo} {z : Value} (hi : P.info? t = some i) (hz : i.zero = some z) :
    (Instr.alloc t true (.tuple #[])).run P w = .ok (.pointer (some ⟨w.heap.size, 0, none⟩)) (w.alloc (.cells z.cells t)) := by
  simp [Instr.alloc, zeroValue, typeInfo, hi, hz, newVar, newRow]
theorem zeroA : ∃ (i : TypeInfo) (z : Value), Try.prog.info? 38 = some i ∧ i.zero = some z ∧ z.cells.size = 256 := by
  obtain ⟨i, hi, hiz⟩ := Option.map_eq_some_iff.1 infoA
  simp only [Prod.mk.injEq] at hiz
  obtain ⟨z, hz, hzs⟩ := Option.map_eq_some_iff.1 hiz.1
  exact ⟨i, z, hi, hz, hzs⟩

/-- the table, as the model's value -/
def tab : Array Value := ((List.range 256).map fun i => Value.int .u32 (tb i : Int)).toArray
theorem tab_size : tab.size = 256 := by simp [tab]
theorem tab_get (i : Nat) (h : i < 256) : tab[i]? = some (.int .u32 (tb i : Int)) := by simp [tab, h]
theorem tab_of (cs : Array Value) (hs : cs.size = 256) (h : ∀ j, j < 256 → cs[j]? = some (.int .u32 (tb j : Int))) : cs = tab := by
  apply Array.ext_getElem?
  intro i
  by_cases hi : i < 256
  · rw [h i hi, tab_get i hi]
  · rw [Array.getElem?_eq_none (by omega), Array.getElem?_eq_none (by rw [tab_size]; omega)]
theorem tab_one : ∀ q ∈ tab.toList, q.oneCell' = true := by
  intro q hq
  simp only [tab, List.mem_map, List.mem_range] at hq
  obtain ⟨i, _, rfl⟩ := hq
  rfl

/-! ### a whole array stored into a block -/
theorem setCells_whole (g : Nat) (t : TypeId) : ∀ (seg a b : List Value) (w : World), b.length = seg.length → w.heap[g]? = some (.cells (a ++ b).toArray t (0, 0)) →
    (w.setCells g a.length seg).heap[g]? = some (.cells (a ++ seg).toArray t (0, 0))
  | [], a, b, w, hl, hh => by
    have : b = [] := List.eq_nil_of_length_eq_zero hl
    subst this
    exact hh
  | v :: seg, a, b, w, hl, hh => by
    cases b with
    | nil => simp at hl
    | cons u b =>
      have h1 := heap_setCell_same w g a.length _ t v hh
      have e : (a ++ u :: b).toArray.setIfInBounds a.length v = ((a ++ [v]) ++ b).toArray := by
        apply Array.ext'
        simp
      rw [e] at h1
      have h2 := setCells_whole g t seg (a ++ [v]) b (w.setCell ⟨g, a.length, none⟩ v) (by simpa using hl) h1
      rw [List.length_append, List.length_singleton] at h2
      rw [show a ++ v :: seg = (a ++ [v]) ++ seg from by rw [List.append_assoc, List.singleton_append]]
      exact h2
theorem wpList_store_row {P : Program} {ops : Array Oper} {rest : List Oper} {o : Oper} {a : Act} {w : World} {Q : Exit → Act → World → Prop} (hgd : o.guard = none) (hN : o.dst = none) (t : TypeId) (p x : Operand) (ho : o.op = .store t p x)
    (g : Nat) (e : TypeId) (cur cs : Array Value) (hp : a.eval p = .pointer (some ⟨g, 0, none⟩)) (hx : a.eval x = .agg cs) (hh : w.heap[g]? = some (.cells cur e (0, 0))) (ht : (P.info? t).map (·.size) = some cs.size) (hs : cur.size = cs.size) (h1 : ∀ q ∈ cs.toList, q.oneCell' = true)
    (h : ∀ w1, w1.heap[g]? = some (.cells cs e (0, 0)) → Below g w w1 → w1.heap.size = w.heap.size → (∀ k, k ≠ g → w1.heap[k]? = w.heap[k]?) → wpList P ops Q rest a w1) : wpList P ops Q (o :: rest) a w := by
  refine wpList_plain hgd fun K hK => ?_
  have hrun : (Instr.storeAt t (.pointer (some ⟨g, 0, none⟩)) (.agg cs)).run P w = .ok () (w.setCells g 0 cs.toList) :=
    run_store_run t (.agg cs) cs.toList hh rfl (by rw [Array.length_toList]; exact ht) (by rw [Array.length_toList]; omega) h1
  unfold Oper.wp execOp
  simp only [ho, hp, hx, Sem.run_bind, Sem.run_pure, Result.andThen_ok, hrun]
  show K (a.put o.dst undef) _
  rw [hN]
  refine hK a _ ?_
  have hw : (w.setCells g 0 cs.toList).heap[g]? = some (.cells cs e (0, 0)) := by
    have := setCells_whole g e cs.toList [] cur.toList w (by rw [Array.length_toList, Array.length_toList]; exact hs) (by simpa using hh)
    simpa using this
  have hfar : ∀ k, k ≠ g → (w.setCells g 0 cs.toList).heap[k]? = w.heap[k]? := fun k hk => setCells_far cs.toList _ k hk
  have hsz : ∀ (vs : List Value) (o : Nat) (u : World), (u.setCells g o vs).heap.size = u.heap.size := by
    intro vs
    induction vs with
    | nil => intro o u; rfl
    | cons v vs ih => intro o u; show ((u.setCell ⟨g, o, none⟩ v).setCells g (o + 1) vs).heap.size = _; rw [ih]; simp [World.setCell]
  have hrest : ∀ (vs : List Value) (o : Nat) (u : World), (u.setCells g o vs).os = u.os ∧ (u.setCells g o vs).tape = u.tape ∧ (u.setCells g o vs).output = u.output := by
    intro vs
    induction vs with
    | nil => intro o u; exact ⟨rfl, rfl, rfl⟩
    | cons v vs ih => intro o u; exact ih (o + 1) (u.setCell ⟨g, o, none⟩ v)
  have hr := hrest cs.toList 0 w
  exact h _ hw ⟨hr.1, hr.2.1, hr.2.2, Nat.le_of_eq (hsz _ _ _).symm, fun k hk => hfar k (by omega)⟩ (hsz _ _ _) hfar

/-! ### one bit, as the walk spells it -/
theorem bit_and (c : Nat) (h : c < 4294967296) : bits .and .u32 (c : Int) 1 = ((c % 2 : Nat) : Int) := by
  rw [u32_and _ _ (by omega) (by omega) (by omega) (by omega), Int.toNat_natCast, show (1 : Int).toNat = 1 from rfl, nat_mask1]
theorem bit_yes (c : Nat) (h : c < 4294967296) (h1 : c % 2 = 1) : bits .xor .u32 ((c : Int) / 2) 3988292384 = ((stepC c : Nat) : Int) := by
  rw [show (c : Int) / 2 = ((c / 2 : Nat) : Int) from by omega, u32_xor _ _ (by omega) (by omega) (by omega) (by omega), Int.toNat_natCast, show (3988292384 : Int).toNat = 3988292384 from rfl]
  unfold stepC
  rw [if_pos h1]
theorem bit_no (c : Nat) (h1 : ¬ c % 2 = 1) : (c : Int) / 2 = ((stepC c : Nat) : Int) := by
  unfold stepC
  rw [if_neg h1]
  omega

set_option maxHeartbeats 8000000 in
set_option maxRecDepth 100000 in
theorem table_any (T : Array Value) (hTs : T.size = 256) (hT1 : ∀ q ∈ T.toList, q.oneCell' = true) (hTo : ∀ cs : Array Value, cs.size = 256 → (∀ j, j < 256 → cs[j]? = some (.int .u32 (tb j : Int))) → cs = T) (w : World) :
    Calls Try.prog 21 #[] w fun e w' => e = .returned (.agg T) ∧ Below w.heap.size w w' := by
  have HTS : Aside0 ((Try.prog.info? 38).map (·.size) = some T.size) := ⟨by rw [hTs]; exact sizeA⟩
  have HT1 := Aside0.mk hT1
  have HTO := Aside0.mk hTo
  have HTZ := Aside0.mk hTs
  clear hTs hT1 hTo
  obtain ⟨i, z, hi, hz, hzs⟩ := zeroA
  have HI := Aside0.mk hi
  have HZ := Aside0.mk hz
  have HZS := Aside0.mk hzs
  clear hi hz hzs
  go_enter Try.func21, Try.ntmps21
  go_wp2_with (first
    | ((with_reducible refine gate_dst (N := 0) rfl ?_); refine box_event rfl rfl (cs := z.cells) (t := 38) (by simp [execOp, run_alloc_arr HI.out HZ.out]) ?_; intro g0 hg0 w1 hk0 hb0; have HG0 := Aside0.mk hg0; have HK0 := Aside0.mk hk0; have HB0 := Aside0.mk hb0; clear hg0 hk0 hb0)
    | ((with_reducible refine gate_dst (N := 1) rfl ?_); refine box_event rfl rfl (cs := z.cells) (t := 38) (by simp [execOp, run_alloc_arr HI.out HZ.out]) ?_; intro g1 hg1 w2 hk1 hb1; have HG1 := Aside0.mk hg1; have HK1 := Aside0.mk hk1; have HB1 := Aside0.mk hb1; clear hg1 hk1 hb1))
  have HL0 : Aside0 (g0 < g1) := ⟨by have h1 := blk_lt HK0.out; have h2 := HG1.out; omega⟩
  have HW0 : Aside0 (w.heap.size ≤ g0) := ⟨by have := HG0.out; omega⟩
  have HK02 : Aside0 (w2.heap[g0]? = some (.cells z.cells 38 (0, 0))) := ⟨(HB1.out.block g0 (blk_lt HK0.out)).trans HK0.out⟩
  have HB2 : Aside0 (Below w.heap.size w w2) := ⟨below_step HB0.out HB1.out⟩
  clear HK0 HB0 HB1 HG0 HG1
  go_loopg [4] 256 (fun kq v4 w' => ∃ (x : Nat) (cs : Array Value), v4 = .int .i64 (x : Int) ∧ Aside0 (kq + x = 256) ∧ Aside0 (w'.heap[g1]? = some (.cells cs 38 (0, 0))) ∧ Aside0 (cs.size = 256) ∧ Aside0 (∀ j, j < x → cs[j]? = some (.int .u32 (tb j : Int))) ∧ Aside0 (w'.heap[g0]? = some (.cells z.cells 38 (0, 0))) ∧ Aside0 (Below w.heap.size w w'))
  case atStart => exact ⟨0, z.cells, rfl, ⟨by omega⟩, HK1, HZS, ⟨fun j hj => absurd hj (by omega)⟩, HK02, HB2⟩
  case round =>
    clear HK1 HK02 HB2
    obtain ⟨x, cs, rfl, HK, HG, HS, HT, HG0, HB⟩ := hrel
    by_cases hx : x < 256
    · have t1 : decide ((x : Int) < 256) = true := decide_eq_true (by omega)
      have t2 : decide (x < 256) = true := decide_eq_true hx
      have HX := Aside0.mk hx
      have b0 : (0 : Int) ≤ (x : Int) := by omega
      have b1 : (x : Int) ≤ 255 := by omega
      clear hx
      obtain ⟨gq, hgq⟩ : ∃ q, q = gk := ⟨_, rfl⟩
      have HGQ := Aside0.mk hgq
      clear hgq
      go_wp2
      go_loopg [3, 9] 8 (fun kq v3 v9 w' => ∃ (y c : Nat), v9 = .int .i64 (y : Int) ∧ v3 = .int .u32 (c : Int) ∧ Aside0 (kq + y = 8) ∧ Aside0 (c < 4294967296) ∧ Aside0 (stepsC (8 - y) c = tb x) ∧ Aside0 (w'.heap[g1]? = some (.cells cs 38 (0, 0))) ∧ Aside0 (w'.heap[g0]? = some (.cells z.cells 38 (0, 0))) ∧ Aside0 (Below w.heap.size w w'))
      case atStart => exact ⟨0, x, rfl, by simp, ⟨by omega⟩, ⟨by have := HX.out; omega⟩, ⟨rfl⟩, HG, HG0, HB⟩
      case round =>
        clear HG HG0 HB
        obtain ⟨y, c, rfl, rfl, HY, HC, HE, HG, HG0, HB⟩ := hrel
        by_cases hy : y < 8
        · have s1 : decide ((y : Int) < 8) = true := decide_eq_true (by omega)
          have s2 : decide (y < 8) = true := decide_eq_true hy
          have HY2 := Aside0.mk hy
          have w9 : wrap64 ((y : Int) + 1) = ((y + 1 : Nat) : Int) := by unfold wrap64; omega
          have HW9 := Aside0.mk w9
          have hstep : stepsC (8 - (y + 1)) (stepC c) = tb x := by
            rw [← HE.out, show 8 - y = (8 - (y + 1)) + 1 from by omega]
            rfl
          have HE2 := Aside0.mk hstep
          have hand := bit_and c HC.out
          by_cases hbit : c % 2 = 1
          · have s3 : (bits .and .u32 (c : Int) 1 == 1) = true := by rw [hand, hbit]; rfl
            have e3 := bit_yes c HC.out hbit
            have HL := Aside0.mk (stepC_lt HC.out)
            clear hy hstep hand hbit HE HC
            go_wp2
            go_roundg (gk - 1)
            case measure => have := HY.out; have := HY2.out; omega
            case rel => exact ⟨y + 1, stepC c, by first | (rw [w9]; done) | rfl | (rw [HW9.out]; done), rfl, ⟨by have := HY.out; have := HY2.out; omega⟩, HL, HE2, HG, HG0, HB⟩
          · have s3 : (bits .and .u32 (c : Int) 1 == 1) = false := by rw [hand, show c % 2 = 0 from by omega]; rfl
            have e3 := bit_no c hbit
            have HL := Aside0.mk (stepC_lt HC.out)
            clear hy hstep hand hbit HE HC
            go_wp2
            go_roundg (gk - 1)
            case measure => have := HY.out; have := HY2.out; omega
            case rel => exact ⟨y + 1, stepC c, by first | (rw [w9]; done) | rfl | (rw [HW9.out]; done), rfl, ⟨by have := HY.out; have := HY2.out; omega⟩, HL, HE2, HG, HG0, HB⟩
        · have s1 : decide ((y : Int) < 8) = false := decide_eq_false (by omega)
          have s2 : decide (y < 8) = false := decide_eq_false hy
          have hc8 : c = tb x := by
            have h := HE.out
            rw [show 8 - y = 0 from by omega] at h
            exact h
          subst hc8
          clear hy HE HC
          have w4 : wrap64 ((x : Int) + 1) = ((x + 1 : Nat) : Int) := by unfold wrap64; omega
          obtain ⟨u, hu⟩ : ∃ u, cs[x]? = some u := ⟨_, Array.getElem?_eq_getElem (by have := HS.out; have := HX.out; omega)⟩
          have hcell : wr.cell? ⟨g1, x, none⟩ = some u := (cell_of_row wr g1 x cs _ _ HG.out).trans hu
          have hfroz : wr.frozen? ⟨g1, x, none⟩ = false := frozen_of_row wr g1 x cs _ HG.out
          have HU := Aside0.mk hu
          clear hu
          go_wp2
          go_roundg (gq - 1)
          case measure => have := HGQ.out; have := HK.out; have := HX.out; omega
          case rel =>
            refine ⟨x + 1, cs.setIfInBounds x (.int .u32 (tb x : Int)), by first | rfl | go_num, ⟨by have := HGQ.out; have := HK.out; have := HX.out; omega⟩, ⟨heap_setCell_same wr g1 x cs _ _ HG.out⟩, ⟨by rw [Array.size_setIfInBounds]; exact HS.out⟩, ⟨?_⟩, ⟨(heap_setCell_other wr ⟨g1, x, none⟩ g0 _ (by have := HL0.out; show g0 ≠ g1; omega)).trans HG0.out⟩, ⟨HB.out.setCell (p := ⟨g1, x, none⟩) (by have := HL0.out; have := HW0.out; show w.heap.size ≤ g1; omega) _⟩⟩
            intro j hj
            rw [Array.getElem?_setIfInBounds]
            by_cases hjx : x = j
            · rw [if_pos hjx, if_pos (by have := HS.out; have := HX.out; omega), hjx]
            · rw [if_neg hjx]
              exact HT.out j (by omega)
    · have t1 : decide ((x : Int) < 256) = false := decide_eq_false (by omega)
      have t2 : decide (x < 256) = false := decide_eq_false hx
      obtain rfl : cs = T := HTO.out cs HS.out (fun j hj => HT.out j (by omega))
      clear hx
      go_wp2_with (first
        | ((with_reducible refine gate_dst (N := 24) rfl ?_); refine wpList_load_row rfl 38 (.tmp 1) rfl g1 rfl _ cs (0, 0) _ HG.out Try.underlying38 rfl HTS.out ?_)
        | ((with_reducible refine gate_store (p := 0) rfl ?_); refine wpList_store_row rfl rfl 38 (.tmp 0) (.tmp 24) rfl g0 _ z.cells cs rfl rfl HG0.out HTS.out (by rw [HTZ.out]; exact HZS.out) HT1.out ?_; intro w3 hk3 hb3 hs3 ho3; have HK3 := Aside0.mk hk3; have HB3 := Aside0.mk (HB.out.trans (hb3.mono HW0.out)); clear hk3 hb3 hs3 ho3))
      refine bodyPost_ret (results_cell_row rfl _ _ g0 _ cs (0, 0) _ rfl HK3.out Try.underlying38 rfl HTS.out) rfl ?_
      exact ⟨rfl, HB3.out⟩

theorem table_calls (w : World) : Calls Try.prog 21 #[] w fun e w' => e = .returned (.agg tab) ∧ Below w.heap.size w w' := table_any tab tab_size tab_one tab_of w

/-! ### Crc -/
theorem idx_eq (c b : Nat) (hb : b ≤ 255) : bits .xor .u8 ((c : Int) % 256) (b : Int) = ((c % 256 ^^^ b : Nat) : Int) := by
  rw [show (c : Int) % 256 = ((c % 256 : Nat) : Int) from by omega, u8_xor _ _ (by omega) (by omega) (by omega) (by omega), Int.toNat_natCast, Int.toNat_natCast]
theorem idx_lt (c b : Nat) (hb : b ≤ 255) : (c % 256 ^^^ b) < 256 := Nat.xor_lt_two_pow (n := 8) (by omega) (by omega)
theorem reg_eq (c b : Nat) (hc : c < 4294967296) (hb : b ≤ 255) : bits .xor .u32 ((tb (c % 256 ^^^ b) : Nat) : Int) ((c : Int) / 256) = ((stepsC 8 (c ^^^ b) : Nat) : Int) := by
  have h1 := tb_lt (idx_lt c b hb)
  rw [show (c : Int) / 256 = ((c / 256 : Nat) : Int) from by omega, u32_xor _ _ (by omega) (by omega) (by omega) (by omega), Int.toNat_natCast, Int.toNat_natCast, crc_step c b (by omega)]
theorem inv_eq (c : Nat) (hc : c < 4294967296) : bits .xor .u32 4294967295 (c : Int) = ((4294967295 ^^^ c : Nat) : Int) := by
  rw [u32_xor _ _ (by omega) (by omega) (by omega) (by omega), Int.toNat_natCast]
  rfl

set_option maxHeartbeats 8000000 in
set_option maxRecDepth 100000 in
theorem crc_any (T : Array Value) (hTs : T.size = 256) (hT1 : ∀ q ∈ T.toList, q.oneCell' = true) (hTg : ∀ i, i < 256 → T[i]? = some (.int .u32 (tb i : Int)))
    (hTab : ∀ W : World, Calls Try.prog 21 #[] W fun e w' => e = .returned (.agg T) ∧ Below W.heap.size W w') (s : ByteArray) (hs : s.size ≤ 9223372036854775807) (w : World) :
    Calls Try.prog 11 #[.string s] w fun e w' => e = .returned (.int .u32 ((crc s : Nat) : Int)) ∧ Below w.heap.size w w' := by
  obtain ⟨i, z, hi, hz, hzs⟩ := zeroA
  have HI := Aside0.mk hi
  have HZ := Aside0.mk hz
  have HZS := Aside0.mk hzs
  have HTS : Aside0 ((Try.prog.info? 38).map (·.size) = some T.size) := ⟨by rw [hTs]; exact sizeA⟩
  have HT1 := Aside0.mk hT1
  have HTG := Aside0.mk hTg
  have HTZ := Aside0.mk hTs
  have HTAB := Aside0.mk hTab
  have HSS := Aside0.mk hs
  clear hi hz hzs hTs hT1 hTg hTab hs
  go_enter Try.func11, Try.ntmps11
  go_wp2_with (first
    | (go_at_call 21; refine (HTAB.out _).mono ?_; rintro e w0 ⟨rfl, hb0⟩; have HB0 := Aside0.mk hb0; clear hb0)
    | ((with_reducible refine gate_dst (N := 3) rfl ?_); refine box_event rfl rfl (cs := z.cells) (t := 38) (by simp [execOp, run_alloc_arr HI.out HZ.out]) ?_; intro g hg w1 hk1 hb1; have HG := Aside0.mk hg; have HK := Aside0.mk hk1; have HB1 := Aside0.mk hb1; clear hg hk1 hb1)
    | ((with_reducible refine gate_store (p := 3) rfl ?_); refine wpList_store_row rfl rfl 38 (.tmp 3) (.tmp 6) rfl g _ z.cells T rfl rfl HK.out HTS.out (by rw [HTZ.out]; exact HZS.out) HT1.out ?_; intro w2 hk2 hb2 hs2 ho2; have HK2 := Aside0.mk hk2; have HB2 : Aside0 (Below w.heap.size w w2) := ⟨(below_step HB0.out HB1.out).trans (hb2.mono (by have := HB0.out.size; have := HG.out; omega))⟩; clear hk2 hb2 hs2 ho2))
  clear HK HB0 HB1 HG
  go_loopg [4, 9] s.size (fun kq v4 v9 w' => ∃ x : Nat, v9 = .int .i64 (x : Int) ∧ v4 = .int .u32 ((crcReg s x : Nat) : Int) ∧ Aside0 (kq + x = s.size) ∧ Aside0 (w'.heap[g]? = some (.cells T 38 (0, 0))) ∧ Aside0 (Below w.heap.size w w'))
  case atStart => exact ⟨0, rfl, rfl, ⟨by omega⟩, HK2, HB2⟩
  case round =>
    clear HK2 HB2
    obtain ⟨x, rfl, rfl, HN, HK, HB⟩ := hrel
    have HC := Aside0.mk (crcReg_lt s x)
    obtain ⟨c, hc⟩ : ∃ c, c = crcReg s x := ⟨_, rfl⟩
    have HCE := Aside0.mk hc
    rw [← hc] at HC ⊢
    clear hc
    by_cases hx : x < s.size
    · have t1 : decide ((x : Int) < (s.size : Int)) = true := decide_eq_true (by omega)
      have t2 : decide (x < s.size) = true := decide_eq_true hx
      have hb8 := nb_le s x
      have HNX : Aside0 (((stepsC 8 (c ^^^ nb s x) : Nat) : Int) = ((crcReg s (x + 1) : Nat) : Int)) := ⟨by rw [HCE.out]; rfl⟩
      have r1 := reg_eq c (nb s x) HC.out hb8
      have r2 := idx_eq c (nb s x) hb8
      have hi := idx_lt c (nb s x) hb8
      have hcell : wr.cell? ⟨g, c % 256 ^^^ nb s x, none⟩ = some (.int .u32 ((tb (c % 256 ^^^ nb s x) : Nat) : Int)) := (cell_of_row wr g _ T _ _ HK.out).trans (HTG.out _ hi)
      obtain ⟨j, hj⟩ : ∃ j, j = c % 256 ^^^ nb s x := ⟨_, rfl⟩
      rw [← hj] at r1 r2 hi hcell
      clear hj
      obtain ⟨tj, htj⟩ : ∃ t : Int, t = ((tb j : Nat) : Int) := ⟨_, rfl⟩
      rw [← htj] at r1 hcell
      clear htj
      have j0 : decide ((0 : Int) ≤ (j : Int)) = true := decide_eq_true (by omega)
      have j1 : decide ((j : Int) < 256) = true := decide_eq_true (by omega)
      have j2 : decide (j < 256) = true := decide_eq_true hi
      have hbt : ∀ h : x < s.size, ((s[x]'h).toNat : Int) = ((nb s x : Nat) : Int) := fun h => by
        have := bt_at s (x : Int) (by simpa using h)
        rw [bt_nb] at this
        exact this
      have HX := Aside0.mk hx
      have HW9 : Aside0 (wrap64 ((x : Int) + 1) = ((x + 1 : Nat) : Int)) := ⟨by have := HSS.out; unfold wrap64; omega⟩
      have w9 := HW9.out
      obtain ⟨b, hb⟩ : ∃ b : Int, b = ((nb s x : Nat) : Int) := ⟨_, rfl⟩
      rw [← hb] at r2
      have hbt' : ∀ h : x < s.size, ((s[x]'h).toNat : Int) = b := fun h => (hbt h).trans hb.symm
      clear hb hbt hb8
      go_wp2
      go_roundg (gk - 1)
      case measure => have := HN.out; have := HX.out; omega
      case rel => exact ⟨x + 1, by first | rfl | (rw [w9]; done), by first | (rw [← HNX.out]; done) | (rw [← HNX.out]; exact congrArg _ r1), ⟨by have := HN.out; have := HX.out; omega⟩, HK, HB⟩
    · have t1 : decide ((x : Int) < (s.size : Int)) = false := decide_eq_false (by omega)
      have t2 : decide (x < s.size) = false := decide_eq_false hx
      have HX : Aside0 (x = s.size) := ⟨by have := HN.out; omega⟩
      have HE : Aside0 (bits .xor .u32 IntKind.u32.max (c : Int) = ((crc s : Nat) : Int)) := ⟨by
        rw [show IntKind.u32.max = 4294967295 from rfl, inv_eq c HC.out, HCE.out, HX.out]
        rfl⟩
      clear hx
      go_wp2
      go_ret
      exact ⟨congrArg (fun v => Ending.returned (.int .u32 v)) HE.out, HB.out⟩
theorem crc_calls (s : ByteArray) (hs : s.size ≤ 9223372036854775807) (w : World) : Calls Try.prog 11 #[.string s] w fun e w' => e = .returned (.int .u32 ((crc s : Nat) : Int)) ∧ Below w.heap.size w w' :=
  crc_any tab tab_size tab_one tab_get table_calls s hs w

end Go.Proofs.Ytfmcikffoinbmaa.CrcWalk

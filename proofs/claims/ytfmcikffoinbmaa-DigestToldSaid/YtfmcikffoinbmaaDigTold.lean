/- DigestTold: a frame of which one byte of the payload or of the checksum was changed is not opened: the walk of the law by hand, over the contracts of awake, Frame and Open. -/
import Derived.Test.YtfmcikffoinbmaaDigLaws
import Derived.Test.YtfmcikffoinbmaaCrcInj
import Derived.Lib.ConvBytes
namespace Go.Proofs.Ytfmcikffoinbmaa.DigTold
open Go.RowKit Go.Proofs.YtfmcikffoinbmaaW.PrintWords Go.Proofs.YtfmcikffoinbmaaW.PrintLast Go.Proofs.YtfmcikffoinbmaaW.PrintMore Go.Proofs.Ytfmcikffoinbmaa.Q Go.Proofs.Ytfmcikffoinbmaa.Spec Go.Proofs.Ytfmcikffoinbmaa.CrcSpec Go.Proofs.Ytfmcikffoinbmaa.WireEnc Go.Proofs.Ytfmcikffoinbmaa.WireDec Go.Proofs.Ytfmcikffoinbmaa.WireMid Go.Proofs.Ytfmcikffoinbmaa.DigSums Go.Proofs.Ytfmcikffoinbmaa.DigFO Go.Proofs.Ytfmcikffoinbmaa.DigLaws Go.Proofs.Ytfmcikffoinbmaa.CrcInj
set_option linter.unusedVariables false
set_option linter.unusedSimpArgs false

/-! ### a byte put into the bytes of a string -/
def put (f : ByteArray) (i c : Nat) : ByteArray := strOfNums ((bytesOf f).set i (c : Int))
theorem bytesOf_byte (f : ByteArray) : ∀ x ∈ bytesOf f, 0 ≤ x ∧ x ≤ 255 := by
  intro x hx
  obtain ⟨b, _, rfl⟩ := List.mem_map.1 hx
  have := b.toNat_lt
  omega
theorem set_byte (f : ByteArray) (i c : Nat) (hc : c ≤ 255) : ∀ x ∈ (bytesOf f).set i (c : Int), 0 ≤ x ∧ x ≤ 255 := by
  intro x hx
  rcases List.mem_or_eq_of_mem_set hx with h | h
  · exact bytesOf_byte f x h
  · omega
theorem put_size (f : ByteArray) (i c : Nat) : (put f i c).size = f.size := by
  unfold put
  rw [strOfNums_size, List.length_set, bytesOf_length]
theorem bytesOf_getD (f : ByteArray) (j : Nat) : (bytesOf f).getD j 0 = (nb f j : Int) := by
  rw [← bt_nb, ← rd_bytesOf]
  unfold rd
  rw [Int.toNat_natCast]
theorem put_diff (f : ByteArray) (i c : Nat) (hi : i < f.size) (hc : c ≤ 255) (hne : c ≠ nb f i) : Diff f (put f i c) i := by
  have hl : ((bytesOf f).set i (c : Int)).length = f.size := by rw [List.length_set, bytesOf_length]
  refine ⟨put_size f i c, hi, ?_, ?_⟩
  · have := nb_str _ (set_byte f i c hc) i (by omega)
    rw [List.getD_eq_getElem?_getD, List.getElem?_set_self (by rw [bytesOf_length]; exact hi), Option.getD_some] at this
    unfold put
    omega
  · intro j hj
    by_cases hjl : j < f.size
    · have := nb_str _ (set_byte f i c hc) j (by omega)
      rw [List.getD_eq_getElem?_getD, List.getElem?_set_ne (by omega), ← List.getD_eq_getElem?_getD, bytesOf_getD] at this
      unfold put
      omega
    · rw [nb_beyond _ _ (by rw [put_size]; omega), nb_beyond _ _ (by omega)]

/-! ### the conversion's row -/
theorem row_cell (W : World) (f : ByteArray) (i : Nat) (hi : i < f.size) : (Lib.bytesWorld W 5 f).cell? ⟨W.heap.size, i, none⟩ = some (.int .u8 (nb f i : Int)) := by
  rw [Lib.bytesWorld_cell W _ f i hi, nb_get f i hi]
  rw [List.getD_eq_getElem?_getD, List.getElem?_eq_getElem (by rw [data_length]; exact hi), Option.getD_some]
theorem row_frozen (W : World) (f : ByteArray) (i : Nat) (hi : i < f.size) : (Lib.bytesWorld W 5 f).frozen? ⟨W.heap.size, i, none⟩ = false := by
  have hz : f.size ≤ (Lib.bytesCells W 5 f).size := by
    simp only [Lib.bytesCells, Array.size_append, Array.size_map]
    exact Nat.le_add_right _ _
  simp only [World.frozen?, Lib.bytesWorld_at_new]
  simp
  omega
theorem row_put (W : World) (f : ByteArray) (i c : Nat) (hi : i < f.size) (j : Nat) (hj : j < f.size) : ((Lib.bytesWorld W 5 f).setCell ⟨W.heap.size, i, none⟩ (.int .u8 (c : Int))).cell? ⟨W.heap.size, 0 + j, none⟩ = some (.int .u8 (((bytesOf f).set i (c : Int)).getD j 0)) := by
  rw [Nat.zero_add]
  by_cases h : i = j
  · subst h
    rw [World.cell?_setCell_same _ _ _ (row_cell W f i hi), List.getD_eq_getElem?_getD, List.getElem?_set_self (by rw [bytesOf_length]; exact hi), Option.getD_some]
  · rw [World.cell?_setCell_other _ _ _ _ (by intro he; injection he with _ ho _; exact h ho), row_cell W f j hj, List.getD_eq_getElem?_getD, List.getElem?_set_ne h, ← List.getD_eq_getElem?_getD, bytesOf_getD]
theorem row_string (W : World) (f : ByteArray) (i c n : Nat) (cp : Nat) (hi : i < f.size) : (convert 35 9 (.slice (some ⟨W.heap.size, 0, none⟩) f.size cp)).run Try.prog ((Lib.bytesWorld W 5 f).setCell ⟨W.heap.size, i, none⟩ (.int .u8 (c : Int))) = .ok (.string (put f i c)) ((Lib.bytesWorld W 5 f).setCell ⟨W.heap.size, i, none⟩ (.int .u8 (c : Int))) :=
  run_convert_bytes_arg _ 35 5 Try.underlying35 Try.underlying5 W.heap.size 0 f.size cp ((bytesOf f).set i (c : Int)) (by rw [List.length_set, bytesOf_length]) (fun j hj => row_put W f i c hi j hj) 9 Try.underlying9

/-! ### the walk -/
theorem walk_big (s : ByteArray) (x c : Int) (w : World) (h : 3000 < s.size) :
    Calls Try.prog 7 #[.string s, .int .u16 x, .int .u8 c] w fun e w' => e = .returned (.bool true) ∧ Below w.heap.size w w' := by
  have A3 := Aside0.mk (awake_ok 24 (Nat.le_refl _))
  have HB := Aside0.mk (Below.refl w.heap.size w)
  have c0 : decide (3000 < (s.size : Int)) = true := decide_eq_true (by omega)
  have c1 : decide (3000 < s.size) = true := decide_eq_true h
  clear h
  go_enter Try.func7, Try.ntmps7
  go_wp2_with (first | (go_at_call 10; (with_reducible refine (imageeditorlaw05_awake.calls 24 true _ A3.out).mono ?_); rintro e w8 ⟨rfl, hb⟩; have n0_ := Aside0.mk (below_step (by repeat (first | (with_reducible first | exact HB.out | apply below_alloc | apply pw_below_drewN | apply below_drew1) | exact HB.out)) hb); clear HB; have HB := n0_; clear n0_; clear hb))
  go_ret
  exact ⟨rfl, HB.out⟩

theorem td (a b : Nat) : Int.tmod (a : Int) (b : Int) = ((a % b : Nat) : Int) := rfl
theorem numb (n fz x i E m f1 q : Nat) (h : n ≤ 3000) (hx : x ≤ 65535) (hz : fz = E + (n + 4)) (hE : 1 ≤ E) (hE2 : E ≤ 10) (hm : n + 4 = m) (hf1 : fz - 1 = f1) (hq : x % m = q) (hi : i = f1 - q) :
    (wrap64 ((n : Int) + 4) = (m : Int)) ∧ (decide ((fz : Int) < (m : Int)) = false) ∧ (wrap64 ((fz : Int) - 1) = (f1 : Int)) ∧ (wrap64 (x : Int) = (x : Int)) ∧ (Int.tmod (x : Int) (m : Int) = (q : Int)) ∧ (wrap64 (q : Int) = (q : Int)) ∧ (wrap64 ((f1 : Int) - (q : Int)) = (i : Int)) ∧ i < fz ∧ E ≤ i := by
  have hqm : q < m := by rw [← hq]; exact Nat.mod_lt _ (by omega)
  refine ⟨?_, decide_eq_false (by omega), ?_, wrap_id _ (by omega) (by omega), ?_, wrap_id _ (by omega) (by omega), ?_, by omega, by omega⟩
  · rw [wrap_id _ (by omega) (by omega)]; omega
  · rw [wrap_id _ (by omega) (by omega)]; omega
  · rw [td, hq]
  · rw [wrap_id _ (by omega) (by omega)]; omega
theorem wrap8 (c : Nat) : IntKind.u8.wrap ((c : Int) + 1) = (((c + 1) % 256 : Nat) : Int) := by rw [IntKind.wrap_u8]; omega
theorem mod8 (c : Nat) : ((c : Int) + 1) % 256 = (((c + 1) % 256 : Nat) : Int) := by omega
theorem walk_small (s f : ByteArray) (x c c2 i E : Nat) (w : World) (h : s.size ≤ 3000) (hx : x ≤ 65535) (hc : c ≤ 255) (hf : frame s = (f, 0)) (hz : f.size = E + (s.size + 4)) (hE : 1 ≤ E) (hE2 : E ≤ 10) (hi : i = f.size - 1 - x % (s.size + 4))
    (h2 : c2 = if nb f i = c then (c + 1) % 256 else c) (ho : openS (put f i c2) = (ByteArray.empty, 0, 7)) :
    Calls Try.prog 7 #[.string s, .int .u16 (x : Int), .int .u8 (c : Int)] w fun e w' => e = .returned (.bool true) ∧ Below w.heap.size w w' := by
  obtain ⟨m, hmm⟩ : ∃ m, s.size + 4 = m := ⟨_, rfl⟩
  obtain ⟨f1, hf1⟩ : ∃ f1, f.size - 1 = f1 := ⟨_, rfl⟩
  obtain ⟨q, hq⟩ : ∃ q, x % m = q := ⟨_, rfl⟩
  have hA3 := awake_ok 24 (Nat.le_refl _)
  have hA5 : digest_Frame.f 20 s = some (f, 0) := by rw [frame_eq s 20 (by omega) (by omega), hf]
  have hA7 : digest_Open.f 20 (put f i c2) = some ((⟨#[]⟩ : ByteArray), 0, 7) := by rw [open_eq _ 20 (by rw [put_size]; omega) (by omega), ho]; rfl
  have c0 : decide (3000 < (s.size : Int)) = false := decide_eq_false (by omega)
  have c1 : decide (3000 < s.size) = false := decide_eq_false (by omega)
  have z1 : ((m : Int) == 0) = false := beq_eq_false_iff_ne.2 (by omega)
  have z2 : ((m : Int) = 0) = False := eq_false (by omega)
  have z3 : (m = 0) = False := eq_false (by omega)
  have z4 : (m == 0) = false := beq_eq_false_iff_ne.2 (by omega)
  rw [hmm, hq, hf1] at hi
  obtain ⟨w1, d1, w2, w3, t1, w4, w5, hil, _⟩ := numb s.size f.size x i E m f1 q h hx hz hE hE2 hmm hf1 hq hi
  have i1 : ((i : Int) < (f.size : Int)) = True := eq_true (Int.ofNat_lt.2 hil)
  have i2 : (i < f.size) = True := eq_true hil
  have d1' : decide (f.size < m) = false := by rw [← d1]; exact decide_eq_decide.2 Int.ofNat_lt.symm
  have w1' : IntKind.i64.wrap ((s.size : Int) + 4) = (m : Int) := (i64_w _).trans w1
  have w2' : IntKind.i64.wrap ((f.size : Int) - 1) = (f1 : Int) := (i64_w _).trans w2
  have w3' : IntKind.i64.wrap (x : Int) = (x : Int) := (i64_w _).trans w3
  have w4' : IntKind.i64.wrap (q : Int) = (q : Int) := (i64_w _).trans w4
  have w5' : IntKind.i64.wrap ((f1 : Int) - (q : Int)) = (i : Int) := (i64_w _).trans w5
  have A3 := Aside0.mk hA3
  have A5 := Aside0.mk hA5
  have A7 := Aside0.mk hA7
  clear hA3 hA5 hA7 ho hf hz hE hE2 hi hmm hf1 hq h hx hc
  have HB := Aside0.mk (Below.refl w.heap.size w)
  have kb := fun W => print_bytes (P := Try.prog) 9 35 5 Try.underlying9 Try.underlying35 Try.underlying5 f W
  have kc := fun W => row_cell W f i hil
  have kf := fun W => row_frozen W f i hil
  have ks := fun (W : World) (cp : Nat) => row_string W f i c2 0 cp hil
  have KI : Aside0 (i < f.size) := ⟨hil⟩
  by_cases hcc : nb f i = c
  · have e1 : ((nb f i : Int) == (c : Int)) = true := by rw [hcc, beq_self_eq_true]
    have e2 : IntKind.u8.wrap ((c : Int) + 1) = (c2 : Int) := by rw [wrap8, h2, if_pos hcc]
    have e3 : ((c : Int) + 1) % 256 = (c2 : Int) := by rw [mod8, h2, if_pos hcc]
    clear h2 hcc hil
    go_enter Try.func7, Try.ntmps7
    go_wp2_with (first | (go_at_call 10; (with_reducible refine (imageeditorlaw05_awake.calls 24 true _ A3.out).mono ?_); rintro e w8 ⟨rfl, hb⟩; have n0_ := Aside0.mk (below_step HB.out hb); clear HB; have HB := n0_; clear n0_; clear hb) | (go_at_call 17; (with_reducible refine (digest_Frame.calls 20 s f 0 _ A5.out).mono ?_); rintro e w9 ⟨rfl, hb⟩; have n0_ := Aside0.mk (below_step HB.out hb); clear HB; have HB := n0_; clear n0_; clear hb) | (go_at_call 19; (with_reducible refine (digest_Open.calls 20 (put f i c2) (⟨#[]⟩ : ByteArray) 0 7 _ A7.out).mono ?_); rintro e w10 ⟨rfl, hb⟩; have n0_ := Aside0.mk (below_step (below_set (bytes_below HB.out HB.out.size 5 f) HB.out.size) hb); clear HB; have HB := n0_; clear n0_; clear hb))
    go_ret
    exact ⟨rfl, HB.out⟩
  · have e1 : ((nb f i : Int) == (c : Int)) = false := beq_eq_false_iff_ne.2 (fun h => hcc (Int.ofNat.inj h))
    obtain rfl : c2 = c := by rw [h2, if_neg hcc]
    clear h2 hcc hil
    go_enter Try.func7, Try.ntmps7
    go_wp2_with (first | (go_at_call 10; (with_reducible refine (imageeditorlaw05_awake.calls 24 true _ A3.out).mono ?_); rintro e w8 ⟨rfl, hb⟩; have n0_ := Aside0.mk (below_step HB.out hb); clear HB; have HB := n0_; clear n0_; clear hb) | (go_at_call 17; (with_reducible refine (digest_Frame.calls 20 s f 0 _ A5.out).mono ?_); rintro e w9 ⟨rfl, hb⟩; have n0_ := Aside0.mk (below_step HB.out hb); clear HB; have HB := n0_; clear n0_; clear hb) | (go_at_call 19; (with_reducible refine (digest_Open.calls 20 (put f i c2) (⟨#[]⟩ : ByteArray) 0 7 _ A7.out).mono ?_); rintro e w10 ⟨rfl, hb⟩; have n0_ := Aside0.mk (below_step (below_set (bytes_below HB.out HB.out.size 5 f) HB.out.size) hb); clear HB; have HB := n0_; clear n0_; clear hb))
    go_ret
    exact ⟨rfl, HB.out⟩

theorem told (s : ByteArray) (x c : Nat) (w : World) (hx : x ≤ 65535) (hc : c ≤ 255) :
    Calls Try.prog 7 #[.string s, .int .u16 (x : Int), .int .u8 (c : Int)] w fun e w' => e = .returned (.bool true) ∧ Below w.heap.size w w' := by
  by_cases h : 3000 < s.size
  · exact walk_big s x c w h
  · have hf : frame s = (body s ++ le4 (crc (body s)), 0) := by unfold frame; rw [if_neg (by omega)]
    have hb : (body s).size = (encS s.size).size + s.size := by unfold body; rw [size_app]
    have h1 : 1 ≤ (encS s.size).size := by rw [encS_size]; exact enc_pos _
    have h2 := encS_le s.size (by omega)
    have hz : (body s ++ le4 (crc (body s))).size = (encS s.size).size + (s.size + 4) := by rw [size_app, le4_size, hb]; omega
    have hq : x % (s.size + 4) < s.size + 4 := Nat.mod_lt _ (by omega)
    have hf1 : (frame s).1 = body s ++ le4 (crc (body s)) := by rw [hf]
    rw [← hf1] at hz
    have hff : frame s = ((frame s).1, 0) := by rw [hf]
    obtain ⟨f, hfe⟩ : ∃ f, (frame s).1 = f := ⟨_, rfl⟩
    obtain ⟨i, hi⟩ : ∃ i, f.size - 1 - x % (s.size + 4) = i := ⟨_, rfl⟩
    obtain ⟨c2, hc2⟩ : ∃ c2, (if nb f i = c then (c + 1) % 256 else c) = c2 := ⟨_, rfl⟩
    have hc2b : c2 ≤ 255 := by
      rw [← hc2]
      split <;> omega
    have hc2n : c2 ≠ nb f i := by
      rw [← hc2]
      split <;> omega
    have hd := put_diff f i c2 (by rw [hfe] at hz; omega) hc2b hc2n
    rw [← hfe] at hd
    have ho := open_diff s (put (frame s).1 i c2) ByteArray.empty i (by omega) (by rw [hfe] at hz; omega) hd
    rw [app_empty] at ho
    rw [hfe] at hff ho hz
    exact walk_small s f x c c2 i _ w (by omega) hx hc hff hz h1 h2 hi.symm hc2.symm ho

end Go.Proofs.Ytfmcikffoinbmaa.DigTold

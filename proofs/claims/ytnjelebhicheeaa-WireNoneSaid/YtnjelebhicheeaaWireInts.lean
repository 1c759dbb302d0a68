/- wire.Ints: the contract. For a list of at most 2^44 numbers of 64 bits: the call returns the encoding of the document, and writes nothing that was there. -/
import Derived.Test.YtnjelebhicheeaaWireB
namespace Go.Proofs.Ytnjelebhicheeaa.WireInts
open Go.RowKit Go.Proofs.YtnjelebhicheeaaW.PrintWords Go.Proofs.YtnjelebhicheeaaW.PrintLast Go.Proofs.YtnjelebhicheeaaW.PrintMore Go.Proofs.Ytnjelebhicheeaa.Q Go.Proofs.Ytnjelebhicheeaa.Spec Go.Proofs.Ytnjelebhicheeaa.WireEnc Go.Proofs.Ytnjelebhicheeaa.WireB
set_option linter.unusedVariables false
set_option linter.unusedSimpArgs false

theorem at_below {T e : TypeId} {B b : Nat} {p : Value} {bs : List Value} {w w' : World} (h : Lib.BuilderAt T e B b p bs w) (hb : Below w.heap.size w w') : Lib.BuilderAt T e B b p bs w' := by
  have hlt := h.lt
  obtain ⟨hB, v, hk, hown, hne⟩ := h
  exact ⟨hB, v, (hb.block b hlt).trans hk, pw_own_below hown hb, hne⟩
theorem is_below {T e : TypeId} {B b : Nat} {bs : List Value} {w w' : World} (h : Lib.IsBuilder T e B b bs w) (hb : Below w.heap.size w w') : Lib.IsBuilder T e B b bs w' := by
  rcases h with h | h
  · exact .inl (at_below h hb)
  · exact .inr (at_below h hb)
theorem str_cells_app (a b : ByteArray) : Lib.strCells (a ++ b) = Lib.strCells a ++ Lib.strCells b := by
  unfold Lib.strCells
  rw [data_app, List.map_append]
theorem str_cells_bytes (s : ByteArray) : Lib.strCells s = Lib.byteCells s.data.toList := rfl
theorem mk_data (s : ByteArray) : (⟨s.data.toList.toArray⟩ : ByteArray) = s := by cases s; rfl
theorem mk_app (a b : ByteArray) : (⟨(a.data.toList ++ b.data.toList).toArray⟩ : ByteArray) = a ++ b := by rw [← data_app, mk_data]
theorem encZ_snoc (l : List Int) (x : Nat) (hx : x < l.length) : encZ (l.take (x + 1)) = encZ (l.take x) ++ encS (zig (rd l (x : Int))) := by
  rw [List.take_succ_eq_append_getElem hx, encZ_app, encZ, encZ, app_empty]
  congr 3
  unfold rd
  rw [Int.toNat_natCast, List.getD_eq_getElem?_getD, List.getElem?_eq_getElem hx, Option.getD_some]
theorem rd_mem (l : List Int) (x : Nat) (hx : x < l.length) : rd l (x : Int) ∈ l := by
  unfold rd
  rw [Int.toNat_natCast, List.getD_eq_getElem?_getD, List.getElem?_eq_getElem hx, Option.getD_some]
  exact List.getElem_mem hx

set_option maxHeartbeats 8000000 in
set_option maxRecDepth 100000 in
theorem calls (A0 : Option Addr) (c0 : Nat) (l : List Int) (w : World) (hr0 : Kd.C (Kd.int .i64) w A0 l.length l) (hc0 : l.length ≤ c0) (hlen : l.length ≤ 17592186044416) (hf : Fits l) :
    Calls Try.prog 15 #[.slice A0 l.length c0] w fun e w' => e = .returned (.string (encS l.length ++ encZ l)) ∧ Below w.heap.size w w' := by
  have HR0 := Aside0.mk hr0
  have HLEN := Aside0.mk hlen
  have HF := Aside0.mk hf
  have HU : Aside0 (wire_Uint.f 10 (IntKind.u64.wrap ((l.length : Int))) = some (encS l.length)) := ⟨by
    rw [wrap_u64, show (l.length : Int) % 18446744073709551616 = (l.length : Int) from by omega]
    exact wire_Uint_eq _ 10 (by omega) (by omega)⟩
  have HSZ : Aside0 ((encS l.length).size ≤ 10) := ⟨encS_le _ (by omega)⟩
  clear hr0 hc0 hlen hf
  go_enter Try.func15, Try.ntmps15
  go_wp2_with (first
    | (go_at_call 9; (with_reducible refine (wire_Uint.calls 10 _ _ _ HU.out).mono ?_); rintro e w1 ⟨rfl, hb1⟩; have HB1 := Aside0.mk hb1; clear hb1)
    | (go_at_call 32; refine (writeString w.heap.size w.heap.size [] (encS l.length) w1 (is_below (Lib.fresh_isBuilder 59 5 w) HB1.out) (by have := HSZ.out; simp only [List.length_nil]; omega) (by have := HB1.out.size; simp at this; omega)).mono ?_; rintro e w2 ⟨rfl, hbd2, hb2⟩; have HBD2 := Aside0.mk hbd2; have HB2 := Aside0.mk (((below_alloc (Below.refl _ _) _).trans (HB1.out.mono (by simp))).trans hb2); clear hbd2 hb2))
  go_loopg [13] l.length (fun kq v13 w' => ∃ x : Nat, v13 = .int .i64 (x : Int) ∧ Aside0 (kq + x = l.length) ∧ Aside0 (Lib.BuilderAt 59 5 w.heap.size w.heap.size (.pointer (some ⟨w.heap.size, 0, none⟩)) (Lib.strCells (encS l.length ++ encZ (l.take x))) w') ∧ Aside0 (Below w.heap.size w w'))
  case atStart => exact ⟨0, rfl, ⟨by omega⟩, ⟨by rw [List.take_zero, encZ, app_empty]; exact HBD2.out⟩, HB2⟩
  case round =>
    clear HBD2 HB2 HB1
    obtain ⟨x, rfl, HK, HBD, HB⟩ := hrel
    by_cases hx : x < l.length
    · have p0 : (0 : Int) ≤ (x : Int) := by omega
      have q0 : (x : Int) < (l.length : Int) := by omega
      obtain ⟨ad, e0, hx0⟩ := Kd.at_int HR0.out (x : Int) p0 q0
      cases e0
      replace hx0 := (HB.out.cell (World.block_lt_of_cell? w _ hx0)).trans hx0
      rw [Int.toNat_natCast] at hx0
      have hr := HF.out _ (rd_mem l x hx)
      have HI : Aside0 (wire_Int.f 10 (rd l (x : Int)) = some (encS (zig (rd l (x : Int))))) := ⟨wire_Int_eq _ 10 hr.1 hr.2 (by omega)⟩
      have HZ : Aside0 ((encS (zig (rd l (x : Int)))).size ≤ 10) := ⟨encS_le _ (zig_lt _ hr.1 hr.2)⟩
      have HN : Aside0 ((encS l.length ++ encZ (l.take x)).size ≤ 175921860444200) := ⟨by
        have h1 := encZ_le (l.take x) (fun y hy => HF.out y (List.mem_of_mem_take hy))
        have h2 : (l.take x).length ≤ l.length := by rw [List.length_take]; omega
        have h3 := HLEN.out
        have h4 := HSZ.out
        rw [size_app]
        omega⟩
      have HS := Aside0.mk (encZ_snoc l x hx)
      have HX := Aside0.mk hx
      have t1 : decide ((x : Int) < (l.length : Int)) = true := decide_eq_true q0
      have t2 : decide (x < l.length) = true := decide_eq_true hx
      have w1_ : wrap64 ((x : Int) + 1) = ((x + 1 : Nat) : Int) := by have := HLEN.out; unfold wrap64; omega
      have pw := eq_true p0
      have qw := eq_true q0
      clear hr hx p0 q0
      go_wp2_with (first
        | (go_at_call 11; (with_reducible refine (wire_Int.calls 10 _ _ _ HI.out).mono ?_); rintro e w3 ⟨rfl, hb3⟩; have HB3 := Aside0.mk hb3; clear hb3)
        | (go_at_call 32; refine (writeString w.heap.size w.heap.size (Lib.strCells (encS l.length ++ encZ (l.take x))) (encS (zig (rd l (x : Int)))) w3 (.inr (at_below HBD.out HB3.out)) (by have := HZ.out; have := HN.out; rw [Lib.strCells_length]; omega) (by have := HB3.out.size; have := HB.out.size; omega)).mono ?_; rintro e w4 ⟨rfl, hbd4, hb4⟩; have HBD4 := Aside0.mk hbd4; have HB4 := Aside0.mk ((below_step HB.out HB3.out).trans hb4); clear hbd4 hb4))
      go_roundg (gk - 1)
      case measure => have := HK.out; have := HX.out; omega
      case rel => exact ⟨x + 1, by first | rfl | (simp [*]; done), ⟨by have := HK.out; have := HX.out; omega⟩, ⟨by rw [HS.out, ← app_assoc, str_cells_app]; exact HBD4.out⟩, HB4⟩
    · have t1 : decide ((x : Int) < (l.length : Int)) = false := decide_eq_false (by omega)
      have t2 : decide (x < l.length) = false := decide_eq_false hx
      have HT := Aside0.mk (List.take_of_length_le (l := l) (i := x) (by omega))
      have HP : Aside0 ((encS l.length ++ encZ l).data.toList ≠ []) := ⟨fun h => by
        have h1 := congrArg List.length h
        rw [data_length, size_app, encS_size] at h1
        have := enc_pos l.length
        rw [List.length_nil] at h1
        omega⟩
      clear hx
      go_wp2_with (go_at_call 33; refine (string_ w.heap.size w.heap.size (encS l.length ++ encZ l).data.toList _ (.inr (by have h := HBD.out; rw [HT.out, str_cells_bytes] at h; exact h)) HP.out).mono ?_; rintro e w5 ⟨rfl, hb5⟩)
      go_ret
      exact ⟨congrArg (fun s => Ending.returned (.string s)) (mk_app _ _), HB.out.trans hb5⟩

end Go.Proofs.Ytnjelebhicheeaa.WireInts

/- A list of records that came in, as the printed walks read it. -/
import Derived.Test.YtnppfhjfnjinlaaRowKit
import Derived.Test.YtnppfhjfnjinlaaQx0
import Derived.Deep.Strs
namespace Go.Proofs.Ytnppfhjfnjinlaa.RowRecs
open Go.ChangeShapes Go.WideShapes Go.ChangeAt Go.RowKit Go.Joins
open Go.ChangeMaps (open_string shut_string)
open Go.Proofs.YtnppfhjfnjinlaaW.PrintWords Go.Proofs.Ytnppfhjfnjinlaa.Q
set_option linter.unusedVariables false
set_option linter.unusedSimpArgs false

abbrev Rc := S23
theorem cellsR : Try.prog.cellsOf 23 = 3 := by kernel_rfl
theorem cellsI : Try.prog.cellsOf 3 = 1 := by kernel_rfl
theorem cellsS : Try.prog.cellsOf 9 = 1 := by kernel_rfl
theorem bytesR : Try.prog.bytesOf 23 = 32 := by kernel_rfl
theorem weightsAll_mem {H : Type} {P : Program} {e : TypeId} : ∀ {l : List (DataW H)} {d : DataW H}, d ∈ l → ∀ n ∈ d.weights P e, n ∈ DataW.weightsAll P e l
  | d0 :: l, d, hd, n, hn => by
    simp only [DataW.weightsAll, List.mem_append]
    rcases List.mem_cons.1 hd with rfl | h
    · exact .inl hn
    · exact .inr (weightsAll_mem h n hn)

/-- one record -/
theorem rec_of {H : Type} {enc : TypeId × Value → H} {W : World} {base : Nat} {spare : Nat → Bool} {held : Bool} {fuel : Nat} {cs : List Value} {y : DataW H × List MemPlace}
    (h : DataW.trod enc Try.prog W base spare held fuel 23 cs = some y) (hw : ∀ n ∈ DataW.weights Try.prog 23 y.1, n ≤ reachBytes) :
    ∃ x : Rc, cs = [.int .i64 x.f0, .int .i64 x.f1, .string x.f2] ∧ (Lit.int .i64 x.f0).wf = true ∧ (Lit.int .i64 x.f1).wf = true ∧ x.f2.size ≤ 140737488351232 := by
  obtain ⟨y0, y1, y2, n, rfl, hl, h0, h1, h2⟩ := Go.Deep.trod_struct3 Try.underlying23 h
  rw [cellsR] at hl
  match cs, hl with
  | [c0, c1, c2], _ =>
    have h0' : DataW.trod enc Try.prog W base spare held n 3 [c0] = some y0 := h0
    have h1' : DataW.trod enc Try.prog W base spare held n 3 [c1] = some y1 := h1
    have h2' : DataW.trod enc Try.prog W base spare held n 9 [c2] = some y2 := h2
    obtain ⟨a0, e0, e0', wf0⟩ := DataW.trod_int Try.underlying3 h0'
    obtain ⟨a1, e1, e1', wf1⟩ := DataW.trod_int Try.underlying3 h1'
    obtain ⟨a2, e2, e2', wf2⟩ := DataW.trod_string Try.underlying9 h2'
    simp only [List.cons.injEq, and_true] at e0 e1 e2
    subst e0 e1 e2
    refine ⟨⟨a0, a1, a2⟩, rfl, wf0, wf1, ?_⟩
    have := hw a2.data.toList.length (by
      simp only [DataW.weights, Try.underlying23]
      subst e2'
      simp [DataW.weightsEach, DataW.weights])
    rw [Array.length_toList] at this
    exact this

theorem recs_of {H : Type} {enc : TypeId × Value → H} {W : World} {base : Nat} {spare : Nat → Bool} {held : Bool} {fuel : Nat} {v : Value} {y : DataW H × List MemPlace}
    (h : DataW.trod enc Try.prog W base spare held fuel 28 [v] = some y) (hw : ∀ n ∈ DataW.weights Try.prog 28 y.1, n ≤ reachBytes) :
    ∃ (A : Option Addr) (c : Nat) (l : List Rc), v = .slice A l.length c ∧ Kd.C k23 W A l.length l ∧ l.length ≤ c ∧ l.length ≤ 4398046511104 ∧
      ∀ x ∈ l, (Lit.int .i64 x.f0).wf = true ∧ (Lit.int .i64 x.f1).wf = true ∧ x.f2.size ≤ 140737488351232 := by
  rcases DataW.trod_slice Try.underlying28 h with ⟨hc, _⟩ | ⟨a, len, cap, elems, rest, n, _, hc, rfl, hb, hl, hm, hlen, hel, _, _⟩
  · simp only [List.cons.injEq, and_true] at hc
    subst hc
    exact ⟨none, 0, [], rfl, ⟨rfl, by simp, fun h => absurd h (by simp)⟩, by simp, by simp, fun x hx => absurd hx (by simp)⟩
  · simp only [List.cons.injEq, and_true] at hc
    subst hc
    have hweigh : ∀ n ∈ DataW.weights Try.prog 28 (DataW.slice (elems.map (·.1)) (rest.map (·.1))), n ≤ reachBytes := hw
    simp only [DataW.weights, Try.underlying28, List.mem_cons, List.mem_append] at hweigh
    have hbytes := hweigh _ (.inl rfl)
    rw [bytesR, List.length_map, List.length_map, hlen] at hbytes
    have hrb : reachBytes = 140737488351232 := rfl
    have each : ∀ i, i < len → ∃ x : Rc, (∀ j u, [Value.int .i64 x.f0, Value.int .i64 x.f1, Value.string x.f2][j]? = some u → W.cell? (a.add (i * 3 + j)) = some u) ∧ (Lit.int .i64 x.f0).wf = true ∧ (Lit.int .i64 x.f1).wf = true ∧ x.f2.size ≤ 140737488351232 := by
      intro i hi
      have h1 := hel i hi
      rw [cellsR, List.getElem?_eq_getElem (by omega), Option.bind_eq_some_iff] at h1
      obtain ⟨cs, hcs, ht⟩ := h1
      obtain ⟨x, rfl, w0, w1, w2⟩ := rec_of ht (fun n hn => hweigh n (.inr (.inl (weightsAll_mem (List.mem_map_of_mem (List.getElem_mem _)) n hn))))
      obtain ⟨_, _, hcell⟩ := World.cells?_some hcs
      refine ⟨x, fun j u hj => ?_, w0, w1, w2⟩
      have hj3 : j < 3 := (List.getElem?_eq_some_iff.1 hj).1
      have := hcell j hj3
      rw [hj] at this
      rw [← this]
      congr 1
      unfold Addr.add
      by_cases hj0 : j = 0 <;> by_cases hi0 : i * 3 = 0 <;> simp [hj0, hi0, Nat.add_assoc]
    let f : Nat → Rc := fun i => if hi : i < len then Classical.choose (each i hi) else z23
    have hf : ∀ i (hi : i < len), (∀ j u, [Value.int .i64 (f i).f0, Value.int .i64 (f i).f1, Value.string (f i).f2][j]? = some u → W.cell? (a.add (i * 3 + j)) = some u) ∧ (Lit.int .i64 (f i).f0).wf = true ∧ (Lit.int .i64 (f i).f1).wf = true ∧ (f i).f2.size ≤ 140737488351232 := by
      intro i hi
      have e : f i = Classical.choose (each i hi) := dif_pos hi
      rw [e]
      exact Classical.choose_spec (each i hi)
    have hlen' : ((List.range len).map f).length = len := by simp
    refine ⟨some a, cap, (List.range len).map f, by rw [hlen'], ⟨rfl, by rw [hlen']; simp only [maxLen] at hm; omega, fun _ => ⟨a, rfl, fun j p hj => ?_⟩⟩, by rw [hlen']; exact hl, by rw [hlen']; omega, fun x hx => ?_⟩
    · have hj' : j < len := by have := (List.getElem?_eq_some_iff.1 hj).1; rw [hlen'] at this; exact this
      have hp : f j = p := by simpa [hj'] using hj
      subst hp
      exact ⟨_, rfl, k23_mk W (f j), (hf j hj').1⟩
    · obtain ⟨i, hi, rfl⟩ := List.mem_map.1 hx
      have hi' : i < len := by simpa using hi
      exact (hf i hi').2

end Go.Proofs.Ytnppfhjfnjinlaa.RowRecs

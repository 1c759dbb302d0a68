/- A list of steps that came in, as the printed walks read it. -/
import Derived.Test.YtnjelebhicheeaaRowKit
import Derived.Test.YtnjelebhicheeaaQx0
import Derived.Deep.Strs
namespace Go.Proofs.Ytnjelebhicheeaa.RowSteps
open Go.ChangeShapes Go.WideShapes Go.ChangeAt Go.RowKit Go.Joins
open Go.ChangeMaps (open_string shut_string)
open Go.Proofs.YtnjelebhicheeaaW.PrintWords Go.Proofs.Ytnjelebhicheeaa.Q
set_option linter.unusedVariables false
set_option linter.unusedSimpArgs false

abbrev St := S49
theorem cellsP : Try.prog.cellsOf 49 = 2 := by kernel_rfl
theorem cellsI : Try.prog.cellsOf 3 = 1 := by kernel_rfl
theorem bytesP : Try.prog.bytesOf 49 = 16 := by kernel_rfl
theorem weightsAll_mem {H : Type} {P : Program} {e : TypeId} : ∀ {l : List (DataW H)} {d : DataW H}, d ∈ l → ∀ n ∈ d.weights P e, n ∈ DataW.weightsAll P e l
  | d0 :: l, d, hd, n, hn => by
    simp only [DataW.weightsAll, List.mem_append]
    rcases List.mem_cons.1 hd with rfl | h
    · exact .inl hn
    · exact .inr (weightsAll_mem h n hn)

/-- one step -/
theorem step_of {H : Type} {enc : TypeId × Value → H} {W : World} {base : Nat} {spare : Nat → Bool} {held : Bool} {fuel : Nat} {cs : List Value} {y : DataW H × List MemPlace}
    (h : DataW.trod enc Try.prog W base spare held fuel 49 cs = some y) :
    ∃ x : St, cs = [.int .i64 x.f0, .int .i64 x.f1] ∧ (Lit.int .i64 x.f0).wf = true ∧ (Lit.int .i64 x.f1).wf = true := by
  obtain ⟨y0, y1, n, rfl, hl, h0, h1⟩ := Go.ChangeShapes.trod_struct2 Try.underlying49 h
  rw [cellsP] at hl
  match cs, hl with
  | [c0, c1], _ =>
    have h0' : DataW.trod enc Try.prog W base spare held n 3 [c0] = some y0 := h0
    have h1' : DataW.trod enc Try.prog W base spare held n 3 [c1] = some y1 := h1
    obtain ⟨a0, e0, e0', wf0⟩ := DataW.trod_int Try.underlying3 h0'
    obtain ⟨a1, e1, e1', wf1⟩ := DataW.trod_int Try.underlying3 h1'
    simp only [List.cons.injEq, and_true] at e0 e1
    subst e0 e1
    exact ⟨⟨a0, a1⟩, rfl, wf0, wf1⟩

/-- how long a list may be: by its weight, or by the reading's bulk -/
theorem len_weight {H : Type} {d : DataW H} (hw : ∀ n ∈ DataW.weights Try.prog 44 d, n ≤ reachBytes) : ∀ es rs, d = DataW.slice es rs → es.length ≤ 8796093022208 := by
  rintro es rs rfl
  simp only [DataW.weights, Try.underlying44, List.mem_cons, List.mem_append] at hw
  have hbytes := hw _ (.inl rfl)
  rw [bytesP] at hbytes
  have hrb : reachBytes = 140737488351232 := rfl
  omega
theorem steps_of {H : Type} {enc : TypeId × Value → H} {W : World} {base : Nat} {spare : Nat → Bool} {held : Bool} {fuel : Nat} {v : Value} {y : DataW H × List MemPlace}
    (h : DataW.trod enc Try.prog W base spare held fuel 44 [v] = some y) (hw : ∀ es rs, y.1 = DataW.slice es rs → es.length ≤ 8796093022208) :
    ∃ (A : Option Addr) (c : Nat) (l : List St), v = .slice A l.length c ∧ Kd.C k49 W A l.length l ∧ l.length ≤ c ∧ l.length ≤ 8796093022208 ∧
      ∀ x ∈ l, (Lit.int .i64 x.f0).wf = true ∧ (Lit.int .i64 x.f1).wf = true := by
  rcases DataW.trod_slice Try.underlying44 h with ⟨hc, _⟩ | ⟨a, len, cap, elems, rest, n, _, hc, rfl, hb, hl, hm, hlen, hel, _, _⟩
  · simp only [List.cons.injEq, and_true] at hc
    subst hc
    exact ⟨none, 0, [], rfl, ⟨rfl, by simp, fun h => absurd h (by simp)⟩, by simp, by simp, fun x hx => absurd hx (by simp)⟩
  · simp only [List.cons.injEq, and_true] at hc
    subst hc
    have hbytes := hw _ _ rfl
    rw [List.length_map, hlen] at hbytes
    have each : ∀ i, i < len → ∃ x : St, (∀ j u, [Value.int .i64 x.f0, Value.int .i64 x.f1][j]? = some u → W.cell? (a.add (i * 2 + j)) = some u) ∧ (Lit.int .i64 x.f0).wf = true ∧ (Lit.int .i64 x.f1).wf = true := by
      intro i hi
      have h1 := hel i hi
      rw [cellsP, List.getElem?_eq_getElem (by omega), Option.bind_eq_some_iff] at h1
      obtain ⟨cs, hcs, ht⟩ := h1
      obtain ⟨x, rfl, w0, w1⟩ := step_of ht
      obtain ⟨_, _, hcell⟩ := World.cells?_some hcs
      refine ⟨x, fun j u hj => ?_, w0, w1⟩
      have hj3 : j < 2 := (List.getElem?_eq_some_iff.1 hj).1
      have := hcell j hj3
      rw [hj] at this
      rw [← this]
      congr 1
      unfold Addr.add
      by_cases hj0 : j = 0 <;> by_cases hi0 : i * 2 = 0 <;> simp [hj0, hi0, Nat.add_assoc]
    let f : Nat → St := fun i => if hi : i < len then Classical.choose (each i hi) else z49
    have hf : ∀ i (hi : i < len), (∀ j u, [Value.int .i64 (f i).f0, Value.int .i64 (f i).f1][j]? = some u → W.cell? (a.add (i * 2 + j)) = some u) ∧ (Lit.int .i64 (f i).f0).wf = true ∧ (Lit.int .i64 (f i).f1).wf = true := by
      intro i hi
      have e : f i = Classical.choose (each i hi) := dif_pos hi
      rw [e]
      exact Classical.choose_spec (each i hi)
    have hlen' : ((List.range len).map f).length = len := by simp
    refine ⟨some a, cap, (List.range len).map f, by rw [hlen'], ⟨rfl, by rw [hlen']; simp only [maxLen] at hm; omega, fun _ => ⟨a, rfl, fun j p hj => ?_⟩⟩, by rw [hlen']; exact hl, by rw [hlen']; omega, fun x hx => ?_⟩
    · have hj' : j < len := by have := (List.getElem?_eq_some_iff.1 hj).1; rw [hlen'] at this; exact this
      have hp : f j = p := by simpa [hj'] using hj
      subst hp
      exact ⟨_, rfl, k49_mk W (f j), (hf j hj').1⟩
    · obtain ⟨i, hi, rfl⟩ := List.mem_map.1 hx
      have hi' : i < len := by simpa using hi
      exact (hf i hi').2

end Go.Proofs.Ytnjelebhicheeaa.RowSteps

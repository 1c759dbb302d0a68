/- A cell that is set stays a cell: a simp law for the walks that store twice into one cell of a record. -/
import Derived.Laws.Entries
namespace Go.Proofs.Ytnppfhjfnjinlaa.SetCell
open Go
@[go_sem] theorem isSome_setCell (w : World) (a b : Addr) (v : Value) : ((w.setCell a v).cell? b).isSome = (w.cell? b).isSome := by
  by_cases h : a = b
  · subst h
    cases hc : w.cell? a with
    | some u => rw [World.cell?_setCell_same w a v hc]; rfl
    | none =>
      simp only [World.cell?, World.setCell, Array.getElem?_modify, ↓reduceIte] at hc ⊢
      cases hh : w.heap[a.block]? with
      | none => simp
      | some o =>
        rw [hh] at hc
        cases o <;> simp_all
  · rw [World.cell?_setCell_other (h := h)]
end Go.Proofs.Ytnppfhjfnjinlaa.SetCell

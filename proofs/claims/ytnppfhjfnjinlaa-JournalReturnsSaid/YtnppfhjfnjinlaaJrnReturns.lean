/- JournalReturns, the plain law: a journal that was written is read. -/
import Derived.Test.YtnppfhjfnjinlaaJrnW
import Derived.Test.YtnppfhjfnjinlaaQx7
namespace Go.Proofs.Ytnppfhjfnjinlaa.JrnReturns
open Go.RowKit Go.Proofs.YtnppfhjfnjinlaaW.PrintWords Go.Proofs.YtnppfhjfnjinlaaW.PrintLast Go.Proofs.YtnppfhjfnjinlaaW.PrintMore Go.Proofs.Ytnppfhjfnjinlaa.Q Go.Proofs.Ytnppfhjfnjinlaa.JrnP Go.Proofs.Ytnppfhjfnjinlaa.JrnW
set_option linter.unusedVariables false
set_option linter.unusedSimpArgs false

theorem law (g : Int) (L : List Rc) (hL : L.length ≤ 4398046511104) (hd : ∀ x ∈ L, x.f2.size ≤ 140737488351232) : imageeditorlaw44_JournalReturns.f (L.length + 100) g L = some true := by
  unfold imageeditorlaw44_JournalReturns.f
  rcases write_eq g L (L.length + 100) (by omega) (fun x hx => by have := hd x hx; omega) (by omega) with hw | ⟨xs, hg, hn, hl, hw⟩
  · rw [hw, Option.bind_some]
    simp only
    rw [if_pos (by rfl), example_ok _ (by omega), Option.bind_some]
  · rw [hw, Option.bind_some]
    simp only
    rw [if_neg (by rw [List.length_cons]; omega), scan_whole g xs _ hg hn (by omega), Option.bind_some]
    simp only
    rw [if_pos trivial, same_eq xs _ (by omega) (by omega), Option.bind_some, if_pos rfl, if_pos trivial, if_pos trivial, whole_ok g xs _ hg hn (by omega), Option.bind_some, if_pos rfl, example_ok _ (by omega), Option.bind_some]

end Go.Proofs.Ytnppfhjfnjinlaa.JrnReturns

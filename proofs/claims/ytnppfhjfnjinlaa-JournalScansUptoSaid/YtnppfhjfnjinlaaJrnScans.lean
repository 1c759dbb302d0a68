/- JournalScans, the plain law (inputs of at most 1048576 bytes): the program's Scan is the reference's. -/
import Derived.Test.YtnppfhjfnjinlaaJrnRS
import Derived.Test.YtnppfhjfnjinlaaQx13
namespace Go.Proofs.Ytnppfhjfnjinlaa.JrnScans
open Go.RowKit Go.Proofs.YtnppfhjfnjinlaaW.PrintWords Go.Proofs.YtnppfhjfnjinlaaW.PrintLast Go.Proofs.YtnppfhjfnjinlaaW.PrintMore Go.Proofs.Ytnppfhjfnjinlaa.Q Go.Proofs.Ytnppfhjfnjinlaa.JrnP Go.Proofs.Ytnppfhjfnjinlaa.JrnX Go.Proofs.Ytnppfhjfnjinlaa.JrnRS
set_option linter.unusedVariables false
set_option linter.unusedSimpArgs false

theorem law (s : ByteArray) (hs : s.size ≤ 1048576) : imageeditorlaw44_JournalScans.f (s.size + 10490100) s = some true := by
  have hl := scanS_len s
  unfold imageeditorlaw44_JournalScans.f
  rw [scan_f s _ hs (by omega), Option.bind_some, rscan_f s _ hs (by omega), Option.bind_some, if_pos rfl, same_eq _ _ (by omega) (by omega), Option.bind_some, if_pos rfl, if_pos rfl, if_pos rfl]
  have hw : journal_Whole.f (s.size + 10490100) s = some ((scanS s).2.2.2 == 0) := by
    unfold journal_Whole.f
    rw [scan_f s _ hs (by omega), Option.bind_some]
  rw [hw, Option.bind_some, if_pos (by rw [beq_self_eq_true]), example_ok _ (by omega), Option.bind_some]

end Go.Proofs.Ytnppfhjfnjinlaa.JrnScans

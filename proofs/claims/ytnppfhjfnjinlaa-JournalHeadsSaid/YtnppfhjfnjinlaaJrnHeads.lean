/- JournalHeads, the plain law: the program's Head and Encode are the reference's. -/
import Derived.Test.YtnppfhjfnjinlaaJrnRE
import Derived.Test.YtnppfhjfnjinlaaQx11
namespace Go.Proofs.Ytnppfhjfnjinlaa.JrnHeads
open Go.RowKit Go.Proofs.YtnppfhjfnjinlaaW.PrintWords Go.Proofs.YtnppfhjfnjinlaaW.PrintLast Go.Proofs.YtnppfhjfnjinlaaW.PrintMore Go.Proofs.Ytnppfhjfnjinlaa.Q Go.Proofs.Ytnppfhjfnjinlaa.JrnP Go.Proofs.Ytnppfhjfnjinlaa.JrnX Go.Proofs.Ytnppfhjfnjinlaa.JrnRE
set_option linter.unusedVariables false
set_option linter.unusedSimpArgs false

theorem law (g kind seq : Int) (d : ByteArray) (hb : -9223372036854775808 ≤ kind ∧ kind ≤ 9223372036854775807) (hd : d.size ≤ 140737488351232) : imageeditorlaw44_JournalHeads.f (10 * d.size + 700) g kind seq d = some true := by
  unfold imageeditorlaw44_JournalHeads.f
  rw [head_eq g _ (by omega), Option.bind_some, rhead_eq g _ (by omega), Option.bind_some, encode_eq _ _ _ _ (by omega) (by omega), Option.bind_some, rencode_eq _ _ _ _ hb (by omega) (by omega), Option.bind_some, if_pos rfl, if_pos rfl, if_pos rfl, if_pos rfl, example_ok _ (by omega), Option.bind_some]

end Go.Proofs.Ytnppfhjfnjinlaa.JrnHeads

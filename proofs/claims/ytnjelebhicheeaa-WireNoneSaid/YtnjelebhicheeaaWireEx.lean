/- The examples of the chapter hold: the statements' own 'example' answers true. -/
import Derived.Test.YtnjelebhicheeaaWireDec
import Derived.Test.YtnjelebhicheeaaQx4
import Derived.KernelRfl
namespace Go.Proofs.Ytnjelebhicheeaa.WireEx
open Go.RowKit Go.Proofs.YtnjelebhicheeaaW.PrintWords Go.Proofs.YtnjelebhicheeaaW.PrintLast Go.Proofs.YtnjelebhicheeaaW.PrintMore Go.Proofs.Ytnjelebhicheeaa.Q Go.Proofs.Ytnjelebhicheeaa.Spec Go.Proofs.Ytnjelebhicheeaa.WireEnc Go.Proofs.Ytnjelebhicheeaa.WireDec
set_option linter.unusedVariables false
set_option linter.unusedSimpArgs false

theorem ints_eq (l : List Int) (h1 : l.length ≤ 17592186044416) (h2 : Fits l) : wire_Ints.f l = some (encS l.length ++ encZ l) := by
  unfold wire_Ints.f
  rw [if_pos ⟨h1, by
    rw [List.all_eq_true]
    intro x hx
    have := h2 x hx
    simpa using this⟩]
theorem ints_one : wire_Ints.f [1, -1] = some (⟨#[2, 2, 1]⟩ : ByteArray) := by
  rw [ints_eq _ (by decide) (by
    intro x hx
    simp at hx
    omega)]
  have e1 : encS 2 = (⟨#[2]⟩ : ByteArray) := by unfold encS; rw [enc_small (by omega)]; rfl
  have e2 : encS 1 = (⟨#[1]⟩ : ByteArray) := by unfold encS; rw [enc_small (by omega)]; rfl
  have e3 : zig 1 = 2 := rfl
  have e4 : zig (-1) = 1 := rfl
  simp only [encZ, List.length_cons, List.length_nil, Nat.zero_add, Nat.reduceAdd, e3, e4, e1, e2]
  rfl
theorem j1_ok : imageeditorlaw04_example.j1 20 false = some true := by
  simp only [imageeditorlaw04_example.j1]
  rw [if_neg (by decide), show wire_Uint.f 19 300 = some (⟨#[172, 2]⟩ : ByteArray) from by kernel_rfl, Option.bind_some, if_pos (by rw [toList_eq]),
    show wire_Int.f 19 (-2) = some (⟨#[3]⟩ : ByteArray) from by kernel_rfl, Option.bind_some, if_pos (by rw [toList_eq]),
    show wire_Text.f 19 (⟨#[97, 98]⟩ : ByteArray) = some (⟨#[2, 97, 98]⟩ : ByteArray) from by kernel_rfl, Option.bind_some, if_pos (by rw [toList_eq]), ints_one, Option.bind_some]
  rw [toList_eq]
  rfl
theorem j0_ok : imageeditorlaw04_example.j0 21 false = some true := by
  simp only [imageeditorlaw04_example.j0]
  rw [if_neg (by decide), show wire_New.f (⟨#[5, 97]⟩ : ByteArray) = some ((⟨#[5, 97]⟩ : ByteArray), 0, 0, true) from rfl, Option.bind_some]
  simp only
  rw [show wire_Reader_Text.f 20 (⟨#[5, 97]⟩ : ByteArray) 0 0 true 4 = some ((⟨#[]⟩ : ByteArray), (⟨#[5, 97]⟩ : ByteArray), 1, 3, true) from by kernel_rfl, Option.bind_some]
  simp only
  rw [if_pos (by rw [toList_eq]), show wire_Reader_Err.f (⟨#[5, 97]⟩ : ByteArray) 1 3 true = some (3, (⟨#[5, 97]⟩ : ByteArray), 1, 3, true) from by kernel_rfl, Option.bind_some]
  simp only
  rw [if_pos trivial, show wire_Reader_Left.f (⟨#[5, 97]⟩ : ByteArray) 1 3 true = some (0, (⟨#[5, 97]⟩ : ByteArray), 1, 3, true) from by kernel_rfl, Option.bind_some]
  simp only
  rw [if_pos trivial, show wire_Reader_Uint.f 20 (⟨#[5, 97]⟩ : ByteArray) 1 3 true = some (0, (⟨#[5, 97]⟩ : ByteArray), 1, 3, true) from by kernel_rfl, Option.bind_some]
  exact j1_ok
theorem example_21 : imageeditorlaw04_example.f 21 = some true := by
  unfold imageeditorlaw04_example.f
  rw [show wire_New.f (⟨#[172, 2, 0]⟩ : ByteArray) = some ((⟨#[172, 2, 0]⟩ : ByteArray), 0, 0, true) from rfl, Option.bind_some]
  simp only
  rw [show wire_Reader_Uint.f 21 (⟨#[172, 2, 0]⟩ : ByteArray) 0 0 true = some (300, (⟨#[172, 2, 0]⟩ : ByteArray), 2, 0, true) from by kernel_rfl, Option.bind_some]
  simp only
  rw [if_pos trivial, show wire_Reader_Left.f (⟨#[172, 2, 0]⟩ : ByteArray) 2 0 true = some (1, (⟨#[172, 2, 0]⟩ : ByteArray), 2, 0, true) from by kernel_rfl, Option.bind_some]
  simp only
  rw [if_pos trivial, show wire_Reader_Int.f 21 (⟨#[172, 2, 0]⟩ : ByteArray) 2 0 true = some (0, (⟨#[172, 2, 0]⟩ : ByteArray), 3, 0, true) from by kernel_rfl, Option.bind_some]
  simp only
  rw [if_pos trivial, show wire_Reader_End.f (⟨#[172, 2, 0]⟩ : ByteArray) 3 0 true = some (0, (⟨#[172, 2, 0]⟩ : ByteArray), 3, 0, true) from by kernel_rfl, Option.bind_some]
  exact j0_ok
theorem example_ok (k : Nat) (hk : 21 ≤ k) : imageeditorlaw04_example.f k = some true := at_rounds imageeditorlaw04_example.mono hk example_21

end Go.Proofs.Ytnjelebhicheeaa.WireEx

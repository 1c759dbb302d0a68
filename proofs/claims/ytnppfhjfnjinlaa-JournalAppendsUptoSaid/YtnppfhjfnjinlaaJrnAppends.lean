/- JournalAppends, the plain law (inputs of at most 1048576 bytes): the program's Append is the reference's. -/
import Derived.Test.YtnppfhjfnjinlaaJrnRS
import Derived.Test.YtnppfhjfnjinlaaJrnRE
import Derived.Test.YtnppfhjfnjinlaaQx14
namespace Go.Proofs.Ytnppfhjfnjinlaa.JrnAppends
open Go.RowKit Go.Proofs.YtnppfhjfnjinlaaW.PrintWords Go.Proofs.YtnppfhjfnjinlaaW.PrintLast Go.Proofs.YtnppfhjfnjinlaaW.PrintMore Go.Proofs.Ytnppfhjfnjinlaa.Q Go.Proofs.Ytnppfhjfnjinlaa.Spec Go.Proofs.Ytnppfhjfnjinlaa.WireDec Go.Proofs.Ytnppfhjfnjinlaa.JrnP Go.Proofs.Ytnppfhjfnjinlaa.JrnX
set_option linter.unusedVariables false
set_option linter.unusedSimpArgs false

/-- what Append answers -/
def appendS (j : ByteArray) (kind seq : Int) (d : ByteArray) : ByteArray × Int :=
  if (JrnRS.scanS j).2.2.2 = 0 then
    (if seq = (((JrnRS.scanS j).2.1.length + 1 : Nat) : Int) then
      (if (encode kind seq d).2 = 0 then (if j.size + (encode kind seq d).1.size > 1048576 then (ByteArray.empty, 22) else (j ++ (encode kind seq d).1, 0)) else (ByteArray.empty, (encode kind seq d).2))
    else (ByteArray.empty, 24))
  else (ByteArray.empty, (JrnRS.scanS j).2.2.2)
theorem enc_small_ (kind seq : Int) (d : ByteArray) : (encode kind seq d).2 = 0 → (encode kind seq d).1.size ≤ 1048590 := fun h => (encode_ok kind seq d h).2.2.2.2.1
theorem append_f (j : ByteArray) (kind seq : Int) (d : ByteArray) (k : Nat) (hj : j.size ≤ 1048576) (hd : d.size ≤ 1048576) (hs : -9223372036854775808 ≤ seq ∧ seq ≤ 9223372036854775807) (hk : j.size + 100 ≤ k) :
    journal_Append.f k j kind seq d = some (appendS j kind seq d) := by
  have hl := JrnRS.scanS_len j
  obtain ⟨k, rfl⟩ : ∃ m, k = m + 1 := ⟨k - 1, by omega⟩
  have hsc := JrnRS.scan_f j (k + 1) hj (by omega)
  have he := enc_small_ kind seq d
  unfold journal_Append.f appendS
  rw [hsc, Option.bind_some]
  generalize JrnRS.scanS j = sc at hl ⊢
  by_cases h0 : sc.2.2.2 = 0
  · rw [if_pos h0, if_pos h0]
    simp only [journal_Append.j0]
    by_cases hq : seq = ((sc.2.1.length + 1 : Nat) : Int)
    · rw [if_pos (by rw [wrap_id _ (by omega) (by omega)]; omega), if_pos hq, if_neg (by simp only [decide_eq_true_eq]; omega), encode_eq _ _ _ _ (by omega) (by omega), Option.bind_some]
      by_cases he0 : (encode kind seq d).2 = 0
      · have hez := he he0
        rw [if_pos he0, if_pos he0, wrap_id _ (by omega) (by omega)]
        by_cases hz : j.size + (encode kind seq d).1.size > 1048576
        · rw [if_pos (by omega), if_pos hz]
          rfl
        · rw [if_neg (by omega), if_neg hz, if_pos (by omega)]
      · rw [if_neg he0, if_neg he0]
        rfl
    · rw [if_neg hq]
      by_cases hw : (sc.2.1.length : Int) = wrap64 (seq - 1)
      · have hlo : seq < 1 := by
          by_cases hm : seq = -9223372036854775808
          · omega
          · rw [wrap_id _ (by omega) (by omega)] at hw
            omega
        rw [if_pos hw, if_pos (decide_eq_true hlo)]
        rfl
      · rw [if_neg hw, if_pos trivial]
        rfl
  · rw [if_neg h0, if_neg h0]
    rfl
theorem rappend_f (j : ByteArray) (kind seq : Int) (d : ByteArray) (k : Nat) (hj : j.size ≤ 1048576) (hd : d.size ≤ 1048576) (hb : -9223372036854775808 ≤ kind ∧ kind ≤ 9223372036854775807) (hk : 11540000 ≤ k) :
    imageeditorref44_Append.f k j kind seq d = some (appendS j kind seq d) := by
  have hl := JrnRS.scanS_len j
  have hsc := JrnRS.rscan_f j k hj (by omega)
  have he := enc_small_ kind seq d
  unfold imageeditorref44_Append.f appendS
  rw [hsc, Option.bind_some]
  generalize JrnRS.scanS j = sc at hl ⊢
  by_cases h0 : sc.2.2.2 = 0
  · rw [if_pos h0, if_pos h0, wrap_id _ (by omega) (by omega)]
    by_cases hq : seq = ((sc.2.1.length + 1 : Nat) : Int)
    · rw [if_pos (by omega), if_pos hq, JrnRE.rencode_eq _ _ _ _ hb (by omega) (by omega), Option.bind_some]
      by_cases he0 : (encode kind seq d).2 = 0
      · have hez := he he0
        rw [if_pos he0, if_pos he0, wrap_id _ (by omega) (by omega)]
        by_cases hz : j.size + (encode kind seq d).1.size > 1048576
        · rw [if_pos (by omega), if_pos hz]
          rfl
        · rw [if_neg (by omega), if_neg hz, if_pos (by omega)]
      · rw [if_neg he0, if_neg he0]
        rfl
    · rw [if_neg (by omega), if_neg hq]
      rfl
  · rw [if_neg h0, if_neg h0]
    rfl

theorem law (j : ByteArray) (kind seq : Int) (d : ByteArray) (hj : j.size ≤ 1048576) (hd : d.size ≤ 1048576) (hb : -9223372036854775808 ≤ kind ∧ kind ≤ 9223372036854775807) (hs : -9223372036854775808 ≤ seq ∧ seq ≤ 9223372036854775807) :
    imageeditorlaw44_JournalAppends.f 11540000 j kind seq d = some true := by
  unfold imageeditorlaw44_JournalAppends.f
  rw [append_f j kind seq d _ hj hd hs (by omega), Option.bind_some, rappend_f j kind seq d _ hj hd hb (by omega), Option.bind_some, if_pos rfl, if_pos rfl, example_ok _ (by omega), Option.bind_some]

end Go.Proofs.Ytnppfhjfnjinlaa.JrnAppends

/- Frame and Open of the digest, the program's part (for seats without the reference): as plain functions; a frame is opened again, and a cut one is short. -/
import Derived.Test.YtnppfhjfnjinlaaCrcSpec
import Derived.Test.YtnppfhjfnjinlaaWireMid
import Derived.Test.YtnppfhjfnjinlaaQx4
import Derived.Test.YtnppfhjfnjinlaaQx5
namespace Go.Proofs.Ytnppfhjfnjinlaa.DigP
open Go.RowKit Go.Proofs.YtnppfhjfnjinlaaW.PrintWords Go.Proofs.YtnppfhjfnjinlaaW.PrintLast Go.Proofs.YtnppfhjfnjinlaaW.PrintMore Go.Proofs.Ytnppfhjfnjinlaa.Q Go.Proofs.Ytnppfhjfnjinlaa.Spec Go.Proofs.Ytnppfhjfnjinlaa.CrcSpec Go.Proofs.Ytnppfhjfnjinlaa.WireEnc Go.Proofs.Ytnppfhjfnjinlaa.WireDec Go.Proofs.Ytnppfhjfnjinlaa.WireMid
set_option linter.unusedVariables false
set_option linter.unusedSimpArgs false

/-! ### four bytes -/
def le4 (c : Nat) : ByteArray := strOfNums [((c % 256 : Nat) : Int), ((c / 256 % 256 : Nat) : Int), ((c / 65536 % 256 : Nat) : Int), ((c / 16777216 % 256 : Nat) : Int)]
theorem le4_size (c : Nat) : (le4 c).size = 4 := strOfNums_size _
theorem tail_eq (c : Nat) : digest_tail.f (c : Int) = some (le4 c) := by
  unfold digest_tail.f le4
  rw [show (c : Int) % 256 = ((c % 256 : Nat) : Int) from by omega, show (c : Int) / 256 % 256 = ((c / 256 % 256 : Nat) : Int) from by omega, show (c : Int) / 65536 % 256 = ((c / 65536 % 256 : Nat) : Int) from by omega, show (c : Int) / 16777216 % 256 = ((c / 16777216 % 256 : Nat) : Int) from by omega]
/-! ### Frame -/
def body (s : ByteArray) : ByteArray := encS s.size ++ s
def frame (s : ByteArray) : ByteArray × Int := if 1048576 < s.size then (ByteArray.empty, 3) else (body s ++ le4 (crc (body s)), 0)
theorem body_le (s : ByteArray) (h : s.size < 18446744073709551616) : (body s).size ≤ s.size + 10 := by
  have := encS_le s.size h
  unfold body
  rw [size_app]
  omega
theorem crcf_eq (s : ByteArray) (h : s.size ≤ 9223372036854775807) : digest_Crc.f s = some ((crc s : Nat) : Int) := by
  unfold digest_Crc.f
  rw [if_pos h]
theorem frame_eq (s : ByteArray) (k : Nat) (hs : s.size ≤ 9223372036854775797) (hk : 10 ≤ k) : digest_Frame.f k s = some (frame s) := by
  unfold digest_Frame.f frame
  by_cases h : 1048576 < s.size
  · rw [if_pos (by omega), if_pos h]
    rfl
  · have hb := body_le s (by omega)
    rw [if_neg (by omega), if_neg h, wire_Text_eq s k hs hk, Option.bind_some]
    show (digest_Crc.f (body s)).bind _ = _
    rw [crcf_eq _ (by omega), Option.bind_some, tail_eq, Option.bind_some]
    rw [if_pos (by rw [le4_size]; show (body s).size + 4 ≤ _; omega)]
    rfl
/-! ### Open -/
def openS (s : ByteArray) : ByteArray × Int × Int :=
  match dec s 0 0 0 with
  | .bad b => (ByteArray.empty, 0, b)
  | .ok n u => if 1048576 < n then (ByteArray.empty, 0, 3) else if s.size < u + n + 4 then (ByteArray.empty, 0, 5)
    else if s.extract (u + n) (u + n + 4) = le4 (crc (s.extract 0 (u + n))) then (s.extract u (u + n), ((u + n + 4 : Nat) : Int), 0) else (ByteArray.empty, 0, 7)
theorem open_eq (s : ByteArray) (k : Nat) (hs : s.size ≤ 4611686018427387000) (hk : 20 ≤ k) : digest_Open.f k s = some (openS s) := by
  unfold digest_Open.f
  rw [new_eq, Option.bind_some]
  simp only
  rw [text_eq s 0 k 0 true 1048576 hs (by omega) (by omega) hk, Option.bind_some]
  simp only
  rw [err_eq, Option.bind_some]
  simp only
  unfold openS rT rC rU
  rw [if_pos good0]
  cases hd : dec s 0 0 0 with
  | bad b =>
    have hb : ¬ b = 0 := by rcases dec_bad s 0 _ 0 0 b rfl hd with h | h <;> omega
    simp only
    rw [if_neg (good_ne hb)]
    simp only
    rw [if_neg (good_ne hb)]
    unfold rErr
    simp only [if_true]
    rw [if_neg hb]
    rfl
  | ok n u =>
    obtain ⟨q, h1, h2, h3, h4, h5, h6⟩ := dec_ok s 0 _ 0 0 n u rfl (by omega) (by simp) hd
    rw [Nat.zero_add] at h4
    have hm : mx 1048576 0 = 1048576 := by unfold mx; simp
    simp only [Nat.zero_add]
    rw [if_pos good0, hm]
    by_cases hn : 1048576 < n
    · have hN : (n : Int) > 1048576 := by omega
      rw [if_pos hn, if_pos hN]
      simp only
      rw [if_neg (good_ne (by omega))]
      unfold rErr
      simp only [if_true]
      rw [if_neg (by omega)]
      rfl
    · have hN : ¬ (n : Int) > 1048576 := by omega
      rw [if_neg hn, if_neg hN]
      simp only
      rw [if_pos good0]
      by_cases hl : s.size < u + n
      · have hl4 : s.size < u + n + 4 := by omega
        rw [if_pos hl, if_pos hl4]
        unfold rErr
        simp only [if_true]
        rw [if_neg (by omega)]
        rfl
      · rw [if_neg hl]
        unfold rErr
        simp only [if_true]
        rw [left_eq s (u + n) 0 true (by omega) (by omega), Option.bind_some]
        simp only
        unfold rLeft
        rw [if_pos good0]
        by_cases hf : s.size < u + n + 4
        · rw [if_pos (by omega), if_pos hf]
          rfl
        · rw [if_neg (by omega), if_neg hf]
          have e1 : wrap64 ((s.size : Int) - ((s.size : Int) - ((u + n : Nat) : Int))) = ((u + n : Nat) : Int) := by rw [wrap_id _ (by omega) (by omega)]; omega
          have e2 : wrap64 (((u + n : Nat) : Int) + 4) = ((u + n + 4 : Nat) : Int) := by rw [wrap_id _ (by omega) (by omega)]; omega
          rw [e1, e2, if_pos (by omega), if_pos (by omega), if_pos (by omega), if_pos (by omega), Int.toNat_natCast, Int.toNat_natCast]
          rw [crcf_eq _ (by rw [size_ext _ _ _ (by omega)]; omega), Option.bind_some, tail_eq, Option.bind_some]
          by_cases hx : s.extract (u + n) (u + n + 4) = le4 (crc (s.extract 0 (u + n)))
          · rw [if_pos (toList_inj.2 hx), if_pos hx]
          · rw [if_neg (fun h => hx (toList_inj.1 h)), if_neg hx]
            rfl

/-- a frame, and any bytes behind it -/
theorem open_frame (s c : ByteArray) (h : s.size ≤ 1048576) : openS ((frame s).1 ++ c) = (s, (((frame s).1.size : Nat) : Int), 0) := by
  have hf : frame s = (body s ++ le4 (crc (body s)), 0) := by unfold frame; rw [if_neg (by omega)]
  rw [hf]
  simp only
  have hb : (body s).size = (encS s.size).size + s.size := by unfold body; rw [size_app]
  have hd : dec (body s ++ le4 (crc (body s)) ++ c) 0 0 0 = .ok s.size (encS s.size).size := by
    have := dec_mid ByteArray.empty (s ++ (le4 (crc (body s)) ++ c)) s.size (by omega)
    rw [empty_app] at this
    unfold body at this ⊢
    rw [app_assoc, app_assoc]
    exact this
  have hz : (body s ++ le4 (crc (body s)) ++ c).size = (body s).size + 4 + c.size := by rw [size_app, size_app, le4_size]
  unfold openS
  rw [hd]
  simp only
  rw [if_neg (by omega), if_neg (by omega), ← hb]
  have x1 : (body s ++ le4 (crc (body s)) ++ c).extract 0 (body s).size = body s := by rw [app_assoc]; exact ext_front _ _
  have x2 : (body s ++ le4 (crc (body s)) ++ c).extract (body s).size ((body s).size + 4) = le4 (crc (body s)) := by
    have := ext_mid (body s) (le4 (crc (body s))) c _ rfl
    rw [le4_size] at this
    rw [app_assoc]
    exact this
  have x3 : (body s ++ le4 (crc (body s)) ++ c).extract (encS s.size).size (body s).size = s := by
    have := ext_mid (encS s.size) s (le4 (crc (body s)) ++ c) _ rfl
    rw [← app_assoc, ← hb, ← app_assoc] at this
    exact this
  rw [x1, x2, x3, if_pos rfl]
  congr 2
  rw [size_app, le4_size]
theorem open_empty : openS ByteArray.empty = (ByteArray.empty, 0, 5) := by
  unfold openS
  rw [dec_end (by show ¬ 0 + 0 < 0; omega)]

end Go.Proofs.Ytnppfhjfnjinlaa.DigP

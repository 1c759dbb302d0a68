/- Frame and Open of the digest, as the printed functions have them: the program's and the reference's are the same plain functions. -/
import Derived.Test.YtfmcikffoinbmaaDigSums
import Derived.Test.YtfmcikffoinbmaaWireMid
import Derived.Test.YtfmcikffoinbmaaQx5
import Derived.Test.YtfmcikffoinbmaaQx6
import Derived.Test.YtfmcikffoinbmaaQx7
namespace Go.Proofs.Ytfmcikffoinbmaa.DigFO
open Go.RowKit Go.Proofs.YtfmcikffoinbmaaW.PrintWords Go.Proofs.YtfmcikffoinbmaaW.PrintLast Go.Proofs.YtfmcikffoinbmaaW.PrintMore Go.Proofs.Ytfmcikffoinbmaa.Q Go.Proofs.Ytfmcikffoinbmaa.Spec Go.Proofs.Ytfmcikffoinbmaa.CrcSpec Go.Proofs.Ytfmcikffoinbmaa.WireEnc Go.Proofs.Ytfmcikffoinbmaa.WireDec Go.Proofs.Ytfmcikffoinbmaa.WireMid
set_option linter.unusedVariables false
set_option linter.unusedSimpArgs false

/-! ### four bytes -/
def le4 (c : Nat) : ByteArray := strOfNums [((c % 256 : Nat) : Int), ((c / 256 % 256 : Nat) : Int), ((c / 65536 % 256 : Nat) : Int), ((c / 16777216 % 256 : Nat) : Int)]
theorem le4_size (c : Nat) : (le4 c).size = 4 := strOfNums_size _
theorem tail_eq (c : Nat) : digest_tail.f (c : Int) = some (le4 c) := by
  unfold digest_tail.f le4
  rw [show (c : Int) % 256 = ((c % 256 : Nat) : Int) from by omega, show (c : Int) / 256 % 256 = ((c / 256 % 256 : Nat) : Int) from by omega, show (c : Int) / 65536 % 256 = ((c / 65536 % 256 : Nat) : Int) from by omega, show (c : Int) / 16777216 % 256 = ((c / 16777216 % 256 : Nat) : Int) from by omega]
theorem td (a b : Nat) : Int.tdiv (a : Int) (b : Int) = ((a / b : Nat) : Int) := rfl
theorem tm (a b : Nat) : Int.tmod (a : Int) (b : Int) = ((a % b : Nat) : Int) := rfl
theorem four_eq (c k : Nat) (hc : c < 4294967296) (hk : 5 ≤ k) : imageeditorref05_four.f k (c : Int) = some (le4 c) := by
  obtain ⟨k, rfl⟩ : ∃ m, k = m + 5 := ⟨k - 5, by omega⟩
  have e : ∀ a : Nat, Int.tdiv (a : Int) 256 = ((a / 256 : Nat) : Int) := fun a => td a 256
  have f : ∀ a : Nat, Int.tmod (a : Int) 256 = ((a % 256 : Nat) : Int) := fun a => tm a 256
  have g : ∀ a : Nat, a < 4294967296 → ((a : Nat) : Int) % 4294967296 = (a : Int) := fun a h => by omega
  have i : ∀ a : Nat, ((a % 256 : Nat) : Int) % 256 = ((a % 256 : Nat) : Int) := fun a => by omega
  unfold imageeditorref05_four.f
  simp only [imageeditorref05_four.l0]
  rw [if_pos (by omega), if_pos (by simp), e, g _ (by omega), f, i, wrap_id (0 + 1) (by omega) (by omega), if_pos (by omega), if_pos (by simp), e, g _ (by omega), f, i, wrap_id (0 + 1 + 1) (by omega) (by omega), if_pos (by omega), if_pos (by simp), e, g _ (by omega), f, i, wrap_id (0 + 1 + 1 + 1) (by omega) (by omega), if_pos (by omega), if_pos (by simp), f, i, wrap_id (0 + 1 + 1 + 1 + 1) (by omega) (by omega), if_neg (by omega)]
  unfold le4
  rw [show c / 256 / 256 = c / 65536 from by omega, show c / 65536 / 256 = c / 16777216 from by omega]
  rfl

/-! ### the length -/
theorem len_l0 (d : Nat) : ∀ (n k : Nat) (acc : List Int), n < 128 ^ (d + 1) → n ≤ 9223372036854775807 → d < k → acc.length + d < 140737488355328 →
    imageeditorref05_length.l0 k (n : Int) acc = some (strOfNums (acc ++ enc n)) := by
  have e : ∀ a : Nat, Int.tdiv (a : Int) 128 = ((a / 128 : Nat) : Int) := fun a => td a 128
  have f : ∀ a : Nat, Int.tmod (a : Int) 128 = ((a % 128 : Nat) : Int) := fun a => tm a 128
  induction d with
  | zero =>
    intro n k acc hn hn2 hk ha
    obtain ⟨k, rfl⟩ : ∃ m, k = m + 1 := ⟨k - 1, by omega⟩
    have h : n < 128 := by simpa using hn
    simp only [imageeditorref05_length.l0]
    rw [if_neg (by omega), if_pos (by omega), enc_small h]
    congr 4
    omega
  | succ d ih =>
    intro n k acc hn hn2 hk ha
    obtain ⟨k, rfl⟩ : ∃ m, k = m + 1 := ⟨k - 1, by omega⟩
    simp only [imageeditorref05_length.l0]
    by_cases h : n < 128
    · rw [if_neg (by omega), if_pos (by omega), enc_small h]
      congr 4
      omega
    · rw [if_pos (by omega), if_pos (by omega), e, f, wrap_id _ (by omega) (by omega), wrap_id _ (by omega) (by omega), show (((n % 128 : Nat) : Int) + 128) % 256 = ((n % 128 + 128 : Nat) : Int) from by omega]
      rw [ih (n / 128) k _ (by rw [Nat.div_lt_iff_lt_mul (by decide)]; rw [Nat.pow_succ] at hn; exact hn) (by omega) (by omega) (by rw [List.length_append, List.length_singleton]; omega), enc_big h, List.append_assoc, List.singleton_append]
theorem length_eq (n k : Nat) (h : n ≤ 9223372036854775807) (hk : 10 ≤ k) : imageeditorref05_length.f k (n : Int) = some (encS n) := by
  unfold imageeditorref05_length.f
  rw [len_l0 9 n k [] (by omega) h (by omega) (by simp), List.nil_append]
  rfl

/-! ### Frame -/
def body (s : ByteArray) : ByteArray := encS s.size ++ s
def frame (s : ByteArray) : ByteArray × Int := if 1048576 < s.size then (ByteArray.empty, 3) else (body s ++ le4 (crc (body s)), 0)
theorem body_le (s : ByteArray) (h : s.size < 18446744073709551616) : (body s).size ≤ s.size + 10 := by
  have := encS_le s.size h
  unfold body
  rw [size_app]
  omega
theorem crcf_eq (s : ByteArray) (h : s.size ≤ 9223372036854775807) : digest_Crc.f s = some ((crc s : Nat) : Int) := by
  unfold digest_Crc.f
  rw [if_pos h]
theorem frame_eq (s : ByteArray) (k : Nat) (hs : s.size ≤ 9223372036854775797) (hk : 10 ≤ k) : digest_Frame.f k s = some (frame s) := by
  unfold digest_Frame.f frame
  by_cases h : 1048576 < s.size
  · rw [if_pos (by omega), if_pos h]
    rfl
  · have hb := body_le s (by omega)
    rw [if_neg (by omega), if_neg h, wire_Text_eq s k hs hk, Option.bind_some]
    show (digest_Crc.f (body s)).bind _ = _
    rw [crcf_eq _ (by omega), Option.bind_some, tail_eq, Option.bind_some]
    rw [if_pos (by rw [le4_size]; show (body s).size + 4 ≤ _; omega)]
    rfl
theorem rframe_eq (s : ByteArray) (k : Nat) (hs : s.size ≤ 9223372036854775797) (hk : 10 * s.size + 101 ≤ k) : imageeditorref05_Frame.f k s = some (frame s) := by
  unfold imageeditorref05_Frame.f frame
  by_cases h : 1048576 < s.size
  · rw [if_pos (by omega), if_pos h]
    rfl
  · have hb := body_le s (by omega)
    have hb2 : (encS s.size).size + s.size = (body s).size := by unfold body; rw [size_app]
    rw [if_neg (by omega), if_neg h, length_eq s.size k (by omega) (by omega), Option.bind_some, if_pos (by omega)]
    show (imageeditorref05_Crc.f k (body s)).bind _ = _
    rw [DigRefCrc.crc_eq _ k (by omega) (by omega), Option.bind_some, four_eq _ k (crc_lt _) (by omega), Option.bind_some]
    rw [if_pos (by rw [le4_size]; show (body s).size + 4 ≤ _; omega)]
    rfl

/-! ### Open -/
def openS (s : ByteArray) : ByteArray × Int × Int :=
  match dec s 0 0 0 with
  | .bad b => (ByteArray.empty, 0, b)
  | .ok n u => if 1048576 < n then (ByteArray.empty, 0, 3) else if s.size < u + n + 4 then (ByteArray.empty, 0, 5)
    else if s.extract (u + n) (u + n + 4) = le4 (crc (s.extract 0 (u + n))) then (s.extract u (u + n), ((u + n + 4 : Nat) : Int), 0) else (ByteArray.empty, 0, 7)
theorem open_eq (s : ByteArray) (k : Nat) (hs : s.size ≤ 4611686018427387000) (hk : 20 ≤ k) : digest_Open.f k s = some (openS s) := by
  unfold digest_Open.f
  rw [new_eq, Option.bind_some]
  simp only
  rw [text_eq s 0 k 0 true 1048576 hs (by omega) (by omega) hk, Option.bind_some]
  simp only
  rw [err_eq, Option.bind_some]
  simp only
  unfold openS rT rC rU
  rw [if_pos good0]
  cases hd : dec s 0 0 0 with
  | bad b =>
    have hb : ¬ b = 0 := by rcases dec_bad s 0 _ 0 0 b rfl hd with h | h <;> omega
    simp only
    rw [if_neg (good_ne hb)]
    simp only
    rw [if_neg (good_ne hb)]
    unfold rErr
    simp only [if_true]
    rw [if_neg hb]
    rfl
  | ok n u =>
    obtain ⟨q, h1, h2, h3, h4, h5, h6⟩ := dec_ok s 0 _ 0 0 n u rfl (by omega) (by simp) hd
    rw [Nat.zero_add] at h4
    have hm : mx 1048576 0 = 1048576 := by unfold mx; simp
    simp only [Nat.zero_add]
    rw [if_pos good0, hm]
    by_cases hn : 1048576 < n
    · have hN : (n : Int) > 1048576 := by omega
      rw [if_pos hn, if_pos hN]
      simp only
      rw [if_neg (good_ne (by omega))]
      unfold rErr
      simp only [if_true]
      rw [if_neg (by omega)]
      rfl
    · have hN : ¬ (n : Int) > 1048576 := by omega
      rw [if_neg hn, if_neg hN]
      simp only
      rw [if_pos good0]
      by_cases hl : s.size < u + n
      · have hl4 : s.size < u + n + 4 := by omega
        rw [if_pos hl, if_pos hl4]
        unfold rErr
        simp only [if_true]
        rw [if_neg (by omega)]
        rfl
      · rw [if_neg hl]
        unfold rErr
        simp only [if_true]
        rw [left_eq s (u + n) 0 true (by omega) (by omega), Option.bind_some]
        simp only
        unfold rLeft
        rw [if_pos good0]
        by_cases hf : s.size < u + n + 4
        · rw [if_pos (by omega), if_pos hf]
          rfl
        · rw [if_neg (by omega), if_neg hf]
          have e1 : wrap64 ((s.size : Int) - ((s.size : Int) - ((u + n : Nat) : Int))) = ((u + n : Nat) : Int) := by rw [wrap_id _ (by omega) (by omega)]; omega
          have e2 : wrap64 (((u + n : Nat) : Int) + 4) = ((u + n + 4 : Nat) : Int) := by rw [wrap_id _ (by omega) (by omega)]; omega
          rw [e1, e2, if_pos (by omega), if_pos (by omega), if_pos (by omega), if_pos (by omega), Int.toNat_natCast, Int.toNat_natCast]
          rw [crcf_eq _ (by rw [size_ext _ _ _ (by omega)]; omega), Option.bind_some, tail_eq, Option.bind_some]
          by_cases hx : s.extract (u + n) (u + n + 4) = le4 (crc (s.extract 0 (u + n)))
          · rw [if_pos (toList_inj.2 hx), if_pos hx]
          · rw [if_neg (fun h => hx (toList_inj.1 h)), if_neg hx]
            rfl

/-! ### the reference's read and Open -/
theorem share2 (n c i : Nat) (hc : c ≤ 255) (hi : i ≤ 9) (hn : n < 128 ^ i) (h9 : i = 9 → c ≤ 1) :
    bits .or .u64 (n : Int) (shl .u64 (Int.tmod ((c : Nat) : Int) 128) (wrap64 (7 * (i : Int)))) = ((n + c % 128 * 128 ^ i : Nat) : Int) := by
  rw [← share n c i hc hi hn h9, mask8 c hc, wrap_id _ (by omega) (by omega), wrap_u64, show Int.tmod (c : Int) 128 = ((c % 128 : Nat) : Int) from tm c 128, show ((c % 128 : Nat) : Int) % 18446744073709551616 = ((c % 128 : Nat) : Int) from by omega]
def readS (s : ByteArray) (i n : Nat) : Int × Int × Int := match dec s 0 i n with | .ok v u => ((v : Int), ((u : Nat) : Int), 0) | .bad b => (0, 0, b)
theorem read_l0 (s : ByteArray) (hs : s.size ≤ 9223372036854775000) (d : Nat) : ∀ (i n k : Nat), i ≤ 9 → 9 - i = d → n < 128 ^ i → i ≤ s.size → 2 * d + 2 ≤ k →
    imageeditorref05_read.l0 k s (n : Int) (i : Int) = some (readS s i n) := by
  unfold readS
  induction d with
  | zero => ?_
  | succ d ih => ?_
  all_goals
    intro i n k hi hd hn hpi hk
    obtain ⟨k, rfl⟩ : ∃ m, k = m + 2 := ⟨k - 2, by omega⟩
    simp only [imageeditorref05_read.l0]
    rw [if_pos (by omega)]
    by_cases hend : 0 + i < s.size
    · have hc := nb_le s (0 + i)
      have hb : IntKind.u64.wrap (bt s (i : Int)) = ((nb s (0 + i) : Nat) : Int) := by
        rw [Nat.zero_add] at hc ⊢
        rw [bt_nb, wrap_u64]
        omega
      rw [if_neg (by omega), if_pos (by omega), if_pos (by omega), hb]
      by_cases hf : (i = 9 ∧ 1 < nb s (0 + i)) ∨ (0 < i ∧ nb s (0 + i) = 0)
      · rw [dec_form hend hf]
        simp only [imageeditorref05_read.j1]
        by_cases h9 : i = 9
        · rw [if_pos (by omega)]
          by_cases h1 : 1 < nb s (0 + i)
          · rw [if_pos (decide_eq_true (by omega))]
          · rw [if_neg (by rw [decide_eq_false (by omega)]; simp), wrap_id (7 * (i : Int)) (by omega) (by omega), if_pos (by omega), if_pos (by omega), if_pos (by omega), if_pos (by omega)]
        · rw [if_neg (by omega), if_neg (by simp), wrap_id (7 * (i : Int)) (by omega) (by omega), if_pos (by omega), if_pos (by omega), if_pos (by omega), if_pos (by omega)]
      · have h9 : i = 9 → nb s (0 + i) ≤ 1 := fun h => by
          rcases Nat.lt_or_ge 1 (nb s (0 + i)) with hz | hz
          · exact absurd (.inl ⟨h, hz⟩) hf
          · exact hz
        have hgo : imageeditorref05_read.j1 (k + 1) s (n : Int) (i : Int) ((nb s (0 + i) : Nat) : Int) false = some (match dec s 0 i n with | .ok v u => ((v : Int), ((u : Nat) : Int), 0) | .bad b => (0, 0, b)) := by
          simp only [imageeditorref05_read.j1]
          rw [if_neg (by simp), share2 n _ i hc hi hn h9, wrap_id (7 * (i : Int)) (by omega) (by omega), if_pos (by omega)]
          by_cases hl : nb s (0 + i) < 128
          · rw [if_pos (by omega), dec_last hend hf hl, wrap_id ((i : Int) + 1) (by omega) (by omega)]
            by_cases hz : nb s (0 + i) = 0
            · rw [if_pos (by omega), if_neg (by
                intro h
                exact hf (.inr ⟨by omega, hz⟩))]
              rfl
            · rw [if_neg (by omega)]
              rfl
          · rw [if_neg (by omega), dec_more hend hf hl, wrap_id ((i : Int) + 1) (by omega) (by omega)]
            first
            | exact absurd (h9 (by omega)) (by omega)
            | (have := ih (i + 1) (n + nb s (0 + i) % 128 * 128 ^ i) k (by have := h9; omega) (by omega) (share_next n _ i hn) (by omega) (by omega)
               exact this)
        by_cases h9' : i = 9
        · rw [if_pos (by omega), decide_eq_false (by have := h9 h9'; omega)]
          exact hgo
        · rw [if_neg (by omega)]
          exact hgo
    · rw [if_pos (by omega), dec_end hend]
theorem read_eq (s : ByteArray) (k : Nat) (hs : s.size ≤ 9223372036854775000) (hk : 20 ≤ k) : imageeditorref05_read.f k s = some (readS s 0 0) := by
  unfold imageeditorref05_read.f
  exact read_l0 s hs 9 0 0 k (by omega) (by omega) (by simp) (by omega) (by omega)
theorem ropen_eq (s : ByteArray) (k : Nat) (hs : s.size ≤ 4611686018427387000) (hk : 10 * s.size + 101 ≤ k) : imageeditorref05_Open.f k s = some (openS s) := by
  unfold imageeditorref05_Open.f
  rw [read_eq s k (by omega) (by omega), Option.bind_some]
  unfold readS openS
  cases hd : dec s 0 0 0 with
  | bad b =>
    have hb : ¬ b = 0 := by rcases dec_bad s 0 _ 0 0 b rfl hd with h | h <;> omega
    simp only
    rw [if_neg hb]
    rfl
  | ok n u =>
    obtain ⟨q, h1, h2, h3, h4, h5, h6⟩ := dec_ok s 0 _ 0 0 n u rfl (by omega) (by simp) hd
    rw [Nat.zero_add] at h4
    simp only [if_true]
    by_cases hn : 1048576 < n
    · rw [if_pos (by omega), if_pos hn]
      rfl
    · rw [if_neg (by omega), if_neg hn]
      have e1 : wrap64 (((u : Nat) : Int) + wrap64 ((n : Nat) : Int)) = ((u + n : Nat) : Int) := by rw [wrap_id ((n : Nat) : Int) (by omega) (by omega), wrap_id _ (by omega) (by omega)]; omega
      have e2 : wrap64 (((u + n : Nat) : Int) + 4) = ((u + n + 4 : Nat) : Int) := by rw [wrap_id _ (by omega) (by omega)]; omega
      rw [e1, e2]
      by_cases hf : s.size < u + n + 4
      · rw [if_pos (by omega), if_pos hf]
        rfl
      · rw [if_neg (by omega), if_neg hf, if_pos (by omega), if_pos (by omega), if_pos (by omega), if_pos (by omega), Int.toNat_natCast, Int.toNat_natCast, Int.toNat_natCast]
        rw [DigRefCrc.crc_eq _ k (by rw [size_ext _ _ _ (by omega)]; omega) (by rw [size_ext _ _ _ (by omega)]; omega), Option.bind_some, four_eq _ k (crc_lt _) (by omega), Option.bind_some]
        by_cases hx : s.extract (u + n) (u + n + 4) = le4 (crc (s.extract 0 (u + n)))
        · rw [if_pos (toList_inj.2 hx), if_pos hx, if_pos (by omega), if_pos (by omega)]
        · rw [if_neg (fun h => hx (toList_inj.1 h)), if_neg hx]
          rfl

end Go.Proofs.Ytfmcikffoinbmaa.DigFO

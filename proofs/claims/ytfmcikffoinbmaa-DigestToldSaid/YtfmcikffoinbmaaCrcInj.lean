/- The CRC tells a changed byte; a frame of which one byte of the payload or of the checksum was changed is not opened. Plain mathematics, and the plain form of Open. -/
import Derived.Test.YtfmcikffoinbmaaDigFO
namespace Go.Proofs.Ytfmcikffoinbmaa.CrcInj
open Go.Proofs.Ytfmcikffoinbmaa.DigFO
open Go.RowKit Go.Proofs.YtfmcikffoinbmaaW.PrintWords Go.Proofs.YtfmcikffoinbmaaW.PrintLast Go.Proofs.YtfmcikffoinbmaaW.PrintMore Go.Proofs.Ytfmcikffoinbmaa.Q Go.Proofs.Ytfmcikffoinbmaa.Spec Go.Proofs.Ytfmcikffoinbmaa.CrcSpec Go.Proofs.Ytfmcikffoinbmaa.WireEnc Go.Proofs.Ytfmcikffoinbmaa.WireDec Go.Proofs.Ytfmcikffoinbmaa.WireMid
set_option linter.unusedVariables false
set_option linter.unusedSimpArgs false

/-! ### the register is never lost -/
theorem xor_zero_eq {a b : Nat} (h : a ^^^ b = 0) : a = b := by
  have : a ^^^ (a ^^^ b) = a ^^^ 0 := by rw [h]
  rw [← Nat.xor_assoc, Nat.xor_self, Nat.zero_xor, Nat.xor_zero] at this
  exact this.symm
theorem stepC_zero {c : Nat} (hc : c < 4294967296) (h : stepC c = 0) : c = 0 := by
  unfold stepC at h
  by_cases h1 : c % 2 = 1
  · rw [if_pos h1] at h
    have := xor_zero_eq h
    omega
  · rw [if_neg h1] at h
    omega
theorem stepC_inj {a b : Nat} (ha : a < 4294967296) (hb : b < 4294967296) (h : stepC a = stepC b) : a = b := by
  apply xor_zero_eq
  apply stepC_zero (xor_lt32 ha hb)
  rw [stepC_xor, h, Nat.xor_self]
theorem stepsC_inj : ∀ (k : Nat) {a b : Nat}, a < 4294967296 → b < 4294967296 → stepsC k a = stepsC k b → a = b
  | 0, _, _, _, _, h => h
  | k + 1, _, _, ha, hb, h => stepC_inj ha hb (stepsC_inj k (stepC_lt ha) (stepC_lt hb) h)
theorem xor_left_inj {a b c : Nat} (h : a ^^^ c = b ^^^ c) : a = b := by
  have : a ^^^ c ^^^ c = b ^^^ c ^^^ c := by rw [h]
  rw [Nat.xor_assoc, Nat.xor_self, Nat.xor_zero, Nat.xor_assoc, Nat.xor_self, Nat.xor_zero] at this
  exact this
theorem xor_right_inj {a b c : Nat} (h : c ^^^ a = c ^^^ b) : a = b := by
  rw [Nat.xor_comm c a, Nat.xor_comm c b] at h
  exact xor_left_inj h
theorem byte_lt (s : ByteArray) (i : Nat) : nb s i < 4294967296 := by have := nb_le s i; omega

/-- the same but for one byte -/
structure Diff (u v : ByteArray) (p : Nat) : Prop where
  size : v.size = u.size
  lt : p < u.size
  ne : nb v p ≠ nb u p
  eq : ∀ j, j ≠ p → nb v j = nb u j

theorem reg_same {u v : ByteArray} {p : Nat} (D : Diff u v p) : ∀ i, i ≤ p → crcReg v i = crcReg u i := by
  intro i
  induction i with
  | zero => intro _; rfl
  | succ i ih =>
    intro hi
    simp only [crcReg]
    rw [ih (by omega), D.eq i (by omega)]
theorem reg_diff {u v : ByteArray} {p : Nat} (D : Diff u v p) : ∀ d, crcReg v (p + 1 + d) ≠ crcReg u (p + 1 + d) := by
  intro d
  induction d with
  | zero =>
    intro h
    rw [Nat.add_zero] at h
    simp only [crcReg] at h
    rw [reg_same D p (by omega)] at h
    have := stepsC_inj 8 (xor_lt32 (crcReg_lt u p) (byte_lt v p)) (xor_lt32 (crcReg_lt u p) (byte_lt u p)) h
    exact D.ne (xor_right_inj this)
  | succ d ih =>
    intro h
    rw [← Nat.add_assoc] at h
    simp only [crcReg] at h
    rw [D.eq (p + 1 + d) (by omega)] at h
    have := stepsC_inj 8 (xor_lt32 (crcReg_lt v _) (byte_lt u _)) (xor_lt32 (crcReg_lt u _) (byte_lt u _)) h
    exact ih (xor_left_inj this)
theorem crc_diff {u v : ByteArray} {p : Nat} (D : Diff u v p) : crc v ≠ crc u := by
  intro h
  unfold crc at h
  have h2 := xor_right_inj h
  rw [D.size] at h2
  have := reg_diff D (u.size - (p + 1))
  have hp := D.lt
  rw [show p + 1 + (u.size - (p + 1)) = u.size from by omega] at this
  exact this h2

/-! ### four bytes tell the number -/
theorem le4_nb (c j : Nat) (hj : j < 4) : (nb (le4 c) j : Int) = ([((c % 256 : Nat) : Int), ((c / 256 % 256 : Nat) : Int), ((c / 65536 % 256 : Nat) : Int), ((c / 16777216 % 256 : Nat) : Int)] : List Int).getD j 0 := by
  unfold le4
  refine nb_str _ (fun x hx => ?_) j hj
  simp only [List.mem_cons, List.not_mem_nil, or_false] at hx
  rcases hx with h | h | h | h <;> omega
theorem le4_inj {a b : Nat} (ha : a < 4294967296) (hb : b < 4294967296) (h : le4 a = le4 b) : a = b := by
  have e0 := le4_nb a 0 (by omega)
  have e1 := le4_nb a 1 (by omega)
  have e2 := le4_nb a 2 (by omega)
  have e3 := le4_nb a 3 (by omega)
  rw [h] at e0 e1 e2 e3
  rw [le4_nb b 0 (by omega)] at e0
  rw [le4_nb b 1 (by omega)] at e1
  rw [le4_nb b 2 (by omega)] at e2
  rw [le4_nb b 3 (by omega)] at e3
  have f0 : ((b % 256 : Nat) : Int) = ((a % 256 : Nat) : Int) := e0
  have f1 : ((b / 256 % 256 : Nat) : Int) = ((a / 256 % 256 : Nat) : Int) := e1
  have f2 : ((b / 65536 % 256 : Nat) : Int) = ((a / 65536 % 256 : Nat) : Int) := e2
  have f3 : ((b / 16777216 % 256 : Nat) : Int) = ((a / 16777216 % 256 : Nat) : Int) := e3
  omega

/-! ### Open -/
theorem open_bad (s x c : ByteArray) (h : s.size ≤ 1048576) (hx : x.size = 4) (hne : x ≠ le4 (crc (encS s.size ++ s))) : openS (encS s.size ++ (s ++ (x ++ c))) = (ByteArray.empty, 0, 7) := by
  have hd : dec (encS s.size ++ (s ++ (x ++ c))) 0 0 0 = .ok s.size (encS s.size).size := by
    have := dec_mid ByteArray.empty (s ++ (x ++ c)) s.size (by omega)
    rw [empty_app] at this
    exact this
  have hz : (encS s.size ++ (s ++ (x ++ c))).size = (encS s.size).size + (s.size + (x.size + c.size)) := by simp only [size_app]
  unfold openS
  rw [hd]
  simp only
  rw [if_neg (by omega), if_neg (by omega)]
  have x1 : (encS s.size ++ (s ++ (x ++ c))).extract 0 ((encS s.size).size + s.size) = encS s.size ++ s := by
    rw [← app_assoc, ← size_app]
    exact ext_front _ _
  have x2 : (encS s.size ++ (s ++ (x ++ c))).extract ((encS s.size).size + s.size) ((encS s.size).size + s.size + 4) = x := by
    have := ext_mid (encS s.size ++ s) x c ((encS s.size).size + s.size) (size_app _ _).symm
    rw [app_assoc, hx] at this
    exact this
  rw [x1, x2, if_neg hne]
/-- a frame of which a byte behind the length was changed -/
theorem open_diff (s f c : ByteArray) (p : Nat) (h : s.size ≤ 1048576) (hp : (encS s.size).size ≤ p) (D : Diff (frame s).1 f p) : openS (f ++ c) = (ByteArray.empty, 0, 7) := by
  have hf : frame s = (body s ++ le4 (crc (body s)), 0) := by unfold frame; rw [if_neg (by omega)]
  rw [hf] at D
  have D' : Diff (body s ++ le4 (crc (body s))) f p := D
  clear D hf
  have hb : (body s).size = (encS s.size).size + s.size := by unfold body; rw [size_app]
  have hz : (body s ++ le4 (crc (body s))).size = (encS s.size).size + s.size + 4 := by rw [size_app, le4_size, hb]
  have hfz : f.size = (encS s.size).size + s.size + 4 := by rw [D'.size, hz]
  have hpl := D'.lt
  obtain ⟨E, hE⟩ : ∃ E, (encS s.size).size = E := ⟨_, rfl⟩
  obtain ⟨n, hn⟩ : ∃ n, s.size = n := ⟨_, rfl⟩
  rw [hE] at hb hz hfz hp
  rw [hn] at hb hz hfz
  -- the three parts
  have s1 : (f.extract E (E + n)).size = n := by rw [size_ext _ _ _ (by omega)]; omega
  have s2 : (f.extract (E + n) (E + n + 4)).size = 4 := by rw [size_ext _ _ _ (by omega)]; omega
  have b1 : ∀ j, j < n → nb (f.extract E (E + n)) j = nb f (E + j) := fun j hj => nb_ext _ _ _ _ (by omega) (by omega)
  have b2 : ∀ j, j < 4 → nb (f.extract (E + n) (E + n + 4)) j = nb f (E + n + j) := fun j hj => nb_ext _ _ _ _ (by omega) (by omega)
  have old1 : ∀ j, j < E + n → nb (body s ++ le4 (crc (body s))) j = nb (body s) j := fun j hj => by rw [nb_app, if_pos (by omega)]
  have old2 : ∀ j, j < 4 → nb (body s ++ le4 (crc (body s))) (E + n + j) = nb (le4 (crc (body s))) j := fun j hj => by rw [nb_app, if_neg (by omega), hb, show E + n + j - (E + n) = j from by omega]
  have oldE : ∀ j, j < E → nb (body s) j = nb (encS s.size) j := fun j hj => by unfold body; rw [nb_app, if_pos (by omega)]
  have oldP : ∀ j, E ≤ j → nb (body s) j = nb s (j - E) := fun j hj => by unfold body; rw [nb_app, if_neg (by omega), hE]
  have hbody : ∀ j, j < E + n → nb (encS s.size ++ f.extract E (E + n)) j = nb f j := by
    intro j hj
    rw [nb_app]
    by_cases hj2 : j < E
    · rw [if_pos (by omega), D'.eq j (by omega), old1 j hj, oldE j hj2]
    · rw [if_neg (by omega), hE, b1 _ (by omega), show E + (j - E) = j from by omega]
  have hwhole : f = encS s.size ++ (f.extract E (E + n) ++ f.extract (E + n) (E + n + 4)) := by
    apply ext_nb
    · simp only [size_app, s1, s2, hE]
      omega
    · intro j hj
      rw [← app_assoc, nb_app, size_app, hE, s1]
      by_cases hj2 : j < E + n
      · rw [if_pos hj2, hbody j hj2]
      · rw [if_neg hj2, b2 _ (by omega), show E + n + (j - (E + n)) = j from by omega]
  have hsz : (f.extract E (E + n)).size = s.size := by rw [s1, hn]
  have hne : f.extract (E + n) (E + n + 4) ≠ le4 (crc (encS (f.extract E (E + n)).size ++ f.extract E (E + n))) := by
    rw [hsz]
    intro hx
    by_cases hc : p < E + n
    · -- the payload was changed
      have D2 : Diff (body s) (encS s.size ++ f.extract E (E + n)) p := by
        refine ⟨by rw [size_app, hE, s1, hb], by omega, ?_, ?_⟩
        · rw [hbody p hc, ← old1 p hc]
          exact D'.ne
        · intro j hj
          by_cases hj2 : j < E + n
          · rw [hbody j hj2, ← old1 j hj2]
            exact D'.eq j hj
          · rw [nb_beyond _ _ (by rw [size_app, hE, s1]; omega), nb_beyond _ _ (by omega)]
      have hsame : f.extract (E + n) (E + n + 4) = le4 (crc (body s)) := by
        apply ext_nb
        · rw [s2, le4_size]
        · intro j hj
          rw [b2 j (by omega), D'.eq _ (by omega), old2 j (by omega)]
      rw [hsame] at hx
      exact crc_diff D2 (le4_inj (crc_lt _) (crc_lt _) hx).symm
    · -- the checksum was changed
      have hbe : encS s.size ++ f.extract E (E + n) = body s := by
        apply ext_nb
        · rw [size_app, hE, s1, hb]
        · intro j hj
          rw [size_app, hE, s1] at hj
          rw [hbody j hj, D'.eq j (by omega), old1 j hj]
      rw [hbe] at hx
      have h1 := b2 (p - (E + n)) (by omega)
      rw [hx, show E + n + (p - (E + n)) = p from by omega] at h1
      have h2 := old2 (p - (E + n)) (by omega)
      rw [show E + n + (p - (E + n)) = p from by omega] at h2
      exact D'.ne (by rw [← h1, ← h2])
  have := open_bad (f.extract E (E + n)) (f.extract (E + n) (E + n + 4)) c (by omega) s2 hne
  rw [hsz, ← app_assoc (f.extract E (E + n)), ← app_assoc (encS s.size), ← hwhole] at this
  exact this

/-! ### one byte put anew -/
theorem diff_put (f : ByteArray) (p b : Nat) (hp : p < f.size) (hb : b ≤ 255) (hne : b ≠ nb f p) : Diff f (f.extract 0 p ++ strOfNums [(b : Int)] ++ f.extract (p + 1) f.size) p := by
  have s1 : (f.extract 0 p).size = p := by rw [size_ext _ _ _ (by omega)]; omega
  have s2 : (strOfNums [(b : Int)]).size = 1 := strOfNums_size _
  have s3 : (f.extract (p + 1) f.size).size = f.size - (p + 1) := size_ext _ _ _ (by omega)
  have n1 : nb (strOfNums [(b : Int)]) 0 = b := by
    have := nb_str [(b : Int)] (fun x hx => by rw [List.mem_singleton] at hx; omega) 0 (by show 0 < 1; omega)
    have h2 : (nb (strOfNums [(b : Int)]) 0 : Int) = (b : Int) := this
    omega
  have hsz : (f.extract 0 p ++ strOfNums [(b : Int)] ++ f.extract (p + 1) f.size).size = f.size := by rw [size_app, size_app, s1, s2, s3]; omega
  refine ⟨hsz, hp, ?_, ?_⟩
  · rw [nb_app, size_app, s1, s2, if_pos (by omega), nb_app, s1, if_neg (by omega), Nat.sub_self, n1]
    exact hne
  · intro j hj
    by_cases hl : j < f.size
    · rw [nb_app, size_app, s1, s2]
      by_cases h1 : j < p
      · rw [if_pos (by omega), nb_app, s1, if_pos h1, nb_ext _ _ _ _ (by omega) (by omega), Nat.zero_add]
      · rw [if_neg (by omega), nb_ext _ _ _ _ (by omega) (by omega), show p + 1 + (j - (p + 1)) = j from by omega]
    · rw [nb_beyond _ _ (by omega), nb_beyond _ _ (by omega)]

end Go.Proofs.Ytfmcikffoinbmaa.CrcInj

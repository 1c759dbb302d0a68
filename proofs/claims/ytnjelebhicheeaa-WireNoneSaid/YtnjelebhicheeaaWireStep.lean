/- One call of both readers, in plain terms: the program's reader and the reference's make the same of it; lists of any announced length. -/
import Derived.Test.YtnjelebhicheeaaRefRd
import Derived.Test.YtnjelebhicheeaaQx5
import Derived.Test.YtnjelebhicheeaaQx4
import Derived.Test.YtnjelebhicheeaaQx7
namespace Go.Proofs.Ytnjelebhicheeaa.WireStep
open Go.RowKit Go.Proofs.YtnjelebhicheeaaW.PrintWords Go.Proofs.YtnjelebhicheeaaW.PrintLast Go.Proofs.YtnjelebhicheeaaW.PrintMore Go.Proofs.Ytnjelebhicheeaa.Q Go.Proofs.Ytnjelebhicheeaa.Spec Go.Proofs.Ytnjelebhicheeaa.WireEnc Go.Proofs.Ytnjelebhicheeaa.WireDec Go.Proofs.Ytnjelebhicheeaa.WireMid Go.Proofs.Ytnjelebhicheeaa.RefRd
set_option linter.unusedVariables false
set_option linter.unusedSimpArgs false

theorem rI_pos (s : ByteArray) (p : Nat) (e : Int) (m : Bool) (hp : p ≤ s.size) : (rI s p e m).2.1 ≤ s.size := (rU_pos s p e m hp).1
theorem rI_on (s : ByteArray) (p : Nat) (hp : p ≤ s.size) (he : (rI s p 0 true).2.2 = 0) : p < (rI s p 0 true).2.1 := by
  obtain ⟨h1, h2, h3⟩ := rU_ok s p hp he
  have := ext_len h3 h2
  have hz : 0 < (encS (rU s p 0 true).1).size := by rw [encS_size]; exact enc_pos _
  show p < (rU s p 0 true).2.1
  omega
theorem tm2 (u : Nat) : Int.tmod (u : Int) 2 = ((u % 2 : Nat) : Int) := rfl
theorem td2 (u : Nat) : Int.tdiv (u : Int) 2 = ((u / 2 : Nat) : Int) := rfl
theorem rint_eq (s : ByteArray) (p k : Nat) (e : Int) (m : Bool) (hs : s.size ≤ 9223372036854775000) (hp : p ≤ s.size) (hk : 20 ≤ k) :
    imageeditorref04_Reader_Int.f k s (p : Int) e m = some ((rI s p e m).1, s, ((rI s p e m).2.1 : Int), (rI s p e m).2.2, m) := by
  have hr := (rU_pos s p e m hp).2
  unfold imageeditorref04_Reader_Int.f
  rw [ruint_eq s p k e m hs hp hk, Option.bind_some]
  simp only
  unfold rI unzig
  generalize (rU s p e m).1 = u at hr ⊢
  rw [tm2, td2, wrap_u64, show ((u / 2 : Nat) : Int) % 18446744073709551616 = ((u / 2 : Nat) : Int) from by omega, wrap_id ((u / 2 : Nat) : Int) (by omega) (by omega)]
  by_cases h : u % 2 = 1
  · rw [if_neg (by omega), if_pos h, wrap_id (-((u / 2 : Nat) : Int)) (by omega) (by omega), wrap_id _ (by omega) (by omega)]
  · rw [if_pos (by omega), if_neg h]

/-! ### a list: r more elements are announced; each takes a byte at least -/
def rLx (s : ByteArray) : Nat → Nat → Nat → List Int → List Int × Nat × Int
  | 0, _, p, acc => (acc, p, 0)
  | F + 1, r, p, acc => if r = 0 then (acc, p, 0) else if (rI s p 0 true).2.2 = 0 then rLx s F (r - 1) (rI s p 0 true).2.1 (acc ++ [(rI s p 0 true).1]) else ([], (rI s p 0 true).2.1, (rI s p 0 true).2.2)
def rLs (s : ByteArray) (p : Nat) (e : Int) (m : Bool) (most : Int) : List Int × Nat × Int :=
  if good m (rC s p e m most).2.2 = true then rLx s (s.size + 1) (rC s p e m most).1 (rC s p e m most).2.1 [] else ([], (rC s p e m most).2.1, (rC s p e m most).2.2)
theorem rLx_pos (s : ByteArray) : ∀ (F r p : Nat) (acc : List Int), p ≤ s.size → (rLx s F r p acc).2.1 ≤ s.size := by
  intro F
  induction F with
  | zero => intro r p acc hp; exact hp
  | succ F ih =>
    intro r p acc hp
    unfold rLx
    split
    · exact hp
    · split
      · exact ih _ _ _ (rI_pos s p 0 true hp)
      · exact rI_pos s p 0 true hp
theorem rLx_len (s : ByteArray) : ∀ (F r p : Nat) (acc : List Int), (rLx s F r p acc).1.length ≤ acc.length + F := by
  intro F
  induction F with
  | zero => intro r p acc; exact Nat.le_refl _
  | succ F ih =>
    intro r p acc
    unfold rLx
    split
    · show acc.length ≤ _; omega
    · split
      · refine Nat.le_trans (ih _ _ _) ?_
        rw [List.length_append, List.length_singleton]
        omega
      · exact Nat.zero_le _
theorem rLs_pos (s : ByteArray) (p : Nat) (e : Int) (m : Bool) (most : Int) (hp : p ≤ s.size) (h : most ≤ 9223372036854775807) : (rLs s p e m most).2.1 ≤ s.size := by
  have hc := rC_le s p e m most hp h
  unfold rLs
  split
  · exact rLx_pos s _ _ _ _ hc.1
  · exact hc.1
theorem rLs_len (s : ByteArray) (p : Nat) (e : Int) (m : Bool) (most : Int) : (rLs s p e m most).1.length ≤ s.size + 1 := by
  unfold rLs
  split
  · have := rLx_len s (s.size + 1) (rC s p e m most).1 (rC s p e m most).2.1 []
    rw [List.length_nil] at this
    omega
  · exact Nat.zero_le _
theorem ints_l0 (s : ByteArray) (hs : s.size ≤ 1048576) (n : Nat) (hn : n ≤ 9223372036854775807) : ∀ (F i p k : Nat) (acc : List Int), p ≤ s.size → s.size < p + F → i ≤ n → i ≤ p → acc.length = i → F + 24 ≤ k →
    wire_Reader_Ints.l0 k (n : Int) acc (i : Int) s (p : Int) 0 true = some ((rLx s F (n - i) p acc).1, s, ((rLx s F (n - i) p acc).2.1 : Int), (rLx s F (n - i) p acc).2.2, true) := by
  intro F
  induction F with
  | zero => intro i p k acc hp hF; omega
  | succ F ih =>
    intro i p k acc hp hF hi hip ha hk
    obtain ⟨k, rfl⟩ : ∃ m, k = m + 1 := ⟨k - 1, by omega⟩
    simp only [wire_Reader_Ints.l0]
    by_cases hl : i < n
    · rw [if_pos (by omega), right_eq, Option.bind_some]
      simp only
      rw [if_pos good0, int_eq s p k 0 true (by omega) hp (by omega), Option.bind_some]
      simp only
      rw [if_pos (by omega), wrap_id ((i : Int) + 1) (by omega) (by omega)]
      have hp' := rI_pos s p 0 true hp
      by_cases he : (rI s p 0 true).2.2 = 0
      · have hon := rI_on s p hp he
        have h := ih (i + 1) (rI s p 0 true).2.1 k (acc ++ [(rI s p 0 true).1]) hp' (by omega) (by omega) (by omega) (by rw [List.length_append, List.length_singleton]; omega) (by omega)
        rw [show rLx s (F + 1) (n - i) p acc = rLx s F (n - (i + 1)) (rI s p 0 true).2.1 (acc ++ [(rI s p 0 true).1]) from by rw [rLx, if_neg (by omega), if_pos he, Nat.sub_sub], ← h, he]
        rfl
      · rw [show rLx s (F + 1) (n - i) p acc = ([], (rI s p 0 true).2.1, (rI s p 0 true).2.2) from by rw [rLx, if_neg (by omega), if_neg he]]
        obtain ⟨k, rfl⟩ : ∃ m, k = m + 1 := ⟨k - 1, by omega⟩
        simp only [wire_Reader_Ints.l0]
        have hg := good_ne he
        by_cases hl : (i : Int) + 1 < (n : Int)
        · rw [if_pos hl, right_eq, Option.bind_some]
          simp only
          rw [if_neg hg, right_eq, Option.bind_some]
          simp only
          rw [if_neg hg]
        · rw [if_neg hl, right_eq, Option.bind_some]
          simp only
          rw [if_neg hg]
    · rw [if_neg (by omega), right_eq, Option.bind_some]
      simp only
      rw [if_pos good0, show rLx s (F + 1) (n - i) p acc = (acc, p, 0) from by rw [rLx, if_pos (by omega)]]
theorem rints_l0 (s : ByteArray) (hs : s.size ≤ 1048576) (n : Nat) (hn : n ≤ 9223372036854775807) : ∀ (F i p k : Nat) (acc : List Int), p ≤ s.size → s.size < p + F → i ≤ n → i ≤ p → acc.length = i → F + 24 ≤ k →
    imageeditorref04_Reader_Ints.l0 k (n : Int) acc (i : Int) s (p : Int) 0 true = some ((rLx s F (n - i) p acc).1, s, ((rLx s F (n - i) p acc).2.1 : Int), (rLx s F (n - i) p acc).2.2, true) := by
  intro F
  induction F with
  | zero => intro i p k acc hp hF; omega
  | succ F ih =>
    intro i p k acc hp hF hi hip ha hk
    obtain ⟨k, rfl⟩ : ∃ m, k = m + 1 := ⟨k - 1, by omega⟩
    simp only [imageeditorref04_Reader_Ints.l0]
    by_cases hl : i < n
    · rw [if_pos (by omega), good_eq, Option.bind_some]
      simp only
      rw [if_pos good0, rint_eq s p k 0 true (by omega) hp (by omega), Option.bind_some]
      simp only
      rw [if_pos (by omega), wrap_id ((i : Int) + 1) (by omega) (by omega)]
      have hp' := rI_pos s p 0 true hp
      by_cases he : (rI s p 0 true).2.2 = 0
      · have hon := rI_on s p hp he
        have h := ih (i + 1) (rI s p 0 true).2.1 k (acc ++ [(rI s p 0 true).1]) hp' (by omega) (by omega) (by omega) (by rw [List.length_append, List.length_singleton]; omega) (by omega)
        rw [show rLx s (F + 1) (n - i) p acc = rLx s F (n - (i + 1)) (rI s p 0 true).2.1 (acc ++ [(rI s p 0 true).1]) from by rw [rLx, if_neg (by omega), if_pos he, Nat.sub_sub], ← h, he]
        rfl
      · rw [show rLx s (F + 1) (n - i) p acc = ([], (rI s p 0 true).2.1, (rI s p 0 true).2.2) from by rw [rLx, if_neg (by omega), if_neg he]]
        obtain ⟨k, rfl⟩ : ∃ m, k = m + 1 := ⟨k - 1, by omega⟩
        simp only [imageeditorref04_Reader_Ints.l0]
        have hg := good_ne he
        by_cases hl : (i : Int) + 1 < (n : Int)
        · rw [if_pos hl, good_eq, Option.bind_some]
          simp only
          rw [if_neg hg, good_eq, Option.bind_some]
          simp only
          rw [if_neg hg]
        · rw [if_neg hl, good_eq, Option.bind_some]
          simp only
          rw [if_neg hg]
    · rw [if_neg (by omega), good_eq, Option.bind_some]
      simp only
      rw [if_pos good0, show rLx s (F + 1) (n - i) p acc = (acc, p, 0) from by rw [rLx, if_pos (by omega)]]
theorem good_split {m : Bool} {e : Int} (h : good m e = true) : m = true ∧ e = 0 := by
  revert h
  unfold good
  cases m <;> simp
theorem count0 (s : ByteArray) (p : Nat) (e : Int) (m : Bool) (most : Int) (hg : ¬ good m (rC s p e m most).2.2 = true) : (rC s p e m most).1 = 0 := by
  unfold rC at hg ⊢
  simp only at hg ⊢
  split
  · rename_i h1
    rw [if_pos h1] at hg
    split
    · rfl
    · rename_i h2
      rw [if_neg h2] at hg
      exact absurd h1 hg
  · rfl
theorem ints_eq (s : ByteArray) (p k : Nat) (e : Int) (m : Bool) (most : Int) (hs : s.size ≤ 1048576) (hp : p ≤ s.size) (h : most ≤ 9223372036854775807) (hk : s.size + 30 ≤ k) :
    wire_Reader_Ints.f k s (p : Int) e m most = some ((rLs s p e m most).1, s, ((rLs s p e m most).2.1 : Int), (rLs s p e m most).2.2, m) := by
  have hc := rC_le s p e m most hp h
  have h00 := count0 s p e m most
  unfold wire_Reader_Ints.f
  rw [count_eq s p k e m most (by omega) hp h (by omega), Option.bind_some]
  simp only
  unfold rLs
  generalize rC s p e m most = c at hc h00 ⊢
  by_cases hg : good m c.2.2 = true
  · rw [if_pos hg]
    obtain ⟨rfl, he⟩ := good_split hg
    have := ints_l0 s hs c.1 (by omega) (s.size + 1) 0 c.2.1 k [] hc.1 (by omega) (by omega) (by omega) rfl (by omega)
    rw [Nat.sub_zero] at this
    rw [he]
    exact this
  · rw [if_neg hg]
    obtain ⟨k, rfl⟩ : ∃ m, k = m + 1 := ⟨k - 1, by omega⟩
    simp only [wire_Reader_Ints.l0]
    rw [h00 hg, if_neg (by omega), right_eq, Option.bind_some]
    simp only
    rw [if_neg hg]
theorem rints_eq (s : ByteArray) (p k : Nat) (e : Int) (m : Bool) (most : Int) (hs : s.size ≤ 1048576) (hp : p ≤ s.size) (h : most ≤ 9223372036854775807) (hk : s.size + 30 ≤ k) :
    imageeditorref04_Reader_Ints.f k s (p : Int) e m most = some ((rLs s p e m most).1, s, ((rLs s p e m most).2.1 : Int), (rLs s p e m most).2.2, m) := by
  have hc := rC_le s p e m most hp h
  have h00 := count0 s p e m most
  unfold imageeditorref04_Reader_Ints.f
  rw [rcount_eq s p k e m most (by omega) hp h (by omega), Option.bind_some]
  simp only
  unfold rLs
  generalize rC s p e m most = c at hc h00 ⊢
  by_cases hg : good m c.2.2 = true
  · rw [if_pos hg]
    obtain ⟨rfl, he⟩ := good_split hg
    have := rints_l0 s hs c.1 (by omega) (s.size + 1) 0 c.2.1 k [] hc.1 (by omega) (by omega) (by omega) rfl (by omega)
    rw [Nat.sub_zero] at this
    rw [he]
    exact this
  · rw [if_neg hg]
    obtain ⟨k, rfl⟩ : ∃ m, k = m + 1 := ⟨k - 1, by omega⟩
    simp only [imageeditorref04_Reader_Ints.l0]
    rw [h00 hg, if_neg (by omega), good_eq, Option.bind_some]
    simp only
    rw [if_neg hg]

/-! ### Fail, Left, Err -/
def rF (p : Nat) (e : Int) (m : Bool) (x : Int) : Nat × Int := (p, if good m e = true then x else e)
theorem fail_eq (s : ByteArray) (p : Nat) (e : Int) (m : Bool) (x : Int) : wire_Reader_Fail.f s (p : Int) e m x = some (s, ((rF p e m x).1 : Int), (rF p e m x).2, m) := by
  unfold wire_Reader_Fail.f rF
  rw [right_eq, Option.bind_some]
  simp only
  split <;> rfl
theorem rfail_eq (s : ByteArray) (p : Nat) (e : Int) (m : Bool) (x : Int) : imageeditorref04_Reader_Fail.f s (p : Int) e m x = some (s, ((rF p e m x).1 : Int), (rF p e m x).2, m) := by
  unfold imageeditorref04_Reader_Fail.f rF
  rw [good_eq, Option.bind_some]
  simp only
  split <;> rfl
theorem rleft_eq (s : ByteArray) (p : Nat) (e : Int) (m : Bool) (hs : s.size ≤ 9223372036854775000) (hp : p ≤ s.size) :
    imageeditorref04_Reader_Left.f s (p : Int) e m = some (rLeft s p e m, s, (p : Int), e, m) := by
  unfold imageeditorref04_Reader_Left.f rLeft
  rw [good_eq, Option.bind_some]
  simp only
  by_cases hg : good m e = true
  · rw [if_pos hg, if_pos hg, wrap_id _ (by omega) (by omega)]
  · rw [if_neg hg, if_neg hg]
theorem rerr_eq (s : ByteArray) (p : Int) (e : Int) (m : Bool) : imageeditorref04_Reader_Err.f s p e m = some (rErr e m, s, p, e, m) := by
  unfold imageeditorref04_Reader_Err.f rErr
  cases m <;> simp
theorem rT_pos (s : ByteArray) (p : Nat) (e : Int) (m : Bool) (most : Int) (hp : p ≤ s.size) (h : most ≤ 9223372036854775807) : (rT s p e m most).2.1 ≤ s.size := by
  have hc := rC_le s p e m most hp h
  unfold rT
  simp only
  split
  · split
    · exact hc.1
    · show (rC s p e m most).2.1 + (rC s p e m most).1 ≤ s.size
      omega
  · exact hc.1

/-! ### the state behind a call -/
def stepS (s : ByteArray) (p : Nat) (e : Int) (m : Bool) (kind most : Int) : Nat × Int :=
  if kind = 0 then (rU s p e m).2 else if kind = 1 then (rI s p e m).2 else if kind = 2 then (rT s p e m most).2 else if kind = 3 then (rC s p e m most).2
  else if kind = 4 then (rLs s p e m most).2 else if kind = 5 then rF p e m most else (p, e)
theorem stepS_pos (s : ByteArray) (p : Nat) (e : Int) (m : Bool) (kind most : Int) (hp : p ≤ s.size) (h : most ≤ 9223372036854775807) : (stepS s p e m kind most).1 ≤ s.size := by
  unfold stepS
  split
  · exact (rU_pos s p e m hp).1
  · split
    · exact rI_pos s p e m hp
    · split
      · exact rT_pos s p e m most hp h
      · split
        · exact (rC_le s p e m most hp h).1
        · split
          · exact rLs_pos s p e m most hp h
          · split <;> exact hp
theorem same_l0 (l : List Int) (hl : l.length ≤ 9223372036854775000) (d : Nat) : ∀ (i k : Nat), i + d = l.length → d < k → imageeditorlaw04_same.l0 k l l (i : Int) = some true := by
  induction d with
  | zero =>
    intro i k hi hk
    obtain ⟨k, rfl⟩ : ∃ m, k = m + 1 := ⟨k - 1, by omega⟩
    simp only [imageeditorlaw04_same.l0]
    rw [if_neg (by omega)]
  | succ d ih =>
    intro i k hi hk
    obtain ⟨k, rfl⟩ : ∃ m, k = m + 1 := ⟨k - 1, by omega⟩
    simp only [imageeditorlaw04_same.l0]
    rw [if_pos (by omega), if_pos (by omega), if_pos (by omega), wrap_id _ (by omega) (by omega)]
    exact ih (i + 1) k (by omega) (by omega)
theorem same_eq (l : List Int) (k : Nat) (hl : l.length ≤ 9223372036854775000) (hk : l.length < k) : imageeditorlaw04_same.f k l l = some true := by
  unfold imageeditorlaw04_same.f
  rw [if_pos rfl]
  exact same_l0 l hl l.length 0 k (by omega) hk

end Go.Proofs.Ytnjelebhicheeaa.WireStep

/- What a reader makes of encoded values that lie one behind the other; the printed Ints of the reader, and the comparison of two lists. -/
import Derived.Test.YtnjelebhicheeaaWireDec
import Derived.Test.YtnjelebhicheeaaWireInts
import Derived.Test.YtnjelebhicheeaaQx6
namespace Go.Proofs.Ytnjelebhicheeaa.WireRd
open Go.RowKit Go.Proofs.YtnjelebhicheeaaW.PrintWords Go.Proofs.YtnjelebhicheeaaW.PrintLast Go.Proofs.YtnjelebhicheeaaW.PrintMore Go.Proofs.Ytnjelebhicheeaa.Q Go.Proofs.Ytnjelebhicheeaa.Spec Go.Proofs.Ytnjelebhicheeaa.WireEnc Go.Proofs.Ytnjelebhicheeaa.WireDec
set_option linter.unusedVariables false
set_option linter.unusedSimpArgs false

/-! ### Ints -/
def rLg (s : ByteArray) : Nat → Nat → List Int → List Int × Nat × Int
  | 0, p, acc => (acc, p, 0)
  | d + 1, p, acc => if (rI s p 0 true).2.2 = 0 then rLg s d (rI s p 0 true).2.1 (acc ++ [(rI s p 0 true).1]) else ([], (rI s p 0 true).2.1, (rI s p 0 true).2.2)
def rL (s : ByteArray) (p : Nat) (e : Int) (m : Bool) (most : Int) : List Int × Nat × Int :=
  if good m (rC s p e m most).2.2 = true then rLg s (rC s p e m most).1 (rC s p e m most).2.1 [] else ([], (rC s p e m most).2.1, (rC s p e m most).2.2)
theorem good0 : good true 0 = true := rfl
theorem good_ne {e : Int} (h : ¬ e = 0) : ¬ good true e = true := by unfold good; simpa using h
theorem rI_pos (s : ByteArray) (p : Nat) (e : Int) (m : Bool) (hp : p ≤ s.size) : (rI s p e m).2.1 ≤ s.size := (rU_pos s p e m hp).1
theorem rLg_pos (s : ByteArray) : ∀ (d p : Nat) (acc : List Int), p ≤ s.size → (rLg s d p acc).2.1 ≤ s.size := by
  intro d
  induction d with
  | zero => intro p acc hp; exact hp
  | succ d ih =>
    intro p acc hp
    unfold rLg
    split
    · exact ih _ _ (rI_pos s p 0 true hp)
    · exact rI_pos s p 0 true hp
theorem rL_pos (s : ByteArray) (p : Nat) (e : Int) (m : Bool) (most : Int) (hp : p ≤ s.size) (h : most ≤ 9223372036854775807) : (rL s p e m most).2.1 ≤ s.size := by
  have hc := rC_le s p e m most hp h
  unfold rL
  split
  · exact rLg_pos s _ _ _ hc.1
  · exact hc.1
theorem ints_l0 (s : ByteArray) (hs : s.size ≤ 9223372036854775000) (n : Nat) (hn : n ≤ 17592186044416) (d : Nat) : ∀ (i p k : Nat) (acc : List Int), p ≤ s.size → i + d = n → acc.length = i → d + 24 ≤ k →
    wire_Reader_Ints.l0 k (n : Int) acc (i : Int) s (p : Int) 0 true = some ((rLg s d p acc).1, s, ((rLg s d p acc).2.1 : Int), (rLg s d p acc).2.2, true) := by
  induction d with
  | zero =>
    intro i p k acc hp hi ha hk
    obtain ⟨k, rfl⟩ : ∃ m, k = m + 1 := ⟨k - 1, by omega⟩
    simp only [wire_Reader_Ints.l0]
    rw [if_neg (by omega), right_eq, Option.bind_some]
    simp only
    rw [if_pos good0]
    rfl
  | succ d ih =>
    intro i p k acc hp hi ha hk
    obtain ⟨k, rfl⟩ : ∃ m, k = m + 1 := ⟨k - 1, by omega⟩
    simp only [wire_Reader_Ints.l0]
    rw [if_pos (by omega), right_eq, Option.bind_some]
    simp only
    rw [if_pos good0, int_eq s p k 0 true hs hp (by omega), Option.bind_some]
    simp only
    rw [if_pos (by omega), wrap_id ((i : Int) + 1) (by omega) (by omega)]
    have hp' := rI_pos s p 0 true hp
    by_cases he : (rI s p 0 true).2.2 = 0
    · have h := ih (i + 1) (rI s p 0 true).2.1 k (acc ++ [(rI s p 0 true).1]) hp' (by omega) (by rw [List.length_append, List.length_singleton]; omega) (by omega)
      rw [show rLg s (d + 1) p acc = rLg s d (rI s p 0 true).2.1 (acc ++ [(rI s p 0 true).1]) from by rw [rLg, if_pos he], ← h, he]
      rfl
    · rw [show rLg s (d + 1) p acc = ([], (rI s p 0 true).2.1, (rI s p 0 true).2.2) from by rw [rLg, if_neg he]]
      obtain ⟨k, rfl⟩ : ∃ m, k = m + 1 := ⟨k - 1, by omega⟩
      simp only [wire_Reader_Ints.l0]
      have hg := good_ne he
      by_cases hl : (i : Int) + 1 < (n : Int)
      · rw [if_pos hl, right_eq, Option.bind_some]
        simp only
        rw [if_neg hg, right_eq, Option.bind_some]
        simp only
        rw [if_neg hg]
      · rw [if_neg hl, right_eq, Option.bind_some]
        simp only
        rw [if_neg hg]
theorem ints_eq (s : ByteArray) (p k : Nat) (e : Int) (m : Bool) (most : Int) (hs : s.size ≤ 9223372036854775000) (hp : p ≤ s.size) (h : most ≤ 9223372036854775807) (hn : (rC s p e m most).1 ≤ 17592186044416) (hk : (rC s p e m most).1 + 24 ≤ k) :
    wire_Reader_Ints.f k s (p : Int) e m most = some ((rL s p e m most).1, s, ((rL s p e m most).2.1 : Int), (rL s p e m most).2.2, m) := by
  have hc := rC_le s p e m most hp h
  unfold wire_Reader_Ints.f
  rw [count_eq s p k e m most hs hp h (by omega), Option.bind_some]
  simp only
  unfold rL
  by_cases hg : good m (rC s p e m most).2.2 = true
  · rw [if_pos hg]
    have hm : m = true := by
      revert hg
      unfold good
      cases m <;> simp
    have he : (rC s p e m most).2.2 = 0 := by
      revert hg
      unfold good
      rw [hm]
      simp
    subst hm
    have := ints_l0 s hs _ hn (rC s p e true most).1 0 (rC s p e true most).2.1 k [] hc.1 (by omega) rfl (by omega)
    rw [he]
    exact this
  · rw [if_neg hg]
    obtain ⟨k, rfl⟩ : ∃ m, k = m + 1 := ⟨k - 1, by omega⟩
    simp only [wire_Reader_Ints.l0]
    have h0 : (rC s p e m most).1 = 0 := by
      unfold rC at hg ⊢
      simp only at hg ⊢
      split
      · rename_i h1
        rw [if_pos h1] at hg
        split
        · rfl
        · rename_i h2
          rw [if_neg h2] at hg
          exact absurd h1 hg
      · rfl
    rw [h0, if_neg (by omega), right_eq, Option.bind_some]
    simp only
    rw [if_neg hg]

/-! ### encoded values, one behind the other -/
theorem nb_mid (a b c : ByteArray) (j : Nat) (hj : j < b.size) : nb (a ++ (b ++ c)) (a.size + j) = nb b j := by
  rw [nb_app, if_neg (by omega), show a.size + j - a.size = j from by omega, nb_app, if_pos hj]
theorem dec_mid (a c : ByteArray) (n : Nat) (h : n < 18446744073709551616) : dec (a ++ (encS n ++ c)) a.size 0 0 = .ok n (encS n).size := by
  have hsz : (a ++ (encS n ++ c)).size = a.size + ((encS n).size + c.size) := by rw [size_app, size_app]
  rw [dec_enc (a ++ (encS n ++ c)) a.size n 0 0 (by omega) (fun h => absurd h (by omega)) (by simpa using h) (by omega) (fun j hj _ => by
    rw [Nat.add_zero, nb_mid a (encS n) c j (by rw [encS_size]; exact hj), encS_nb n j hj])]
  rw [if_pos (by rw [hsz, encS_size]; omega), encS_size]
  simp
theorem rU_mid (a c : ByteArray) (n : Nat) (h : n < 18446744073709551616) : rU (a ++ (encS n ++ c)) a.size 0 true = (n, a.size + (encS n).size, 0) := by
  unfold rU
  rw [if_pos good0, dec_mid a c n h]
theorem rI_mid (a c : ByteArray) (n : Int) (h1 : -9223372036854775808 ≤ n) (h2 : n ≤ 9223372036854775807) : rI (a ++ (encS (zig n) ++ c)) a.size 0 true = (n, a.size + (encS (zig n)).size, 0) := by
  unfold rI
  rw [rU_mid a c _ (zig_lt n h1 h2), unzig_zig]
theorem rC_mid (a c : ByteArray) (n : Nat) (most : Int) (h : n < 18446744073709551616) (hm : (n : Int) ≤ most) : rC (a ++ (encS n ++ c)) a.size 0 true most = (n, a.size + (encS n).size, 0) := by
  unfold rC
  rw [rU_mid a c n h]
  simp only
  rw [if_pos good0, if_neg (by unfold mx; split <;> omega)]
theorem ext_mid (a b c : ByteArray) (p : Nat) (hp : p = a.size) : (a ++ (b ++ c)).extract p (p + b.size) = b := by
  have hsz : (a ++ (b ++ c)).size = a.size + (b.size + c.size) := by rw [size_app, size_app]
  apply ext_nb
  · rw [size_ext _ _ _ (by omega)]; omega
  · intro j hj
    rw [size_ext _ _ _ (by omega)] at hj
    rw [nb_ext _ _ _ _ (by omega) (by omega), hp, nb_mid a b c j (by omega)]
theorem rT_mid (a t c : ByteArray) (most : Int) (h : t.size < 18446744073709551616) (hm : (t.size : Int) ≤ most) : rT (a ++ (encS t.size ++ (t ++ c))) a.size 0 true most = (t, a.size + (encS t.size).size + t.size, 0) := by
  have hsz : (a ++ (encS t.size ++ (t ++ c))).size = a.size + ((encS t.size).size + (t.size + c.size)) := by rw [size_app, size_app, size_app]
  unfold rT
  rw [rC_mid a (t ++ c) t.size most h hm]
  simp only
  rw [if_pos good0, if_neg (by omega)]
  congr 1
  rw [← app_assoc]
  exact ext_mid (a ++ encS t.size) t c _ (by rw [size_app])
theorem rLg_mid (c : ByteArray) (l : List Int) : ∀ (a : ByteArray) (acc : List Int), Fits l → rLg (a ++ (encZ l ++ c)) l.length a.size acc = (acc ++ l, a.size + (encZ l).size, 0) := by
  induction l with
  | nil =>
    intro a acc _
    rw [encZ, List.length_nil, rLg, List.append_nil]
    rfl
  | cons n l ih =>
    intro a acc hf
    have hn := hf n (List.mem_cons_self ..)
    rw [encZ, app_assoc, List.length_cons, rLg, rI_mid a (encZ l ++ c) n hn.1 hn.2]
    rw [if_pos rfl]
    simp only
    have := ih (a ++ encS (zig n)) (acc ++ [n]) (fun x hx => hf x (List.mem_cons_of_mem _ hx))
    rw [app_assoc, size_app] at this
    rw [this, List.append_assoc, List.singleton_append, size_app, Nat.add_assoc]
theorem rL_mid (a c : ByteArray) (l : List Int) (most : Int) (hl : l.length < 18446744073709551616) (hf : Fits l) (hm : (l.length : Int) ≤ most) :
    rL (a ++ (encS l.length ++ (encZ l ++ c))) a.size 0 true most = (l, a.size + (encS l.length).size + (encZ l).size, 0) := by
  unfold rL
  rw [rC_mid a (encZ l ++ c) l.length most hl hm]
  simp only
  rw [if_pos good0]
  have := rLg_mid c l (a ++ encS l.length) [] hf
  rw [app_assoc, size_app] at this
  rw [this, List.nil_append]

/-! ### same -/
theorem same_l0 (l : List Int) (hl : l.length ≤ 9223372036854775000) (d : Nat) : ∀ (i k : Nat), i + d = l.length → d < k → imageeditorlaw04_same.l0 k l l (i : Int) = some true := by
  induction d with
  | zero =>
    intro i k hi hk
    obtain ⟨k, rfl⟩ : ∃ m, k = m + 1 := ⟨k - 1, by omega⟩
    simp only [imageeditorlaw04_same.l0]
    rw [if_neg (by omega)]
  | succ d ih =>
    intro i k hi hk
    obtain ⟨k, rfl⟩ : ∃ m, k = m + 1 := ⟨k - 1, by omega⟩
    simp only [imageeditorlaw04_same.l0]
    rw [if_pos (by omega), if_pos (by omega), if_pos (by omega), wrap_id _ (by omega) (by omega)]
    exact ih (i + 1) k (by omega) (by omega)
theorem same_eq (l : List Int) (k : Nat) (hl : l.length ≤ 9223372036854775000) (hk : l.length < k) : imageeditorlaw04_same.f k l l = some true := by
  unfold imageeditorlaw04_same.f
  rw [if_pos rfl]
  exact same_l0 l hl l.length 0 k (by omega) hk

end Go.Proofs.Ytnjelebhicheeaa.WireRd

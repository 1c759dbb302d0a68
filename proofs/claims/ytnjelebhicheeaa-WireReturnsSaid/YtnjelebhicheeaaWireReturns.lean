/- WireReturns, the plain law: what is encoded is decoded, one value after the other. -/
import Derived.Test.YtnjelebhicheeaaWireRd
import Derived.Test.YtnjelebhicheeaaWireEx
import Derived.Test.YtnjelebhicheeaaQx7
namespace Go.Proofs.Ytnjelebhicheeaa.WireReturns
open Go.RowKit Go.Proofs.YtnjelebhicheeaaW.PrintWords Go.Proofs.YtnjelebhicheeaaW.PrintLast Go.Proofs.YtnjelebhicheeaaW.PrintMore Go.Proofs.Ytnjelebhicheeaa.Q Go.Proofs.Ytnjelebhicheeaa.Spec Go.Proofs.Ytnjelebhicheeaa.WireEnc Go.Proofs.Ytnjelebhicheeaa.WireDec Go.Proofs.Ytnjelebhicheeaa.WireRd
set_option linter.unusedVariables false
set_option linter.unusedSimpArgs false

theorem law (n : Nat) (i : Int) (t : ByteArray) (l : List Int) (h1 : n < 18446744073709551616) (h2 : -9223372036854775808 ≤ i) (h3 : i ≤ 9223372036854775807) (h4 : t.size ≤ 140737488351232) (h5 : l.length ≤ 17592186044416) (h6 : Fits l) :
    imageeditorlaw04_WireReturns.f (l.length + 60) (n : Int) i t l = some true := by
  obtain ⟨k, hk⟩ : ∃ k, l.length + 60 = k := ⟨_, rfl⟩
  have z1 := encS_le t.size (by omega)
  have z2 := encS_le l.length (by omega)
  have z3 := encZ_le l h6
  have z4 := encS_le (zig i) (zig_lt i h2 h3)
  have z5 := encS_le n h1
  obtain ⟨s, hs⟩ : ∃ s, encS t.size ++ t ++ (encS l.length ++ encZ l) ++ encS (zig i) ++ encS n = s := ⟨_, rfl⟩
  have hsz : s.size = (encS t.size).size + t.size + ((encS l.length).size + (encZ l).size) + (encS (zig i)).size + (encS n).size := by rw [← hs]; simp only [size_app]
  -- the four pieces, as the reader meets them
  have s1 : s = ByteArray.empty ++ (encS t.size ++ (t ++ (encS l.length ++ encZ l ++ encS (zig i) ++ encS n))) := by rw [← hs, empty_app]; simp only [app_assoc]
  have s2 : s = (encS t.size ++ t) ++ (encS l.length ++ (encZ l ++ (encS (zig i) ++ encS n))) := by rw [← hs]; simp only [app_assoc]
  have s3 : s = (encS t.size ++ t ++ encS l.length ++ encZ l) ++ (encS (zig i) ++ encS n) := by rw [← hs]; simp only [app_assoc]
  have s4 : s = (encS t.size ++ t ++ encS l.length ++ encZ l ++ encS (zig i)) ++ (encS n ++ ByteArray.empty) := by rw [← hs, app_empty]; simp only [app_assoc]
  have r1 : rT s 0 0 true (t.size : Int) = (t, (encS t.size ++ t).size, 0) := by
    have := rT_mid ByteArray.empty t (encS l.length ++ encZ l ++ encS (zig i) ++ encS n) (t.size : Int) (by omega) (by omega)
    rw [← s1] at this
    rw [show (ByteArray.empty).size = 0 from rfl, Nat.zero_add, ← size_app] at this
    exact this
  have r2 : rL s (encS t.size ++ t).size 0 true (l.length : Int) = (l, (encS t.size ++ t ++ encS l.length ++ encZ l).size, 0) := by
    have := rL_mid (encS t.size ++ t) (encS (zig i) ++ encS n) l (l.length : Int) (by omega) h6 (by omega)
    rw [← s2, ← size_app, ← size_app] at this
    exact this
  have r2c : (rC s (encS t.size ++ t).size 0 true (l.length : Int)).1 = l.length := by
    have := rC_mid (encS t.size ++ t) (encZ l ++ (encS (zig i) ++ encS n)) l.length (l.length : Int) (by omega) (by omega)
    rw [← s2] at this
    rw [this]
  have r3 : rI s (encS t.size ++ t ++ encS l.length ++ encZ l).size 0 true = (i, (encS t.size ++ t ++ encS l.length ++ encZ l ++ encS (zig i)).size, 0) := by
    have := rI_mid (encS t.size ++ t ++ encS l.length ++ encZ l) (encS n) i h2 h3
    rw [← s3, ← size_app] at this
    exact this
  have r4 : rU s (encS t.size ++ t ++ encS l.length ++ encZ l ++ encS (zig i)).size 0 true = (n, s.size, 0) := by
    have := rU_mid (encS t.size ++ t ++ encS l.length ++ encZ l ++ encS (zig i)) ByteArray.empty n h1
    rw [← s4] at this
    rw [this, hsz]
    simp only [size_app]
    congr 2
    omega
  have q1 : (encS t.size ++ t).size ≤ s.size := by rw [hsz]; simp only [size_app]; omega
  have q2 : (encS t.size ++ t ++ encS l.length ++ encZ l).size ≤ s.size := by rw [hsz]; simp only [size_app]; omega
  have q3 : (encS t.size ++ t ++ encS l.length ++ encZ l ++ encS (zig i)).size ≤ s.size := by rw [hsz]; simp only [size_app]; omega
  unfold imageeditorlaw04_WireReturns.f
  rw [hk, wire_Text_eq t _ (by omega) (by omega), Option.bind_some, WireEx.ints_eq l h5 h6, Option.bind_some, if_pos (by simp only [size_app]; omega), wire_Int_eq i _ h2 h3 (by omega), Option.bind_some, if_pos (by simp only [size_app]; omega),
    wire_Uint_eq n _ h1 (by omega), Option.bind_some, if_pos (by simp only [size_app]; omega), new_eq, Option.bind_some]
  simp only
  rw [hs, text_eq s 0 k 0 true _ (by omega) (by omega) (by omega) (by omega), r1, Option.bind_some]
  simp only
  rw [if_pos trivial, ints_eq s _ k 0 true _ (by omega) q1 (by omega) (by rw [r2c]; omega) (by rw [r2c]; omega), r2, Option.bind_some]
  simp only
  rw [same_eq l k (by omega) (by omega), Option.bind_some, if_pos rfl, int_eq s _ k 0 true (by omega) q2 (by omega), r3, Option.bind_some]
  simp only
  rw [if_pos trivial, uint_eq s _ k 0 true (by omega) q3 (by omega), r4, Option.bind_some]
  simp only
  obtain ⟨k', rfl⟩ : ∃ m, k = m + 1 := ⟨k - 1, by omega⟩
  simp only [imageeditorlaw04_WireReturns.j0]
  rw [if_neg (by simp), end_eq, Option.bind_some]
  simp only
  rw [show rEnd s s.size 0 true = 0 from by unfold rEnd rErr; rw [if_pos rfl, if_pos rfl, if_neg (by omega)], if_pos rfl, left_eq s _ 0 true (by omega) (by omega), Option.bind_some]
  simp only
  rw [show rLeft s s.size 0 true = 0 from by unfold rLeft; rw [if_pos good0]; omega, if_pos rfl, WireEx.example_ok k' (by omega), Option.bind_some]

end Go.Proofs.Ytnjelebhicheeaa.WireReturns

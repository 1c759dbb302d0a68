/- DigestJoins, the plain law. -/
import Derived.Test.YtfmcikffoinbmaaDigLaws
import Derived.OpenShut
import Derived.Test.YtfmcikffoinbmaaQx9
namespace Go.Proofs.Ytfmcikffoinbmaa.DigJoins
open Go.RowKit Go.Proofs.YtfmcikffoinbmaaW.PrintWords Go.Proofs.YtfmcikffoinbmaaW.PrintLast Go.Proofs.YtfmcikffoinbmaaW.PrintMore Go.Proofs.Ytfmcikffoinbmaa.Q Go.Proofs.Ytfmcikffoinbmaa.Spec Go.Proofs.Ytfmcikffoinbmaa.CrcSpec Go.Proofs.Ytfmcikffoinbmaa.WireEnc Go.Proofs.Ytfmcikffoinbmaa.WireDec Go.Proofs.Ytfmcikffoinbmaa.WireMid Go.Proofs.Ytfmcikffoinbmaa.DigSums Go.Proofs.Ytfmcikffoinbmaa.DigFO Go.Proofs.Ytfmcikffoinbmaa.DigLaws
set_option linter.unusedVariables false
set_option linter.unusedSimpArgs false

theorem wn (x : Int) (n : Nat) (h : x = (n : Int)) (hn : n < 18446744073709551616) : IntKind.u64.wrap x = (n : Int) := by
  rw [wrap_u64]
  omega
theorem tm16 (n : Nat) : Int.tmod (n : Int) 65536 = ((n % 65536 : Nat) : Int) := tm n 65536
theorem td16 (n : Nat) : Int.tdiv (n : Int) 65536 = ((n / 65536 : Nat) : Int) := td n 65536
theorem tmp (n : Nat) : Int.tmod (n : Int) 65521 = ((n % 65521 : Nat) : Int) := tm n 65521
/-- the arithmetic of the law -/
theorem arith0 (a b e d P m : Nat) (ha : a < 65521) (hb : b < 65521) (hd : d < 65521) (he : e < 65521) (hP : P ≤ 65521 * 131041) (hPm : ((m : Nat) : Int) * ((a + 65520 : Nat) : Int) = (P : Int)) :
    (IntKind.u64.wrap ((IntKind.u64.wrap ((Int.tmod (IntKind.u64.wrap ((IntKind.u64.wrap ((b : Int) + (e : Int))) + (IntKind.u64.wrap (((m : Nat) : Int) * (IntKind.u64.wrap ((a : Int) + 65520)))))) 65521) * 65536)) + (Int.tmod (IntKind.u64.wrap ((IntKind.u64.wrap ((a : Int) + (d : Int))) + 65520)) 65521)))
      = (((b + e + P) % 65521 * 65536 + (a + d + 65520) % 65521 : Nat) : Int) := by
  rw [wn ((b : Int) + (e : Int)) (b + e) (by omega) (by omega), wn ((a : Int) + 65520) (a + 65520) (by omega) (by omega), hPm]
  rw [wn ((P : Nat) : Int) P rfl (by omega), wn (((b + e : Nat) : Int) + (P : Int)) (b + e + P) (by omega) (by omega), tmp, wn ((((b + e + P) % 65521 : Nat) : Int) * 65536) ((b + e + P) % 65521 * 65536) (by omega) (by omega), wn ((a : Int) + (d : Int)) (a + d) (by omega) (by omega), wn (((a + d : Nat) : Int) + 65520) (a + d + 65520) (by omega) (by omega), tmp]
  exact wn _ _ (by omega) (by omega)
theorem arith (a b d e m : Nat) (ha : a < 65521) (hb : b < 65521) (hd : d < 65521) (he : e < 65521) :
    (IntKind.u64.wrap ((IntKind.u64.wrap ((Int.tmod (IntKind.u64.wrap ((IntKind.u64.wrap ((b : Int) + (IntKind.u64.wrap (Int.tdiv ((e * 65536 + d : Nat) : Int) 65536)))) + (IntKind.u64.wrap ((Int.tmod ((m : Nat) : Int) 65521) * (IntKind.u64.wrap ((a : Int) + 65520)))))) 65521) * 65536)) + (Int.tmod (IntKind.u64.wrap ((IntKind.u64.wrap ((a : Int) + (d : Int))) + 65520)) 65521)))
      = (((b + e + m % 65521 * (a + 65520)) % 65521 * 65536 + (a + d + 65520) % 65521 : Nat) : Int) := by
  have hm : m % 65521 < 65521 := Nat.mod_lt _ (by omega)
  have hP : m % 65521 * (a + 65520) ≤ 65521 * 131041 := Nat.mul_le_mul (by omega) (by omega)
  rw [td16, wn ((((e * 65536 + d) / 65536 : Nat) : Int)) e (by omega) (by omega), tmp m]
  exact arith0 a b e d _ (m % 65521) ha hb hd he hP (Int.natCast_mul _ _).symm
theorem joins (s t : ByteArray) (c : Int) (hs : s.size ≤ 140737488351232) (ht : t.size ≤ 140737488351232) (hc : (Lit.int .u8 c).wf = true) : ∃ k, imageeditorlaw05_DigestJoins.f k s t c = some true := by
  refine ⟨s.size + t.size + 302, ?_⟩
  have hc2 := Go.bounds_u8 hc
  obtain ⟨k, hk⟩ : ∃ k, s.size + t.size + 302 = k + 2 := ⟨_, rfl⟩
  rw [hk]
  unfold imageeditorlaw05_DigestJoins.f
  rw [awake_ok _ (by omega), Option.bind_some, if_pos rfl]
  by_cases h1 : 100000 < s.size
  · rw [if_pos (by omega)]
    simp only [imageeditorlaw05_DigestJoins.j0]
    rw [if_pos trivial, awake_ok _ (by omega)]
    rfl
  · rw [if_neg (by omega)]
    by_cases h2 : 100000 < t.size
    · rw [decide_eq_true (by omega)]
      simp only [imageeditorlaw05_DigestJoins.j0]
      rw [if_pos trivial, awake_ok _ (by omega)]
      rfl
    · rw [decide_eq_false (by omega)]
      simp only [imageeditorlaw05_DigestJoins.j0]
      have a1 := adA_lt s s.size
      have b1 := adB_lt s s.size
      have a2 := adA_lt t t.size
      have b2 := adB_lt t t.size
      have hz : (s ++ t).size = s.size + t.size := size_app s t
      rw [if_neg (by simp), adler_eq s _ (by omega) (by omega), Option.bind_some, adler_eq t _ (by omega) (by omega), Option.bind_some, if_pos (by omega), adler_eq (s ++ t) _ (by omega) (by omega), Option.bind_some]
      have hj : adler (s ++ t) = (adB s s.size + adB t t.size + t.size % 65521 * (adA s s.size + 65520)) % 65521 * 65536 + (adA s s.size + adA t t.size + 65520) % 65521 := by
        unfold adler
        rw [hz, adA_app s t _ (by omega), adB_app s t _ (by omega)]
      have hx : adler s = adB s s.size * 65536 + adA s s.size := rfl
      have hy : adler t = adB t t.size * 65536 + adA t t.size := rfl
      rw [wn ((adler s : Nat) : Int) (adler s) rfl (by omega), wn ((adler t : Nat) : Int) (adler t) rfl (by omega), wn ((adler (s ++ t) : Nat) : Int) (adler (s ++ t)) rfl (by rw [hj]; omega)]
      have m1 : adler s % 65536 = adA s s.size := by omega
      have m2 : adler s / 65536 = adB s s.size := by omega
      have m3 : adler t % 65536 = adA t t.size := by omega
      have m4 : adler t / 65536 = adB t t.size := by omega
      rw [tm16, tm16, td16, td16, m1, m2, m3, m4, wn ((adB s s.size : Nat) : Int) _ rfl (by omega), wn ((adB t t.size : Nat) : Int) _ rfl (by omega), if_neg (by omega), if_neg (by omega), if_neg (by omega), decide_eq_false (by omega)]
      simp only [imageeditorlaw05_DigestJoins.j1]
      rw [if_neg (by simp), wn ((t.size : Nat) : Int) _ rfl (by omega), hy, arith _ _ _ _ _ a1 b1 a2 b2, hj, if_pos rfl, Option.bind_some]
      have hz1 : (strOfNums [c]).size = 1 := strOfNums_size _
      have hz2 : (s ++ strOfNums [c]).size = s.size + 1 := by rw [size_app, hz1]
      rw [if_pos (by omega), fnv_eq _ _ (by omega) (by omega), Option.bind_some, fnv_eq _ _ (by omega) (by omega), Option.bind_some, fnv_snoc s c hc2.1 hc2.2]
      have hst := stepF (fnv s) c.toNat (fnvR_lt s _) (by omega)
      rw [show ((c.toNat : Nat) : Int) = c from by omega] at hst
      rw [hst, beq_self_eq_true]
end Go.Proofs.Ytfmcikffoinbmaa.DigJoins

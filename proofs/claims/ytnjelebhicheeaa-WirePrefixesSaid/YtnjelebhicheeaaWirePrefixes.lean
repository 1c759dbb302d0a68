/- WirePrefixes, the plain law: of a proper beginning of an encoded value nothing is decoded. -/
import Derived.Test.YtnjelebhicheeaaWireShortest
import Derived.Test.YtnjelebhicheeaaQx9
namespace Go.Proofs.Ytnjelebhicheeaa.WirePrefixes
open Go.RowKit Go.Proofs.YtnjelebhicheeaaW.PrintWords Go.Proofs.YtnjelebhicheeaaW.PrintLast Go.Proofs.YtnjelebhicheeaaW.PrintMore Go.Proofs.Ytnjelebhicheeaa.Q Go.Proofs.Ytnjelebhicheeaa.Spec Go.Proofs.Ytnjelebhicheeaa.WireEnc Go.Proofs.Ytnjelebhicheeaa.WireDec Go.Proofs.Ytnjelebhicheeaa.WireRd
set_option linter.unusedVariables false
set_option linter.unusedSimpArgs false

theorem ext_app (x y : ByteArray) (m : Nat) (h1 : x.size ≤ m) (h2 : m ≤ (x ++ y).size) : (x ++ y).extract 0 m = x ++ y.extract 0 (m - x.size) := by
  have hz : (x ++ y).size = x.size + y.size := size_app x y
  apply ext_nb
  · rw [size_ext _ _ _ h2, size_app, size_ext _ _ _ (by omega)]; omega
  · intro j hj
    rw [size_ext _ _ _ h2] at hj
    rw [nb_ext _ _ _ _ h2 hj, nb_app, nb_app, Nat.zero_add]
    by_cases h : j < x.size
    · rw [if_pos h, if_pos h]
    · rw [if_neg h, if_neg h, nb_ext _ _ _ _ (by omega) (by omega), Nat.zero_add]
/-- a number whose end is missing -/
theorem dec_cut (a c : ByteArray) (n m : Nat) (h : n < 18446744073709551616) (hm : m < (encS n).size) : dec (a ++ (encS n ++ c).extract 0 m) a.size 0 0 = .bad 5 := by
  have hz : (encS n ++ c).size = (encS n).size + c.size := size_app _ _
  have hsz : (a ++ (encS n ++ c).extract 0 m).size = a.size + m := by rw [size_app, size_ext _ _ _ (by omega)]; omega
  rw [dec_enc (a ++ (encS n ++ c).extract 0 m) a.size n 0 0 (by omega) (fun h => absurd h (by omega)) (by simpa using h) (by omega) (fun j hj hs => by
    rw [Nat.add_zero] at hs ⊢
    rw [nb_app, if_neg (by omega), show a.size + j - a.size = j from by omega, nb_ext _ _ _ _ (by omega) (by omega), Nat.zero_add, nb_app, if_pos (by rw [encS_size]; exact hj), encS_nb n j hj])]
  rw [if_neg (by rw [hsz, ← encS_size]; omega)]
theorem rU_cut (a c : ByteArray) (n m : Nat) (h : n < 18446744073709551616) (hm : m < (encS n).size) : rU (a ++ (encS n ++ c).extract 0 m) a.size 0 true = (0, a.size, 5) := by
  unfold rU
  rw [if_pos good0, dec_cut a c n m h hm]
theorem rI_cut (a c : ByteArray) (n : Int) (m : Nat) (h1 : -9223372036854775808 ≤ n) (h2 : n ≤ 9223372036854775807) (hm : m < (encS (zig n)).size) : (rI (a ++ (encS (zig n) ++ c).extract 0 m) a.size 0 true).2 = (a.size, 5) := by
  unfold rI
  rw [rU_cut a c _ m (zig_lt n h1 h2) hm]
theorem rC_cut (a c : ByteArray) (n m : Nat) (most : Int) (h : n < 18446744073709551616) (hm : m < (encS n).size) : rC (a ++ (encS n ++ c).extract 0 m) a.size 0 true most = (0, a.size, 5) := by
  unfold rC
  rw [rU_cut a c n m h hm]
  simp only
  rw [if_neg (good_ne (by omega))]
theorem rT_cut (t : ByteArray) (m : Nat) (h : t.size < 18446744073709551616) (hm : m < (encS t.size ++ t).size) : (rT ((encS t.size ++ t).extract 0 m) 0 0 true (t.size : Int)).2.2 = 5 := by
  have hz : (encS t.size ++ t).size = (encS t.size).size + t.size := size_app _ _
  unfold rT
  by_cases hc : m < (encS t.size).size
  · have := rC_cut ByteArray.empty t t.size m (t.size : Int) h hc
    rw [empty_app] at this
    rw [show (ByteArray.empty).size = 0 from rfl] at this
    rw [this]
    simp only
    rw [if_neg (good_ne (by omega))]
  · have := rC_mid ByteArray.empty (t.extract 0 (m - (encS t.size).size)) t.size (t.size : Int) h (by omega)
    rw [empty_app, show (ByteArray.empty).size = 0 from rfl] at this
    rw [ext_app _ _ _ (by omega) (by omega), this]
    simp only
    rw [if_pos good0, if_pos (by rw [size_app, size_ext _ _ _ (by omega)]; omega)]
theorem rLg_cut (l : List Int) : ∀ (a : ByteArray) (acc : List Int) (m : Nat), Fits l → m < (encZ l).size → (rLg (a ++ (encZ l).extract 0 m) l.length a.size acc).2.2 = 5 := by
  induction l with
  | nil =>
    intro a acc m _ hm
    exact absurd hm (by rw [encZ]; exact Nat.not_lt_zero m)
  | cons n l ih =>
    intro a acc m hf hm
    have hn := hf n (List.mem_cons_self ..)
    rw [encZ] at hm ⊢
    have hz : (encS (zig n) ++ encZ l).size = (encS (zig n)).size + (encZ l).size := size_app _ _
    rw [List.length_cons, rLg]
    by_cases hc : m < (encS (zig n)).size
    · have := rI_cut a (encZ l) n m hn.1 hn.2 hc
      rw [if_neg (by rw [this]; show ¬ (5 : Int) = 0; omega)]
      rw [this]
    · rw [ext_app _ _ _ (by omega) (by omega), rI_mid a _ n hn.1 hn.2, if_pos rfl]
      have := ih (a ++ encS (zig n)) (acc ++ [n]) (m - (encS (zig n)).size) (fun x hx => hf x (List.mem_cons_of_mem _ hx)) (by omega)
      rw [app_assoc, size_app] at this
      exact this
theorem rL_cut (l : List Int) (m : Nat) (hl : l.length < 18446744073709551616) (hf : Fits l) (hm : m < (encS l.length ++ encZ l).size) :
    (rL ((encS l.length ++ encZ l).extract 0 m) 0 0 true (l.length : Int)).2.2 = 5 ∧ (rC ((encS l.length ++ encZ l).extract 0 m) 0 0 true (l.length : Int)).1 ≤ l.length := by
  have hz : (encS l.length ++ encZ l).size = (encS l.length).size + (encZ l).size := size_app _ _
  unfold rL
  by_cases hc : m < (encS l.length).size
  · have := rC_cut ByteArray.empty (encZ l) l.length m (l.length : Int) hl hc
    rw [empty_app] at this
    rw [show (ByteArray.empty).size = 0 from rfl] at this
    rw [this]
    simp only
    rw [if_neg (good_ne (by omega))]
    exact ⟨rfl, by omega⟩
  · have := rC_mid ByteArray.empty ((encZ l).extract 0 (m - (encS l.length).size)) l.length (l.length : Int) hl (by omega)
    rw [empty_app, show (ByteArray.empty).size = 0 from rfl, Nat.zero_add] at this
    rw [ext_app _ _ _ (by omega) (by omega), this]
    simp only
    rw [if_pos good0]
    exact ⟨rLg_cut l (encS l.length) [] _ hf (by omega), by omega⟩

/-! ### the rounds -/
theorem j1_ok (x1 : Int) (L : List ByteArray) (q k : Nat) (hq : q < 4) (x34 x35 : Int) (x36 : ByteArray) (x37 : List Int) (s : ByteArray) (p : Nat) :
    imageeditorlaw04_WirePrefixes.j1 (k + 1) x1 L (q : Int) x34 x35 x36 x37 s (p : Int) 5 true = imageeditorlaw04_WirePrefixes.l0 k x1 L ((q + 1 : Nat) : Int) x34 x35 x36 x37 := by
  simp only [imageeditorlaw04_WirePrefixes.j1]
  rw [err_eq, Option.bind_some]
  simp only
  rw [if_pos (show rErr 5 true = 5 from rfl), end_eq, Option.bind_some]
  simp only
  rw [if_pos (show rEnd s p 5 true = 5 from rfl), wrap_id _ (by omega) (by omega)]
  rfl
theorem tm (a b : Nat) : Int.tmod (a : Int) (b : Int) = ((a % b : Nat) : Int) := rfl
/-- the common beginning of a round -/
theorem head (x : Nat) (L : List ByteArray) (t : ByteArray) (q k : Nat) (hq : q < 4) (hL : L.length = 4) (ht : rdOf ByteArray.empty L (q : Int) = t) (hp : 0 < t.size) (hs : t.size ≤ 4611686018427387000) (x34 x35 : Int) (x36 : ByteArray) (x37 : List Int) (R : Option Bool)
    (h0 : q = 0 → ∃ p : Nat, (wire_Reader_Uint.f k (t.extract 0 (x % t.size)) 0 0 true) = some ((0 : Int), t.extract 0 (x % t.size), (p : Int), 5, true))
    (h1 : q = 1 → ∃ (v : Int) (p : Nat), (wire_Reader_Int.f k (t.extract 0 (x % t.size)) 0 0 true) = some (v, t.extract 0 (x % t.size), (p : Int), 5, true))
    (h2 : q = 2 → ∃ (v : ByteArray) (p : Nat), (wire_Reader_Text.f k (t.extract 0 (x % t.size)) 0 0 true (x36.size : Int)) = some (v, t.extract 0 (x % t.size), (p : Int), 5, true))
    (h3 : q = 3 → ∃ (v : List Int) (p : Nat), (wire_Reader_Ints.f k (t.extract 0 (x % t.size)) 0 0 true (x37.length : Int)) = some (v, t.extract 0 (x % t.size), (p : Int), 5, true))
    (hk : 1 ≤ k) (hR : imageeditorlaw04_WirePrefixes.l0 (k - 1) (x : Int) L ((q + 1 : Nat) : Int) x34 x35 x36 x37 = R) :
    imageeditorlaw04_WirePrefixes.l0 (k + 1) (x : Int) L (q : Int) x34 x35 x36 x37 = R := by
  obtain ⟨k, rfl⟩ : ∃ m, k = m + 1 := ⟨k - 1, by omega⟩
  rw [Nat.add_sub_cancel] at hR
  simp only [imageeditorlaw04_WirePrefixes.l0]
  have hm := Nat.mod_lt x hp
  rw [if_pos (by omega), if_pos (by omega), if_pos (by rw [hL]; omega), ht, if_neg (by omega), wrap_u64, show (t.size : Int) % 18446744073709551616 = (t.size : Int) from by omega, if_neg (by omega), tm, if_pos (by omega), if_pos (by omega), Int.toNat_natCast, new_eq, Option.bind_some]
  simp only
  by_cases e0 : q = 0
  · obtain ⟨p, hp⟩ := h0 e0
    rw [if_pos (by omega), show ((0 : Nat) : Int) = 0 from rfl, hp, Option.bind_some]
    simp only
    rw [j1_ok _ _ q k hq, hR]
  · rw [if_neg (by omega)]
    by_cases e1 : q = 1
    · obtain ⟨v, p, hp⟩ := h1 e1
      rw [if_pos (by omega), show ((0 : Nat) : Int) = 0 from rfl, hp, Option.bind_some]
      simp only
      rw [j1_ok _ _ q k hq, hR]
    · rw [if_neg (by omega)]
      by_cases e2 : q = 2
      · obtain ⟨v, p, hp⟩ := h2 e2
        rw [if_pos (by omega), show ((0 : Nat) : Int) = 0 from rfl, hp, Option.bind_some]
        simp only
        rw [j1_ok _ _ q k hq, hR]
      · obtain ⟨v, p, hp⟩ := h3 (by omega)
        rw [if_neg (by omega), if_pos (by omega), show ((0 : Nat) : Int) = 0 from rfl, hp, Option.bind_some]
        simp only
        rw [j1_ok _ _ q k hq, hR]
theorem law (n : Nat) (i : Int) (t : ByteArray) (l : List Int) (x : Nat) (h1 : n < 18446744073709551616) (h2 : -9223372036854775808 ≤ i) (h3 : i ≤ 9223372036854775807) (h4 : t.size ≤ 140737488351232) (h5 : l.length ≤ 17592186044416) (h6 : Fits l) :
    imageeditorlaw04_WirePrefixes.f (l.length + 60) (n : Int) i t l (x : Int) = some true := by
  have z1 := encS_le t.size (by omega)
  have z2 := encS_le l.length (by omega)
  have z3 := encZ_le l h6
  have z4 := encS_le (zig i) (zig_lt i h2 h3)
  have z5 := encS_le n h1
  have p1 : ∀ m, 0 < (encS m).size := fun m => by rw [encS_size]; exact enc_pos m
  have q1 := p1 n
  have q2 := p1 (zig i)
  have q3 := p1 t.size
  have q4 := p1 l.length
  have y3 : (encS t.size ++ t).size = (encS t.size).size + t.size := size_app _ _
  have y4 : (encS l.length ++ encZ l).size = (encS l.length).size + (encZ l).size := size_app _ _
  have xs : ∀ s : ByteArray, 0 < s.size → (s.extract 0 (x % s.size)).size ≤ s.size := fun s hs => by
    have := Nat.mod_lt x hs
    rw [size_ext _ _ _ (by omega)]
    omega
  unfold imageeditorlaw04_WirePrefixes.f
  rw [wire_Uint_eq n _ h1 (by omega), Option.bind_some, wire_Int_eq i _ h2 h3 (by omega), Option.bind_some, wire_Text_eq t _ (by omega) (by omega), Option.bind_some, WireEx.ints_eq l h5 h6, Option.bind_some]
  refine head x _ (encS n) 0 (l.length + 59) (by omega) rfl rfl q1 (by omega) _ _ _ _ _ (fun _ => ?_) (fun h => absurd h (by omega)) (fun h => absurd h (by omega)) (fun h => absurd h (by omega)) (by omega) ?_
  · have := xs _ q1
    have e := rU_cut ByteArray.empty ByteArray.empty n (x % (encS n).size) h1 (Nat.mod_lt _ q1)
    rw [empty_app, app_empty, show (ByteArray.empty).size = 0 from rfl] at e
    have u := uint_eq ((encS n).extract 0 (x % (encS n).size)) 0 (l.length + 59) 0 true (by omega) (by omega) (by omega)
    rw [e] at u
    exact ⟨0, u⟩
  refine head x _ (encS (zig i)) 1 (l.length + 57) (by omega) rfl rfl q2 (by omega) _ _ _ _ _ (fun h => absurd h (by omega)) (fun _ => ?_) (fun h => absurd h (by omega)) (fun h => absurd h (by omega)) (by omega) ?_
  · have := xs _ q2
    have e := rI_cut ByteArray.empty ByteArray.empty i (x % (encS (zig i)).size) h2 h3 (Nat.mod_lt _ q2)
    rw [empty_app, app_empty, show (ByteArray.empty).size = 0 from rfl] at e
    have u := int_eq ((encS (zig i)).extract 0 (x % (encS (zig i)).size)) 0 (l.length + 57) 0 true (by omega) (by omega) (by omega)
    rw [e] at u
    exact ⟨_, _, u⟩
  refine head x _ (encS t.size ++ t) 2 (l.length + 55) (by omega) rfl rfl (by omega) (by omega) _ _ _ _ _ (fun h => absurd h (by omega)) (fun h => absurd h (by omega)) (fun _ => ?_) (fun h => absurd h (by omega)) (by omega) ?_
  · have := xs (encS t.size ++ t) (by omega)
    have e := rT_cut t (x % (encS t.size ++ t).size) (by omega) (Nat.mod_lt _ (by omega))
    have u := text_eq ((encS t.size ++ t).extract 0 (x % (encS t.size ++ t).size)) 0 (l.length + 55) 0 true (t.size : Int) (by omega) (by omega) (by omega) (by omega)
    rw [e] at u
    exact ⟨_, _, u⟩
  refine head x _ (encS l.length ++ encZ l) 3 (l.length + 53) (by omega) rfl rfl (by omega) (by omega) _ _ _ _ _ (fun h => absurd h (by omega)) (fun h => absurd h (by omega)) (fun h => absurd h (by omega)) (fun _ => ?_) (by omega) ?_
  · have := xs (encS l.length ++ encZ l) (by omega)
    have e := rL_cut l (x % (encS l.length ++ encZ l).size) (by omega) h6 (Nat.mod_lt _ (by omega))
    have u := ints_eq ((encS l.length ++ encZ l).extract 0 (x % (encS l.length ++ encZ l).size)) 0 (l.length + 53) 0 true (l.length : Int) (by omega) (by omega) (by omega) (by omega) (by omega)
    rw [e.1] at u
    exact ⟨_, _, u⟩
  show imageeditorlaw04_WirePrefixes.l0 ((l.length + 51) + 1) _ _ _ _ _ _ _ = _
  simp only [imageeditorlaw04_WirePrefixes.l0]
  rw [if_neg (by omega), WireEx.example_ok _ (by omega), Option.bind_some]

end Go.Proofs.Ytnjelebhicheeaa.WirePrefixes

/- One call of both readers ('step'), walked by hand over the contracts of the readers' methods: where both readers stand alike, the call says true and they stand alike behind it. -/
import Derived.Test.YtnjelebhicheeaaWireStep
namespace Go.Proofs.Ytnjelebhicheeaa.WireTwo
open Go.RowKit Go.Proofs.YtnjelebhicheeaaW.PrintWords Go.Proofs.YtnjelebhicheeaaW.PrintLast Go.Proofs.YtnjelebhicheeaaW.PrintMore Go.Proofs.Ytnjelebhicheeaa.Q Go.Proofs.Ytnjelebhicheeaa.Spec Go.Proofs.Ytnjelebhicheeaa.WireEnc Go.Proofs.Ytnjelebhicheeaa.WireDec Go.Proofs.Ytnjelebhicheeaa.WireMid Go.Proofs.Ytnjelebhicheeaa.RefRd Go.Proofs.Ytnjelebhicheeaa.WireStep
set_option linter.unusedVariables false
set_option linter.unusedSimpArgs false

/-- both readers' blocks -/
structure Two (w0 W : World) (g x : Nat) (s : ByteArray) (p : Nat) (e : Int) (p2 : Nat) (e2 : Int) (m : Bool) : Prop where
  a : IsS52 w0 W g s (p : Int) e m
  b : IsS54 w0 W x s (p2 : Int) e2 m
  below : Below w0.heap.size w0 W
/-- and the box of the step -/
structure Three (w0 W : World) (g x q : Nat) (s : ByteArray) (p : Nat) (e : Int) (p2 : Nat) (e2 : Int) (m : Bool) (k0 k1 : Int) : Prop where
  two : Two w0 W g x s p e p2 e2 m
  box : W.heap[q]? = some (.cells #[.int .i64 k0, .int .i64 k1] 49 (0, 0))
section
variable {w0 W W' : World} {g x q : Nat} {s : ByteArray} {p p' p2 : Nat} {e e' e2 : Int} {m : Bool} {k0 k1 : Int}
theorem Two.ne (h : Two w0 W g x s p e p2 e2 m) : g ≠ x := h.a.ne_blk h.b.1 (by decide)
theorem Three.neG (h : Three w0 W g x q s p e p2 e2 m k0 k1) : g ≠ q := h.two.a.ne_blk h.box (by decide)
theorem Three.neX (h : Three w0 W g x q s p e p2 e2 m k0 k1) : x ≠ q := h.two.b.ne_blk h.box (by decide)
theorem Three.c0 (h : Three w0 W g x q s p e p2 e2 m k0 k1) : W.cell? ⟨q, 0, none⟩ = some (.int .i64 k0) := (blk_cell h.box 0).trans rfl
theorem Three.c1 (h : Three w0 W g x q s p e p2 e2 m k0 k1) : W.cell? ⟨q, 1, none⟩ = some (.int .i64 k1) := (blk_cell h.box 1).trans rfl
theorem Three.onP (h : Three w0 W g x q s p e p2 e2 m k0 k1) (hk : KeepBut W W' g none) (ha : IsS52 w0 W' g s (p' : Int) e' m) (hb : Below w0.heap.size w0 W') : Three w0 W' g x q s p' e' p2 e2 m k0 k1 :=
  ⟨⟨ha, ⟨hk.blk h.two.b.1 (fun h2 => h.two.ne h2.symm) (by simp), h.two.b.2⟩, hb⟩, hk.blk h.box (fun h2 => h.neG h2.symm) (by simp)⟩
theorem Three.onX (h : Three w0 W g x q s p e p2 e2 m k0 k1) (hk : KeepBut W W' x none) (ha : IsS54 w0 W' x s (p' : Int) e' m) (hb : Below w0.heap.size w0 W') : Three w0 W' g x q s p e p' e' m k0 k1 :=
  ⟨⟨⟨hk.blk h.two.a.1 h.two.ne (by simp), h.two.a.2⟩, ha, hb⟩, hk.blk h.box (fun h2 => h.neX h2.symm) (by simp)⟩

/-! ### each method, with the other reader standing by -/
theorem pUint (h : Three w0 W g x q s p e p2 e2 m k0 k1) (hs : s.size ≤ 1048576) (hp : p ≤ s.size) :
    Calls Try.prog 23 #[.pointer (some ⟨g, 0, none⟩)] W fun ev W' => ev = .returned (.int .u64 (((rU s p e m).1 : Nat) : Int)) ∧ Three w0 W' g x q s (rU s p e m).2.1 (rU s p e m).2.2 p2 e2 m k0 k1 :=
  (wire_Reader_Uint.calls 20 g s p e m _ _ _ _ _ w0 W h.two.a h.two.below (uint_eq s p 20 e m (by omega) hp (by omega))).mono fun ev W' ⟨h1, h2, h3, h4⟩ => ⟨h1, h.onP h4 h2 h3⟩
theorem pInt (h : Three w0 W g x q s p e p2 e2 m k0 k1) (hs : s.size ≤ 1048576) (hp : p ≤ s.size) :
    Calls Try.prog 22 #[.pointer (some ⟨g, 0, none⟩)] W fun ev W' => ev = .returned (.int .i64 (rI s p e m).1) ∧ Three w0 W' g x q s (rI s p e m).2.1 (rI s p e m).2.2 p2 e2 m k0 k1 :=
  (wire_Reader_Int.calls 20 g s p e m _ _ _ _ _ w0 W h.two.a h.two.below (int_eq s p 20 e m (by omega) hp (by omega))).mono fun ev W' ⟨h1, h2, h3, h4⟩ => ⟨h1, h.onP h4 h2 h3⟩
theorem pText (h : Three w0 W g x q s p e p2 e2 m k0 k1) (hs : s.size ≤ 1048576) (hp : p ≤ s.size) (hm : k1 ≤ 9223372036854775807) :
    Calls Try.prog 19 #[.pointer (some ⟨g, 0, none⟩), .int .i64 k1] W fun ev W' => ev = .returned (.string (rT s p e m k1).1) ∧ Three w0 W' g x q s (rT s p e m k1).2.1 (rT s p e m k1).2.2 p2 e2 m k0 k1 :=
  (wire_Reader_Text.calls 20 g s p e m k1 _ _ _ _ _ w0 W h.two.a h.two.below (text_eq s p 20 e m k1 (by omega) hp hm (by omega))).mono fun ev W' ⟨h1, h2, h3, h4⟩ => ⟨h1, h.onP h4 h2 h3⟩
theorem pCount (h : Three w0 W g x q s p e p2 e2 m k0 k1) (hs : s.size ≤ 1048576) (hp : p ≤ s.size) (hm : k1 ≤ 9223372036854775807) :
    Calls Try.prog 34 #[.pointer (some ⟨g, 0, none⟩), .int .i64 k1] W fun ev W' => ev = .returned (.int .i64 (((rC s p e m k1).1 : Nat) : Int)) ∧ Three w0 W' g x q s (rC s p e m k1).2.1 (rC s p e m k1).2.2 p2 e2 m k0 k1 :=
  (wire_Reader_Count.calls 20 g s p e m k1 _ _ _ _ _ w0 W h.two.a h.two.below (count_eq s p 20 e m k1 (by omega) hp hm (by omega))).mono fun ev W' ⟨h1, h2, h3, h4⟩ => ⟨h1, h.onP h4 h2 h3⟩
theorem pFail (h : Three w0 W g x q s p e p2 e2 m k0 k1) (hs : s.size ≤ 1048576) (hp : p ≤ s.size) (hm : k1 ≤ 9223372036854775807) :
    Calls Try.prog 41 #[.pointer (some ⟨g, 0, none⟩), .int .i64 k1] W fun ev W' => ev = .returned (.tuple #[]) ∧ Three w0 W' g x q s (rF p e m k1).1 (rF p e m k1).2 p2 e2 m k0 k1 :=
  (wire_Reader_Fail.calls g s p e m k1 _ _ _ _ w0 W h.two.a h.two.below (fail_eq s p e m k1)).mono fun ev W' ⟨h1, h2, h3, h4⟩ => ⟨h1, h.onP h4 h2 h3⟩
theorem pLeft (h : Three w0 W g x q s p e p2 e2 m k0 k1) (hs : s.size ≤ 1048576) (hp : p ≤ s.size) :
    Calls Try.prog 25 #[.pointer (some ⟨g, 0, none⟩)] W fun ev W' => ev = .returned (.int .i64 (rLeft s p e m)) ∧ Three w0 W' g x q s p e p2 e2 m k0 k1 :=
  (wire_Reader_Left.calls g s p e m _ _ _ _ _ w0 W h.two.a h.two.below (left_eq s p e m (by omega) hp)).mono fun ev W' ⟨h1, h2, h3, h4⟩ => ⟨h1, h.onP h4 h2 h3⟩
theorem pErr (h : Three w0 W g x q s p e p2 e2 m k0 k1) (hs : s.size ≤ 1048576) (hp : p ≤ s.size) :
    Calls Try.prog 26 #[.pointer (some ⟨g, 0, none⟩)] W fun ev W' => ev = .returned (.int .i64 (rErr e m)) ∧ Three w0 W' g x q s p e p2 e2 m k0 k1 :=
  (wire_Reader_Err.calls g s p e m _ _ _ _ _ w0 W h.two.a h.two.below (err_eq s p e m)).mono fun ev W' ⟨h1, h2, h3, h4⟩ => ⟨h1, h.onP h4 h2 h3⟩
theorem pEnd (h : Three w0 W g x q s p e p2 e2 m k0 k1) (hs : s.size ≤ 1048576) (hp : p ≤ s.size) :
    Calls Try.prog 24 #[.pointer (some ⟨g, 0, none⟩)] W fun ev W' => ev = .returned (.int .i64 (rEnd s p e m)) ∧ Three w0 W' g x q s p e p2 e2 m k0 k1 :=
  (wire_Reader_End.calls g s p e m _ _ _ _ _ w0 W h.two.a h.two.below (end_eq s p e m)).mono fun ev W' ⟨h1, h2, h3, h4⟩ => ⟨h1, h.onP h4 h2 h3⟩
theorem xUint (h : Three w0 W g x q s p e p2 e2 m k0 k1) (hs : s.size ≤ 1048576) (hp : p2 ≤ s.size) :
    Calls Try.prog 36 #[.pointer (some ⟨x, 0, none⟩)] W fun ev W' => ev = .returned (.int .u64 (((rU s p2 e2 m).1 : Nat) : Int)) ∧ Three w0 W' g x q s p e (rU s p2 e2 m).2.1 (rU s p2 e2 m).2.2 m k0 k1 :=
  (imageeditorref04_Reader_Uint.calls 20 x s p2 e2 m _ _ _ _ _ w0 W h.two.b h.two.below (ruint_eq s p2 20 e2 m (by omega) hp (by omega))).mono fun ev W' ⟨h1, h2, h3, h4⟩ => ⟨h1, h.onX h4 h2 h3⟩
theorem xInt (h : Three w0 W g x q s p e p2 e2 m k0 k1) (hs : s.size ≤ 1048576) (hp : p2 ≤ s.size) :
    Calls Try.prog 37 #[.pointer (some ⟨x, 0, none⟩)] W fun ev W' => ev = .returned (.int .i64 (rI s p2 e2 m).1) ∧ Three w0 W' g x q s p e (rI s p2 e2 m).2.1 (rI s p2 e2 m).2.2 m k0 k1 :=
  (imageeditorref04_Reader_Int.calls 20 x s p2 e2 m _ _ _ _ _ w0 W h.two.b h.two.below (rint_eq s p2 20 e2 m (by omega) hp (by omega))).mono fun ev W' ⟨h1, h2, h3, h4⟩ => ⟨h1, h.onX h4 h2 h3⟩
theorem xText (h : Three w0 W g x q s p e p2 e2 m k0 k1) (hs : s.size ≤ 1048576) (hp : p2 ≤ s.size) (hm : k1 ≤ 9223372036854775807) :
    Calls Try.prog 38 #[.pointer (some ⟨x, 0, none⟩), .int .i64 k1] W fun ev W' => ev = .returned (.string (rT s p2 e2 m k1).1) ∧ Three w0 W' g x q s p e (rT s p2 e2 m k1).2.1 (rT s p2 e2 m k1).2.2 m k0 k1 :=
  (imageeditorref04_Reader_Text.calls 20 x s p2 e2 m k1 _ _ _ _ _ w0 W h.two.b h.two.below (rtext_eq s p2 20 e2 m k1 (by omega) hp hm (by omega))).mono fun ev W' ⟨h1, h2, h3, h4⟩ => ⟨h1, h.onX h4 h2 h3⟩
theorem xCount (h : Three w0 W g x q s p e p2 e2 m k0 k1) (hs : s.size ≤ 1048576) (hp : p2 ≤ s.size) (hm : k1 ≤ 9223372036854775807) :
    Calls Try.prog 39 #[.pointer (some ⟨x, 0, none⟩), .int .i64 k1] W fun ev W' => ev = .returned (.int .i64 (((rC s p2 e2 m k1).1 : Nat) : Int)) ∧ Three w0 W' g x q s p e (rC s p2 e2 m k1).2.1 (rC s p2 e2 m k1).2.2 m k0 k1 :=
  (imageeditorref04_Reader_Count.calls 20 x s p2 e2 m k1 _ _ _ _ _ w0 W h.two.b h.two.below (rcount_eq s p2 20 e2 m k1 (by omega) hp hm (by omega))).mono fun ev W' ⟨h1, h2, h3, h4⟩ => ⟨h1, h.onX h4 h2 h3⟩
theorem xFail (h : Three w0 W g x q s p e p2 e2 m k0 k1) (hs : s.size ≤ 1048576) (hp : p2 ≤ s.size) (hm : k1 ≤ 9223372036854775807) :
    Calls Try.prog 42 #[.pointer (some ⟨x, 0, none⟩), .int .i64 k1] W fun ev W' => ev = .returned (.tuple #[]) ∧ Three w0 W' g x q s p e (rF p2 e2 m k1).1 (rF p2 e2 m k1).2 m k0 k1 :=
  (imageeditorref04_Reader_Fail.calls x s p2 e2 m k1 _ _ _ _ w0 W h.two.b h.two.below (rfail_eq s p2 e2 m k1)).mono fun ev W' ⟨h1, h2, h3, h4⟩ => ⟨h1, h.onX h4 h2 h3⟩
theorem xLeft (h : Three w0 W g x q s p e p2 e2 m k0 k1) (hs : s.size ≤ 1048576) (hp : p2 ≤ s.size) :
    Calls Try.prog 29 #[.pointer (some ⟨x, 0, none⟩)] W fun ev W' => ev = .returned (.int .i64 (rLeft s p2 e2 m)) ∧ Three w0 W' g x q s p e p2 e2 m k0 k1 :=
  (imageeditorref04_Reader_Left.calls x s p2 e2 m _ _ _ _ _ w0 W h.two.b h.two.below (rleft_eq s p2 e2 m (by omega) hp)).mono fun ev W' ⟨h1, h2, h3, h4⟩ => ⟨h1, h.onX h4 h2 h3⟩
theorem xErr (h : Three w0 W g x q s p e p2 e2 m k0 k1) (hs : s.size ≤ 1048576) (hp : p2 ≤ s.size) :
    Calls Try.prog 30 #[.pointer (some ⟨x, 0, none⟩)] W fun ev W' => ev = .returned (.int .i64 (rErr e2 m)) ∧ Three w0 W' g x q s p e p2 e2 m k0 k1 :=
  (imageeditorref04_Reader_Err.calls x s p2 e2 m _ _ _ _ _ w0 W h.two.b h.two.below (rerr_eq s p2 e2 m)).mono fun ev W' ⟨h1, h2, h3, h4⟩ => ⟨h1, h.onX h4 h2 h3⟩
theorem xEnd (h : Three w0 W g x q s p e p2 e2 m k0 k1) (hs : s.size ≤ 1048576) (hp : p2 ≤ s.size) :
    Calls Try.prog 31 #[.pointer (some ⟨x, 0, none⟩)] W fun ev W' => ev = .returned (.int .i64 (rEnd s p2 e2 m)) ∧ Three w0 W' g x q s p e p2 e2 m k0 k1 :=
  (imageeditorref04_Reader_End.calls x s p2 e2 m _ _ _ _ _ w0 W h.two.b h.two.below (rend_eq s p2 e2 m)).mono fun ev W' ⟨h1, h2, h3, h4⟩ => ⟨h1, h.onX h4 h2 h3⟩
/-- a row of numbers of the walk's own -/
def Row (W : World) (v : Value) (l : List Int) : Prop := W.ownsRow 0 3 1 v l.length (nums .i64 l)
theorem row_of {W : World} {base : Nat} {ok : Nat → Prop} {v : Value} {l : List Int} (h : Kd.R (Kd.int .i64) 3 W base ok v l) : Row W v l := own_less (Kd.own_of_R h) (Nat.zero_le _)
theorem row_slice {W : World} {v : Value} {l : List Int} (h : Row W v l) : ∃ A c, v = .slice A l.length c ∧ Kd.C (Kd.int .i64) W A l.length l ∧ l.length ≤ c := by
  obtain ⟨A, c, rfl, hr⟩ := own_reads h
  refine ⟨A, c, rfl, Kd.C_of_reads (enc := Value.int .i64) (d := (0 : Int)) (h1 := fun _ => rfl) hr, ?_⟩
  rcases h.2 with ⟨h1, h2⟩ | ⟨g, cap, cur, h1, _, _, h2, _⟩
  · rw [h2]; exact Nat.zero_le _
  · injection h1 with _ _ h3
    omega
theorem row_ne {W : World} {v : Value} {l : List Int} {b : Nat} {cs : Array Value} {t : TypeId} {fr : Nat × Nat} (h : Row W v l) (hb : W.heap[b]? = some (.cells cs t fr)) (ht : t ≠ 3) : v.ownBlock ≠ some b := by
  rcases h.2 with ⟨rfl, _⟩ | ⟨g, cap, cur, rfl, _, hg, _⟩
  · simp [Value.ownBlock]
  · intro he
    simp only [Value.ownBlock, Option.some.injEq] at he
    have he' : g = b := he
    subst he'
    rw [hb] at hg
    injection hg with hg
    injection hg with _ h2 _
    exact ht h2
theorem pInts (h : Three w0 W g x q s p e p2 e2 m k0 k1) (hs : s.size ≤ 1048576) (hp : p ≤ s.size) (hm : k1 ≤ 9223372036854775807) :
    Calls Try.prog 21 #[.pointer (some ⟨g, 0, none⟩), .int .i64 k1] W fun ev W' => ∃ v, ev = .returned v ∧ Row W' v (rLs s p e m k1).1 ∧ Three w0 W' g x q s (rLs s p e m k1).2.1 (rLs s p e m k1).2.2 p2 e2 m k0 k1 :=
  (wire_Reader_Ints.calls (s.size + 30) g s p e m k1 _ _ _ _ _ w0 W h.two.a h.two.below (ints_eq s p (s.size + 30) e m k1 hs hp hm (by omega))).mono fun ev W' ⟨v, h1, h5, h2, h3, h4⟩ => ⟨v, h1, row_of h5, h.onP h4 h2 h3⟩
theorem xInts {v1 : Value} {l1 : List Int} (h : Three w0 W g x q s p e p2 e2 m k0 k1) (hr : Row W v1 l1) (hs : s.size ≤ 1048576) (hp : p2 ≤ s.size) (hm : k1 ≤ 9223372036854775807) :
    Calls Try.prog 40 #[.pointer (some ⟨x, 0, none⟩), .int .i64 k1] W fun ev W' => ∃ v, ev = .returned v ∧ Row W' v (rLs s p2 e2 m k1).1 ∧ Row W' v1 l1 ∧ Three w0 W' g x q s p e (rLs s p2 e2 m k1).2.1 (rLs s p2 e2 m k1).2.2 m k0 k1 :=
  (imageeditorref04_Reader_Ints.calls (s.size + 30) x s p2 e2 m k1 _ _ _ _ _ w0 W h.two.b h.two.below (rints_eq s p2 (s.size + 30) e2 m k1 hs hp hm (by omega))).mono fun ev W' ⟨v, h1, h5, h2, h3, h4⟩ => ⟨v, h1, row_of h5, h4.own hr (row_ne hr h.two.b.1 (by decide)) (by
    cases hv : v1.ownBlock with
    | none => exact .inl rfl
    | some b => exact .inr (by simp)), h.onX h4 h2 h3⟩
end
theorem boxed {w0 W W' : World} {g x q : Nat} {s : ByteArray} {p p2 : Nat} {e e2 : Int} {m : Bool} {k0 k1 : Int} (h : Two w0 W g x s p e p2 e2 m) (hb : Below W.heap.size W W') (hq : W'.heap[q]? = some (.cells #[.int .i64 k0, .int .i64 k1] 49 (0, 0))) : Three w0 W' g x q s p e p2 e2 m k0 k1 :=
  ⟨⟨h.a.below hb, h.b.below hb, below_then h.below h.below.size hb⟩, hq⟩
theorem drewn {w0 W : World} {g x q : Nat} {s : ByteArray} {p p2 : Nat} {e e2 : Int} {m : Bool} {k0 k1 : Int} (h : Three w0 W g x q s p e p2 e2 m k0 k1) : Three w0 W.drew g x q s p e p2 e2 m k0 k1 :=
  ⟨⟨h.two.a.drew, h.two.b.drew, below_drew1 h.two.below⟩, h.box⟩
def T8 : Bool × List (List Nat × List Nat) := (true, [([], []), ([], []), ([1], [1]), ([0, 2], [0, 2]), ([], []), ([], []), ([5], [5]), ([4, 6, 3], [4, 6]), ([3, 7], [3, 7]), ([8, 7, 0, 1, 2, 3, 4, 5, 6, 7, 8], [8])])
def B8 : List Nat := [0, 0, 2, 7, 0, 0, 32, 127, 255, 511]
theorem tab8 : rtab .any (opsOf Try.f28 8) = T8 := by kernel_rfl
theorem bits8 : waitsOk T8.2 B8 = true := by kernel_rfl
def T10 : Bool × List (List Nat × List Nat) := (true, [([], []), ([], []), ([1], [1]), ([0, 2], [0, 2]), ([], []), ([], []), ([5], [5]), ([4, 6, 3], [4, 6]), ([3, 7], [3, 7]), ([8, 7, 0, 1, 2, 3, 4, 5, 6, 7, 8], [8])])
def B10 : List Nat := [0, 0, 2, 7, 0, 0, 32, 127, 255, 511]
theorem tab10 : rtab .any (opsOf Try.f28 10) = T10 := by kernel_rfl
theorem bits10 : waitsOk T10.2 B10 = true := by kernel_rfl
def T12 : Bool × List (List Nat × List Nat) := (true, [([], []), ([], []), ([1], [1]), ([0, 2], [0, 2]), ([], []), ([], []), ([5], [5]), ([4, 6, 3], [4, 6]), ([3, 7, 7], [3, 7]), ([8, 8, 0, 1, 2, 3, 4, 5, 6, 7, 8], [8])])
def B12 : List Nat := [0, 0, 2, 7, 0, 0, 32, 127, 255, 511]
theorem tab12 : rtab .any (opsOf Try.f28 12) = T12 := by kernel_rfl
theorem bits12 : waitsOk T12.2 B12 = true := by kernel_rfl
set_option maxHeartbeats 4000000 in
theorem step0 (w0 w : World) (g x : Nat) (s : ByteArray) (p : Nat) (e : Int) (m : Bool) (k1 : Int) (hI : Two w0 w g x s p e p e m) (hs : s.size ≤ 1048576) (hp : p ≤ s.size) (hm : k1 ≤ 9223372036854775807) :
    Calls Try.prog 28 #[.pointer (some ⟨g, 0, none⟩), .pointer (some ⟨x, 0, none⟩), .agg #[.int .i64 0, .int .i64 k1]] w fun ev w' => ev = .returned (.bool true) ∧ Two w0 w' g x s (rU s p e m).2.1 (rU s p e m).2.2 (rU s p e m).2.1 (rU s p e m).2.2 m := by
  have HQ := Aside0.mk ((rU_pos s p e m hp).1)
  have HI := Aside0.mk hI
  have HS := Aside0.mk hs
  have HP := Aside0.mk hp
  have HM := Aside0.mk hm
  clear hI hs hp hm
  go_enter Try.func28, Try.ntmps28
  go_wp2_with (first | ((with_reducible refine gate_dst (N := 5) rfl ?_); refine box_event ?hg (N := 5) ?hd (cs := #[.int .i64 0, .int .i64 k1]) (t := 49) ?hr ?_; (case hd => rfl); (case hg => rfl); (case hr => first | (go_simp; done) | (go_simp; rfl)); intro gq hg w5 hbox hb; have n0_ := Aside0.mk (boxed HI.out hb hbox); clear HI; have HT := n0_; clear n0_ hb hbox hg; have hz0 := HT.out.c0; have hz1 := HT.out.c1; have hy0 := blk_frozen HT.out.box 0; have hy1 := blk_frozen HT.out.box 1) | (go_at_call 23; (with_reducible refine (pUint HT.out HS.out HP.out).mono ?_); rintro ev W7 ⟨rfl, ht⟩; have n0_ := Aside0.mk ht; clear HT; have HT := n0_; clear n0_; clear ht; have hz0 := HT.out.c0; have hz1 := HT.out.c1; have hy0 := blk_frozen HT.out.box 0; have hy1 := blk_frozen HT.out.box 1) | (go_at_call 36; (with_reducible refine (xUint HT.out HS.out HP.out).mono ?_); rintro ev W7 ⟨rfl, ht⟩; have n0_ := Aside0.mk ht; clear HT; have HT := n0_; clear n0_; clear ht; have hz0 := HT.out.c0; have hz1 := HT.out.c1; have hy0 := blk_frozen HT.out.box 0; have hy1 := blk_frozen HT.out.box 1) | (go_at_call 25; (with_reducible refine (pLeft HT.out HS.out HQ.out).mono ?_); rintro ev W7 ⟨rfl, ht⟩; have n0_ := Aside0.mk ht; clear HT; have HT := n0_; clear n0_; clear ht; have hz0 := HT.out.c0; have hz1 := HT.out.c1; have hy0 := blk_frozen HT.out.box 0; have hy1 := blk_frozen HT.out.box 1) | (go_at_call 29; (with_reducible refine (xLeft HT.out HS.out HQ.out).mono ?_); rintro ev W7 ⟨rfl, ht⟩; have n0_ := Aside0.mk ht; clear HT; have HT := n0_; clear n0_; clear ht; have hz0 := HT.out.c0; have hz1 := HT.out.c1; have hy0 := blk_frozen HT.out.box 0; have hy1 := blk_frozen HT.out.box 1) | (go_at_call 26; (with_reducible refine (pErr HT.out HS.out HQ.out).mono ?_); rintro ev W7 ⟨rfl, ht⟩; have n0_ := Aside0.mk ht; clear HT; have HT := n0_; clear n0_; clear ht; have hz0 := HT.out.c0; have hz1 := HT.out.c1; have hy0 := blk_frozen HT.out.box 0; have hy1 := blk_frozen HT.out.box 1) | (go_at_call 30; (with_reducible refine (xErr HT.out HS.out HQ.out).mono ?_); rintro ev W7 ⟨rfl, ht⟩; have n0_ := Aside0.mk ht; clear HT; have HT := n0_; clear n0_; clear ht; have hz0 := HT.out.c0; have hz1 := HT.out.c1; have hy0 := blk_frozen HT.out.box 0; have hy1 := blk_frozen HT.out.box 1) | (go_at_call 24; (with_reducible refine (pEnd HT.out HS.out HQ.out).mono ?_); rintro ev W7 ⟨rfl, ht⟩; have n0_ := Aside0.mk ht; clear HT; have HT := n0_; clear n0_; clear ht; have hz0 := HT.out.c0; have hz1 := HT.out.c1; have hy0 := blk_frozen HT.out.box 0; have hy1 := blk_frozen HT.out.box 1) | (go_at_call 31; (with_reducible refine (xEnd HT.out HS.out HQ.out).mono ?_); rintro ev W7 ⟨rfl, ht⟩; have n0_ := Aside0.mk ht; clear HT; have HT := n0_; clear n0_; clear ht; have hz0 := HT.out.c0; have hz1 := HT.out.c1; have hy0 := blk_frozen HT.out.box 0; have hy1 := blk_frozen HT.out.box 1))
  repeat (go_quiet (first | ((with_reducible refine gate_dst (N := 5) rfl ?_); refine box_event ?hg (N := 5) ?hd (cs := #[.int .i64 0, .int .i64 k1]) (t := 49) ?hr ?_; (case hd => rfl); (case hg => rfl); (case hr => first | (go_simp; done) | (go_simp; rfl)); intro gq hg w5 hbox hb; have n0_ := Aside0.mk (boxed HI.out hb hbox); clear HI; have HT := n0_; clear n0_ hb hbox hg; have hz0 := HT.out.c0; have hz1 := HT.out.c1; have hy0 := blk_frozen HT.out.box 0; have hy1 := blk_frozen HT.out.box 1) | (go_at_call 23; (with_reducible refine (pUint HT.out HS.out HP.out).mono ?_); rintro ev W7 ⟨rfl, ht⟩; have n0_ := Aside0.mk ht; clear HT; have HT := n0_; clear n0_; clear ht; have hz0 := HT.out.c0; have hz1 := HT.out.c1; have hy0 := blk_frozen HT.out.box 0; have hy1 := blk_frozen HT.out.box 1) | (go_at_call 36; (with_reducible refine (xUint HT.out HS.out HP.out).mono ?_); rintro ev W7 ⟨rfl, ht⟩; have n0_ := Aside0.mk ht; clear HT; have HT := n0_; clear n0_; clear ht; have hz0 := HT.out.c0; have hz1 := HT.out.c1; have hy0 := blk_frozen HT.out.box 0; have hy1 := blk_frozen HT.out.box 1) | (go_at_call 25; (with_reducible refine (pLeft HT.out HS.out HQ.out).mono ?_); rintro ev W7 ⟨rfl, ht⟩; have n0_ := Aside0.mk ht; clear HT; have HT := n0_; clear n0_; clear ht; have hz0 := HT.out.c0; have hz1 := HT.out.c1; have hy0 := blk_frozen HT.out.box 0; have hy1 := blk_frozen HT.out.box 1) | (go_at_call 29; (with_reducible refine (xLeft HT.out HS.out HQ.out).mono ?_); rintro ev W7 ⟨rfl, ht⟩; have n0_ := Aside0.mk ht; clear HT; have HT := n0_; clear n0_; clear ht; have hz0 := HT.out.c0; have hz1 := HT.out.c1; have hy0 := blk_frozen HT.out.box 0; have hy1 := blk_frozen HT.out.box 1) | (go_at_call 26; (with_reducible refine (pErr HT.out HS.out HQ.out).mono ?_); rintro ev W7 ⟨rfl, ht⟩; have n0_ := Aside0.mk ht; clear HT; have HT := n0_; clear n0_; clear ht; have hz0 := HT.out.c0; have hz1 := HT.out.c1; have hy0 := blk_frozen HT.out.box 0; have hy1 := blk_frozen HT.out.box 1) | (go_at_call 30; (with_reducible refine (xErr HT.out HS.out HQ.out).mono ?_); rintro ev W7 ⟨rfl, ht⟩; have n0_ := Aside0.mk ht; clear HT; have HT := n0_; clear n0_; clear ht; have hz0 := HT.out.c0; have hz1 := HT.out.c1; have hy0 := blk_frozen HT.out.box 0; have hy1 := blk_frozen HT.out.box 1) | (go_at_call 24; (with_reducible refine (pEnd HT.out HS.out HQ.out).mono ?_); rintro ev W7 ⟨rfl, ht⟩; have n0_ := Aside0.mk ht; clear HT; have HT := n0_; clear n0_; clear ht; have hz0 := HT.out.c0; have hz1 := HT.out.c1; have hy0 := blk_frozen HT.out.box 0; have hy1 := blk_frozen HT.out.box 1) | (go_at_call 31; (with_reducible refine (xEnd HT.out HS.out HQ.out).mono ?_); rintro ev W7 ⟨rfl, ht⟩; have n0_ := Aside0.mk ht; clear HT; have HT := n0_; clear n0_; clear ht; have hz0 := HT.out.c0; have hz1 := HT.out.c1; have hy0 := blk_frozen HT.out.box 0; have hy1 := blk_frozen HT.out.box 1)); try go_wp2_with (first | ((with_reducible refine gate_dst (N := 5) rfl ?_); refine box_event ?hg (N := 5) ?hd (cs := #[.int .i64 0, .int .i64 k1]) (t := 49) ?hr ?_; (case hd => rfl); (case hg => rfl); (case hr => first | (go_simp; done) | (go_simp; rfl)); intro gq hg w5 hbox hb; have n0_ := Aside0.mk (boxed HI.out hb hbox); clear HI; have HT := n0_; clear n0_ hb hbox hg; have hz0 := HT.out.c0; have hz1 := HT.out.c1; have hy0 := blk_frozen HT.out.box 0; have hy1 := blk_frozen HT.out.box 1) | (go_at_call 23; (with_reducible refine (pUint HT.out HS.out HP.out).mono ?_); rintro ev W7 ⟨rfl, ht⟩; have n0_ := Aside0.mk ht; clear HT; have HT := n0_; clear n0_; clear ht; have hz0 := HT.out.c0; have hz1 := HT.out.c1; have hy0 := blk_frozen HT.out.box 0; have hy1 := blk_frozen HT.out.box 1) | (go_at_call 36; (with_reducible refine (xUint HT.out HS.out HP.out).mono ?_); rintro ev W7 ⟨rfl, ht⟩; have n0_ := Aside0.mk ht; clear HT; have HT := n0_; clear n0_; clear ht; have hz0 := HT.out.c0; have hz1 := HT.out.c1; have hy0 := blk_frozen HT.out.box 0; have hy1 := blk_frozen HT.out.box 1) | (go_at_call 25; (with_reducible refine (pLeft HT.out HS.out HQ.out).mono ?_); rintro ev W7 ⟨rfl, ht⟩; have n0_ := Aside0.mk ht; clear HT; have HT := n0_; clear n0_; clear ht; have hz0 := HT.out.c0; have hz1 := HT.out.c1; have hy0 := blk_frozen HT.out.box 0; have hy1 := blk_frozen HT.out.box 1) | (go_at_call 29; (with_reducible refine (xLeft HT.out HS.out HQ.out).mono ?_); rintro ev W7 ⟨rfl, ht⟩; have n0_ := Aside0.mk ht; clear HT; have HT := n0_; clear n0_; clear ht; have hz0 := HT.out.c0; have hz1 := HT.out.c1; have hy0 := blk_frozen HT.out.box 0; have hy1 := blk_frozen HT.out.box 1) | (go_at_call 26; (with_reducible refine (pErr HT.out HS.out HQ.out).mono ?_); rintro ev W7 ⟨rfl, ht⟩; have n0_ := Aside0.mk ht; clear HT; have HT := n0_; clear n0_; clear ht; have hz0 := HT.out.c0; have hz1 := HT.out.c1; have hy0 := blk_frozen HT.out.box 0; have hy1 := blk_frozen HT.out.box 1) | (go_at_call 30; (with_reducible refine (xErr HT.out HS.out HQ.out).mono ?_); rintro ev W7 ⟨rfl, ht⟩; have n0_ := Aside0.mk ht; clear HT; have HT := n0_; clear n0_; clear ht; have hz0 := HT.out.c0; have hz1 := HT.out.c1; have hy0 := blk_frozen HT.out.box 0; have hy1 := blk_frozen HT.out.box 1) | (go_at_call 24; (with_reducible refine (pEnd HT.out HS.out HQ.out).mono ?_); rintro ev W7 ⟨rfl, ht⟩; have n0_ := Aside0.mk ht; clear HT; have HT := n0_; clear n0_; clear ht; have hz0 := HT.out.c0; have hz1 := HT.out.c1; have hy0 := blk_frozen HT.out.box 0; have hy1 := blk_frozen HT.out.box 1) | (go_at_call 31; (with_reducible refine (xEnd HT.out HS.out HQ.out).mono ?_); rintro ev W7 ⟨rfl, ht⟩; have n0_ := Aside0.mk ht; clear HT; have HT := n0_; clear n0_; clear ht; have hz0 := HT.out.c0; have hz1 := HT.out.c1; have hy0 := blk_frozen HT.out.box 0; have hy1 := blk_frozen HT.out.box 1)))
  go_ret
  exact ⟨rfl, HT.out.two⟩
set_option maxHeartbeats 4000000 in
theorem step1 (w0 w : World) (g x : Nat) (s : ByteArray) (p : Nat) (e : Int) (m : Bool) (k1 : Int) (hI : Two w0 w g x s p e p e m) (hs : s.size ≤ 1048576) (hp : p ≤ s.size) (hm : k1 ≤ 9223372036854775807) :
    Calls Try.prog 28 #[.pointer (some ⟨g, 0, none⟩), .pointer (some ⟨x, 0, none⟩), .agg #[.int .i64 1, .int .i64 k1]] w fun ev w' => ev = .returned (.bool true) ∧ Two w0 w' g x s (rI s p e m).2.1 (rI s p e m).2.2 (rI s p e m).2.1 (rI s p e m).2.2 m := by
  have HQ := Aside0.mk (rI_pos s p e m hp)
  have HI := Aside0.mk hI
  have HS := Aside0.mk hs
  have HP := Aside0.mk hp
  have HM := Aside0.mk hm
  clear hI hs hp hm
  go_enter Try.func28, Try.ntmps28
  go_wp2_with (first | ((with_reducible refine gate_dst (N := 5) rfl ?_); refine box_event ?hg (N := 5) ?hd (cs := #[.int .i64 1, .int .i64 k1]) (t := 49) ?hr ?_; (case hd => rfl); (case hg => rfl); (case hr => first | (go_simp; done) | (go_simp; rfl)); intro gq hg w5 hbox hb; have n0_ := Aside0.mk (boxed HI.out hb hbox); clear HI; have HT := n0_; clear n0_ hb hbox hg; have hz0 := HT.out.c0; have hz1 := HT.out.c1; have hy0 := blk_frozen HT.out.box 0; have hy1 := blk_frozen HT.out.box 1) | (go_at_call 22; (with_reducible refine (pInt HT.out HS.out HP.out).mono ?_); rintro ev W7 ⟨rfl, ht⟩; have n0_ := Aside0.mk ht; clear HT; have HT := n0_; clear n0_; clear ht; have hz0 := HT.out.c0; have hz1 := HT.out.c1; have hy0 := blk_frozen HT.out.box 0; have hy1 := blk_frozen HT.out.box 1) | (go_at_call 37; (with_reducible refine (xInt HT.out HS.out HP.out).mono ?_); rintro ev W7 ⟨rfl, ht⟩; have n0_ := Aside0.mk ht; clear HT; have HT := n0_; clear n0_; clear ht; have hz0 := HT.out.c0; have hz1 := HT.out.c1; have hy0 := blk_frozen HT.out.box 0; have hy1 := blk_frozen HT.out.box 1) | (go_at_call 25; (with_reducible refine (pLeft HT.out HS.out HQ.out).mono ?_); rintro ev W7 ⟨rfl, ht⟩; have n0_ := Aside0.mk ht; clear HT; have HT := n0_; clear n0_; clear ht; have hz0 := HT.out.c0; have hz1 := HT.out.c1; have hy0 := blk_frozen HT.out.box 0; have hy1 := blk_frozen HT.out.box 1) | (go_at_call 29; (with_reducible refine (xLeft HT.out HS.out HQ.out).mono ?_); rintro ev W7 ⟨rfl, ht⟩; have n0_ := Aside0.mk ht; clear HT; have HT := n0_; clear n0_; clear ht; have hz0 := HT.out.c0; have hz1 := HT.out.c1; have hy0 := blk_frozen HT.out.box 0; have hy1 := blk_frozen HT.out.box 1) | (go_at_call 26; (with_reducible refine (pErr HT.out HS.out HQ.out).mono ?_); rintro ev W7 ⟨rfl, ht⟩; have n0_ := Aside0.mk ht; clear HT; have HT := n0_; clear n0_; clear ht; have hz0 := HT.out.c0; have hz1 := HT.out.c1; have hy0 := blk_frozen HT.out.box 0; have hy1 := blk_frozen HT.out.box 1) | (go_at_call 30; (with_reducible refine (xErr HT.out HS.out HQ.out).mono ?_); rintro ev W7 ⟨rfl, ht⟩; have n0_ := Aside0.mk ht; clear HT; have HT := n0_; clear n0_; clear ht; have hz0 := HT.out.c0; have hz1 := HT.out.c1; have hy0 := blk_frozen HT.out.box 0; have hy1 := blk_frozen HT.out.box 1) | (go_at_call 24; (with_reducible refine (pEnd HT.out HS.out HQ.out).mono ?_); rintro ev W7 ⟨rfl, ht⟩; have n0_ := Aside0.mk ht; clear HT; have HT := n0_; clear n0_; clear ht; have hz0 := HT.out.c0; have hz1 := HT.out.c1; have hy0 := blk_frozen HT.out.box 0; have hy1 := blk_frozen HT.out.box 1) | (go_at_call 31; (with_reducible refine (xEnd HT.out HS.out HQ.out).mono ?_); rintro ev W7 ⟨rfl, ht⟩; have n0_ := Aside0.mk ht; clear HT; have HT := n0_; clear n0_; clear ht; have hz0 := HT.out.c0; have hz1 := HT.out.c1; have hy0 := blk_frozen HT.out.box 0; have hy1 := blk_frozen HT.out.box 1))
  repeat (go_quiet (first | ((with_reducible refine gate_dst (N := 5) rfl ?_); refine box_event ?hg (N := 5) ?hd (cs := #[.int .i64 1, .int .i64 k1]) (t := 49) ?hr ?_; (case hd => rfl); (case hg => rfl); (case hr => first | (go_simp; done) | (go_simp; rfl)); intro gq hg w5 hbox hb; have n0_ := Aside0.mk (boxed HI.out hb hbox); clear HI; have HT := n0_; clear n0_ hb hbox hg; have hz0 := HT.out.c0; have hz1 := HT.out.c1; have hy0 := blk_frozen HT.out.box 0; have hy1 := blk_frozen HT.out.box 1) | (go_at_call 22; (with_reducible refine (pInt HT.out HS.out HP.out).mono ?_); rintro ev W7 ⟨rfl, ht⟩; have n0_ := Aside0.mk ht; clear HT; have HT := n0_; clear n0_; clear ht; have hz0 := HT.out.c0; have hz1 := HT.out.c1; have hy0 := blk_frozen HT.out.box 0; have hy1 := blk_frozen HT.out.box 1) | (go_at_call 37; (with_reducible refine (xInt HT.out HS.out HP.out).mono ?_); rintro ev W7 ⟨rfl, ht⟩; have n0_ := Aside0.mk ht; clear HT; have HT := n0_; clear n0_; clear ht; have hz0 := HT.out.c0; have hz1 := HT.out.c1; have hy0 := blk_frozen HT.out.box 0; have hy1 := blk_frozen HT.out.box 1) | (go_at_call 25; (with_reducible refine (pLeft HT.out HS.out HQ.out).mono ?_); rintro ev W7 ⟨rfl, ht⟩; have n0_ := Aside0.mk ht; clear HT; have HT := n0_; clear n0_; clear ht; have hz0 := HT.out.c0; have hz1 := HT.out.c1; have hy0 := blk_frozen HT.out.box 0; have hy1 := blk_frozen HT.out.box 1) | (go_at_call 29; (with_reducible refine (xLeft HT.out HS.out HQ.out).mono ?_); rintro ev W7 ⟨rfl, ht⟩; have n0_ := Aside0.mk ht; clear HT; have HT := n0_; clear n0_; clear ht; have hz0 := HT.out.c0; have hz1 := HT.out.c1; have hy0 := blk_frozen HT.out.box 0; have hy1 := blk_frozen HT.out.box 1) | (go_at_call 26; (with_reducible refine (pErr HT.out HS.out HQ.out).mono ?_); rintro ev W7 ⟨rfl, ht⟩; have n0_ := Aside0.mk ht; clear HT; have HT := n0_; clear n0_; clear ht; have hz0 := HT.out.c0; have hz1 := HT.out.c1; have hy0 := blk_frozen HT.out.box 0; have hy1 := blk_frozen HT.out.box 1) | (go_at_call 30; (with_reducible refine (xErr HT.out HS.out HQ.out).mono ?_); rintro ev W7 ⟨rfl, ht⟩; have n0_ := Aside0.mk ht; clear HT; have HT := n0_; clear n0_; clear ht; have hz0 := HT.out.c0; have hz1 := HT.out.c1; have hy0 := blk_frozen HT.out.box 0; have hy1 := blk_frozen HT.out.box 1) | (go_at_call 24; (with_reducible refine (pEnd HT.out HS.out HQ.out).mono ?_); rintro ev W7 ⟨rfl, ht⟩; have n0_ := Aside0.mk ht; clear HT; have HT := n0_; clear n0_; clear ht; have hz0 := HT.out.c0; have hz1 := HT.out.c1; have hy0 := blk_frozen HT.out.box 0; have hy1 := blk_frozen HT.out.box 1) | (go_at_call 31; (with_reducible refine (xEnd HT.out HS.out HQ.out).mono ?_); rintro ev W7 ⟨rfl, ht⟩; have n0_ := Aside0.mk ht; clear HT; have HT := n0_; clear n0_; clear ht; have hz0 := HT.out.c0; have hz1 := HT.out.c1; have hy0 := blk_frozen HT.out.box 0; have hy1 := blk_frozen HT.out.box 1)); try go_wp2_with (first | ((with_reducible refine gate_dst (N := 5) rfl ?_); refine box_event ?hg (N := 5) ?hd (cs := #[.int .i64 1, .int .i64 k1]) (t := 49) ?hr ?_; (case hd => rfl); (case hg => rfl); (case hr => first | (go_simp; done) | (go_simp; rfl)); intro gq hg w5 hbox hb; have n0_ := Aside0.mk (boxed HI.out hb hbox); clear HI; have HT := n0_; clear n0_ hb hbox hg; have hz0 := HT.out.c0; have hz1 := HT.out.c1; have hy0 := blk_frozen HT.out.box 0; have hy1 := blk_frozen HT.out.box 1) | (go_at_call 22; (with_reducible refine (pInt HT.out HS.out HP.out).mono ?_); rintro ev W7 ⟨rfl, ht⟩; have n0_ := Aside0.mk ht; clear HT; have HT := n0_; clear n0_; clear ht; have hz0 := HT.out.c0; have hz1 := HT.out.c1; have hy0 := blk_frozen HT.out.box 0; have hy1 := blk_frozen HT.out.box 1) | (go_at_call 37; (with_reducible refine (xInt HT.out HS.out HP.out).mono ?_); rintro ev W7 ⟨rfl, ht⟩; have n0_ := Aside0.mk ht; clear HT; have HT := n0_; clear n0_; clear ht; have hz0 := HT.out.c0; have hz1 := HT.out.c1; have hy0 := blk_frozen HT.out.box 0; have hy1 := blk_frozen HT.out.box 1) | (go_at_call 25; (with_reducible refine (pLeft HT.out HS.out HQ.out).mono ?_); rintro ev W7 ⟨rfl, ht⟩; have n0_ := Aside0.mk ht; clear HT; have HT := n0_; clear n0_; clear ht; have hz0 := HT.out.c0; have hz1 := HT.out.c1; have hy0 := blk_frozen HT.out.box 0; have hy1 := blk_frozen HT.out.box 1) | (go_at_call 29; (with_reducible refine (xLeft HT.out HS.out HQ.out).mono ?_); rintro ev W7 ⟨rfl, ht⟩; have n0_ := Aside0.mk ht; clear HT; have HT := n0_; clear n0_; clear ht; have hz0 := HT.out.c0; have hz1 := HT.out.c1; have hy0 := blk_frozen HT.out.box 0; have hy1 := blk_frozen HT.out.box 1) | (go_at_call 26; (with_reducible refine (pErr HT.out HS.out HQ.out).mono ?_); rintro ev W7 ⟨rfl, ht⟩; have n0_ := Aside0.mk ht; clear HT; have HT := n0_; clear n0_; clear ht; have hz0 := HT.out.c0; have hz1 := HT.out.c1; have hy0 := blk_frozen HT.out.box 0; have hy1 := blk_frozen HT.out.box 1) | (go_at_call 30; (with_reducible refine (xErr HT.out HS.out HQ.out).mono ?_); rintro ev W7 ⟨rfl, ht⟩; have n0_ := Aside0.mk ht; clear HT; have HT := n0_; clear n0_; clear ht; have hz0 := HT.out.c0; have hz1 := HT.out.c1; have hy0 := blk_frozen HT.out.box 0; have hy1 := blk_frozen HT.out.box 1) | (go_at_call 24; (with_reducible refine (pEnd HT.out HS.out HQ.out).mono ?_); rintro ev W7 ⟨rfl, ht⟩; have n0_ := Aside0.mk ht; clear HT; have HT := n0_; clear n0_; clear ht; have hz0 := HT.out.c0; have hz1 := HT.out.c1; have hy0 := blk_frozen HT.out.box 0; have hy1 := blk_frozen HT.out.box 1) | (go_at_call 31; (with_reducible refine (xEnd HT.out HS.out HQ.out).mono ?_); rintro ev W7 ⟨rfl, ht⟩; have n0_ := Aside0.mk ht; clear HT; have HT := n0_; clear n0_; clear ht; have hz0 := HT.out.c0; have hz1 := HT.out.c1; have hy0 := blk_frozen HT.out.box 0; have hy1 := blk_frozen HT.out.box 1)))
  go_ret
  exact ⟨rfl, HT.out.two⟩
set_option maxHeartbeats 4000000 in
theorem step2 (w0 w : World) (g x : Nat) (s : ByteArray) (p : Nat) (e : Int) (m : Bool) (k1 : Int) (hI : Two w0 w g x s p e p e m) (hs : s.size ≤ 1048576) (hp : p ≤ s.size) (hm : k1 ≤ 9223372036854775807) :
    Calls Try.prog 28 #[.pointer (some ⟨g, 0, none⟩), .pointer (some ⟨x, 0, none⟩), .agg #[.int .i64 2, .int .i64 k1]] w fun ev w' => ev = .returned (.bool true) ∧ Two w0 w' g x s (rT s p e m k1).2.1 (rT s p e m k1).2.2 (rT s p e m k1).2.1 (rT s p e m k1).2.2 m := by
  have HQ := Aside0.mk (rT_pos s p e m k1 hp hm)
  have HI := Aside0.mk hI
  have HS := Aside0.mk hs
  have HP := Aside0.mk hp
  have HM := Aside0.mk hm
  clear hI hs hp hm
  go_enter Try.func28, Try.ntmps28
  go_wp2_with (first | ((with_reducible refine gate_dst (N := 5) rfl ?_); refine box_event ?hg (N := 5) ?hd (cs := #[.int .i64 2, .int .i64 k1]) (t := 49) ?hr ?_; (case hd => rfl); (case hg => rfl); (case hr => first | (go_simp; done) | (go_simp; rfl)); intro gq hg w5 hbox hb; have n0_ := Aside0.mk (boxed HI.out hb hbox); clear HI; have HT := n0_; clear n0_ hb hbox hg; have hz0 := HT.out.c0; have hz1 := HT.out.c1; have hy0 := blk_frozen HT.out.box 0; have hy1 := blk_frozen HT.out.box 1))
  refine start_ (n := 10) (S := fun w' => w'.cell? ⟨gq, 1, none⟩ = some (.int .i64 k1)) (ds := []) #[false, false, false, false, false, false, false, false, false, false] (by kernel_rfl) rfl rfl hz1 (fun hHeld => ?_); refine with_tabW tab8 bits8 (fun HT_ HW_ => ?_)
  have n0_ := Aside0.mk (drewn HT.out)
  clear HT hz0 hz1 hy0 hy1
  have HT := n0_
  clear n0_
  generalize w5.drew = w6 at HT hHeld ⊢
  refine pure_ (i := 0) (N := some 26) (v := ?_) (a' := ?_) #[true, false, false, false, false, false, false, false, false, false] rfl rfl (any_of HT_.out (by kernel_rfl)) (fun _ _ _ h => h) (Or.inl ⟨by rfl, ?_⟩) ?_ ?_
  rotate_left
  · intro w'
    go_simp
    with_reducible rfl
  rotate_left
  · simp only [Act.put, List.setIfInBounds_toArray, List.set_cons_zero, List.set_cons_succ, i64_w, i32_w]
    rfl
  refine pure_ (i := 1) (N := some 27) (v := ?_) (a' := ?_) #[true, true, false, false, false, false, false, false, false, false] rfl rfl (any_of HT_.out (by kernel_rfl)) (fun _ _ _ h => h) (Or.inl ⟨by rfl, ?_⟩) ?_ ?_
  rotate_left
  · intro w'
    go_simp
    with_reducible rfl
  rotate_left
  · simp only [Act.put, List.setIfInBounds_toArray, List.set_cons_zero, List.set_cons_succ, i64_w, i32_w]
    rfl
  refine take_ (i := 2) (N := some 28) (v := ?_) (a' := ?_) #[true, true, true, false, false, false, false, false, false, false] rfl rfl (take_ofW HT_.out HW_.out (by kernel_rfl)) (fun _ _ _ h => h) (Or.inl ⟨by rfl, ?_⟩) hHeld ?_ ?_
  rotate_left
  · intro w' s0
    go_simp
    with_reducible rfl
  rotate_left
  · simp only [Act.put, List.setIfInBounds_toArray, List.set_cons_zero, List.set_cons_succ, i64_w, i32_w]
    rfl
  refine pure_ (i := 4) (N := some 30) (v := ?_) (a' := ?_) #[true, true, true, false, true, false, false, false, false, false] rfl rfl (any_of HT_.out (by kernel_rfl)) (fun _ _ _ h => h) (Or.inl ⟨by rfl, ?_⟩) ?_ ?_
  rotate_left
  · intro w'
    go_simp
    with_reducible rfl
  rotate_left
  · simp only [Act.put, List.setIfInBounds_toArray, List.set_cons_zero, List.set_cons_succ, i64_w, i32_w]
    rfl
  refine pure_ (i := 5) (N := some 31) (v := ?_) (a' := ?_) #[true, true, true, false, true, true, false, false, false, false] rfl rfl (any_of HT_.out (by kernel_rfl)) (fun _ _ _ h => h) (Or.inl ⟨by rfl, ?_⟩) ?_ ?_
  rotate_left
  · intro w'
    go_simp
    with_reducible rfl
  rotate_left
  · simp only [Act.put, List.setIfInBounds_toArray, List.set_cons_zero, List.set_cons_succ, i64_w, i32_w]
    rfl
  refine take_ (i := 6) (N := some 32) (v := ?_) (a' := ?_) #[true, true, true, false, true, true, true, false, false, false] rfl rfl (take_ofW HT_.out HW_.out (by kernel_rfl)) (fun _ _ _ h => h) (Or.inl ⟨by rfl, ?_⟩) hHeld ?_ ?_
  rotate_left
  · intro w' s0
    go_simp
    with_reducible rfl
  rotate_left
  · simp only [Act.put, List.setIfInBounds_toArray, List.set_cons_zero, List.set_cons_succ, i64_w, i32_w]
    rfl
  refine one_ (i := 3) (N := some 29) #[true, true, true, true, true, true, true, false, false, false] rfl rfl (one_of HT_.out (by kernel_rfl)) (by decide) (fun K hK => ?_)
  refine goes_ Try.func19 (by kernel_rfl) rfl #[.pointer (some ⟨g, 0, none⟩), .int .i64 k1] (by rfl) rfl rfl (by (try simp only [List.map_toArray, List.map_cons, List.map_nil]); first | done | rfl) ?_
  refine (pText HT.out HS.out HP.out HM.out).mono ?_
  rintro ev w7 ⟨rfl, ht⟩
  refine ⟨_, rfl, ?_⟩
  have n0_ := Aside0.mk ht
  clear HT ht
  have HT := n0_
  clear n0_
  refine hK.out _ _ HT.out.c1 (fun hHeld => ?_)
  clear hK K
  refine norm_ (a' := ?_) ?_ ?_
  rotate_left
  · show Act.put _ (some 29) _ = _
    simp only [Act.put, List.setIfInBounds_toArray, List.set_cons_zero, List.set_cons_succ, i64_w, i32_w]
    rfl
  refine one_ (i := 7) (N := some 33) #[true, true, true, true, true, true, true, true, false, false] rfl rfl (one_of HT_.out (by kernel_rfl)) (by decide) (fun K hK => ?_)
  refine goes_ Try.func38 (by kernel_rfl) rfl #[.pointer (some ⟨x, 0, none⟩), .int .i64 k1] (by rfl) rfl rfl (by (try simp only [List.map_toArray, List.map_cons, List.map_nil]); first | done | rfl) ?_
  refine (xText HT.out HS.out HP.out HM.out).mono ?_
  rintro ev w7 ⟨rfl, ht⟩
  refine ⟨_, rfl, ?_⟩
  have n0_ := Aside0.mk ht
  clear HT ht
  have HT := n0_
  clear n0_
  refine hK.out _ _ HT.out.c1 (fun hHeld => ?_)
  clear hK K
  refine norm_ (a' := ?_) ?_ ?_
  rotate_left
  · show Act.put _ (some 33) _ = _
    simp only [Act.put, List.setIfInBounds_toArray, List.set_cons_zero, List.set_cons_succ, i64_w, i32_w]
    rfl
  refine pure_ (i := 8) (N := some 34) (v := ?_) (a' := ?_) #[true, true, true, true, true, true, true, true, true, false] rfl rfl (any_of HT_.out (by kernel_rfl)) (fun _ _ _ h => h) (Or.inl ⟨by rfl, ?_⟩) ?_ ?_
  rotate_left
  · intro w'
    go_simp
    with_reducible rfl
  rotate_left
  · simp only [Act.put, List.setIfInBounds_toArray, List.set_cons_zero, List.set_cons_succ, i64_w, i32_w]
    rfl
  refine pure_ (i := 9) (N := some 7) (v := ?_) (a' := ?_) #[true, true, true, true, true, true, true, true, true, true] rfl rfl (any_of HT_.out (by kernel_rfl)) (fun _ _ _ h => h) (Or.inl ⟨by rfl, ?_⟩) ?_ ?_
  rotate_left
  · intro w'
    go_simp
    with_reducible rfl
  rotate_left
  · simp only [Act.put, List.setIfInBounds_toArray, List.set_cons_zero, List.set_cons_succ, i64_w, i32_w]
    rfl
  refine done_ (done_of HT_.out (by kernel_rfl)) ?_
  have hz0 := HT.out.c0; have hz1 := HT.out.c1; have hy0 := blk_frozen HT.out.box 0; have hy1 := blk_frozen HT.out.box 1
  go_wp2_with (first | (go_at_call 25; (with_reducible refine (pLeft HT.out HS.out HQ.out).mono ?_); rintro ev W7 ⟨rfl, ht⟩; have n0_ := Aside0.mk ht; clear HT; have HT := n0_; clear n0_; clear ht; have hz0 := HT.out.c0; have hz1 := HT.out.c1; have hy0 := blk_frozen HT.out.box 0; have hy1 := blk_frozen HT.out.box 1) | (go_at_call 29; (with_reducible refine (xLeft HT.out HS.out HQ.out).mono ?_); rintro ev W7 ⟨rfl, ht⟩; have n0_ := Aside0.mk ht; clear HT; have HT := n0_; clear n0_; clear ht; have hz0 := HT.out.c0; have hz1 := HT.out.c1; have hy0 := blk_frozen HT.out.box 0; have hy1 := blk_frozen HT.out.box 1) | (go_at_call 26; (with_reducible refine (pErr HT.out HS.out HQ.out).mono ?_); rintro ev W7 ⟨rfl, ht⟩; have n0_ := Aside0.mk ht; clear HT; have HT := n0_; clear n0_; clear ht; have hz0 := HT.out.c0; have hz1 := HT.out.c1; have hy0 := blk_frozen HT.out.box 0; have hy1 := blk_frozen HT.out.box 1) | (go_at_call 30; (with_reducible refine (xErr HT.out HS.out HQ.out).mono ?_); rintro ev W7 ⟨rfl, ht⟩; have n0_ := Aside0.mk ht; clear HT; have HT := n0_; clear n0_; clear ht; have hz0 := HT.out.c0; have hz1 := HT.out.c1; have hy0 := blk_frozen HT.out.box 0; have hy1 := blk_frozen HT.out.box 1) | (go_at_call 24; (with_reducible refine (pEnd HT.out HS.out HQ.out).mono ?_); rintro ev W7 ⟨rfl, ht⟩; have n0_ := Aside0.mk ht; clear HT; have HT := n0_; clear n0_; clear ht; have hz0 := HT.out.c0; have hz1 := HT.out.c1; have hy0 := blk_frozen HT.out.box 0; have hy1 := blk_frozen HT.out.box 1) | (go_at_call 31; (with_reducible refine (xEnd HT.out HS.out HQ.out).mono ?_); rintro ev W7 ⟨rfl, ht⟩; have n0_ := Aside0.mk ht; clear HT; have HT := n0_; clear n0_; clear ht; have hz0 := HT.out.c0; have hz1 := HT.out.c1; have hy0 := blk_frozen HT.out.box 0; have hy1 := blk_frozen HT.out.box 1))
  go_ret
  exact ⟨rfl, HT.out.two⟩
set_option maxHeartbeats 4000000 in
theorem step3 (w0 w : World) (g x : Nat) (s : ByteArray) (p : Nat) (e : Int) (m : Bool) (k1 : Int) (hI : Two w0 w g x s p e p e m) (hs : s.size ≤ 1048576) (hp : p ≤ s.size) (hm : k1 ≤ 9223372036854775807) :
    Calls Try.prog 28 #[.pointer (some ⟨g, 0, none⟩), .pointer (some ⟨x, 0, none⟩), .agg #[.int .i64 3, .int .i64 k1]] w fun ev w' => ev = .returned (.bool true) ∧ Two w0 w' g x s (rC s p e m k1).2.1 (rC s p e m k1).2.2 (rC s p e m k1).2.1 (rC s p e m k1).2.2 m := by
  have HQ := Aside0.mk ((rC_le s p e m k1 hp hm).1)
  have HI := Aside0.mk hI
  have HS := Aside0.mk hs
  have HP := Aside0.mk hp
  have HM := Aside0.mk hm
  clear hI hs hp hm
  go_enter Try.func28, Try.ntmps28
  go_wp2_with (first | ((with_reducible refine gate_dst (N := 5) rfl ?_); refine box_event ?hg (N := 5) ?hd (cs := #[.int .i64 3, .int .i64 k1]) (t := 49) ?hr ?_; (case hd => rfl); (case hg => rfl); (case hr => first | (go_simp; done) | (go_simp; rfl)); intro gq hg w5 hbox hb; have n0_ := Aside0.mk (boxed HI.out hb hbox); clear HI; have HT := n0_; clear n0_ hb hbox hg; have hz0 := HT.out.c0; have hz1 := HT.out.c1; have hy0 := blk_frozen HT.out.box 0; have hy1 := blk_frozen HT.out.box 1))
  refine start_ (n := 10) (S := fun w' => w'.cell? ⟨gq, 1, none⟩ = some (.int .i64 k1)) (ds := []) #[false, false, false, false, false, false, false, false, false, false] (by kernel_rfl) rfl rfl hz1 (fun hHeld => ?_); refine with_tabW tab10 bits10 (fun HT_ HW_ => ?_)
  have n0_ := Aside0.mk (drewn HT.out)
  clear HT hz0 hz1 hy0 hy1
  have HT := n0_
  clear n0_
  generalize w5.drew = w6 at HT hHeld ⊢
  refine pure_ (i := 0) (N := some 37) (v := ?_) (a' := ?_) #[true, false, false, false, false, false, false, false, false, false] rfl rfl (any_of HT_.out (by kernel_rfl)) (fun _ _ _ h => h) (Or.inl ⟨by rfl, ?_⟩) ?_ ?_
  rotate_left
  · intro w'
    go_simp
    with_reducible rfl
  rotate_left
  · simp only [Act.put, List.setIfInBounds_toArray, List.set_cons_zero, List.set_cons_succ, i64_w, i32_w]
    rfl
  refine pure_ (i := 1) (N := some 38) (v := ?_) (a' := ?_) #[true, true, false, false, false, false, false, false, false, false] rfl rfl (any_of HT_.out (by kernel_rfl)) (fun _ _ _ h => h) (Or.inl ⟨by rfl, ?_⟩) ?_ ?_
  rotate_left
  · intro w'
    go_simp
    with_reducible rfl
  rotate_left
  · simp only [Act.put, List.setIfInBounds_toArray, List.set_cons_zero, List.set_cons_succ, i64_w, i32_w]
    rfl
  refine take_ (i := 2) (N := some 39) (v := ?_) (a' := ?_) #[true, true, true, false, false, false, false, false, false, false] rfl rfl (take_ofW HT_.out HW_.out (by kernel_rfl)) (fun _ _ _ h => h) (Or.inl ⟨by rfl, ?_⟩) hHeld ?_ ?_
  rotate_left
  · intro w' s0
    go_simp
    with_reducible rfl
  rotate_left
  · simp only [Act.put, List.setIfInBounds_toArray, List.set_cons_zero, List.set_cons_succ, i64_w, i32_w]
    rfl
  refine pure_ (i := 4) (N := some 41) (v := ?_) (a' := ?_) #[true, true, true, false, true, false, false, false, false, false] rfl rfl (any_of HT_.out (by kernel_rfl)) (fun _ _ _ h => h) (Or.inl ⟨by rfl, ?_⟩) ?_ ?_
  rotate_left
  · intro w'
    go_simp
    with_reducible rfl
  rotate_left
  · simp only [Act.put, List.setIfInBounds_toArray, List.set_cons_zero, List.set_cons_succ, i64_w, i32_w]
    rfl
  refine pure_ (i := 5) (N := some 42) (v := ?_) (a' := ?_) #[true, true, true, false, true, true, false, false, false, false] rfl rfl (any_of HT_.out (by kernel_rfl)) (fun _ _ _ h => h) (Or.inl ⟨by rfl, ?_⟩) ?_ ?_
  rotate_left
  · intro w'
    go_simp
    with_reducible rfl
  rotate_left
  · simp only [Act.put, List.setIfInBounds_toArray, List.set_cons_zero, List.set_cons_succ, i64_w, i32_w]
    rfl
  refine take_ (i := 6) (N := some 43) (v := ?_) (a' := ?_) #[true, true, true, false, true, true, true, false, false, false] rfl rfl (take_ofW HT_.out HW_.out (by kernel_rfl)) (fun _ _ _ h => h) (Or.inl ⟨by rfl, ?_⟩) hHeld ?_ ?_
  rotate_left
  · intro w' s0
    go_simp
    with_reducible rfl
  rotate_left
  · simp only [Act.put, List.setIfInBounds_toArray, List.set_cons_zero, List.set_cons_succ, i64_w, i32_w]
    rfl
  refine one_ (i := 3) (N := some 40) #[true, true, true, true, true, true, true, false, false, false] rfl rfl (one_of HT_.out (by kernel_rfl)) (by decide) (fun K hK => ?_)
  refine goes_ Try.func34 (by kernel_rfl) rfl #[.pointer (some ⟨g, 0, none⟩), .int .i64 k1] (by rfl) rfl rfl (by (try simp only [List.map_toArray, List.map_cons, List.map_nil]); first | done | rfl) ?_
  refine (pCount HT.out HS.out HP.out HM.out).mono ?_
  rintro ev w7 ⟨rfl, ht⟩
  refine ⟨_, rfl, ?_⟩
  have n0_ := Aside0.mk ht
  clear HT ht
  have HT := n0_
  clear n0_
  refine hK.out _ _ HT.out.c1 (fun hHeld => ?_)
  clear hK K
  refine norm_ (a' := ?_) ?_ ?_
  rotate_left
  · show Act.put _ (some 40) _ = _
    simp only [Act.put, List.setIfInBounds_toArray, List.set_cons_zero, List.set_cons_succ, i64_w, i32_w]
    rfl
  refine one_ (i := 7) (N := some 44) #[true, true, true, true, true, true, true, true, false, false] rfl rfl (one_of HT_.out (by kernel_rfl)) (by decide) (fun K hK => ?_)
  refine goes_ Try.func39 (by kernel_rfl) rfl #[.pointer (some ⟨x, 0, none⟩), .int .i64 k1] (by rfl) rfl rfl (by (try simp only [List.map_toArray, List.map_cons, List.map_nil]); first | done | rfl) ?_
  refine (xCount HT.out HS.out HP.out HM.out).mono ?_
  rintro ev w7 ⟨rfl, ht⟩
  refine ⟨_, rfl, ?_⟩
  have n0_ := Aside0.mk ht
  clear HT ht
  have HT := n0_
  clear n0_
  refine hK.out _ _ HT.out.c1 (fun hHeld => ?_)
  clear hK K
  refine norm_ (a' := ?_) ?_ ?_
  rotate_left
  · show Act.put _ (some 44) _ = _
    simp only [Act.put, List.setIfInBounds_toArray, List.set_cons_zero, List.set_cons_succ, i64_w, i32_w]
    rfl
  refine pure_ (i := 8) (N := some 45) (v := ?_) (a' := ?_) #[true, true, true, true, true, true, true, true, true, false] rfl rfl (any_of HT_.out (by kernel_rfl)) (fun _ _ _ h => h) (Or.inl ⟨by rfl, ?_⟩) ?_ ?_
  rotate_left
  · intro w'
    go_simp
    with_reducible rfl
  rotate_left
  · simp only [Act.put, List.setIfInBounds_toArray, List.set_cons_zero, List.set_cons_succ, i64_w, i32_w]
    rfl
  refine pure_ (i := 9) (N := some 7) (v := ?_) (a' := ?_) #[true, true, true, true, true, true, true, true, true, true] rfl rfl (any_of HT_.out (by kernel_rfl)) (fun _ _ _ h => h) (Or.inl ⟨by rfl, ?_⟩) ?_ ?_
  rotate_left
  · intro w'
    go_simp
    with_reducible rfl
  rotate_left
  · simp only [Act.put, List.setIfInBounds_toArray, List.set_cons_zero, List.set_cons_succ, i64_w, i32_w]
    rfl
  refine done_ (done_of HT_.out (by kernel_rfl)) ?_
  have hz0 := HT.out.c0; have hz1 := HT.out.c1; have hy0 := blk_frozen HT.out.box 0; have hy1 := blk_frozen HT.out.box 1
  go_wp2_with (first | (go_at_call 25; (with_reducible refine (pLeft HT.out HS.out HQ.out).mono ?_); rintro ev W7 ⟨rfl, ht⟩; have n0_ := Aside0.mk ht; clear HT; have HT := n0_; clear n0_; clear ht; have hz0 := HT.out.c0; have hz1 := HT.out.c1; have hy0 := blk_frozen HT.out.box 0; have hy1 := blk_frozen HT.out.box 1) | (go_at_call 29; (with_reducible refine (xLeft HT.out HS.out HQ.out).mono ?_); rintro ev W7 ⟨rfl, ht⟩; have n0_ := Aside0.mk ht; clear HT; have HT := n0_; clear n0_; clear ht; have hz0 := HT.out.c0; have hz1 := HT.out.c1; have hy0 := blk_frozen HT.out.box 0; have hy1 := blk_frozen HT.out.box 1) | (go_at_call 26; (with_reducible refine (pErr HT.out HS.out HQ.out).mono ?_); rintro ev W7 ⟨rfl, ht⟩; have n0_ := Aside0.mk ht; clear HT; have HT := n0_; clear n0_; clear ht; have hz0 := HT.out.c0; have hz1 := HT.out.c1; have hy0 := blk_frozen HT.out.box 0; have hy1 := blk_frozen HT.out.box 1) | (go_at_call 30; (with_reducible refine (xErr HT.out HS.out HQ.out).mono ?_); rintro ev W7 ⟨rfl, ht⟩; have n0_ := Aside0.mk ht; clear HT; have HT := n0_; clear n0_; clear ht; have hz0 := HT.out.c0; have hz1 := HT.out.c1; have hy0 := blk_frozen HT.out.box 0; have hy1 := blk_frozen HT.out.box 1) | (go_at_call 24; (with_reducible refine (pEnd HT.out HS.out HQ.out).mono ?_); rintro ev W7 ⟨rfl, ht⟩; have n0_ := Aside0.mk ht; clear HT; have HT := n0_; clear n0_; clear ht; have hz0 := HT.out.c0; have hz1 := HT.out.c1; have hy0 := blk_frozen HT.out.box 0; have hy1 := blk_frozen HT.out.box 1) | (go_at_call 31; (with_reducible refine (xEnd HT.out HS.out HQ.out).mono ?_); rintro ev W7 ⟨rfl, ht⟩; have n0_ := Aside0.mk ht; clear HT; have HT := n0_; clear n0_; clear ht; have hz0 := HT.out.c0; have hz1 := HT.out.c1; have hy0 := blk_frozen HT.out.box 0; have hy1 := blk_frozen HT.out.box 1))
  go_ret
  exact ⟨rfl, HT.out.two⟩
set_option maxHeartbeats 4000000 in
theorem step5 (w0 w : World) (g x : Nat) (s : ByteArray) (p : Nat) (e : Int) (m : Bool) (k1 : Int) (hI : Two w0 w g x s p e p e m) (hs : s.size ≤ 1048576) (hp : p ≤ s.size) (hm : k1 ≤ 9223372036854775807) :
    Calls Try.prog 28 #[.pointer (some ⟨g, 0, none⟩), .pointer (some ⟨x, 0, none⟩), .agg #[.int .i64 5, .int .i64 k1]] w fun ev w' => ev = .returned (.bool true) ∧ Two w0 w' g x s (rF p e m k1).1 (rF p e m k1).2 (rF p e m k1).1 (rF p e m k1).2 m := by
  have HQ := Aside0.mk (show (rF p e m k1).1 ≤ s.size from hp)
  have HI := Aside0.mk hI
  have HS := Aside0.mk hs
  have HP := Aside0.mk hp
  have HM := Aside0.mk hm
  clear hI hs hp hm
  go_enter Try.func28, Try.ntmps28
  go_wp2_with (first | ((with_reducible refine gate_dst (N := 5) rfl ?_); refine box_event ?hg (N := 5) ?hd (cs := #[.int .i64 5, .int .i64 k1]) (t := 49) ?hr ?_; (case hd => rfl); (case hg => rfl); (case hr => first | (go_simp; done) | (go_simp; rfl)); intro gq hg w5 hbox hb; have n0_ := Aside0.mk (boxed HI.out hb hbox); clear HI; have HT := n0_; clear n0_ hb hbox hg; have hz0 := HT.out.c0; have hz1 := HT.out.c1; have hy0 := blk_frozen HT.out.box 0; have hy1 := blk_frozen HT.out.box 1) | (go_at_call 41; (with_reducible refine (pFail HT.out HS.out HP.out HM.out).mono ?_); rintro ev W7 ⟨rfl, ht⟩; have n0_ := Aside0.mk ht; clear HT; have HT := n0_; clear n0_; clear ht; have hz0 := HT.out.c0; have hz1 := HT.out.c1; have hy0 := blk_frozen HT.out.box 0; have hy1 := blk_frozen HT.out.box 1) | (go_at_call 42; (with_reducible refine (xFail HT.out HS.out HP.out HM.out).mono ?_); rintro ev W7 ⟨rfl, ht⟩; have n0_ := Aside0.mk ht; clear HT; have HT := n0_; clear n0_; clear ht; have hz0 := HT.out.c0; have hz1 := HT.out.c1; have hy0 := blk_frozen HT.out.box 0; have hy1 := blk_frozen HT.out.box 1) | (go_at_call 25; (with_reducible refine (pLeft HT.out HS.out HQ.out).mono ?_); rintro ev W7 ⟨rfl, ht⟩; have n0_ := Aside0.mk ht; clear HT; have HT := n0_; clear n0_; clear ht; have hz0 := HT.out.c0; have hz1 := HT.out.c1; have hy0 := blk_frozen HT.out.box 0; have hy1 := blk_frozen HT.out.box 1) | (go_at_call 29; (with_reducible refine (xLeft HT.out HS.out HQ.out).mono ?_); rintro ev W7 ⟨rfl, ht⟩; have n0_ := Aside0.mk ht; clear HT; have HT := n0_; clear n0_; clear ht; have hz0 := HT.out.c0; have hz1 := HT.out.c1; have hy0 := blk_frozen HT.out.box 0; have hy1 := blk_frozen HT.out.box 1) | (go_at_call 26; (with_reducible refine (pErr HT.out HS.out HQ.out).mono ?_); rintro ev W7 ⟨rfl, ht⟩; have n0_ := Aside0.mk ht; clear HT; have HT := n0_; clear n0_; clear ht; have hz0 := HT.out.c0; have hz1 := HT.out.c1; have hy0 := blk_frozen HT.out.box 0; have hy1 := blk_frozen HT.out.box 1) | (go_at_call 30; (with_reducible refine (xErr HT.out HS.out HQ.out).mono ?_); rintro ev W7 ⟨rfl, ht⟩; have n0_ := Aside0.mk ht; clear HT; have HT := n0_; clear n0_; clear ht; have hz0 := HT.out.c0; have hz1 := HT.out.c1; have hy0 := blk_frozen HT.out.box 0; have hy1 := blk_frozen HT.out.box 1) | (go_at_call 24; (with_reducible refine (pEnd HT.out HS.out HQ.out).mono ?_); rintro ev W7 ⟨rfl, ht⟩; have n0_ := Aside0.mk ht; clear HT; have HT := n0_; clear n0_; clear ht; have hz0 := HT.out.c0; have hz1 := HT.out.c1; have hy0 := blk_frozen HT.out.box 0; have hy1 := blk_frozen HT.out.box 1) | (go_at_call 31; (with_reducible refine (xEnd HT.out HS.out HQ.out).mono ?_); rintro ev W7 ⟨rfl, ht⟩; have n0_ := Aside0.mk ht; clear HT; have HT := n0_; clear n0_; clear ht; have hz0 := HT.out.c0; have hz1 := HT.out.c1; have hy0 := blk_frozen HT.out.box 0; have hy1 := blk_frozen HT.out.box 1))
  repeat (go_quiet (first | ((with_reducible refine gate_dst (N := 5) rfl ?_); refine box_event ?hg (N := 5) ?hd (cs := #[.int .i64 5, .int .i64 k1]) (t := 49) ?hr ?_; (case hd => rfl); (case hg => rfl); (case hr => first | (go_simp; done) | (go_simp; rfl)); intro gq hg w5 hbox hb; have n0_ := Aside0.mk (boxed HI.out hb hbox); clear HI; have HT := n0_; clear n0_ hb hbox hg; have hz0 := HT.out.c0; have hz1 := HT.out.c1; have hy0 := blk_frozen HT.out.box 0; have hy1 := blk_frozen HT.out.box 1) | (go_at_call 41; (with_reducible refine (pFail HT.out HS.out HP.out HM.out).mono ?_); rintro ev W7 ⟨rfl, ht⟩; have n0_ := Aside0.mk ht; clear HT; have HT := n0_; clear n0_; clear ht; have hz0 := HT.out.c0; have hz1 := HT.out.c1; have hy0 := blk_frozen HT.out.box 0; have hy1 := blk_frozen HT.out.box 1) | (go_at_call 42; (with_reducible refine (xFail HT.out HS.out HP.out HM.out).mono ?_); rintro ev W7 ⟨rfl, ht⟩; have n0_ := Aside0.mk ht; clear HT; have HT := n0_; clear n0_; clear ht; have hz0 := HT.out.c0; have hz1 := HT.out.c1; have hy0 := blk_frozen HT.out.box 0; have hy1 := blk_frozen HT.out.box 1) | (go_at_call 25; (with_reducible refine (pLeft HT.out HS.out HQ.out).mono ?_); rintro ev W7 ⟨rfl, ht⟩; have n0_ := Aside0.mk ht; clear HT; have HT := n0_; clear n0_; clear ht; have hz0 := HT.out.c0; have hz1 := HT.out.c1; have hy0 := blk_frozen HT.out.box 0; have hy1 := blk_frozen HT.out.box 1) | (go_at_call 29; (with_reducible refine (xLeft HT.out HS.out HQ.out).mono ?_); rintro ev W7 ⟨rfl, ht⟩; have n0_ := Aside0.mk ht; clear HT; have HT := n0_; clear n0_; clear ht; have hz0 := HT.out.c0; have hz1 := HT.out.c1; have hy0 := blk_frozen HT.out.box 0; have hy1 := blk_frozen HT.out.box 1) | (go_at_call 26; (with_reducible refine (pErr HT.out HS.out HQ.out).mono ?_); rintro ev W7 ⟨rfl, ht⟩; have n0_ := Aside0.mk ht; clear HT; have HT := n0_; clear n0_; clear ht; have hz0 := HT.out.c0; have hz1 := HT.out.c1; have hy0 := blk_frozen HT.out.box 0; have hy1 := blk_frozen HT.out.box 1) | (go_at_call 30; (with_reducible refine (xErr HT.out HS.out HQ.out).mono ?_); rintro ev W7 ⟨rfl, ht⟩; have n0_ := Aside0.mk ht; clear HT; have HT := n0_; clear n0_; clear ht; have hz0 := HT.out.c0; have hz1 := HT.out.c1; have hy0 := blk_frozen HT.out.box 0; have hy1 := blk_frozen HT.out.box 1) | (go_at_call 24; (with_reducible refine (pEnd HT.out HS.out HQ.out).mono ?_); rintro ev W7 ⟨rfl, ht⟩; have n0_ := Aside0.mk ht; clear HT; have HT := n0_; clear n0_; clear ht; have hz0 := HT.out.c0; have hz1 := HT.out.c1; have hy0 := blk_frozen HT.out.box 0; have hy1 := blk_frozen HT.out.box 1) | (go_at_call 31; (with_reducible refine (xEnd HT.out HS.out HQ.out).mono ?_); rintro ev W7 ⟨rfl, ht⟩; have n0_ := Aside0.mk ht; clear HT; have HT := n0_; clear n0_; clear ht; have hz0 := HT.out.c0; have hz1 := HT.out.c1; have hy0 := blk_frozen HT.out.box 0; have hy1 := blk_frozen HT.out.box 1)); try go_wp2_with (first | ((with_reducible refine gate_dst (N := 5) rfl ?_); refine box_event ?hg (N := 5) ?hd (cs := #[.int .i64 5, .int .i64 k1]) (t := 49) ?hr ?_; (case hd => rfl); (case hg => rfl); (case hr => first | (go_simp; done) | (go_simp; rfl)); intro gq hg w5 hbox hb; have n0_ := Aside0.mk (boxed HI.out hb hbox); clear HI; have HT := n0_; clear n0_ hb hbox hg; have hz0 := HT.out.c0; have hz1 := HT.out.c1; have hy0 := blk_frozen HT.out.box 0; have hy1 := blk_frozen HT.out.box 1) | (go_at_call 41; (with_reducible refine (pFail HT.out HS.out HP.out HM.out).mono ?_); rintro ev W7 ⟨rfl, ht⟩; have n0_ := Aside0.mk ht; clear HT; have HT := n0_; clear n0_; clear ht; have hz0 := HT.out.c0; have hz1 := HT.out.c1; have hy0 := blk_frozen HT.out.box 0; have hy1 := blk_frozen HT.out.box 1) | (go_at_call 42; (with_reducible refine (xFail HT.out HS.out HP.out HM.out).mono ?_); rintro ev W7 ⟨rfl, ht⟩; have n0_ := Aside0.mk ht; clear HT; have HT := n0_; clear n0_; clear ht; have hz0 := HT.out.c0; have hz1 := HT.out.c1; have hy0 := blk_frozen HT.out.box 0; have hy1 := blk_frozen HT.out.box 1) | (go_at_call 25; (with_reducible refine (pLeft HT.out HS.out HQ.out).mono ?_); rintro ev W7 ⟨rfl, ht⟩; have n0_ := Aside0.mk ht; clear HT; have HT := n0_; clear n0_; clear ht; have hz0 := HT.out.c0; have hz1 := HT.out.c1; have hy0 := blk_frozen HT.out.box 0; have hy1 := blk_frozen HT.out.box 1) | (go_at_call 29; (with_reducible refine (xLeft HT.out HS.out HQ.out).mono ?_); rintro ev W7 ⟨rfl, ht⟩; have n0_ := Aside0.mk ht; clear HT; have HT := n0_; clear n0_; clear ht; have hz0 := HT.out.c0; have hz1 := HT.out.c1; have hy0 := blk_frozen HT.out.box 0; have hy1 := blk_frozen HT.out.box 1) | (go_at_call 26; (with_reducible refine (pErr HT.out HS.out HQ.out).mono ?_); rintro ev W7 ⟨rfl, ht⟩; have n0_ := Aside0.mk ht; clear HT; have HT := n0_; clear n0_; clear ht; have hz0 := HT.out.c0; have hz1 := HT.out.c1; have hy0 := blk_frozen HT.out.box 0; have hy1 := blk_frozen HT.out.box 1) | (go_at_call 30; (with_reducible refine (xErr HT.out HS.out HQ.out).mono ?_); rintro ev W7 ⟨rfl, ht⟩; have n0_ := Aside0.mk ht; clear HT; have HT := n0_; clear n0_; clear ht; have hz0 := HT.out.c0; have hz1 := HT.out.c1; have hy0 := blk_frozen HT.out.box 0; have hy1 := blk_frozen HT.out.box 1) | (go_at_call 24; (with_reducible refine (pEnd HT.out HS.out HQ.out).mono ?_); rintro ev W7 ⟨rfl, ht⟩; have n0_ := Aside0.mk ht; clear HT; have HT := n0_; clear n0_; clear ht; have hz0 := HT.out.c0; have hz1 := HT.out.c1; have hy0 := blk_frozen HT.out.box 0; have hy1 := blk_frozen HT.out.box 1) | (go_at_call 31; (with_reducible refine (xEnd HT.out HS.out HQ.out).mono ?_); rintro ev W7 ⟨rfl, ht⟩; have n0_ := Aside0.mk ht; clear HT; have HT := n0_; clear n0_; clear ht; have hz0 := HT.out.c0; have hz1 := HT.out.c1; have hy0 := blk_frozen HT.out.box 0; have hy1 := blk_frozen HT.out.box 1)))
  go_ret
  exact ⟨rfl, HT.out.two⟩
set_option maxHeartbeats 4000000 in
theorem stepX (w0 w : World) (g x : Nat) (s : ByteArray) (p : Nat) (e : Int) (m : Bool) (k1 : Int) (k0 : Int) (h0 : ¬ k0 = 0) (h1 : ¬ k0 = 1) (h2 : ¬ k0 = 2) (h3 : ¬ k0 = 3) (h4 : ¬ k0 = 4) (h5 : ¬ k0 = 5) (hI : Two w0 w g x s p e p e m) (hs : s.size ≤ 1048576) (hp : p ≤ s.size) (hm : k1 ≤ 9223372036854775807) :
    Calls Try.prog 28 #[.pointer (some ⟨g, 0, none⟩), .pointer (some ⟨x, 0, none⟩), .agg #[.int .i64 k0, .int .i64 k1]] w fun ev w' => ev = .returned (.bool true) ∧ Two w0 w' g x s p e p e m := by
  have HQ := Aside0.mk hp
  have b0 : (k0 == 0) = false := beq_eq_false_iff_ne.2 h0
  have b1 : (k0 == 1) = false := beq_eq_false_iff_ne.2 h1
  have b2 : (k0 == 2) = false := beq_eq_false_iff_ne.2 h2
  have b3 : (k0 == 3) = false := beq_eq_false_iff_ne.2 h3
  have b4 : (k0 == 4) = false := beq_eq_false_iff_ne.2 h4
  have b5 : (k0 == 5) = false := beq_eq_false_iff_ne.2 h5
  clear h0 h1 h2 h3 h4 h5
  have HI := Aside0.mk hI
  have HS := Aside0.mk hs
  have HP := Aside0.mk hp
  have HM := Aside0.mk hm
  clear hI hs hp hm
  go_enter Try.func28, Try.ntmps28
  go_wp2_with (first | ((with_reducible refine gate_dst (N := 5) rfl ?_); refine box_event ?hg (N := 5) ?hd (cs := #[.int .i64 k0, .int .i64 k1]) (t := 49) ?hr ?_; (case hd => rfl); (case hg => rfl); (case hr => first | (go_simp; done) | (go_simp; rfl)); intro gq hg w5 hbox hb; have n0_ := Aside0.mk (boxed HI.out hb hbox); clear HI; have HT := n0_; clear n0_ hb hbox hg; have hz0 := HT.out.c0; have hz1 := HT.out.c1; have hy0 := blk_frozen HT.out.box 0; have hy1 := blk_frozen HT.out.box 1) | (go_at_call 25; (with_reducible refine (pLeft HT.out HS.out HQ.out).mono ?_); rintro ev W7 ⟨rfl, ht⟩; have n0_ := Aside0.mk ht; clear HT; have HT := n0_; clear n0_; clear ht; have hz0 := HT.out.c0; have hz1 := HT.out.c1; have hy0 := blk_frozen HT.out.box 0; have hy1 := blk_frozen HT.out.box 1) | (go_at_call 29; (with_reducible refine (xLeft HT.out HS.out HQ.out).mono ?_); rintro ev W7 ⟨rfl, ht⟩; have n0_ := Aside0.mk ht; clear HT; have HT := n0_; clear n0_; clear ht; have hz0 := HT.out.c0; have hz1 := HT.out.c1; have hy0 := blk_frozen HT.out.box 0; have hy1 := blk_frozen HT.out.box 1) | (go_at_call 26; (with_reducible refine (pErr HT.out HS.out HQ.out).mono ?_); rintro ev W7 ⟨rfl, ht⟩; have n0_ := Aside0.mk ht; clear HT; have HT := n0_; clear n0_; clear ht; have hz0 := HT.out.c0; have hz1 := HT.out.c1; have hy0 := blk_frozen HT.out.box 0; have hy1 := blk_frozen HT.out.box 1) | (go_at_call 30; (with_reducible refine (xErr HT.out HS.out HQ.out).mono ?_); rintro ev W7 ⟨rfl, ht⟩; have n0_ := Aside0.mk ht; clear HT; have HT := n0_; clear n0_; clear ht; have hz0 := HT.out.c0; have hz1 := HT.out.c1; have hy0 := blk_frozen HT.out.box 0; have hy1 := blk_frozen HT.out.box 1) | (go_at_call 24; (with_reducible refine (pEnd HT.out HS.out HQ.out).mono ?_); rintro ev W7 ⟨rfl, ht⟩; have n0_ := Aside0.mk ht; clear HT; have HT := n0_; clear n0_; clear ht; have hz0 := HT.out.c0; have hz1 := HT.out.c1; have hy0 := blk_frozen HT.out.box 0; have hy1 := blk_frozen HT.out.box 1) | (go_at_call 31; (with_reducible refine (xEnd HT.out HS.out HQ.out).mono ?_); rintro ev W7 ⟨rfl, ht⟩; have n0_ := Aside0.mk ht; clear HT; have HT := n0_; clear n0_; clear ht; have hz0 := HT.out.c0; have hz1 := HT.out.c1; have hy0 := blk_frozen HT.out.box 0; have hy1 := blk_frozen HT.out.box 1))
  repeat (go_quiet (first | ((with_reducible refine gate_dst (N := 5) rfl ?_); refine box_event ?hg (N := 5) ?hd (cs := #[.int .i64 k0, .int .i64 k1]) (t := 49) ?hr ?_; (case hd => rfl); (case hg => rfl); (case hr => first | (go_simp; done) | (go_simp; rfl)); intro gq hg w5 hbox hb; have n0_ := Aside0.mk (boxed HI.out hb hbox); clear HI; have HT := n0_; clear n0_ hb hbox hg; have hz0 := HT.out.c0; have hz1 := HT.out.c1; have hy0 := blk_frozen HT.out.box 0; have hy1 := blk_frozen HT.out.box 1) | (go_at_call 25; (with_reducible refine (pLeft HT.out HS.out HQ.out).mono ?_); rintro ev W7 ⟨rfl, ht⟩; have n0_ := Aside0.mk ht; clear HT; have HT := n0_; clear n0_; clear ht; have hz0 := HT.out.c0; have hz1 := HT.out.c1; have hy0 := blk_frozen HT.out.box 0; have hy1 := blk_frozen HT.out.box 1) | (go_at_call 29; (with_reducible refine (xLeft HT.out HS.out HQ.out).mono ?_); rintro ev W7 ⟨rfl, ht⟩; have n0_ := Aside0.mk ht; clear HT; have HT := n0_; clear n0_; clear ht; have hz0 := HT.out.c0; have hz1 := HT.out.c1; have hy0 := blk_frozen HT.out.box 0; have hy1 := blk_frozen HT.out.box 1) | (go_at_call 26; (with_reducible refine (pErr HT.out HS.out HQ.out).mono ?_); rintro ev W7 ⟨rfl, ht⟩; have n0_ := Aside0.mk ht; clear HT; have HT := n0_; clear n0_; clear ht; have hz0 := HT.out.c0; have hz1 := HT.out.c1; have hy0 := blk_frozen HT.out.box 0; have hy1 := blk_frozen HT.out.box 1) | (go_at_call 30; (with_reducible refine (xErr HT.out HS.out HQ.out).mono ?_); rintro ev W7 ⟨rfl, ht⟩; have n0_ := Aside0.mk ht; clear HT; have HT := n0_; clear n0_; clear ht; have hz0 := HT.out.c0; have hz1 := HT.out.c1; have hy0 := blk_frozen HT.out.box 0; have hy1 := blk_frozen HT.out.box 1) | (go_at_call 24; (with_reducible refine (pEnd HT.out HS.out HQ.out).mono ?_); rintro ev W7 ⟨rfl, ht⟩; have n0_ := Aside0.mk ht; clear HT; have HT := n0_; clear n0_; clear ht; have hz0 := HT.out.c0; have hz1 := HT.out.c1; have hy0 := blk_frozen HT.out.box 0; have hy1 := blk_frozen HT.out.box 1) | (go_at_call 31; (with_reducible refine (xEnd HT.out HS.out HQ.out).mono ?_); rintro ev W7 ⟨rfl, ht⟩; have n0_ := Aside0.mk ht; clear HT; have HT := n0_; clear n0_; clear ht; have hz0 := HT.out.c0; have hz1 := HT.out.c1; have hy0 := blk_frozen HT.out.box 0; have hy1 := blk_frozen HT.out.box 1)); try go_wp2_with (first | ((with_reducible refine gate_dst (N := 5) rfl ?_); refine box_event ?hg (N := 5) ?hd (cs := #[.int .i64 k0, .int .i64 k1]) (t := 49) ?hr ?_; (case hd => rfl); (case hg => rfl); (case hr => first | (go_simp; done) | (go_simp; rfl)); intro gq hg w5 hbox hb; have n0_ := Aside0.mk (boxed HI.out hb hbox); clear HI; have HT := n0_; clear n0_ hb hbox hg; have hz0 := HT.out.c0; have hz1 := HT.out.c1; have hy0 := blk_frozen HT.out.box 0; have hy1 := blk_frozen HT.out.box 1) | (go_at_call 25; (with_reducible refine (pLeft HT.out HS.out HQ.out).mono ?_); rintro ev W7 ⟨rfl, ht⟩; have n0_ := Aside0.mk ht; clear HT; have HT := n0_; clear n0_; clear ht; have hz0 := HT.out.c0; have hz1 := HT.out.c1; have hy0 := blk_frozen HT.out.box 0; have hy1 := blk_frozen HT.out.box 1) | (go_at_call 29; (with_reducible refine (xLeft HT.out HS.out HQ.out).mono ?_); rintro ev W7 ⟨rfl, ht⟩; have n0_ := Aside0.mk ht; clear HT; have HT := n0_; clear n0_; clear ht; have hz0 := HT.out.c0; have hz1 := HT.out.c1; have hy0 := blk_frozen HT.out.box 0; have hy1 := blk_frozen HT.out.box 1) | (go_at_call 26; (with_reducible refine (pErr HT.out HS.out HQ.out).mono ?_); rintro ev W7 ⟨rfl, ht⟩; have n0_ := Aside0.mk ht; clear HT; have HT := n0_; clear n0_; clear ht; have hz0 := HT.out.c0; have hz1 := HT.out.c1; have hy0 := blk_frozen HT.out.box 0; have hy1 := blk_frozen HT.out.box 1) | (go_at_call 30; (with_reducible refine (xErr HT.out HS.out HQ.out).mono ?_); rintro ev W7 ⟨rfl, ht⟩; have n0_ := Aside0.mk ht; clear HT; have HT := n0_; clear n0_; clear ht; have hz0 := HT.out.c0; have hz1 := HT.out.c1; have hy0 := blk_frozen HT.out.box 0; have hy1 := blk_frozen HT.out.box 1) | (go_at_call 24; (with_reducible refine (pEnd HT.out HS.out HQ.out).mono ?_); rintro ev W7 ⟨rfl, ht⟩; have n0_ := Aside0.mk ht; clear HT; have HT := n0_; clear n0_; clear ht; have hz0 := HT.out.c0; have hz1 := HT.out.c1; have hy0 := blk_frozen HT.out.box 0; have hy1 := blk_frozen HT.out.box 1) | (go_at_call 31; (with_reducible refine (xEnd HT.out HS.out HQ.out).mono ?_); rintro ev W7 ⟨rfl, ht⟩; have n0_ := Aside0.mk ht; clear HT; have HT := n0_; clear n0_; clear ht; have hz0 := HT.out.c0; have hz1 := HT.out.c1; have hy0 := blk_frozen HT.out.box 0; have hy1 := blk_frozen HT.out.box 1)))
  go_ret
  exact ⟨rfl, HT.out.two⟩
theorem sameL {w0 W : World} {g x q : Nat} {s : ByteArray} {p p2 : Nat} {e e2 : Int} {m : Bool} {k0 k1 : Int} {A1 A2 : Option Addr} {c1 c2 : Nat} {l : List Int} (h : Three w0 W g x q s p e p2 e2 m k0 k1) (h1 : Row W (.slice A1 l.length c1) l) (h2 : Row W (.slice A2 l.length c2) l) (hl : l.length ≤ 1048577) :
    Calls Try.prog 20 #[.slice A1 l.length c1, .slice A2 l.length c2] W fun ev W' => ev = .returned (.bool true) ∧ Three w0 W' g x q s p e p2 e2 m k0 k1 := by
  obtain ⟨A, c, e1, r1, b1⟩ := row_slice h1
  injection e1 with ea _ ec
  subst ea ec
  obtain ⟨A, c, e2, r2, b2⟩ := row_slice h2
  injection e2 with ea _ ec
  subst ea ec
  refine (imageeditorlaw04_same.calls (l.length + 1) _ _ l _ _ l true W r1 b1 r2 b2 (same_eq l _ (by omega) (by omega))).mono fun ev W' ⟨hr, hd⟩ => ⟨hr, ?_⟩
  obtain ⟨n, rfl⟩ := hd
  exact ⟨⟨h.two.a.drewN n, h.two.b.drewN n, pw_below_drewN h.two.below n⟩, h.box⟩
set_option maxHeartbeats 4000000 in
theorem step4 (w0 w : World) (g x : Nat) (s : ByteArray) (p : Nat) (e : Int) (m : Bool) (k1 : Int) (hI : Two w0 w g x s p e p e m) (hs : s.size ≤ 1048576) (hp : p ≤ s.size) (hm : k1 ≤ 9223372036854775807) :
    Calls Try.prog 28 #[.pointer (some ⟨g, 0, none⟩), .pointer (some ⟨x, 0, none⟩), .agg #[.int .i64 4, .int .i64 k1]] w fun ev w' => ev = .returned (.bool true) ∧ Two w0 w' g x s (rLs s p e m k1).2.1 (rLs s p e m k1).2.2 (rLs s p e m k1).2.1 (rLs s p e m k1).2.2 m := by
  have HQ := Aside0.mk (rLs_pos s p e m k1 hp hm)
  have HL := Aside0.mk (show (rLs s p e m k1).1.length ≤ 1048577 from by have := rLs_len s p e m k1; omega)
  have HI := Aside0.mk hI
  have HS := Aside0.mk hs
  have HP := Aside0.mk hp
  have HM := Aside0.mk hm
  clear hI hs hp hm
  go_enter Try.func28, Try.ntmps28
  go_wp2_with (first | ((with_reducible refine gate_dst (N := 5) rfl ?_); refine box_event ?hg (N := 5) ?hd (cs := #[.int .i64 4, .int .i64 k1]) (t := 49) ?hr ?_; (case hd => rfl); (case hg => rfl); (case hr => first | (go_simp; done) | (go_simp; rfl)); intro gq hg w5 hbox hb; have n0_ := Aside0.mk (boxed HI.out hb hbox); clear HI; have HT := n0_; clear n0_ hb hbox hg; have hz0 := HT.out.c0; have hz1 := HT.out.c1; have hy0 := blk_frozen HT.out.box 0; have hy1 := blk_frozen HT.out.box 1))
  refine start_ (n := 10) (S := fun w' => w'.cell? ⟨gq, 1, none⟩ = some (.int .i64 k1)) (ds := []) #[false, false, false, false, false, false, false, false, false, false] (by kernel_rfl) rfl rfl hz1 (fun hHeld => ?_); refine with_tabW tab12 bits12 (fun HT_ HW_ => ?_)
  have n0_ := Aside0.mk (drewn HT.out)
  clear HT hz0 hz1 hy0 hy1
  have HT := n0_
  clear n0_
  generalize w5.drew = w6 at HT hHeld ⊢
  refine pure_ (i := 0) (N := some 48) (v := ?_) (a' := ?_) #[true, false, false, false, false, false, false, false, false, false] rfl rfl (any_of HT_.out (by kernel_rfl)) (fun _ _ _ h => h) (Or.inl ⟨by rfl, ?_⟩) ?_ ?_
  rotate_left
  · intro w'
    go_simp
    with_reducible rfl
  rotate_left
  · simp only [Act.put, List.setIfInBounds_toArray, List.set_cons_zero, List.set_cons_succ, i64_w, i32_w]
    rfl
  refine pure_ (i := 1) (N := some 49) (v := ?_) (a' := ?_) #[true, true, false, false, false, false, false, false, false, false] rfl rfl (any_of HT_.out (by kernel_rfl)) (fun _ _ _ h => h) (Or.inl ⟨by rfl, ?_⟩) ?_ ?_
  rotate_left
  · intro w'
    go_simp
    with_reducible rfl
  rotate_left
  · simp only [Act.put, List.setIfInBounds_toArray, List.set_cons_zero, List.set_cons_succ, i64_w, i32_w]
    rfl
  refine take_ (i := 2) (N := some 50) (v := ?_) (a' := ?_) #[true, true, true, false, false, false, false, false, false, false] rfl rfl (take_ofW HT_.out HW_.out (by kernel_rfl)) (fun _ _ _ h => h) (Or.inl ⟨by rfl, ?_⟩) hHeld ?_ ?_
  rotate_left
  · intro w' s0
    go_simp
    with_reducible rfl
  rotate_left
  · simp only [Act.put, List.setIfInBounds_toArray, List.set_cons_zero, List.set_cons_succ, i64_w, i32_w]
    rfl
  refine pure_ (i := 4) (N := some 52) (v := ?_) (a' := ?_) #[true, true, true, false, true, false, false, false, false, false] rfl rfl (any_of HT_.out (by kernel_rfl)) (fun _ _ _ h => h) (Or.inl ⟨by rfl, ?_⟩) ?_ ?_
  rotate_left
  · intro w'
    go_simp
    with_reducible rfl
  rotate_left
  · simp only [Act.put, List.setIfInBounds_toArray, List.set_cons_zero, List.set_cons_succ, i64_w, i32_w]
    rfl
  refine pure_ (i := 5) (N := some 53) (v := ?_) (a' := ?_) #[true, true, true, false, true, true, false, false, false, false] rfl rfl (any_of HT_.out (by kernel_rfl)) (fun _ _ _ h => h) (Or.inl ⟨by rfl, ?_⟩) ?_ ?_
  rotate_left
  · intro w'
    go_simp
    with_reducible rfl
  rotate_left
  · simp only [Act.put, List.setIfInBounds_toArray, List.set_cons_zero, List.set_cons_succ, i64_w, i32_w]
    rfl
  refine take_ (i := 6) (N := some 54) (v := ?_) (a' := ?_) #[true, true, true, false, true, true, true, false, false, false] rfl rfl (take_ofW HT_.out HW_.out (by kernel_rfl)) (fun _ _ _ h => h) (Or.inl ⟨by rfl, ?_⟩) hHeld ?_ ?_
  rotate_left
  · intro w' s0
    go_simp
    with_reducible rfl
  rotate_left
  · simp only [Act.put, List.setIfInBounds_toArray, List.set_cons_zero, List.set_cons_succ, i64_w, i32_w]
    rfl
  refine one_ (i := 3) (N := some 51) #[true, true, true, true, true, true, true, false, false, false] rfl rfl (one_of HT_.out (by kernel_rfl)) (by decide) (fun K hK => ?_)
  refine goes_ Try.func21 (by kernel_rfl) rfl #[.pointer (some ⟨g, 0, none⟩), .int .i64 k1] (by rfl) rfl rfl (by (try simp only [List.map_toArray, List.map_cons, List.map_nil]); first | done | rfl) ?_
  refine (pInts HT.out HS.out HP.out HM.out).mono ?_
  rintro ev w7 ⟨v1, rfl, hr, ht⟩
  obtain ⟨A1, c1, rfl, hC1, hc1⟩ := row_slice hr
  have HR1 := Aside0.mk hr
  clear hr hC1 hc1
  refine ⟨_, rfl, ?_⟩
  have n0_ := Aside0.mk ht
  clear HT ht
  have HT := n0_
  clear n0_
  refine hK.out _ _ HT.out.c1 (fun hHeld => ?_)
  clear hK K
  refine norm_ (a' := ?_) ?_ ?_
  rotate_left
  · show Act.put _ (some 51) _ = _
    simp only [Act.put, List.setIfInBounds_toArray, List.set_cons_zero, List.set_cons_succ, i64_w, i32_w]
    rfl
  refine one_ (i := 7) (N := some 55) #[true, true, true, true, true, true, true, true, false, false] rfl rfl (one_of HT_.out (by kernel_rfl)) (by decide) (fun K hK => ?_)
  refine goes_ Try.func40 (by kernel_rfl) rfl #[.pointer (some ⟨x, 0, none⟩), .int .i64 k1] (by rfl) rfl rfl (by (try simp only [List.map_toArray, List.map_cons, List.map_nil]); first | done | rfl) ?_
  refine (xInts HT.out HR1.out HS.out HP.out HM.out).mono ?_
  rintro ev w7 ⟨v2, rfl, hr2, hr, ht⟩
  have n1_ := Aside0.mk hr
  clear HR1 hr
  have HR1 := n1_
  clear n1_
  obtain ⟨A2, c2, rfl, hC2, hc2⟩ := row_slice hr2
  have HR2 := Aside0.mk hr2
  clear hr2 hC2 hc2
  refine ⟨_, rfl, ?_⟩
  have n0_ := Aside0.mk ht
  clear HT ht
  have HT := n0_
  clear n0_
  refine hK.out _ _ HT.out.c1 (fun hHeld => ?_)
  clear hK K
  refine norm_ (a' := ?_) ?_ ?_
  rotate_left
  · show Act.put _ (some 55) _ = _
    simp only [Act.put, List.setIfInBounds_toArray, List.set_cons_zero, List.set_cons_succ, i64_w, i32_w]
    rfl
  refine one_ (i := 8) (N := some 56) #[true, true, true, true, true, true, true, true, true, false] rfl rfl (one_of HT_.out (by kernel_rfl)) (by decide) (fun K hK => ?_)
  refine goes_ Try.func20 (by kernel_rfl) rfl #[.slice A1 (rLs s p e m k1).1.length c1, .slice A2 (rLs s p e m k1).1.length c2] (by rfl) rfl rfl (by (try simp only [List.map_toArray, List.map_cons, List.map_nil]); first | done | rfl) ?_
  refine (sameL HT.out HR1.out HR2.out HL.out).mono ?_
  rintro ev w7 ⟨rfl, ht⟩
  clear HR1 HR2
  refine ⟨_, rfl, ?_⟩
  have n0_ := Aside0.mk ht
  clear HT ht
  have HT := n0_
  clear n0_
  refine hK.out _ _ HT.out.c1 (fun hHeld => ?_)
  clear hK K
  refine norm_ (a' := ?_) ?_ ?_
  rotate_left
  · show Act.put _ (some 56) _ = _
    simp only [Act.put, List.setIfInBounds_toArray, List.set_cons_zero, List.set_cons_succ, i64_w, i32_w]
    rfl
  refine pure_ (i := 9) (N := some 7) (v := ?_) (a' := ?_) #[true, true, true, true, true, true, true, true, true, true] rfl rfl (any_of HT_.out (by kernel_rfl)) (fun _ _ _ h => h) (Or.inl ⟨by rfl, ?_⟩) ?_ ?_
  rotate_left
  · intro w'
    go_simp
    with_reducible rfl
  rotate_left
  · simp only [Act.put, List.setIfInBounds_toArray, List.set_cons_zero, List.set_cons_succ, i64_w, i32_w]
    rfl
  refine done_ (done_of HT_.out (by kernel_rfl)) ?_
  have hz0 := HT.out.c0; have hz1 := HT.out.c1; have hy0 := blk_frozen HT.out.box 0; have hy1 := blk_frozen HT.out.box 1
  go_wp2_with (first | (go_at_call 25; (with_reducible refine (pLeft HT.out HS.out HQ.out).mono ?_); rintro ev W7 ⟨rfl, ht⟩; have n0_ := Aside0.mk ht; clear HT; have HT := n0_; clear n0_; clear ht; have hz0 := HT.out.c0; have hz1 := HT.out.c1; have hy0 := blk_frozen HT.out.box 0; have hy1 := blk_frozen HT.out.box 1) | (go_at_call 29; (with_reducible refine (xLeft HT.out HS.out HQ.out).mono ?_); rintro ev W7 ⟨rfl, ht⟩; have n0_ := Aside0.mk ht; clear HT; have HT := n0_; clear n0_; clear ht; have hz0 := HT.out.c0; have hz1 := HT.out.c1; have hy0 := blk_frozen HT.out.box 0; have hy1 := blk_frozen HT.out.box 1) | (go_at_call 26; (with_reducible refine (pErr HT.out HS.out HQ.out).mono ?_); rintro ev W7 ⟨rfl, ht⟩; have n0_ := Aside0.mk ht; clear HT; have HT := n0_; clear n0_; clear ht; have hz0 := HT.out.c0; have hz1 := HT.out.c1; have hy0 := blk_frozen HT.out.box 0; have hy1 := blk_frozen HT.out.box 1) | (go_at_call 30; (with_reducible refine (xErr HT.out HS.out HQ.out).mono ?_); rintro ev W7 ⟨rfl, ht⟩; have n0_ := Aside0.mk ht; clear HT; have HT := n0_; clear n0_; clear ht; have hz0 := HT.out.c0; have hz1 := HT.out.c1; have hy0 := blk_frozen HT.out.box 0; have hy1 := blk_frozen HT.out.box 1) | (go_at_call 24; (with_reducible refine (pEnd HT.out HS.out HQ.out).mono ?_); rintro ev W7 ⟨rfl, ht⟩; have n0_ := Aside0.mk ht; clear HT; have HT := n0_; clear n0_; clear ht; have hz0 := HT.out.c0; have hz1 := HT.out.c1; have hy0 := blk_frozen HT.out.box 0; have hy1 := blk_frozen HT.out.box 1) | (go_at_call 31; (with_reducible refine (xEnd HT.out HS.out HQ.out).mono ?_); rintro ev W7 ⟨rfl, ht⟩; have n0_ := Aside0.mk ht; clear HT; have HT := n0_; clear n0_; clear ht; have hz0 := HT.out.c0; have hz1 := HT.out.c1; have hy0 := blk_frozen HT.out.box 0; have hy1 := blk_frozen HT.out.box 1))
  go_ret
  exact ⟨rfl, HT.out.two⟩
/-- 'step' for two readers that stand alike -/
theorem step_calls (w0 w : World) (g x : Nat) (s : ByteArray) (p : Nat) (e : Int) (m : Bool) (k0 k1 : Int) (hI : Two w0 w g x s p e p e m) (hs : s.size ≤ 1048576) (hp : p ≤ s.size) (hm : k1 ≤ 9223372036854775807) :
    Calls Try.prog 28 #[.pointer (some ⟨g, 0, none⟩), .pointer (some ⟨x, 0, none⟩), .agg #[.int .i64 k0, .int .i64 k1]] w fun ev w' => ev = .returned (.bool true) ∧ Two w0 w' g x s (stepS s p e m k0 k1).1 (stepS s p e m k0 k1).2 (stepS s p e m k0 k1).1 (stepS s p e m k0 k1).2 m := by
  unfold stepS
  by_cases h0 : k0 = 0
  · subst h0; rw [if_pos rfl]; exact step0 w0 w g x s p e m k1 hI hs hp hm
  · rw [if_neg h0]
    by_cases h1 : k0 = 1
    · subst h1; rw [if_pos rfl]; exact step1 w0 w g x s p e m k1 hI hs hp hm
    · rw [if_neg h1]
      by_cases h2 : k0 = 2
      · subst h2; rw [if_pos rfl]; exact step2 w0 w g x s p e m k1 hI hs hp hm
      · rw [if_neg h2]
        by_cases h3 : k0 = 3
        · subst h3; rw [if_pos rfl]; exact step3 w0 w g x s p e m k1 hI hs hp hm
        · rw [if_neg h3]
          by_cases h4 : k0 = 4
          · subst h4; rw [if_pos rfl]; exact step4 w0 w g x s p e m k1 hI hs hp hm
          · rw [if_neg h4]
            by_cases h5 : k0 = 5
            · subst h5; rw [if_pos rfl]; exact step5 w0 w g x s p e m k1 hI hs hp hm
            · rw [if_neg h5]; exact stepX w0 w g x s p e m k1 k0 h0 h1 h2 h3 h4 h5 hI hs hp hm

end Go.Proofs.Ytnjelebhicheeaa.WireTwo

/- Shapes of values: what a function takes and gives, with the memory that hangs on it; the generic value of a shape, and the same shape at other places. -/
import Derived.Test.YtmolkkphnehgcaaWO
set_option linter.unusedVariables false
set_option linter.unusedSimpArgs false
namespace Go.Proofs.Ytmolkkphnehgcaa.Ew
open Go Go.RowKit

inductive Sh where
  | sc (k : K)
  | lt (k : K) (n : Int)
  | agg (cs : List Sh)
  | lst (ty : Nat) (row : Row) (own : Bool)
  | obj (ty : Nat) (cs : List Sh)
  | ref (j : Nat)
  | fnc (f : Nat) (cs : List Sh)
  | nul (c : CV)
  | tup (cs : List Sh)
  | opt (sh : Sh)
  | und
  | mp (ks vs : List K) (kag vag : Bool)
  | seg (ty : Nat) (ks : List K) (cs : List Sh)
  deriving Repr, Inhabited

/- The kinds of a shape's numbers. -/
mutual
def Sh.ks : Sh → List K
  | .sc k => [k]
  | .agg l | .obj _ l | .fnc _ l | .tup l => Sh.ksL l
  | .lst .. => [.x]
  | .mp .. => [.x]
  | .seg _ _ l => .x :: Sh.ksL l
  | .opt s => .b :: s.ks
  | _ => []
def Sh.ksL : List Sh → List K
  | [] => []
  | s :: r => s.ks ++ Sh.ksL r
end
/- How many names it takes. -/
mutual
def Sh.nn : Sh → Nat
  | .agg l | .fnc _ l | .tup l => Sh.nnL l
  | .obj _ l => Sh.nnL l + 1
  | .lst .. => 1
  | .mp .. => 1
  | .seg _ _ l => Sh.nnL l + 1
  | .opt s => s.nn
  | _ => 0
def Sh.nnL : List Sh → Nat
  | [] => 0
  | s :: r => s.nn + Sh.nnL r
end

/- The names that it refers to. -/
mutual
def Sh.refs : Sh → List Nat
  | .agg l | .obj _ l | .fnc _ l | .tup l | .seg _ _ l => Sh.refsL l
  | .ref j => [j]
  | .opt s => s.refs
  | _ => []
def Sh.refsL : List Sh → List Nat
  | [] => []
  | s :: r => s.refs ++ Sh.refsL r
end

abbrev Ents := List (Nat × E × Blk)
/- The value of a shape whose numbers are ev vi, .. and whose names are nv ni, ..; and what these names stand for, under the condition gd. -/
mutual
def Sh.gen (ev : Nat → E) (nv : Nat → Nat) : Sh → E → Nat → Nat → SV × Ents
  | .sc _, _, vi, _ => (.sc (ev vi), [])
  | .lt k n, _, _, _ => (.sc (.lit k n), [])
  | .agg l, g, vi, ni => let r := Sh.genL ev nv l g vi ni; (.agg r.1, r.2)
  | .lst ty row own, g, vi, ni => (.ls (nv ni) (LEN (ev vi)), [(ni, g, .lst ty row own (LEN (ev vi)) (ev vi))])
  | .obj ty cs, g, vi, ni => let r := Sh.genL ev nv cs g vi (ni + 1); (.ptr (nv ni) 0, (ni, g, .cells ty r.1) :: r.2)
  | .ref j, _, _, _ => (.ptr (nv j) 0, [])
  | .fnc f cs, g, vi, ni => let r := Sh.genL ev nv cs g vi ni; (.fn f r.1, r.2)
  | .nul c, _, _, _ => (.nilp c, [])
  | .tup l, g, vi, ni => let r := Sh.genL ev nv l g vi ni; (.tup r.1, r.2)
  | .opt s, g, vi, ni => let r := s.gen ev nv (mkAnd g (mkNot (ev vi))) (vi + 1) ni; (.ite (ev vi) (.nilp .nP) r.1, r.2)
  | .und, _, _, _ => (.und, [])
  | .mp ks vs kag vag, g, vi, ni => (.mp (nv ni), [(ni, g, .mp ks vs kag vag (ev vi))])
  | .seg ty ks cs, g, vi, ni => let r := Sh.genL ev nv cs g (vi + 1) (ni + 1); (.ptr (nv ni) 0, (ni, g, .seg ty r.1 ks (ev vi)) :: r.2)
def Sh.genL (ev : Nat → E) (nv : Nat → Nat) : List Sh → E → Nat → Nat → List SV × Ents
  | [], _, _, _ => ([], [])
  | s :: r, g, vi, ni => let a := s.gen ev nv g vi ni; let b := Sh.genL ev nv r g (vi + s.ks.length) (ni + s.nn); (a.1 :: b.1, a.2 ++ b.2)
end

/-- The family in which only the operations on lists have a meaning. -/
noncomputable def F0 : Fam := fun k j xs => if k = 0 then bi j xs else 0
theorem BI_F0 : BI F0 := fun j xs => rfl

/-- Two readings of one shape that agree. -/
structure Tr (B : Nat) (F1 F2 : Fam) (ρ1 ρ2 : Nat → Int) (ad1 ad2 : Nat → Hd) (ev1 ev2 : Nat → E) (nv1 nv2 : Nat → Nat) : Prop where
  b1 : BI F1
  b2 : BI F2
  den : ∀ i, (ev1 i).den F1 ρ1 = (ev2 i).den F2 ρ2
  kd : ∀ i, (ev1 i).kind = (ev2 i).kind
  hd : ∀ j, j < B → ad1 (nv1 j) = ad2 (nv2 j)

/-- Two entries of one name that say the same. -/
structure SameE (F1 F2 : Fam) (ρ1 ρ2 : Nat → Int) (ad1 ad2 : Nat → Hd) (nv1 nv2 : Nat → Nat) (a b : Nat × E × Blk) : Prop where
  nm : a.1 = b.1
  gd : a.2.1.tt F1 ρ1 = b.2.1.tt F2 ρ2
  mu : mutB F1 ρ1 ad1 (nv1 a.1) a.2.2 = mutB F2 ρ2 ad2 (nv2 b.1) b.2.2
  ok : ∀ (Im : Nat → Prop) (w : World), BlkOK F1 ρ1 Im ad1 (nv1 a.1) w a.2.2 ↔ BlkOK F2 ρ2 Im ad2 (nv2 b.1) w b.2.2

section
variable {F1 F2 : Fam} {ρ1 ρ2 : Nat → Int} {ad1 ad2 : Nat → Hd} {ev1 ev2 : Nat → E} {nv1 nv2 : Nat → Nat} {B : Nat}

theorem Tr.tt (h : Tr B F1 F2 ρ1 ρ2 ad1 ad2 ev1 ev2 nv1 nv2) (i : Nat) : (ev1 i).tt F1 ρ1 = (ev2 i).tt F2 ρ2 := by unfold E.tt; rw [h.den i]
theorem Tr.val (h : Tr B F1 F2 ρ1 ρ2 ad1 ad2 ev1 ev2 nv1 nv2) (i : Nat) : (ev1 i).val F1 ρ1 = (ev2 i).val F2 ρ2 := by rw [← val_of_kind, ← val_of_kind, h.kd, h.den]
theorem Tr.len (h : Tr B F1 F2 ρ1 ρ2 ad1 ad2 ev1 ev2 nv1 nv2) (i : Nat) : (LEN (ev1 i)).den F1 ρ1 = (LEN (ev2 i)).den F2 ρ2 := by rw [h.b1.len, h.b2.len, h.den]

/-- The two lists of entries say the same, one by one. -/
def SameL (F1 F2 : Fam) (ρ1 ρ2 : Nat → Int) (ad1 ad2 : Nat → Hd) (nv1 nv2 : Nat → Nat) : Ents → Ents → Prop
  | [], [] => True
  | a :: l, b :: r => SameE F1 F2 ρ1 ρ2 ad1 ad2 nv1 nv2 a b ∧ SameL F1 F2 ρ1 ρ2 ad1 ad2 nv1 nv2 l r
  | _, _ => False
theorem SameL.append : ∀ {a b c d : Ents}, SameL F1 F2 ρ1 ρ2 ad1 ad2 nv1 nv2 a b → SameL F1 F2 ρ1 ρ2 ad1 ad2 nv1 nv2 c d → SameL F1 F2 ρ1 ρ2 ad1 ad2 nv1 nv2 (a ++ c) (b ++ d)
  | [], [], c, d, _, h' => h'
  | [], _ :: _, _, _, h, _ => h.elim
  | _ :: _, [], _, _, h, _ => h.elim
  | a :: l, b :: r, c, d, h, h' => ⟨h.1, SameL.append h.2 h'⟩
theorem SameL.mem : ∀ {a b : Ents}, SameL F1 F2 ρ1 ρ2 ad1 ad2 nv1 nv2 a b → ∀ x ∈ a, ∃ y ∈ b, SameE F1 F2 ρ1 ρ2 ad1 ad2 nv1 nv2 x y
  | [], [], _, x, hx => by cases hx
  | [], _ :: _, h, _, _ => h.elim
  | _ :: _, [], h, _, _ => h.elim
  | a :: l, b :: r, h, x, hx => by
    rcases List.mem_cons.1 hx with rfl | hx
    · exact ⟨b, List.mem_cons_self .., h.1⟩
    · obtain ⟨y, h1, h2⟩ := SameL.mem h.2 x hx
      exact ⟨y, List.mem_cons_of_mem _ h1, h2⟩

mutual
theorem gen_tr (h : Tr B F1 F2 ρ1 ρ2 ad1 ad2 ev1 ev2 nv1 nv2) : ∀ (s : Sh) (g1 g2 : E) (vi ni : Nat), g1.kind = .b → g2.kind = .b → g1.tt F1 ρ1 = g2.tt F2 ρ2 → (∀ i k, s.ks[i]? = some k → (ev1 (vi + i)).kind = k) → ni + s.nn ≤ B → (∀ j ∈ s.refs, j < B) →
    (s.gen ev1 nv1 g1 vi ni).1.conc F1 ρ1 ad1 = (s.gen ev2 nv2 g2 vi ni).1.conc F2 ρ2 ad2 ∧ SameL F1 F2 ρ1 ρ2 ad1 ad2 nv1 nv2 (s.gen ev1 nv1 g1 vi ni).2 (s.gen ev2 nv2 g2 vi ni).2
  | .sc k, g1, g2, vi, ni, _, _, _, hk, hb, hr => ⟨h.val vi, trivial⟩
  | .lt k n, g1, g2, vi, ni, _, _, _, hk, hb, hr => ⟨by simp [Sh.gen, SV.conc, E.val, E.kind, E.tt, E.den], trivial⟩
  | .agg l, g1, g2, vi, ni, k1, k2, hg, hk, hb, hr => by
    obtain ⟨i1, i2⟩ := genL_tr h l g1 g2 vi ni k1 k2 hg hk hb hr
    exact ⟨by simp only [Sh.gen, SV.conc, i1], i2⟩
  | .lst ty row own, g1, g2, vi, ni, k1, k2, hg, hk, hb, hr => by
    have hl := h.len vi
    have hd := h.hd ni (by simp only [Sh.nn] at hb; omega)
    refine ⟨by simp only [Sh.gen, SV.conc, hl, hd], ⟨rfl, hg, ?_, fun Im w => ?_⟩, trivial⟩
    · cases own <;> simp only [mutB, hl, hd]
    · simp only [BlkOK, hl, hd, h.den]
  | .obj ty cs, g1, g2, vi, ni, k1, k2, hg, hk, hb, hr => by
    obtain ⟨i1, i2⟩ := genL_tr h cs g1 g2 vi (ni + 1) k1 k2 hg hk (by simp only [Sh.nn] at hb; omega) hr
    have hd := h.hd ni (by simp only [Sh.nn] at hb; omega)
    refine ⟨by simp only [Sh.gen, SV.conc, hd], ⟨rfl, hg, ?_, fun Im w => ?_⟩, i2⟩
    · simp only [mutB, hd]
    · simp only [BlkOK, hd, i1]
  | .ref j, g1, g2, vi, ni, _, _, _, hk, hb, hr => ⟨by simp only [Sh.gen, SV.conc, h.hd j (hr j (by simp [Sh.refs]))], trivial⟩
  | .fnc f cs, g1, g2, vi, ni, k1, k2, hg, hk, hb, hr => by
    obtain ⟨i1, i2⟩ := genL_tr h cs g1 g2 vi ni k1 k2 hg hk hb hr
    exact ⟨by simp only [Sh.gen, SV.conc, i1], i2⟩
  | .nul c, g1, g2, vi, ni, _, _, _, hk, hb, hr => ⟨rfl, trivial⟩
  | .tup l, g1, g2, vi, ni, k1, k2, hg, hk, hb, hr => by
    obtain ⟨i1, i2⟩ := genL_tr h l g1 g2 vi ni k1 k2 hg hk hb hr
    exact ⟨by simp only [Sh.gen, SV.conc, i1], i2⟩
  | .opt s, g1, g2, vi, ni, k1, k2, hg, hk, hb, hr => by
    have a1 := mkAnd_spec g1 (mkNot (ev1 vi)) k1 (mkNot_spec (ev1 vi) F1 ρ1).2 F1 ρ1
    have a2 := mkAnd_spec g2 (mkNot (ev2 vi)) k2 (mkNot_spec (ev2 vi) F2 ρ2).2 F2 ρ2
    obtain ⟨i1, i2⟩ := gen_tr h s (mkAnd g1 (mkNot (ev1 vi))) (mkAnd g2 (mkNot (ev2 vi))) (vi + 1) ni a1.2 a2.2 (by rw [a1.1, a2.1, (mkNot_spec (ev1 vi) F1 ρ1).1, (mkNot_spec (ev2 vi) F2 ρ2).1, hg, h.tt]) (fun i k hi => by
      have := hk (i + 1) k (by simpa [Sh.ks] using hi)
      rwa [show vi + (i + 1) = vi + 1 + i by omega] at this) hb hr
    refine ⟨?_, i2⟩
    simp only [Sh.gen, SV.conc, h.tt, i1]
  | .und, g1, g2, vi, ni, _, _, _, hk, hb, hr => ⟨rfl, trivial⟩
  | .mp ks vs kag vag, g1, g2, vi, ni, k1, k2, hg, hk, hb, hr => by
    have hd := h.hd ni (by simp only [Sh.nn] at hb; omega)
    refine ⟨by simp only [Sh.gen, SV.conc, hd], ⟨rfl, hg, ?_, fun Im w => ?_⟩, trivial⟩
    · simp only [mutB, hd]
    · simp only [BlkOK, hd, h.den]
  | .seg ty ks cs, g1, g2, vi, ni, k1, k2, hg, hk, hb, hr => by
    obtain ⟨i1, i2⟩ := genL_tr h cs g1 g2 (vi + 1) (ni + 1) k1 k2 hg (fun i k hi => by
      have := hk (i + 1) k (by simpa [Sh.ks] using hi)
      rwa [show vi + (i + 1) = vi + 1 + i by omega] at this) (by simp only [Sh.nn] at hb; omega) hr
    have hd := h.hd ni (by simp only [Sh.nn] at hb; omega)
    refine ⟨by simp only [Sh.gen, SV.conc, hd], ⟨rfl, hg, ?_, fun Im w => ?_⟩, i2⟩
    · simp only [mutB, hd]
    · simp only [BlkOK, hd, i1, h.den]
theorem genL_tr (h : Tr B F1 F2 ρ1 ρ2 ad1 ad2 ev1 ev2 nv1 nv2) : ∀ (l : List Sh) (g1 g2 : E) (vi ni : Nat), g1.kind = .b → g2.kind = .b → g1.tt F1 ρ1 = g2.tt F2 ρ2 → (∀ i k, (Sh.ksL l)[i]? = some k → (ev1 (vi + i)).kind = k) → ni + Sh.nnL l ≤ B → (∀ j ∈ Sh.refsL l, j < B) →
    SV.concL F1 ρ1 ad1 (Sh.genL ev1 nv1 l g1 vi ni).1 = SV.concL F2 ρ2 ad2 (Sh.genL ev2 nv2 l g2 vi ni).1 ∧ SameL F1 F2 ρ1 ρ2 ad1 ad2 nv1 nv2 (Sh.genL ev1 nv1 l g1 vi ni).2 (Sh.genL ev2 nv2 l g2 vi ni).2
  | [], g1, g2, vi, ni, _, _, _, _, _, _ => ⟨rfl, trivial⟩
  | s :: r, g1, g2, vi, ni, k1, k2, hg, hk, hb, hr => by
    obtain ⟨i1, i2⟩ := gen_tr h s g1 g2 vi ni k1 k2 hg (fun i k hi => hk i k (by simp only [Sh.ksL]; rw [List.getElem?_append_left (List.getElem?_eq_some_iff.1 hi).1]; exact hi)) (by simp only [Sh.nnL] at hb; omega) fun j hj => hr j (by simp only [Sh.refsL]; exact List.mem_append_left _ hj)
    obtain ⟨j1, j2⟩ := genL_tr h r g1 g2 (vi + s.ks.length) (ni + s.nn) k1 k2 hg (fun i k hi => by
      have := hk (s.ks.length + i) k (by simp only [Sh.ksL]; rw [List.getElem?_append_right (by omega)]; simpa using hi)
      rwa [← Nat.add_assoc] at this) (by simp only [Sh.nnL] at hb; omega) fun j hj => hr j (by simp only [Sh.refsL]; exact List.mem_append_right _ hj)
    exact ⟨by simp only [Sh.genL, SV.concL, i1, j1], i2.append j2⟩
end

/-! ### names that a generic value speaks of -/
mutual
theorem gen_ok {ev : Nat → E} {nv : Nat → Nat} {p : Nat → Prop} : ∀ (s : Sh) (g : E) (vi ni : Nat), (∀ j, ni ≤ j → j < ni + s.nn → p (nv j)) → (∀ j ∈ s.refs, p (nv j)) →
    (s.gen ev nv g vi ni).1.ok p ∧ ∀ x ∈ (s.gen ev nv g vi ni).2, (ni ≤ x.1 ∧ x.1 < ni + s.nn) ∧ SV.okL p x.2.2.cs
  | .sc k, g, vi, ni, hp, hr => ⟨trivial, fun x hx => by cases hx⟩
  | .lt k n, g, vi, ni, hp, hr => ⟨trivial, fun x hx => by cases hx⟩
  | .agg l, g, vi, ni, hp, hr => genL_ok l g vi ni hp hr
  | .lst ty row own, g, vi, ni, hp, hr => ⟨hp _ (Nat.le_refl _) (by simp [Sh.nn]), fun x hx => by simp only [Sh.gen, List.mem_singleton] at hx; subst hx; exact ⟨⟨Nat.le_refl _, by simp [Sh.nn]⟩, trivial⟩⟩
  | .obj ty cs, g, vi, ni, hp, hr => by
    obtain ⟨i1, i2⟩ := genL_ok (ev := ev) (nv := nv) cs g vi (ni + 1) (fun j h1 h2 => hp j (by omega) (by simp only [Sh.nn]; omega)) hr
    refine ⟨hp _ (Nat.le_refl _) (by simp [Sh.nn]), fun x hx => ?_⟩
    simp only [Sh.gen, List.mem_cons] at hx
    rcases hx with rfl | hx
    · exact ⟨⟨Nat.le_refl _, by simp [Sh.nn]⟩, i1⟩
    · obtain ⟨⟨r1, r2⟩, r3⟩ := i2 x hx
      exact ⟨⟨by omega, by simp only [Sh.nn]; omega⟩, r3⟩
  | .ref j, g, vi, ni, hp, hr => ⟨hr j (by simp [Sh.refs]), fun x hx => by cases hx⟩
  | .fnc f cs, g, vi, ni, hp, hr => genL_ok cs g vi ni hp hr
  | .nul c, g, vi, ni, hp, hr => ⟨trivial, fun x hx => by cases hx⟩
  | .tup l, g, vi, ni, hp, hr => genL_ok l g vi ni hp hr
  | .opt s, g, vi, ni, hp, hr => by
    obtain ⟨i1, i2⟩ := gen_ok (ev := ev) (nv := nv) s (mkAnd g (mkNot (ev vi))) (vi + 1) ni hp hr
    exact ⟨⟨trivial, i1⟩, i2⟩
  | .und, g, vi, ni, hp, hr => ⟨trivial, fun x hx => by cases hx⟩
  | .mp ks vs kag vag, g, vi, ni, hp, hr => ⟨hp _ (Nat.le_refl _) (by simp [Sh.nn]), fun x hx => by simp only [Sh.gen, List.mem_singleton] at hx; subst hx; exact ⟨⟨Nat.le_refl _, by simp [Sh.nn]⟩, trivial⟩⟩
  | .seg ty ks cs, g, vi, ni, hp, hr => by
    obtain ⟨i1, i2⟩ := genL_ok (ev := ev) (nv := nv) cs g (vi + 1) (ni + 1) (fun j h1 h2 => hp j (by omega) (by simp only [Sh.nn]; omega)) hr
    refine ⟨hp _ (Nat.le_refl _) (by simp [Sh.nn]), fun x hx => ?_⟩
    simp only [Sh.gen, List.mem_cons] at hx
    rcases hx with rfl | hx
    · exact ⟨⟨Nat.le_refl _, by simp [Sh.nn]⟩, i1⟩
    · obtain ⟨⟨r1, r2⟩, r3⟩ := i2 x hx
      exact ⟨⟨by omega, by simp only [Sh.nn]; omega⟩, r3⟩
theorem genL_ok {ev : Nat → E} {nv : Nat → Nat} {p : Nat → Prop} : ∀ (l : List Sh) (g : E) (vi ni : Nat), (∀ j, ni ≤ j → j < ni + Sh.nnL l → p (nv j)) → (∀ j ∈ Sh.refsL l, p (nv j)) →
    SV.okL p (Sh.genL ev nv l g vi ni).1 ∧ ∀ x ∈ (Sh.genL ev nv l g vi ni).2, (ni ≤ x.1 ∧ x.1 < ni + Sh.nnL l) ∧ SV.okL p x.2.2.cs
  | [], g, vi, ni, hp, hr => ⟨trivial, fun x hx => by cases hx⟩
  | s :: r, g, vi, ni, hp, hr => by
    obtain ⟨i1, i2⟩ := gen_ok (ev := ev) (nv := nv) s g vi ni (fun j h1 h2 => hp j h1 (by simp only [Sh.nnL]; omega)) fun j hj => hr j (by simp only [Sh.refsL]; exact List.mem_append_left _ hj)
    obtain ⟨j1, j2⟩ := genL_ok (ev := ev) (nv := nv) r g (vi + s.ks.length) (ni + s.nn) (fun j h1 h2 => hp j (by omega) (by simp only [Sh.nnL]; omega)) fun j hj => hr j (by simp only [Sh.refsL]; exact List.mem_append_right _ hj)
    refine ⟨⟨i1, j1⟩, fun x hx => ?_⟩
    simp only [Sh.genL, List.mem_append] at hx
    rcases hx with hx | hx
    · obtain ⟨⟨r1, r2⟩, r3⟩ := i2 x hx
      exact ⟨⟨r1, by simp only [Sh.nnL]; omega⟩, r3⟩
    · obtain ⟨⟨r1, r2⟩, r3⟩ := j2 x hx
      exact ⟨⟨by omega, by simp only [Sh.nnL]; omega⟩, r3⟩
end
/- Each name of a generic value has its entry. -/
mutual
theorem gen_has {ev : Nat → E} {nv : Nat → Nat} : ∀ (s : Sh) (g : E) (vi ni j : Nat), ni ≤ j → j < ni + s.nn → ∃ x ∈ (s.gen ev nv g vi ni).2, x.1 = j
  | .sc _, g, vi, ni, j, h1, h2 => by simp only [Sh.nn] at h2; omega
  | .lt _ _, g, vi, ni, j, h1, h2 => by simp only [Sh.nn] at h2; omega
  | .agg l, g, vi, ni, j, h1, h2 => genL_has l g vi ni j h1 h2
  | .lst ty row own, g, vi, ni, j, h1, h2 => by simp only [Sh.nn] at h2; exact ⟨_, List.mem_singleton.2 rfl, by show ni = j; omega⟩
  | .obj ty cs, g, vi, ni, j, h1, h2 => by
    by_cases hj : j = ni
    · exact ⟨_, List.mem_cons_self .., hj.symm⟩
    · obtain ⟨x, x1, x2⟩ := genL_has (ev := ev) (nv := nv) cs g vi (ni + 1) j (by omega) (by simp only [Sh.nn] at h2; omega)
      exact ⟨x, List.mem_cons_of_mem _ x1, x2⟩
  | .ref _, g, vi, ni, j, h1, h2 => by simp only [Sh.nn] at h2; omega
  | .fnc f cs, g, vi, ni, j, h1, h2 => genL_has cs g vi ni j h1 h2
  | .nul c, g, vi, ni, j, h1, h2 => by simp only [Sh.nn] at h2; omega
  | .tup l, g, vi, ni, j, h1, h2 => genL_has l g vi ni j h1 h2
  | .opt s, g, vi, ni, j, h1, h2 => gen_has s (mkAnd g (mkNot (ev vi))) (vi + 1) ni j h1 h2
  | .und, g, vi, ni, j, h1, h2 => by simp only [Sh.nn] at h2; omega
  | .mp ks vs kag vag, g, vi, ni, j, h1, h2 => by simp only [Sh.nn] at h2; exact ⟨_, List.mem_singleton.2 rfl, by show ni = j; omega⟩
  | .seg ty ks cs, g, vi, ni, j, h1, h2 => by
    by_cases hj : j = ni
    · exact ⟨_, List.mem_cons_self .., hj.symm⟩
    · obtain ⟨x, x1, x2⟩ := genL_has (ev := ev) (nv := nv) cs g (vi + 1) (ni + 1) j (by omega) (by simp only [Sh.nn] at h2; omega)
      exact ⟨x, List.mem_cons_of_mem _ x1, x2⟩
theorem genL_has {ev : Nat → E} {nv : Nat → Nat} : ∀ (l : List Sh) (g : E) (vi ni j : Nat), ni ≤ j → j < ni + Sh.nnL l → ∃ x ∈ (Sh.genL ev nv l g vi ni).2, x.1 = j
  | [], g, vi, ni, j, h1, h2 => by simp only [Sh.nnL] at h2; omega
  | s :: r, g, vi, ni, j, h1, h2 => by
    by_cases hj : j < ni + s.nn
    · obtain ⟨x, x1, x2⟩ := gen_has (ev := ev) (nv := nv) s g vi ni j h1 hj
      exact ⟨x, List.mem_append_left _ x1, x2⟩
    · obtain ⟨x, x1, x2⟩ := genL_has (ev := ev) (nv := nv) r g (vi + s.ks.length) (ni + s.nn) j (by omega) (by simp only [Sh.nnL] at h2; omega)
      exact ⟨x, List.mem_append_right _ x1, x2⟩
end
end
end Go.Proofs.Ytmolkkphnehgcaa.Ew

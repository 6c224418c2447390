/- Shapes of values: what a function takes and gives, with the memory that hangs on it; the generic value of a shape, and the same shape at other places. -/
import Derived.Test.YtbolcnlenmphhaaDoorWO
set_option linter.unusedVariables false
set_option linter.unusedSimpArgs false
namespace Go.Proofs.YtbolcnlenmphhaaDoor.Ew
open Go Go.RowKit

inductive Sh where
  | sc (k : K)
  | lt (k : K) (n : Int)
  | agg (cs : List Sh)
  | lst (ty : Nat) (row : Row) (own : Bool)
  | obj (ty : Nat) (cs : List Sh)
  | ref (j : Nat)
  | fnc (f : Nat) (cs : List Sh)
  | nul (c : CV)
  | tup (cs : List Sh)
  | opt (sh : Sh)
  | und
  deriving Repr, Inhabited

/- The kinds of a shape's numbers. -/
mutual
def Sh.ks : Sh → List K
  | .sc k => [k]
  | .agg l | .obj _ l | .fnc _ l | .tup l => Sh.ksL l
  | .lst .. => [.x]
  | .opt s => .b :: s.ks
  | _ => []
def Sh.ksL : List Sh → List K
  | [] => []
  | s :: r => s.ks ++ Sh.ksL r
end
/- How many names it takes. -/
mutual
def Sh.nn : Sh → Nat
  | .agg l | .fnc _ l | .tup l => Sh.nnL l
  | .obj _ l => Sh.nnL l + 1
  | .lst .. => 1
  | .opt s => s.nn
  | _ => 0
def Sh.nnL : List Sh → Nat
  | [] => 0
  | s :: r => s.nn + Sh.nnL r
end

/- The names that it refers to. -/
mutual
def Sh.refs : Sh → List Nat
  | .agg l | .obj _ l | .fnc _ l | .tup l => Sh.refsL l
  | .ref j => [j]
  | .opt s => s.refs
  | _ => []
def Sh.refsL : List Sh → List Nat
  | [] => []
  | s :: r => s.refs ++ Sh.refsL r
end

abbrev Ents := List (Nat × E × Blk)
/- The value of a shape whose numbers are ev vi, .. and whose names are nv ni, ..; and what these names stand for, under the condition gd. -/
mutual
def Sh.gen (ev : Nat → E) (nv : Nat → Nat) : Sh → E → Nat → Nat → SV × Ents
  | .sc _, _, vi, _ => (.sc (ev vi), [])
  | .lt k n, _, _, _ => (.sc (.lit k n), [])
  | .agg l, g, vi, ni => let r := Sh.genL ev nv l g vi ni; (.agg r.1, r.2)
  | .lst ty row own, g, vi, ni => (.ls (nv ni) (LEN (ev vi)), [(ni, g, .lst ty row own (LEN (ev vi)) (ev vi))])
  | .obj ty cs, g, vi, ni => let r := Sh.genL ev nv cs g vi (ni + 1); (.ptr (nv ni) 0, (ni, g, .cells ty r.1) :: r.2)
  | .ref j, _, _, _ => (.ptr (nv j) 0, [])
  | .fnc f cs, g, vi, ni => let r := Sh.genL ev nv cs g vi ni; (.fn f r.1, r.2)
  | .nul c, _, _, _ => (.nilp c, [])
  | .tup l, g, vi, ni => let r := Sh.genL ev nv l g vi ni; (.tup r.1, r.2)
  | .opt s, g, vi, ni => let r := s.gen ev nv (mkAnd g (mkNot (ev vi))) (vi + 1) ni; (.ite (ev vi) (.nilp .nP) r.1, r.2)
  | .und, _, _, _ => (.und, [])
def Sh.genL (ev : Nat → E) (nv : Nat → Nat) : List Sh → E → Nat → Nat → List SV × Ents
  | [], _, _, _ => ([], [])
  | s :: r, g, vi, ni => let a := s.gen ev nv g vi ni; let b := Sh.genL ev nv r g (vi + s.ks.length) (ni + s.nn); (a.1 :: b.1, a.2 ++ b.2)
end

/-- The family in which only the operations on lists have a meaning. -/
noncomputable def F0 : Fam := fun k j xs => if k = 0 then bi j xs else 0
theorem BI_F0 : BI F0 := fun j xs => rfl

/-- Two readings of one shape that agree. -/
structure Tr (B : Nat) (F1 F2 : Fam) (ρ1 ρ2 : Nat → Int) (ad1 ad2 : Nat → Hd) (ev1 ev2 : Nat → E) (nv1 nv2 : Nat → Nat) : Prop where
  b1 : BI F1
  b2 : BI F2
  den : ∀ i, (ev1 i).den F1 ρ1 = (ev2 i).den F2 ρ2
  kd : ∀ i, (ev1 i).kind = (ev2 i).kind
  hd : ∀ j, j < B → ad1 (nv1 j) = ad2 (nv2 j)

/-- Two entries of one name that say the same. -/
structure SameE (F1 F2 : Fam) (ρ1 ρ2 : Nat → Int) (ad1 ad2 : Nat → Hd) (nv1 nv2 : Nat → Nat) (a b : Nat × E × Blk) : Prop where
  nm : a.1 = b.1
  gd : a.2.1.tt F1 ρ1 = b.2.1.tt F2 ρ2
  mu : mutB F1 ρ1 ad1 (nv1 a.1) a.2.2 = mutB F2 ρ2 ad2 (nv2 b.1) b.2.2
  ok : ∀ (Im : Nat → Prop) (w : World), BlkOK F1 ρ1 Im ad1 (nv1 a.1) w a.2.2 ↔ BlkOK F2 ρ2 Im ad2 (nv2 b.1) w b.2.2

section
variable {F1 F2 : Fam} {ρ1 ρ2 : Nat → Int} {ad1 ad2 : Nat → Hd} {ev1 ev2 : Nat → E} {nv1 nv2 : Nat → Nat} {B : Nat}

theorem Tr.tt (h : Tr B F1 F2 ρ1 ρ2 ad1 ad2 ev1 ev2 nv1 nv2) (i : Nat) : (ev1 i).tt F1 ρ1 = (ev2 i).tt F2 ρ2 := by unfold E.tt; rw [h.den i]
theorem Tr.val (h : Tr B F1 F2 ρ1 ρ2 ad1 ad2 ev1 ev2 nv1 nv2) (i : Nat) : (ev1 i).val F1 ρ1 = (ev2 i).val F2 ρ2 := by rw [← val_of_kind, ← val_of_kind, h.kd, h.den]
theorem Tr.len (h : Tr B F1 F2 ρ1 ρ2 ad1 ad2 ev1 ev2 nv1 nv2) (i : Nat) : (LEN (ev1 i)).den F1 ρ1 = (LEN (ev2 i)).den F2 ρ2 := by rw [h.b1.len, h.b2.len, h.den]

/-- The two lists of entries say the same, one by one. -/
def SameL (F1 F2 : Fam) (ρ1 ρ2 : Nat → Int) (ad1 ad2 : Nat → Hd) (nv1 nv2 : Nat → Nat) : Ents → Ents → Prop
  | [], [] => True
  | a :: l, b :: r => SameE F1 F2 ρ1 ρ2 ad1 ad2 nv1 nv2 a b ∧ SameL F1 F2 ρ1 ρ2 ad1 ad2 nv1 nv2 l r
  | _, _ => False
theorem SameL.append : ∀ {a b c d : Ents}, SameL F1 F2 ρ1 ρ2 ad1 ad2 nv1 nv2 a b → SameL F1 F2 ρ1 ρ2 ad1 ad2 nv1 nv2 c d → SameL F1 F2 ρ1 ρ2 ad1 ad2 nv1 nv2 (a ++ c) (b ++ d)
  | [], [], c, d, _, h' => h'
  | [], _ :: _, _, _, h, _ => h.elim
  | _ :: _, [], _, _, h, _ => h.elim
  | a :: l, b :: r, c, d, h, h' => ⟨h.1, SameL.append h.2 h'⟩
theorem SameL.mem : ∀ {a b : Ents}, SameL F1 F2 ρ1 ρ2 ad1 ad2 nv1 nv2 a b → ∀ x ∈ a, ∃ y ∈ b, SameE F1 F2 ρ1 ρ2 ad1 ad2 nv1 nv2 x y
  | [], [], _, x, hx => by cases hx
  | [], _ :: _, h, _, _ => h.elim
  | _ :: _, [], h, _, _ => h.elim
  | a :: l, b :: r, h, x, hx => by
    rcases List.mem_cons.1 hx with rfl | hx
    · exact ⟨b, List.mem_cons_self .., h.1⟩
    · obtain ⟨y, h1, h2⟩ := SameL.mem h.2 x hx
      exact ⟨y, List.mem_cons_of_mem _ h1, h2⟩

mutual
theorem gen_tr (h : Tr B F1 F2 ρ1 ρ2 ad1 ad2 ev1 ev2 nv1 nv2) : ∀ (s : Sh) (g1 g2 : E) (vi ni : Nat), g1.kind = .b → g2.kind = .b → g1.tt F1 ρ1 = g2.tt F2 ρ2 → (∀ i k, s.ks[i]? = some k → (ev1 (vi + i)).kind = k) → ni + s.nn ≤ B → (∀ j ∈ s.refs, j < B) →
    (s.gen ev1 nv1 g1 vi ni).1.conc F1 ρ1 ad1 = (s.gen ev2 nv2 g2 vi ni).1.conc F2 ρ2 ad2 ∧ SameL F1 F2 ρ1 ρ2 ad1 ad2 nv1 nv2 (s.gen ev1 nv1 g1 vi ni).2 (s.gen ev2 nv2 g2 vi ni).2
  | .sc k, g1, g2, vi, ni, _, _, _, hk, hb, hr => ⟨h.val vi, trivial⟩
  | .lt k n, g1, g2, vi, ni, _, _, _, hk, hb, hr => ⟨by simp [Sh.gen, SV.conc, E.val, E.kind, E.tt, E.den], trivial⟩
  | .agg l, g1, g2, vi, ni, k1, k2, hg, hk, hb, hr => by
    obtain ⟨i1, i2⟩ := genL_tr h l g1 g2 vi ni k1 k2 hg hk hb hr
    exact ⟨by simp only [Sh.gen, SV.conc, i1], i2⟩
  | .lst ty row own, g1, g2, vi, ni, k1, k2, hg, hk, hb, hr => by
    have hl := h.len vi
    have hd := h.hd ni (by simp only [Sh.nn] at hb; omega)
    refine ⟨by simp only [Sh.gen, SV.conc, hl, hd], ⟨rfl, hg, ?_, fun Im w => ?_⟩, trivial⟩
    · cases own <;> simp only [mutB, hl, hd]
    · simp only [BlkOK, hl, hd, h.den]
  | .obj ty cs, g1, g2, vi, ni, k1, k2, hg, hk, hb, hr => by
    obtain ⟨i1, i2⟩ := genL_tr h cs g1 g2 vi (ni + 1) k1 k2 hg hk (by simp only [Sh.nn] at hb; omega) hr
    have hd := h.hd ni (by simp only [Sh.nn] at hb; omega)
    refine ⟨by simp only [Sh.gen, SV.conc, hd], ⟨rfl, hg, ?_, fun Im w => ?_⟩, i2⟩
    · simp only [mutB, hd]
    · simp only [BlkOK, hd, i1]
  | .ref j, g1, g2, vi, ni, _, _, _, hk, hb, hr => ⟨by simp only [Sh.gen, SV.conc, h.hd j (hr j (by simp [Sh.refs]))], trivial⟩
  | .fnc f cs, g1, g2, vi, ni, k1, k2, hg, hk, hb, hr => by
    obtain ⟨i1, i2⟩ := genL_tr h cs g1 g2 vi ni k1 k2 hg hk hb hr
    exact ⟨by simp only [Sh.gen, SV.conc, i1], i2⟩
  | .nul c, g1, g2, vi, ni, _, _, _, hk, hb, hr => ⟨rfl, trivial⟩
  | .tup l, g1, g2, vi, ni, k1, k2, hg, hk, hb, hr => by
    obtain ⟨i1, i2⟩ := genL_tr h l g1 g2 vi ni k1 k2 hg hk hb hr
    exact ⟨by simp only [Sh.gen, SV.conc, i1], i2⟩
  | .opt s, g1, g2, vi, ni, k1, k2, hg, hk, hb, hr => by
    have a1 := mkAnd_spec g1 (mkNot (ev1 vi)) k1 (mkNot_spec (ev1 vi) F1 ρ1).2 F1 ρ1
    have a2 := mkAnd_spec g2 (mkNot (ev2 vi)) k2 (mkNot_spec (ev2 vi) F2 ρ2).2 F2 ρ2
    obtain ⟨i1, i2⟩ := gen_tr h s (mkAnd g1 (mkNot (ev1 vi))) (mkAnd g2 (mkNot (ev2 vi))) (vi + 1) ni a1.2 a2.2 (by rw [a1.1, a2.1, (mkNot_spec (ev1 vi) F1 ρ1).1, (mkNot_spec (ev2 vi) F2 ρ2).1, hg, h.tt]) (fun i k hi => by
      have := hk (i + 1) k (by simpa [Sh.ks] using hi)
      rwa [show vi + (i + 1) = vi + 1 + i by omega] at this) hb hr
    refine ⟨?_, i2⟩
    simp only [Sh.gen, SV.conc, h.tt, i1]
  | .und, g1, g2, vi, ni, _, _, _, hk, hb, hr => ⟨rfl, trivial⟩
theorem genL_tr (h : Tr B F1 F2 ρ1 ρ2 ad1 ad2 ev1 ev2 nv1 nv2) : ∀ (l : List Sh) (g1 g2 : E) (vi ni : Nat), g1.kind = .b → g2.kind = .b → g1.tt F1 ρ1 = g2.tt F2 ρ2 → (∀ i k, (Sh.ksL l)[i]? = some k → (ev1 (vi + i)).kind = k) → ni + Sh.nnL l ≤ B → (∀ j ∈ Sh.refsL l, j < B) →
    SV.concL F1 ρ1 ad1 (Sh.genL ev1 nv1 l g1 vi ni).1 = SV.concL F2 ρ2 ad2 (Sh.genL ev2 nv2 l g2 vi ni).1 ∧ SameL F1 F2 ρ1 ρ2 ad1 ad2 nv1 nv2 (Sh.genL ev1 nv1 l g1 vi ni).2 (Sh.genL ev2 nv2 l g2 vi ni).2
  | [], g1, g2, vi, ni, _, _, _, _, _, _ => ⟨rfl, trivial⟩
  | s :: r, g1, g2, vi, ni, k1, k2, hg, hk, hb, hr => by
    obtain ⟨i1, i2⟩ := gen_tr h s g1 g2 vi ni k1 k2 hg (fun i k hi => hk i k (by simp only [Sh.ksL]; rw [List.getElem?_append_left (List.getElem?_eq_some_iff.1 hi).1]; exact hi)) (by simp only [Sh.nnL] at hb; omega) fun j hj => hr j (by simp only [Sh.refsL]; exact List.mem_append_left _ hj)
    obtain ⟨j1, j2⟩ := genL_tr h r g1 g2 (vi + s.ks.length) (ni + s.nn) k1 k2 hg (fun i k hi => by
      have := hk (s.ks.length + i) k (by simp only [Sh.ksL]; rw [List.getElem?_append_right (by omega)]; simpa using hi)
      rwa [← Nat.add_assoc] at this) (by simp only [Sh.nnL] at hb; omega) fun j hj => hr j (by simp only [Sh.refsL]; exact List.mem_append_right _ hj)
    exact ⟨by simp only [Sh.genL, SV.concL, i1, j1], i2.append j2⟩
end

/-! ### names that a generic value speaks of -/
mutual
theorem gen_ok {ev : Nat → E} {nv : Nat → Nat} {p : Nat → Prop} : ∀ (s : Sh) (g : E) (vi ni : Nat), (∀ j, ni ≤ j → j < ni + s.nn → p (nv j)) → (∀ j ∈ s.refs, p (nv j)) →
    (s.gen ev nv g vi ni).1.ok p ∧ ∀ x ∈ (s.gen ev nv g vi ni).2, (ni ≤ x.1 ∧ x.1 < ni + s.nn) ∧ ∀ ty cs, x.2.2 = .cells ty cs → SV.okL p cs
  | .sc k, g, vi, ni, hp, hr => ⟨trivial, fun x hx => by cases hx⟩
  | .lt k n, g, vi, ni, hp, hr => ⟨trivial, fun x hx => by cases hx⟩
  | .agg l, g, vi, ni, hp, hr => genL_ok l g vi ni hp hr
  | .lst ty row own, g, vi, ni, hp, hr => ⟨hp _ (Nat.le_refl _) (by simp [Sh.nn]), fun x hx => by simp only [Sh.gen, List.mem_singleton] at hx; subst hx; exact ⟨⟨Nat.le_refl _, by simp [Sh.nn]⟩, fun ty cs e => by cases e⟩⟩
  | .obj ty cs, g, vi, ni, hp, hr => by
    obtain ⟨i1, i2⟩ := genL_ok (ev := ev) (nv := nv) cs g vi (ni + 1) (fun j h1 h2 => hp j (by omega) (by simp only [Sh.nn]; omega)) hr
    refine ⟨hp _ (Nat.le_refl _) (by simp [Sh.nn]), fun x hx => ?_⟩
    simp only [Sh.gen, List.mem_cons] at hx
    rcases hx with rfl | hx
    · refine ⟨⟨Nat.le_refl _, by simp [Sh.nn]⟩, fun ty' cs' e => ?_⟩
      simp only [Blk.cells.injEq] at e
      rw [← e.2]; exact i1
    · obtain ⟨⟨r1, r2⟩, r3⟩ := i2 x hx
      exact ⟨⟨by omega, by simp only [Sh.nn]; omega⟩, r3⟩
  | .ref j, g, vi, ni, hp, hr => ⟨hr j (by simp [Sh.refs]), fun x hx => by cases hx⟩
  | .fnc f cs, g, vi, ni, hp, hr => genL_ok cs g vi ni hp hr
  | .nul c, g, vi, ni, hp, hr => ⟨trivial, fun x hx => by cases hx⟩
  | .tup l, g, vi, ni, hp, hr => genL_ok l g vi ni hp hr
  | .opt s, g, vi, ni, hp, hr => by
    obtain ⟨i1, i2⟩ := gen_ok (ev := ev) (nv := nv) s (mkAnd g (mkNot (ev vi))) (vi + 1) ni hp hr
    exact ⟨⟨trivial, i1⟩, i2⟩
  | .und, g, vi, ni, hp, hr => ⟨trivial, fun x hx => by cases hx⟩
theorem genL_ok {ev : Nat → E} {nv : Nat → Nat} {p : Nat → Prop} : ∀ (l : List Sh) (g : E) (vi ni : Nat), (∀ j, ni ≤ j → j < ni + Sh.nnL l → p (nv j)) → (∀ j ∈ Sh.refsL l, p (nv j)) →
    SV.okL p (Sh.genL ev nv l g vi ni).1 ∧ ∀ x ∈ (Sh.genL ev nv l g vi ni).2, (ni ≤ x.1 ∧ x.1 < ni + Sh.nnL l) ∧ ∀ ty cs, x.2.2 = .cells ty cs → SV.okL p cs
  | [], g, vi, ni, hp, hr => ⟨trivial, fun x hx => by cases hx⟩
  | s :: r, g, vi, ni, hp, hr => by
    obtain ⟨i1, i2⟩ := gen_ok (ev := ev) (nv := nv) s g vi ni (fun j h1 h2 => hp j h1 (by simp only [Sh.nnL]; omega)) fun j hj => hr j (by simp only [Sh.refsL]; exact List.mem_append_left _ hj)
    obtain ⟨j1, j2⟩ := genL_ok (ev := ev) (nv := nv) r g (vi + s.ks.length) (ni + s.nn) (fun j h1 h2 => hp j (by omega) (by simp only [Sh.nnL]; omega)) fun j hj => hr j (by simp only [Sh.refsL]; exact List.mem_append_right _ hj)
    refine ⟨⟨i1, j1⟩, fun x hx => ?_⟩
    simp only [Sh.genL, List.mem_append] at hx
    rcases hx with hx | hx
    · obtain ⟨⟨r1, r2⟩, r3⟩ := i2 x hx
      exact ⟨⟨r1, by simp only [Sh.nnL]; omega⟩, r3⟩
    · obtain ⟨⟨r1, r2⟩, r3⟩ := j2 x hx
      exact ⟨⟨by omega, by simp only [Sh.nnL]; omega⟩, r3⟩
end
/- Each name of a generic value has its entry. -/
mutual
theorem gen_has {ev : Nat → E} {nv : Nat → Nat} : ∀ (s : Sh) (g : E) (vi ni j : Nat), ni ≤ j → j < ni + s.nn → ∃ x ∈ (s.gen ev nv g vi ni).2, x.1 = j
  | .sc _, g, vi, ni, j, h1, h2 => by simp only [Sh.nn] at h2; omega
  | .lt _ _, g, vi, ni, j, h1, h2 => by simp only [Sh.nn] at h2; omega
  | .agg l, g, vi, ni, j, h1, h2 => genL_has l g vi ni j h1 h2
  | .lst ty row own, g, vi, ni, j, h1, h2 => by simp only [Sh.nn] at h2; exact ⟨_, List.mem_singleton.2 rfl, by show ni = j; omega⟩
  | .obj ty cs, g, vi, ni, j, h1, h2 => by
    by_cases hj : j = ni
    · exact ⟨_, List.mem_cons_self .., hj.symm⟩
    · obtain ⟨x, x1, x2⟩ := genL_has (ev := ev) (nv := nv) cs g vi (ni + 1) j (by omega) (by simp only [Sh.nn] at h2; omega)
      exact ⟨x, List.mem_cons_of_mem _ x1, x2⟩
  | .ref _, g, vi, ni, j, h1, h2 => by simp only [Sh.nn] at h2; omega
  | .fnc f cs, g, vi, ni, j, h1, h2 => genL_has cs g vi ni j h1 h2
  | .nul c, g, vi, ni, j, h1, h2 => by simp only [Sh.nn] at h2; omega
  | .tup l, g, vi, ni, j, h1, h2 => genL_has l g vi ni j h1 h2
  | .opt s, g, vi, ni, j, h1, h2 => gen_has s (mkAnd g (mkNot (ev vi))) (vi + 1) ni j h1 h2
  | .und, g, vi, ni, j, h1, h2 => by simp only [Sh.nn] at h2; omega
theorem genL_has {ev : Nat → E} {nv : Nat → Nat} : ∀ (l : List Sh) (g : E) (vi ni j : Nat), ni ≤ j → j < ni + Sh.nnL l → ∃ x ∈ (Sh.genL ev nv l g vi ni).2, x.1 = j
  | [], g, vi, ni, j, h1, h2 => by simp only [Sh.nnL] at h2; omega
  | s :: r, g, vi, ni, j, h1, h2 => by
    by_cases hj : j < ni + s.nn
    · obtain ⟨x, x1, x2⟩ := gen_has (ev := ev) (nv := nv) s g vi ni j h1 hj
      exact ⟨x, List.mem_append_left _ x1, x2⟩
    · obtain ⟨x, x1, x2⟩ := genL_has (ev := ev) (nv := nv) r g (vi + s.ks.length) (ni + s.nn) j (by omega) (by simp only [Sh.nnL] at h2; omega)
      exact ⟨x, List.mem_append_right _ x1, x2⟩
end
end
end Go.Proofs.YtbolcnlenmphhaaDoor.Ew

/- Whether values and memory have a shape; that what has a shape reads as the shape's generic value. -/
set_option linter.unusedVariables false
set_option linter.unusedSimpArgs false
namespace Go.Proofs.YtbolcnlenmphhaaDoor.Ew
open Go Go.RowKit

/-- Where a name of a shape comes from. -/
inductive Src where
  | nm (n : Nat)
  | vw (ty : Nat) (row : Row) (v : SV) (V : LV)
  | dm
  deriving Repr, Inhabited
def Src.ns : Src → List Nat
  | .nm n => [n]
  | .vw _ _ _ V => V.ns
  | .dm => []
def isNm (l : List Src) (j n : Nat) : Bool :=
  match l[j]? with
  | some (.nm k) => k == n
  | _ => false

/-- A pointer that may be nil: when, and what it is otherwise. -/
def optV : SV → Option (E × Option SV)
  | .nilp .nP => some (mkB true, none)
  | .ite c (.nilp .nP) v => some (c, some v)
  | .ite c v (.nilp .nP) => some (mkNot c, some v)
  | .ptr n o => some (mkB false, some (.ptr n o))
  | _ => none
theorem optV_spec {F : Fam} {ρ : Nat → Int} {ad : Nat → Hd} {v : SV} {c : E} {u : Option SV} (h : optV v = some (c, u)) :
    (u = none → v = .nilp .nP ∧ c = mkB true) ∧ ∀ z, u = some z → v.conc F ρ ad = bif c.tt F ρ then .pointer none else z.conc F ρ ad := by
  unfold optV at h
  split at h <;> simp only [Option.some.injEq, Prod.mk.injEq, reduceCtorEq] at h <;> obtain ⟨rfl, rfl⟩ := h
  · exact ⟨fun _ => ⟨rfl, rfl⟩, fun z hz => by cases hz⟩
  · refine ⟨fun hz => (by cases hz), fun z hz => ?_⟩
    simp only [Option.some.injEq] at hz; subst hz
    rfl
  · refine ⟨fun hz => (by cases hz), fun z hz => ?_⟩
    simp only [Option.some.injEq] at hz; subst hz
    simp only [SV.conc, (mkNot_spec _ F ρ).1, CV.val]
    rename_i c _ _
    cases c.tt F ρ <;> rfl
  · refine ⟨fun hz => (by cases hz), fun z hz => ?_⟩
    simp only [Option.some.injEq] at hz; subst hz
    simp

def getLst (m : Mem) (ty : Nat) (row : Row) (own : Bool) (v : SV) : Option (List E × List Src × E) :=
  match viewL m ty row v with
  | some V => if (bif own then V.own else V.sh) = true then some ([V.c], [.vw ty row v V], V.g) else none
  | none => none
def getOpt (d : List E × List Src × E) (v : SV) (f : SV → Option (List E × List Src × E)) : Option (List E × List Src × E) :=
  match optV v with
  | some (_, none) => some d
  | some (c, some u) => if c.kind = .b ∧ c.sound = true then (f u).map fun r => (c :: r.1, r.2.1, mkOr c r.2.2) else none
  | none => none
mutual
def Sh.get (m : Mem) : Sh → List Src → SV → Option (List E × List Src × E)
  | .sc k, _, .sc e => if e.kind = k ∧ e.sound = true then some ([e], [], mkB true) else none
  | .lt k n, _, .sc (.lit k' n') => if k = k' ∧ n = n' then some ([], [], mkB true) else none
  | .agg l, acc, .agg vs => Sh.getL m l acc vs
  | .lst ty row own, _, v => getLst m ty row own v
  | .obj ty cs, acc, .ptr n 0 => match blkC m n with
    | some (g, ty', vs) => if ty' = ty then (Sh.getL m cs (acc ++ [.nm n]) vs).map fun r => (r.1, .nm n :: r.2.1, mkAnd g r.2.2) else none
    | none => none
  | .ref j, acc, .ptr n 0 => if isNm acc j n = true then some ([], [], mkB true) else none
  | .fnc f l, acc, .fn f' vs => if f = f' then Sh.getL m l acc vs else none
  | .nul c, _, .nilp c' => if c = c' then some ([], [], mkB true) else none
  | .tup l, acc, .tup vs => Sh.getL m l acc vs
  | .opt s, acc, v => getOpt (mkB true :: s.ks.map fun k => .lit k 0, List.replicate s.nn .dm, mkB true) v fun u => s.get m acc u
  | .und, _, .und => some ([], [], mkB true)
  | _, _, _ => none
def Sh.getL (m : Mem) : List Sh → List Src → List SV → Option (List E × List Src × E)
  | [], _, [] => some ([], [], mkB true)
  | s :: l, acc, v :: vs => match s.get m acc v with
    | some (es, ns, g) => (Sh.getL m l (acc ++ ns) vs).map fun r => (es ++ r.1, ns ++ r.2.1, mkAnd g r.2.2)
    | none => none
  | _, _, _ => none
end

open Classical in
noncomputable def srcHd (F : Fam) (ρ : Nat → Int) (w : World) (Im : Nat → Prop) (ad : Nat → Hd) (m : Mem) : Src → Hd
  | .nm n => ad n
  | .vw ty row v V => if h : ∃ hd, LVok F ρ w Im ad m ty row v V hd then h.choose else default
  | .dm => default

section
variable {F : Fam} {ρ ρ' : Nat → Int} {w0 w : World} {M0 Im : Nat → Prop} {ad hs : Nat → Hd} {m : Mem} {ev : Nat → E}

/-- The entries of a generic value hold, and what they allow to write is what the memory's own names allow. -/
structure EntOK (F : Fam) (ρ : Nat → Int) (ρ' : Nat → Int) (w : World) (Im : Nat → Prop) (ad hs : Nat → Hd) (m : Mem) (S : List Src) (src : Nat → List Nat) (x : Nat × E × Blk) : Prop where
  ok : BlkOK F0 ρ' Im hs x.1 w x.2.2
  mu : ∀ b, mutB F0 ρ' hs x.1 x.2.2 = some b → ∃ n ∈ src x.1, ∃ g y, m.at n = some (g, y) ∧ g.tt F ρ = true ∧ mutB F ρ ad n y = some b
  nm : ∀ n, S[x.1]? = some (.nm n) → ∃ ty cs, x.2.2 = .cells ty cs
  vw : ∀ ty row v V, S[x.1]? = some (.vw ty row v V) → ∃ own le c, x.2.2 = .lst ty row own le c ∧ viewL m ty row v = some V ∧ c.den F0 ρ' = V.c.den F ρ ∧ v.conc F ρ ad = (hs x.1).sl (dc (V.c.den F ρ)).length

def EvOK (F : Fam) (ρ ρ' : Nat → Int) (ev : Nat → E) (vi : Nat) (es : List E) : Prop := ∀ i e, es[i]? = some e → (ev (vi + i)).den F0 ρ' = e.den F ρ ∧ (ev (vi + i)).kind = e.kind

theorem EvOK.left {vi : Nat} {a b : List E} (h : EvOK F ρ ρ' ev vi (a ++ b)) : EvOK F ρ ρ' ev vi a := fun i e hi => h i e (by rw [List.getElem?_append_left (List.getElem?_eq_some_iff.1 hi).1]; exact hi)
theorem EvOK.right {vi : Nat} {a b : List E} (h : EvOK F ρ ρ' ev vi (a ++ b)) : EvOK F ρ ρ' ev (vi + a.length) b := fun i e hi => by
  have := h (a.length + i) e (by rw [List.getElem?_append_right (by omega)]; simpa using hi)
  rwa [← Nat.add_assoc] at this
theorem EvOK.tail {vi : Nat} {a : E} {b : List E} (h : EvOK F ρ ρ' ev vi (a :: b)) : EvOK F ρ ρ' ev (vi + 1) b := EvOK.right (a := [a]) h
theorem EvOK.head {vi : Nat} {a : E} {b : List E} (h : EvOK F ρ ρ' ev vi (a :: b)) : (ev vi).den F0 ρ' = a.den F ρ ∧ (ev vi).kind = a.kind := h 0 a rfl
theorem EvOK.val {vi : Nat} {a : E} {b : List E} (h : EvOK F ρ ρ' ev vi (a :: b)) : (ev vi).val F0 ρ' = a.val F ρ := by
  obtain ⟨h1, h2⟩ := h.head
  rw [← val_of_kind, ← val_of_kind, h1, h2]
theorem EvOK.tt {vi : Nat} {a : E} {b : List E} (h : EvOK F ρ ρ' ev vi (a :: b)) : (ev vi).tt F0 ρ' = a.tt F ρ := by unfold E.tt; rw [h.head.1]

/-- The lengths and kinds of what is got. -/
theorem E_kinds_append {a b : List E} {ks ls : List K} (h : a.map E.kind = ks) (h' : b.map E.kind = ls) : (a ++ b).map E.kind = ks ++ ls := by rw [List.map_append, h, h']

mutual
theorem get_kinds : ∀ (s : Sh) (acc : List Src) (v : SV) (r : List E × List Src × E), s.get m acc v = some r → r.1.map E.kind = s.ks ∧ r.2.1.length = s.nn ∧ r.2.2.kind = .b ∧ ∀ e ∈ r.1, e.kind ≠ .x → e.sound = true
  | .sc k, acc, v, r, h => by
    cases v <;> simp only [Sh.get, reduceCtorEq] at h
    split at h
    · rename_i hc
      simp only [Option.some.injEq] at h; subst h
      exact ⟨by simp [Sh.ks, hc.1], rfl, rfl, fun e he => by simp at he; subst he; exact fun _ => hc.2⟩
    · cases h
  | .lt k n, acc, v, r, h => by
    cases v with
    | sc e =>
      cases e <;> simp only [Sh.get, reduceCtorEq] at h
      split at h
      · simp only [Option.some.injEq] at h; subst h
        exact ⟨rfl, rfl, rfl, fun e he => by simp at he⟩
      · cases h
    | _ => simp [Sh.get] at h
  | .agg l, acc, v, r, h => by
    cases v <;> simp only [Sh.get, reduceCtorEq] at h
    exact getL_kinds l acc _ r h
  | .lst ty row own, acc, v, r, h => by
    have h' : getLst m ty row own v = some r := by cases v <;> simpa only [Sh.get] using h
    unfold getLst at h'
    split at h'
    · rename_i V hV
      split at h'
      · simp only [Option.some.injEq] at h'; subst h'
        obtain ⟨k1, k2, k3⟩ := viewL_kind hV
        exact ⟨by simp [Sh.ks, k2], rfl, k3, fun e he hx => by simp at he; subst he; exact (hx k2).elim⟩
      · cases h'
    · cases h'
  | .obj ty cs, acc, v, r, h => by
    cases v with
    | ptr n o =>
      cases o with
      | zero =>
        simp only [Sh.get] at h
        split at h
        · rename_i g ty' vs hb
          split at h
          · obtain ⟨q, hq, rfl⟩ := Option.map_eq_some_iff.1 h
            obtain ⟨i1, i2, i3, i4⟩ := getL_kinds cs _ _ q hq
            exact ⟨i1, by simp [Sh.nn, i2], (mkAnd_spec g q.2.2 (blkC_spec hb).2 i3 (fun _ _ _ => 0) fun _ => 0).2, i4⟩
          · cases h
        · cases h
      | succ o => simp [Sh.get] at h
    | _ => simp [Sh.get] at h
  | .ref j, acc, v, r, h => by
    cases v with
    | ptr n o =>
      cases o with
      | zero =>
        simp only [Sh.get] at h
        split at h
        · simp only [Option.some.injEq] at h; subst h
          exact ⟨rfl, rfl, rfl, fun e he => by simp at he⟩
        · cases h
      | succ o => simp [Sh.get] at h
    | _ => simp [Sh.get] at h
  | .fnc f l, acc, v, r, h => by
    cases v <;> simp only [Sh.get, reduceCtorEq] at h
    split at h
    · exact getL_kinds l acc _ r h
    · cases h
  | .nul c, acc, v, r, h => by
    cases v <;> simp only [Sh.get, reduceCtorEq] at h
    split at h
    · simp only [Option.some.injEq] at h; subst h
      exact ⟨rfl, rfl, rfl, fun e he => by simp at he⟩
    · cases h
  | .tup l, acc, v, r, h => by
    cases v <;> simp only [Sh.get, reduceCtorEq] at h
    exact getL_kinds l acc _ r h
  | .opt s, acc, v, r, h => by
    have h' : getOpt (mkB true :: s.ks.map fun k => E.lit k 0, List.replicate s.nn Src.dm, mkB true) v (fun u => s.get m acc u) = some r := by cases v <;> simpa only [Sh.get] using h
    unfold getOpt at h'
    split at h'
    · simp only [Option.some.injEq] at h'; subst h'
      refine ⟨by simp [Sh.ks, E.kind, Function.comp_def], by simp [Sh.nn], rfl, fun e he hx => ?_⟩
      rcases List.mem_cons.1 he with rfl | he
      · rfl
      · obtain ⟨k, _, rfl⟩ := List.mem_map.1 he; rfl
    · rename_i c u ho
      split at h'
      · rename_i hc
        obtain ⟨q, hq, rfl⟩ := Option.map_eq_some_iff.1 h'
        obtain ⟨i1, i2, i3, i4⟩ := get_kinds s acc u q hq
        refine ⟨by simp [Sh.ks, hc.1, i1], i2, (mkOr_spec c q.2.2 hc.1 i3 (fun _ _ _ => 0) fun _ => 0).2, fun e he hx => ?_⟩
        rcases List.mem_cons.1 he with rfl | he
        · exact hc.2
        · exact i4 e he hx
      · cases h'
    · cases h'
  | .und, acc, v, r, h => by
    cases v <;> simp only [Sh.get, reduceCtorEq] at h
    simp only [Option.some.injEq] at h; subst h
    exact ⟨rfl, rfl, rfl, fun e he => by simp at he⟩
theorem getL_kinds : ∀ (l : List Sh) (acc : List Src) (vs : List SV) (r : List E × List Src × E), Sh.getL m l acc vs = some r → r.1.map E.kind = Sh.ksL l ∧ r.2.1.length = Sh.nnL l ∧ r.2.2.kind = .b ∧ ∀ e ∈ r.1, e.kind ≠ .x → e.sound = true
  | [], acc, [], r, h => by simp only [Sh.getL, Option.some.injEq] at h; subst h; exact ⟨rfl, rfl, rfl, fun e he => by simp at he⟩
  | [], acc, _ :: _, r, h => by simp [Sh.getL] at h
  | _ :: _, acc, [], r, h => by simp [Sh.getL] at h
  | s :: l, acc, v :: vs, r, h => by
    simp only [Sh.getL] at h
    split at h
    · rename_i es ns g hs
      obtain ⟨q, hq, rfl⟩ := Option.map_eq_some_iff.1 h
      obtain ⟨i1, i2, i3, i4⟩ := get_kinds s acc v _ hs
      obtain ⟨j1, j2, j3, j4⟩ := getL_kinds l _ vs q hq
      refine ⟨E_kinds_append i1 j1, by simp [Sh.nnL, j2]; exact i2, (mkAnd_spec g q.2.2 i3 j3 (fun _ _ _ => 0) fun _ => 0).2, fun e he hx => ?_⟩
      rcases List.mem_append.1 he with he | he
      · exact i4 e he hx
      · exact j4 e he hx
    · cases h
end
end
end Go.Proofs.YtbolcnlenmphhaaDoor.Ew

/- That what has a shape reads as the shape's generic value. -/
set_option linter.unusedVariables false
set_option linter.unusedSimpArgs false
namespace Go.Proofs.YtbolcnlenmphhaaDoor.Ew
open Go Go.RowKit

def srcOf (S : List Src) (j : Nat) : List Nat := match S[j]? with | some s => s.ns | none => []

section
variable {F : Fam} {ρ ρ' : Nat → Int} {w0 w : World} {M0 Im : Nat → Prop} {ad hs : Nat → Hd} {m : Mem} {ev : Nat → E} {S : List Src}

mutual
theorem gen_guard {nv : Nat → Nat} : ∀ (s : Sh) (g : E) (vi ni : Nat), g.kind = .b → (∀ i k, s.ks[i]? = some k → (ev (vi + i)).kind = k) → ∀ x ∈ (s.gen ev nv g vi ni).2, x.2.1.kind = .b ∧ (x.2.1.tt F ρ = true → g.tt F ρ = true)
  | .sc k, g, vi, ni, hg, hk, x, hx => by cases hx
  | .lt k n, g, vi, ni, hg, hk, x, hx => by cases hx
  | .agg l, g, vi, ni, hg, hk, x, hx => genL_guard l g vi ni hg hk x hx
  | .lst ty row own, g, vi, ni, hg, hk, x, hx => by simp only [Sh.gen, List.mem_singleton] at hx; subst hx; exact ⟨hg, fun h => h⟩
  | .obj ty cs, g, vi, ni, hg, hk, x, hx => by
    simp only [Sh.gen, List.mem_cons] at hx
    rcases hx with rfl | hx
    · exact ⟨hg, fun h => h⟩
    · exact genL_guard cs g vi (ni + 1) hg hk x hx
  | .ref j, g, vi, ni, hg, hk, x, hx => by cases hx
  | .fnc f cs, g, vi, ni, hg, hk, x, hx => genL_guard cs g vi ni hg hk x hx
  | .nul c, g, vi, ni, hg, hk, x, hx => by cases hx
  | .tup l, g, vi, ni, hg, hk, x, hx => genL_guard l g vi ni hg hk x hx
  | .opt s, g, vi, ni, hg, hk, x, hx => by
    have a := mkAnd_spec g (mkNot (ev vi)) hg (mkNot_spec (ev vi) F ρ).2 F ρ
    obtain ⟨i1, i2⟩ := gen_guard s (mkAnd g (mkNot (ev vi))) (vi + 1) ni a.2 (fun i k hi => by
      have := hk (i + 1) k (by simpa [Sh.ks] using hi)
      rwa [show vi + (i + 1) = vi + 1 + i by omega] at this) x hx
    refine ⟨i1, fun h => ?_⟩
    have := i2 h
    rw [a.1, Bool.and_eq_true] at this
    exact this.1
  | .und, g, vi, ni, hg, hk, x, hx => by cases hx
theorem genL_guard {nv : Nat → Nat} : ∀ (l : List Sh) (g : E) (vi ni : Nat), g.kind = .b → (∀ i k, (Sh.ksL l)[i]? = some k → (ev (vi + i)).kind = k) → ∀ x ∈ (Sh.genL ev nv l g vi ni).2, x.2.1.kind = .b ∧ (x.2.1.tt F ρ = true → g.tt F ρ = true)
  | [], g, vi, ni, hg, hk, x, hx => by cases hx
  | s :: r, g, vi, ni, hg, hk, x, hx => by
    simp only [Sh.genL, List.mem_append] at hx
    rcases hx with hx | hx
    · exact gen_guard s g vi ni hg (fun i k hi => hk i k (by simp only [Sh.ksL]; rw [List.getElem?_append_left (List.getElem?_eq_some_iff.1 hi).1]; exact hi)) x hx
    · exact genL_guard r g (vi + s.ks.length) (ni + s.nn) hg (fun i k hi => by
        have := hk (s.ks.length + i) k (by simp only [Sh.ksL]; rw [List.getElem?_append_right (by omega)]; simpa using hi)
        rwa [← Nat.add_assoc] at this) x hx
end

theorem EvOK.kinds {vi : Nat} {es : List E} {ks : List K} (h : EvOK F ρ ρ' ev vi es) (hk : es.map E.kind = ks) : ∀ i k, ks[i]? = some k → (ev (vi + i)).kind = k := fun i k hi => by
  subst hk
  rw [List.getElem?_map] at hi
  obtain ⟨e, h1, h2⟩ := Option.map_eq_some_iff.1 hi
  rw [(h i e h1).2, h2]

/-- A list of sources lies at a place. -/
def SrcAt (S : List Src) (ni : Nat) (ns : List Src) : Prop := ∀ j s, ns[j]? = some s → S[ni + j]? = some s
theorem SrcAt.left {ni : Nat} {a b : List Src} (h : SrcAt S ni (a ++ b)) : SrcAt S ni a := fun j s hj => h j s (by rw [List.getElem?_append_left (List.getElem?_eq_some_iff.1 hj).1]; exact hj)
theorem SrcAt.right {ni : Nat} {a b : List Src} (h : SrcAt S ni (a ++ b)) : SrcAt S (ni + a.length) b := fun j s hj => by
  have := h (a.length + j) s (by rw [List.getElem?_append_right (by omega)]; simpa using hj)
  rwa [← Nat.add_assoc] at this
theorem SrcAt.both {a b : List Src} (h : SrcAt S 0 a) (h' : SrcAt S a.length b) : SrcAt S 0 (a ++ b) := fun j s hj => by
  by_cases hl : j < a.length
  · rw [List.getElem?_append_left hl] at hj; exact h j s hj
  · rw [List.getElem?_append_right (by omega)] at hj
    have := h' _ s hj
    rwa [show a.length + (j - a.length) = 0 + j by omega] at this

mutual
theorem shget_spec (hB : BI F) (hI : RelI F ρ w0 M0 Im ad m w) (hS : ∀ j s, S[j]? = some s → hs j = srcHd F ρ w Im ad m s) : ∀ (s : Sh) (acc : List Src) (v : SV) (r : List E × List Src × E) (gd : E) (vi : Nat), s.get m acc v = some r → gd.kind = .b →
    SrcAt S 0 acc → SrcAt S acc.length r.2.1 → EvOK F ρ ρ' ev vi r.1 → r.2.2.tt F ρ = true →
    v.conc F ρ ad = (s.gen ev id gd vi acc.length).1.conc F0 ρ' hs ∧ ∀ x ∈ (s.gen ev id gd vi acc.length).2, x.2.1.tt F0 ρ' = true → EntOK F ρ ρ' w Im ad hs m S (srcOf S) x
  | .sc k, acc, v, r, gd, vi, h, hgd, hA, hs1, hev, hg => by
    cases v <;> simp only [Sh.get, reduceCtorEq] at h
    split at h
    · simp only [Option.some.injEq] at h; subst h
      exact ⟨by simp only [SV.conc, Sh.gen]; exact hev.val.symm, fun x hx => by cases hx⟩
    · cases h
  | .lt k n, acc, v, r, gd, vi, h, hgd, hA, hs1, hev, hg => by
    cases v with
    | sc e =>
      cases e <;> simp only [Sh.get, reduceCtorEq] at h
      split at h
      · rename_i hc
        obtain ⟨rfl, rfl⟩ := hc
        refine ⟨?_, fun x hx => by cases hx⟩
        simp [SV.conc, Sh.gen, E.val, E.kind, E.tt, E.den]
      · cases h
    | _ => simp [Sh.get] at h
  | .agg l, acc, v, r, gd, vi, h, hgd, hA, hs1, hev, hg => by
    cases v <;> simp only [Sh.get, reduceCtorEq] at h
    obtain ⟨i1, i2⟩ := shgetL_spec hB hI hS l acc _ r gd vi h hgd hA hs1 hev hg
    exact ⟨by simp only [SV.conc, Sh.gen, i1], i2⟩
  | .lst ty row own, acc, v, r, gd, vi, h, hgd, hA, hs1, hev, hg => by
    have h' : getLst m ty row own v = some r := by cases v <;> simpa only [Sh.get] using h
    unfold getLst at h'
    split at h'
    · rename_i V hV
      split at h'
      · rename_i ho
        simp only [Option.some.injEq] at h'; subst h'
        simp only at hg hev hs1
        have hex := viewL_spec hB hI hV hg
        have hhd : hs acc.length = hex.choose := by
          have := hS _ _ (hs1 0 _ rfl)
          simp only [Nat.add_zero] at this
          rw [this]
          simp only [srcHd, dif_pos hex]
        obtain ⟨o1, o2, o3, o4, o5, o6, o7⟩ := hex.choose_spec
        rw [← hhd] at o1 o4 o5 o6 o7
        have hden := hev.head.1
        have hlen : (LEN (ev vi)).den F0 ρ' = ((dc (V.c.den F ρ)).length : Int) := by rw [BI_F0.len, hden, wrap_len o4.1]
        refine ⟨by simp only [Sh.gen, SV.conc, hlen, Int.toNat_natCast, id]; exact o1, fun x hx _ => ?_⟩
        simp only [Sh.gen, List.mem_singleton] at hx
        subst hx
        have hS0 : S[acc.length]? = some (Src.vw ty row v V) := by
          have := hs1 0 _ rfl
          simpa only [Nat.add_zero] using this
        refine ⟨⟨by rw [hden]; exact o2, by rw [hlen, hden], ?_⟩, fun b hb => ?_, fun n hn => (by rw [hS0] at hn; cases hn), fun ty' row' v' V' hv' => by
          rw [hS0] at hv'
          simp only [Option.some.injEq, Src.vw.injEq] at hv'
          obtain ⟨rfl, rfl, rfl, rfl⟩ := hv'
          exact ⟨own, _, _, rfl, hV, hden, o1⟩⟩
        · simp only [hden]
          cases own
          · exact o6 ho
          · exact o5 ho
        · cases own
          · simp [mutB] at hb
          · simp only [mutB, hlen, Int.toNat_natCast] at hb
            have hsrc : srcOf S acc.length = V.ns := by
              have := hs1 0 _ rfl
              simp only [Nat.add_zero] at this
              simp only [srcOf, this, Src.ns]
            rw [hsrc]
            exact o7 ho b hb
      · cases h'
    · cases h'
  | .obj ty cs, acc, v, r, gd, vi, h, hgd, hA, hs1, hev, hg => by
    cases v with
    | ptr n o =>
      cases o with
      | zero =>
        simp only [Sh.get] at h
        split at h
        · rename_i g ty' vs hb
          split at h
          · rename_i hty
            obtain ⟨q, hq, rfl⟩ := Option.map_eq_some_iff.1 h
            obtain ⟨b1, b2⟩ := blkC_spec hb
            subst hty
            obtain ⟨_, _, k3, _⟩ := getL_kinds cs _ _ q hq
            rw [(mkAnd_spec g q.2.2 b2 k3 F ρ).1, Bool.and_eq_true] at hg
            have hlen : (acc ++ [Src.nm n]).length = acc.length + 1 := by simp
            have hs1' : SrcAt S acc.length ([Src.nm n] ++ q.2.1) := hs1
            have hA' : SrcAt S 0 (acc ++ [Src.nm n]) := hA.both hs1'.left
            have hs2 : SrcAt S (acc ++ [Src.nm n]).length q.2.1 := by rw [hlen]; exact hs1'.right
            obtain ⟨i1, i2⟩ := shgetL_spec hB hI hS cs (acc ++ [.nm n]) vs q gd vi hq hgd hA' hs2 hev hg.2
            rw [hlen] at i1 i2
            have hn : hs acc.length = ad n := by
              have := hS _ _ (hs1 0 _ rfl)
              simp only [Nat.add_zero] at this
              rw [this]; rfl
            have hent := (hI.ent n g _ b1 hg.1).1
            refine ⟨by simp only [Sh.gen, SV.conc, id, hn], fun x hx hxg => ?_⟩
            simp only [Sh.gen, List.mem_cons] at hx
            rcases hx with rfl | hx
            · have hS0 : S[acc.length]? = some (Src.nm n) := by
                have := hs1 0 _ rfl
                simpa only [Nat.add_zero] using this
              refine ⟨?_, fun b hb => ?_, fun _ _ => ⟨_, _, rfl⟩, fun ty' row' v' V' hv' => (by rw [hS0] at hv'; cases hv')⟩
              · simp only [BlkOK, hn, ← i1]; exact hent
              · simp only [mutB, hn, Option.some.injEq] at hb
                have hsrc : srcOf S acc.length = [n] := by
                  have := hs1 0 _ rfl
                  simp only [Nat.add_zero] at this
                  simp only [srcOf, this, Src.ns]
                refine ⟨n, by rw [hsrc]; simp, g, _, b1, hg.1, by simp only [mutB, hb]⟩
            · exact i2 x hx hxg
          · cases h
        · cases h
      | succ o => simp [Sh.get] at h
    | _ => simp [Sh.get] at h
  | .ref j, acc, v, r, gd, vi, h, hgd, hA, hs1, hev, hg => by
    cases v with
    | ptr n o =>
      cases o with
      | zero =>
        simp only [Sh.get] at h
        split at h
        · rename_i hn
          simp only [Option.some.injEq] at h; subst h
          refine ⟨?_, fun x hx => by cases hx⟩
          unfold isNm at hn
          split at hn
          · rename_i k hk
            have hkn : k = n := by simpa using hn
            subst hkn
            have := hS _ _ (hA j _ hk)
            rw [Nat.zero_add] at this
            simp only [Sh.gen, SV.conc, id, this]
            rfl
          · cases hn
        · cases h
      | succ o => simp [Sh.get] at h
    | _ => simp [Sh.get] at h
  | .fnc f l, acc, v, r, gd, vi, h, hgd, hA, hs1, hev, hg => by
    cases v <;> simp only [Sh.get, reduceCtorEq] at h
    split at h
    · rename_i hf
      subst hf
      obtain ⟨i1, i2⟩ := shgetL_spec hB hI hS l acc _ r gd vi h hgd hA hs1 hev hg
      exact ⟨by simp only [SV.conc, Sh.gen, i1], i2⟩
    · cases h
  | .nul c, acc, v, r, gd, vi, h, hgd, hA, hs1, hev, hg => by
    cases v <;> simp only [Sh.get, reduceCtorEq] at h
    split at h
    · rename_i hc
      simp only [Option.some.injEq] at h; subst h
      subst hc
      exact ⟨rfl, fun x hx => by cases hx⟩
    · cases h
  | .tup l, acc, v, r, gd, vi, h, hgd, hA, hs1, hev, hg => by
    cases v <;> simp only [Sh.get, reduceCtorEq] at h
    obtain ⟨i1, i2⟩ := shgetL_spec hB hI hS l acc _ r gd vi h hgd hA hs1 hev hg
    exact ⟨by simp only [SV.conc, Sh.gen, i1], i2⟩
  | .opt s, acc, v, r, gd, vi, h, hgd, hA, hs1, hev, hg => by
    have h' : getOpt (mkB true :: s.ks.map fun k => E.lit k 0, List.replicate s.nn Src.dm, mkB true) v (fun u => s.get m acc u) = some r := by cases v <;> simpa only [Sh.get] using h
    unfold getOpt at h'
    split at h'
    · rename_i c ho
      simp only [Option.some.injEq] at h'; subst h'
      simp only at hev
      obtain ⟨e1, e2⟩ := (optV_spec (F := F) (ρ := ρ) (ad := ad) ho).1 rfl
      have hall : (ev vi).tt F0 ρ' = true := by rw [hev.tt]; simp
      have hkk : (ev vi).kind = .b := by rw [hev.head.2]; rfl
      refine ⟨?_, fun x hx hxg => ?_⟩
      · rw [e1]
        simp only [Sh.gen, SV.conc, hall, cond_true]
      · have a := mkAnd_spec gd (mkNot (ev vi)) hgd (mkNot_spec (ev vi) F0 ρ').2 F0 ρ'
        have hk : ∀ i k, s.ks[i]? = some k → (ev (vi + 1 + i)).kind = k := fun i k hi => by
          have := (hev (i + 1) (.lit k 0) (by simp [hi])).2
          rwa [show vi + (i + 1) = vi + 1 + i by omega] at this
        have := (gen_guard (F := F0) (ρ := ρ') s (mkAnd gd (mkNot (ev vi))) (vi + 1) acc.length a.2 hk x hx).2 hxg
        rw [a.1, (mkNot_spec (ev vi) F0 ρ').1, hall] at this
        simp at this
    · rename_i c u ho
      split at h'
      · rename_i hc
        obtain ⟨q, hq, rfl⟩ := Option.map_eq_some_iff.1 h'
        simp only at hev hs1 hg
        obtain ⟨k1, k2, k3, _⟩ := get_kinds s acc u q hq
        have hv := (optV_spec (F := F) (ρ := ρ) (ad := ad) ho).2 u rfl
        have a := mkAnd_spec gd (mkNot (ev vi)) hgd (mkNot_spec (ev vi) F0 ρ').2 F0 ρ'
        have htt : (ev vi).tt F0 ρ' = c.tt F ρ := hev.tt
        rw [(mkOr_spec c q.2.2 hc.1 k3 F ρ).1, Bool.or_eq_true] at hg
        by_cases hct : c.tt F ρ = true
        · refine ⟨?_, fun x hx hxg => ?_⟩
          · rw [hv, hct]
            simp only [Sh.gen, SV.conc, htt, hct, cond_true, CV.val]
          · have := (gen_guard (F := F0) (ρ := ρ') s (mkAnd gd (mkNot (ev vi))) (vi + 1) acc.length a.2 (hev.tail.kinds k1) x hx).2 hxg
            rw [a.1, (mkNot_spec (ev vi) F0 ρ').1, htt, hct] at this
            simp at this
        · have hcf : c.tt F ρ = false := by simpa using hct
          obtain ⟨i1, i2⟩ := shget_spec hB hI hS s acc u q (mkAnd gd (mkNot (ev vi))) (vi + 1) hq a.2 hA hs1 hev.tail (hg.resolve_left hct)
          refine ⟨?_, i2⟩
          rw [hv, hcf]
          simp only [Sh.gen, SV.conc, htt, hcf, cond_false]
          exact i1
      · cases h'
    · cases h'
  | .und, acc, v, r, gd, vi, h, hgd, hA, hs1, hev, hg => by
    cases v <;> simp only [Sh.get, reduceCtorEq] at h
    simp only [Option.some.injEq] at h; subst h
    exact ⟨rfl, fun x hx => by cases hx⟩
theorem shgetL_spec (hB : BI F) (hI : RelI F ρ w0 M0 Im ad m w) (hS : ∀ j s, S[j]? = some s → hs j = srcHd F ρ w Im ad m s) : ∀ (l : List Sh) (acc : List Src) (vs : List SV) (r : List E × List Src × E) (gd : E) (vi : Nat), Sh.getL m l acc vs = some r → gd.kind = .b →
    SrcAt S 0 acc → SrcAt S acc.length r.2.1 → EvOK F ρ ρ' ev vi r.1 → r.2.2.tt F ρ = true →
    SV.concL F ρ ad vs = SV.concL F0 ρ' hs (Sh.genL ev id l gd vi acc.length).1 ∧ ∀ x ∈ (Sh.genL ev id l gd vi acc.length).2, x.2.1.tt F0 ρ' = true → EntOK F ρ ρ' w Im ad hs m S (srcOf S) x
  | [], acc, [], r, gd, vi, h, hgd, hA, hs1, hev, hg => ⟨rfl, fun x hx => by cases hx⟩
  | [], acc, _ :: _, r, gd, vi, h, hgd, hA, hs1, hev, hg => by simp [Sh.getL] at h
  | _ :: _, acc, [], r, gd, vi, h, hgd, hA, hs1, hev, hg => by simp [Sh.getL] at h
  | s :: l, acc, v :: vs, r, gd, vi, h, hgd, hA, hs1, hev, hg => by
    simp only [Sh.getL] at h
    split at h
    · rename_i es ns g hs0
      obtain ⟨q, hq, rfl⟩ := Option.map_eq_some_iff.1 h
      obtain ⟨k1, k2, k3, _⟩ := get_kinds s acc v _ hs0
      obtain ⟨l1, l2, l3, _⟩ := getL_kinds l _ vs q hq
      simp only at k1 k2 k3 hev hs1 hg
      rw [(mkAnd_spec g q.2.2 k3 l3 F ρ).1, Bool.and_eq_true] at hg
      have hel : es.length = s.ks.length := by rw [← k1]; simp
      obtain ⟨i1, i2⟩ := shget_spec hB hI hS s acc v (es, ns, g) gd vi hs0 hgd hA hs1.left hev.left hg.1
      have hlen : (acc ++ ns).length = acc.length + s.nn := by rw [List.length_append, k2]
      have hA' : SrcAt S 0 (acc ++ ns) := hA.both hs1.left
      have hs2 : SrcAt S (acc ++ ns).length q.2.1 := by rw [List.length_append]; exact hs1.right
      have hev2 := hev.right
      rw [hel] at hev2
      obtain ⟨j1, j2⟩ := shgetL_spec hB hI hS l (acc ++ ns) vs q gd (vi + s.ks.length) hq hgd hA' hs2 hev2 hg.2
      rw [hlen] at j1 j2
      refine ⟨by simp only [SV.concL, Sh.genL, i1, j1], fun x hx hxg => ?_⟩
      simp only [Sh.genL, List.mem_append] at hx
      rcases hx with hx | hx
      · exact i2 x hx hxg
      · exact j2 x hx hxg
    · cases h
end
end
end Go.Proofs.YtbolcnlenmphhaaDoor.Ew

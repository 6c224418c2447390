/- All described operations together: what they do to the memory tells what they do to the world. -/
import Derived.Test.YtmolkkphnehgcaaWMb
set_option linter.unusedVariables false
set_option linter.unusedSimpArgs false
namespace Go.Proofs.Ytmolkkphnehgcaa.Ew
open Go Go.RowKit

section
variable {P : Program} {F : Fam} {ρ : Nat → Int} {G : Glob} {w0 w w' : World} {M0 Im0 Im Im' T : Nat → Prop} {ad ad' : Nat → Hd} {m m' : Mem} {q : Row} {ks : List K}

theorem applyX_sound (hB : BI F) (hG : GOK G Im0 w0) (hR : Rel F ρ w0 M0 Im0 ad m w) {x : X} {nm : Nat} {g : E} {v : SV} {m' : Mem} (hx : x.good F ρ (al m)) (h : applyX P G m nm x = some (g, v, m')) :
    g.kind = .b ∧ (g.tt F ρ = true → Done F ρ w0 M0 Im0 ad m m' (x.run P F ρ ad w) v) := by
  cases x with
  | old d =>
    simp only [applyX] at h
    split at h
    · rename_i r hr
      simp only [Option.some.injEq] at h; subst h
      exact apply_sound (P := P) hG hR hx hr
    · exact applyG_sound (P := P) hB hR hx h
  | len x =>
    simp only [applyX] at h
    split at h
    · obtain ⟨V, hV, he⟩ := Option.map_eq_some_iff.1 h
      simp only [Prod.mk.injEq] at he
      obtain ⟨rfl, rfl, rfl⟩ := he
      exact len_sound hB hR hV
    · obtain ⟨V, hV, he⟩ := Option.map_eq_some_iff.1 h
      simp only [Prod.mk.injEq] at he
      obtain ⟨rfl, rfl, rfl⟩ := he
      exact len_sound hB hR hV
  | lde n str i o sz ag =>
    simp only [applyX] at h
    split at h
    · rename_i g' ty row own le c hn
      split at h
      · rename_i ks hr
        split at h
        · rename_i hc
          obtain ⟨u, hv, he⟩ := Option.map_eq_some_iff.1 h
          simp only [Prod.mk.injEq] at he
          obtain ⟨rfl, rfl, rfl⟩ := he
          obtain ⟨hk, rfl⟩ := hc
          exact lde_sound hB hR hn hk hr hv
        · cases h
      · cases h
    · cases h
  | ste n str i o cs =>
    simp only [applyX] at h
    split at h
    · rename_i g' ty row le c hn
      split at h
      · rename_i ks hr
        split at h
        · rename_i es he
          split at h
          · rename_i hc
            simp only [Option.some.injEq, Prod.mk.injEq] at h
            obtain ⟨rfl, rfl, rfl⟩ := h
            obtain ⟨hk, rfl, hl⟩ := hc
            exact ste_sound hB hR hn hk hr he hl
          · cases h
        · cases h
      · cases h
    · cases h
  | app t e rt x y =>
    simp only [applyX] at h
    split at h
    · rename_i ks hks
      split at h
      · rename_i V size bytes hV hi
        split at h
        · rename_i hc
          obtain ⟨rfl, ho, ht, hn1, hn2⟩ := hc
          obtain ⟨k1, k2, k3⟩ := viewL_kind hV
          split at h
          · rename_i m2 len cp
            split at h
            · rename_i g2 ty2 cs hb
              split at h
              · rename_i hl
                obtain ⟨c', hs, he⟩ := Option.map_eq_some_iff.1 h
                simp only [Prod.mk.injEq] at he
                obtain ⟨rfl, rfl, rfl⟩ := he
                obtain ⟨b1, b2⟩ := blkC_spec hb
                have p1 := mkAnd_spec V.g g2 k3 b2 F ρ
                have p2 := mkCmp_spec .leq (.app .x 0 0 [c']) (.lit .x (capOf bytes)) F ρ
                have p3 := mkAnd_spec _ _ p1.2 p2.2 F ρ
                refine ⟨p3.2, fun hg => ?_⟩
                rw [p3.1, p1.1, Bool.and_eq_true, Bool.and_eq_true] at hg
                have hcap := leq_spec hg.2
                have hR' := hR
                obtain ⟨hM, Im, h1, h2, hI⟩ := hR'
                obtain ⟨hd, o1, o2, o3, o4, o5, o6, o7⟩ := viewL_spec hB hI hV hg.1.1
                obtain ⟨rows, r1, r2, r3, r4⟩ := snocs_spec (w := w) (Im := Im) (ad := ad) hB hs o2 k2
                rw [den_app0 hB] at hcap
                simp only [List.map_cons, List.map_nil, bi, K.norm, r1, dc_cd] at hcap
                refine app_core hB hR hV hg.1.1 ho ht hi hn1 hn2 r1 (Or.inr ⟨⟨(ad m2).blk, 0, none⟩, cp, SV.concL F ρ ad cs, by simp only [SV.conc, r3], fun Im' => RowsV_any r4, fun j u hu => ?_⟩) hcap
                have hh := (hI.ent m2 g2 _ b1 hg.1.2).1
                rw [Addr.add_none, Nat.zero_add, cell_of_heap hh]
                simpa using hu
              · cases h
            · cases h
          · rename_i y hy
            split at h
            · rename_i V2 hV2
              simp only [Option.some.injEq, Prod.mk.injEq] at h
              obtain ⟨rfl, rfl, rfl⟩ := h
              obtain ⟨l1, l2, l3⟩ := viewL_kind hV2
              have p1 := mkAnd_spec V.g V2.g k3 l3 F ρ
              have p2 := mkCmp_spec .leq (.app .x 0 0 [.app .x 0 4 [V.c, V2.c]]) (.lit .x (capOf bytes)) F ρ
              have p3 := mkAnd_spec _ _ p1.2 p2.2 F ρ
              refine ⟨p3.2, fun hg => ?_⟩
              rw [p3.1, p1.1, Bool.and_eq_true, Bool.and_eq_true] at hg
              have hcap := leq_spec hg.2
              have hR' := hR
              obtain ⟨hM, Im, h1, h2, hI⟩ := hR'
              obtain ⟨hd, o1, o2, o3, o4, o5, o6, o7⟩ := viewL_spec hB hI hV2 hg.1.2
              have hden : (E.app .x 0 4 [V.c, V2.c]).den F ρ = cd (dc (V.c.den F ρ) ++ dc (V2.c.den F ρ)) := by rw [den_app0 hB]; rfl
              rw [den_app0 hB] at hcap
              simp only [List.map_cons, List.map_nil, bi, K.norm, hden, dc_cd] at hcap
              refine app_core hB hR hV hg.1.1 ho ht hi hn1 hn2 hden ?_ hcap
              rcases sl_form hd (dc (V2.c.den F ρ)).length with ⟨e0, hz⟩ | e0
              · exact Or.inl ⟨o1.trans e0, List.eq_nil_of_length_eq_zero hz⟩
              · right
                obtain ⟨xs, x1, x2⟩ := flatL (w := w) (Im := Im) (b := hd.blk) (o := hd.off) o4.2.2
                exact ⟨_, _, xs, o1.trans e0, fun Im' => RowsV_any x1, fun j u hu => by rw [Addr.add_none]; exact x2 j u hu⟩
            · cases h
        · cases h
      · cases h
    · cases h
  | sub t e x lo hi =>
    simp only [applyX] at h
    split at h
    · rename_i r hr
      simp only [Option.some.injEq] at h; subst h
      exact subV_sound hB hR hr
    split at h
    · rename_i ty row hrow
      split at h
      · rename_i V0 hV0
        split at h
        · rename_i V hV
          split at h
          · rename_i hc
            simp only [Option.some.injEq, Prod.mk.injEq] at h
            obtain ⟨rfl, rfl, rfl⟩ := h
            exact sub_sound hB hR hV0 hV hc.1 hc.2.1 hc.2.2.1 hc.2.2.2.1 hc.2.2.2.2.1 hc.2.2.2.2.2.1 hc.2.2.2.2.2.2
          · cases h
        · cases h
      · cases h
    · cases h
  | mk t e n c =>
    simp only [applyX] at h
    split at h
    · rename_i ks size bytes hks hi
      split at h
      · rename_i hc
        simp only [Option.some.injEq, Prod.mk.injEq] at h
        obtain ⟨rfl, rfl, rfl⟩ := h
        obtain ⟨c1, c2, c3, rfl, c5, c6, c7⟩ := hc
        exact mk_sound hB hR c1 c2 c3 hi c5 c6 c7
      · cases h
    · cases h
  | bl e ks cs len =>
    simp only [applyX] at h
    split at h
    · rename_i c' size bytes hs hi
      split at h
      · rename_i hc
        simp only [Option.some.injEq, Prod.mk.injEq] at h
        obtain ⟨rfl, rfl, rfl⟩ := h
        obtain ⟨rfl, c2, c3, c4⟩ := hc
        exact ⟨mkB_kind _, fun _ => bl_sound hB hR hs hi c2 c3 c4⟩
      · cases h
    · cases h
  | _ => exact applyN_sound (nm := nm) hB hR hx h
end
end Go.Proofs.Ytmolkkphnehgcaa.Ew

/- Shapes of values: what a function takes and gives, with the memory that hangs on it; the generic value of a shape, and the same shape at other places. -/
set_option linter.unusedVariables false
set_option linter.unusedSimpArgs false
namespace Go.Proofs.Ytmolkkphnehgcaa.Ew
open Go Go.RowKit

inductive Sh where
  | sc (k : K)
  | lt (k : K) (n : Int)
  | agg (cs : List Sh)
  | lst (ty : Nat) (row : Row) (own : Bool)
  | obj (ty : Nat) (cs : List Sh)
  | ref (j : Nat)
  | pin (j off str : Nat)
  | fnc (f : Nat) (cs : List Sh)
  | nul (c : CV)
  | tup (cs : List Sh)
  | opt (sh : Sh)
  | und
  | mp (ks vs : List K) (kag vag : Bool)
  | seg (ty : Nat) (ks : List K) (cs : List Sh)
  | lsn (ty : Nat) (row : Row)
  deriving Repr, Inhabited

/- The kinds of a shape's numbers. -/
mutual
def Sh.ks : Sh → List K
  | .sc k => [k]
  | .pin .. => [.i .i64]
  | .agg l | .obj _ l | .fnc _ l | .tup l => Sh.ksL l
  | .lst .. => [.x]
  | .lsn .. => [.x]
  | .mp .. => [.x]
  | .seg _ _ l => .x :: Sh.ksL l
  | .opt s => .b :: s.ks
  | _ => []
def Sh.ksL : List Sh → List K
  | [] => []
  | s :: r => s.ks ++ Sh.ksL r
end
/- How many names it takes. -/
mutual
def Sh.nn : Sh → Nat
  | .agg l | .fnc _ l | .tup l => Sh.nnL l
  | .obj _ l => Sh.nnL l + 1
  | .lst .. => 1
  | .lsn .. => 1
  | .mp .. => 1
  | .seg _ _ l => Sh.nnL l + 1
  | .opt s => s.nn
  | _ => 0
def Sh.nnL : List Sh → Nat
  | [] => 0
  | s :: r => s.nn + Sh.nnL r
end

/- The names that it refers to. -/
mutual
def Sh.refs : Sh → List Nat
  | .agg l | .obj _ l | .fnc _ l | .tup l | .seg _ _ l => Sh.refsL l
  | .ref j => [j]
  | .pin j _ _ => [j]
  | .opt s => s.refs
  | _ => []
def Sh.refsL : List Sh → List Nat
  | [] => []
  | s :: r => s.refs ++ Sh.refsL r
end

abbrev Ents := List (Nat × E × Blk)
/- The value of a shape whose numbers are ev vi, .. and whose names are nv ni, ..; and what these names stand for, under the condition gd. -/
mutual
def Sh.gen (ev : Nat → E) (nv : Nat → Nat) : Sh → E → Nat → Nat → SV × Ents
  | .sc _, _, vi, _ => (.sc (ev vi), [])
  | .lt k n, _, _, _ => (.sc (.lit k n), [])
  | .agg l, g, vi, ni => let r := Sh.genL ev nv l g vi ni; (.agg r.1, r.2)
  | .lst ty row own, g, vi, ni => (.ls (nv ni) (LEN (ev vi)), [(ni, g, .lst ty row own (LEN (ev vi)) (ev vi))])
  | .lsn ty row, g, vi, ni => (.ls (nv ni) (LEN (ev vi)), [(ni, g, .lst ty row true (LEN (ev vi)) (ev vi))])
  | .obj ty cs, g, vi, ni => let r := Sh.genL ev nv cs g vi (ni + 1); (.ptr (nv ni) 0, (ni, g, .cells ty r.1) :: r.2)
  | .ref j, _, _, _ => (.ptr (nv j) 0, [])
  | .pin j off str, _, vi, _ => (.pi (nv j) off str (ev vi), [])
  | .fnc f cs, g, vi, ni => let r := Sh.genL ev nv cs g vi ni; (.fn f r.1, r.2)
  | .nul c, _, _, _ => (.nilp c, [])
  | .tup l, g, vi, ni => let r := Sh.genL ev nv l g vi ni; (.tup r.1, r.2)
  | .opt s, g, vi, ni => let r := s.gen ev nv (mkAnd g (mkNot (ev vi))) (vi + 1) ni; (.ite (ev vi) (.nilp .nP) r.1, r.2)
  | .und, _, _, _ => (.und, [])
  | .mp ks vs kag vag, g, vi, ni => (.mp (nv ni), [(ni, g, .mp ks vs kag vag (ev vi))])
  | .seg ty ks cs, g, vi, ni => let r := Sh.genL ev nv cs g (vi + 1) (ni + 1); (.ptr (nv ni) 0, (ni, g, .seg ty r.1 ks (ev vi)) :: r.2)
def Sh.genL (ev : Nat → E) (nv : Nat → Nat) : List Sh → E → Nat → Nat → List SV × Ents
  | [], _, _, _ => ([], [])
  | s :: r, g, vi, ni => let a := s.gen ev nv g vi ni; let b := Sh.genL ev nv r g (vi + s.ks.length) (ni + s.nn); (a.1 :: b.1, a.2 ++ b.2)
end

/-- The family in which only the operations on lists have a meaning. -/
noncomputable def F0 : Fam := fun k j xs => if k = 0 then bi j xs else 0
theorem BI_F0 : BI F0 := fun j xs => rfl

/-- Two readings of one shape that agree. -/
structure Tr (B : Nat) (F1 F2 : Fam) (ρ1 ρ2 : Nat → Int) (ad1 ad2 : Nat → Hd) (ev1 ev2 : Nat → E) (nv1 nv2 : Nat → Nat) : Prop where
  b1 : BI F1
  b2 : BI F2
  den : ∀ i, (ev1 i).den F1 ρ1 = (ev2 i).den F2 ρ2
  kd : ∀ i, (ev1 i).kind = (ev2 i).kind
  hd : ∀ j, j < B → ad1 (nv1 j) = ad2 (nv2 j)

/-- Two entries of one name that say the same. -/
structure SameE (F1 F2 : Fam) (ρ1 ρ2 : Nat → Int) (ad1 ad2 : Nat → Hd) (nv1 nv2 : Nat → Nat) (a b : Nat × E × Blk) : Prop where
  nm : a.1 = b.1
  gd : a.2.1.tt F1 ρ1 = b.2.1.tt F2 ρ2
  mu : mutB F1 ρ1 ad1 (nv1 a.1) a.2.2 = mutB F2 ρ2 ad2 (nv2 b.1) b.2.2
  ok : ∀ (Im : Nat → Prop) (w : World), BlkOK F1 ρ1 Im ad1 (nv1 a.1) w a.2.2 ↔ BlkOK F2 ρ2 Im ad2 (nv2 b.1) w b.2.2

section
variable {F1 F2 : Fam} {ρ1 ρ2 : Nat → Int} {ad1 ad2 : Nat → Hd} {ev1 ev2 : Nat → E} {nv1 nv2 : Nat → Nat} {B : Nat}

theorem Tr.tt (h : Tr B F1 F2 ρ1 ρ2 ad1 ad2 ev1 ev2 nv1 nv2) (i : Nat) : (ev1 i).tt F1 ρ1 = (ev2 i).tt F2 ρ2 := by unfold E.tt; rw [h.den i]
theorem Tr.val (h : Tr B F1 F2 ρ1 ρ2 ad1 ad2 ev1 ev2 nv1 nv2) (i : Nat) : (ev1 i).val F1 ρ1 = (ev2 i).val F2 ρ2 := by rw [← val_of_kind, ← val_of_kind, h.kd, h.den]
theorem Tr.len (h : Tr B F1 F2 ρ1 ρ2 ad1 ad2 ev1 ev2 nv1 nv2) (i : Nat) : (LEN (ev1 i)).den F1 ρ1 = (LEN (ev2 i)).den F2 ρ2 := by rw [h.b1.len, h.b2.len, h.den]

/-- The two lists of entries say the same, one by one. -/
def SameL (F1 F2 : Fam) (ρ1 ρ2 : Nat → Int) (ad1 ad2 : Nat → Hd) (nv1 nv2 : Nat → Nat) : Ents → Ents → Prop
  | [], [] => True
  | a :: l, b :: r => SameE F1 F2 ρ1 ρ2 ad1 ad2 nv1 nv2 a b ∧ SameL F1 F2 ρ1 ρ2 ad1 ad2 nv1 nv2 l r
  | _, _ => False
theorem SameL.append : ∀ {a b c d : Ents}, SameL F1 F2 ρ1 ρ2 ad1 ad2 nv1 nv2 a b → SameL F1 F2 ρ1 ρ2 ad1 ad2 nv1 nv2 c d → SameL F1 F2 ρ1 ρ2 ad1 ad2 nv1 nv2 (a ++ c) (b ++ d)
  | [], [], c, d, _, h' => h'
  | [], _ :: _, _, _, h, _ => h.elim
  | _ :: _, [], _, _, h, _ => h.elim
  | a :: l, b :: r, c, d, h, h' => ⟨h.1, SameL.append h.2 h'⟩
theorem SameL.mem : ∀ {a b : Ents}, SameL F1 F2 ρ1 ρ2 ad1 ad2 nv1 nv2 a b → ∀ x ∈ a, ∃ y ∈ b, SameE F1 F2 ρ1 ρ2 ad1 ad2 nv1 nv2 x y
  | [], [], _, x, hx => by cases hx
  | [], _ :: _, h, _, _ => h.elim
  | _ :: _, [], h, _, _ => h.elim
  | a :: l, b :: r, h, x, hx => by
    rcases List.mem_cons.1 hx with rfl | hx
    · exact ⟨b, List.mem_cons_self .., h.1⟩
    · obtain ⟨y, h1, h2⟩ := SameL.mem h.2 x hx
      exact ⟨y, List.mem_cons_of_mem _ h1, h2⟩

mutual
theorem gen_tr (h : Tr B F1 F2 ρ1 ρ2 ad1 ad2 ev1 ev2 nv1 nv2) : ∀ (s : Sh) (g1 g2 : E) (vi ni : Nat), g1.kind = .b → g2.kind = .b → g1.tt F1 ρ1 = g2.tt F2 ρ2 → (∀ i k, s.ks[i]? = some k → (ev1 (vi + i)).kind = k) → ni + s.nn ≤ B → (∀ j ∈ s.refs, j < B) →
    (s.gen ev1 nv1 g1 vi ni).1.conc F1 ρ1 ad1 = (s.gen ev2 nv2 g2 vi ni).1.conc F2 ρ2 ad2 ∧ SameL F1 F2 ρ1 ρ2 ad1 ad2 nv1 nv2 (s.gen ev1 nv1 g1 vi ni).2 (s.gen ev2 nv2 g2 vi ni).2
  | .sc k, g1, g2, vi, ni, _, _, _, hk, hb, hr => ⟨h.val vi, trivial⟩
  | .lt k n, g1, g2, vi, ni, _, _, _, hk, hb, hr => ⟨by simp [Sh.gen, SV.conc, E.val, E.kind, E.tt, E.den], trivial⟩
  | .agg l, g1, g2, vi, ni, k1, k2, hg, hk, hb, hr => by
    obtain ⟨i1, i2⟩ := genL_tr h l g1 g2 vi ni k1 k2 hg hk hb hr
    exact ⟨by simp only [Sh.gen, SV.conc, i1], i2⟩
  | .lst ty row own, g1, g2, vi, ni, k1, k2, hg, hk, hb, hr => by
    have hl := h.len vi
    have hd := h.hd ni (by simp only [Sh.nn] at hb; omega)
    refine ⟨by simp only [Sh.gen, SV.conc, hl, hd], ⟨rfl, hg, ?_, fun Im w => ?_⟩, trivial⟩
    · cases own <;> simp only [mutB, hl, hd]
    · simp only [BlkOK, hl, hd, h.den]
  | .lsn ty row, g1, g2, vi, ni, k1, k2, hg, hk, hb, hr => by
    have hl := h.len vi
    have hd := h.hd ni (by simp only [Sh.nn] at hb; omega)
    refine ⟨by simp only [Sh.gen, SV.conc, hl, hd], ⟨rfl, hg, ?_, fun Im w => ?_⟩, trivial⟩
    · simp only [mutB, hl, hd]
    · simp only [BlkOK, hl, hd, h.den]
  | .obj ty cs, g1, g2, vi, ni, k1, k2, hg, hk, hb, hr => by
    obtain ⟨i1, i2⟩ := genL_tr h cs g1 g2 vi (ni + 1) k1 k2 hg hk (by simp only [Sh.nn] at hb; omega) hr
    have hd := h.hd ni (by simp only [Sh.nn] at hb; omega)
    refine ⟨by simp only [Sh.gen, SV.conc, hd], ⟨rfl, hg, ?_, fun Im w => ?_⟩, i2⟩
    · simp only [mutB, hd]
    · simp only [BlkOK, hd, i1]
  | .ref j, g1, g2, vi, ni, _, _, _, hk, hb, hr => ⟨by simp only [Sh.gen, SV.conc, h.hd j (hr j (by simp [Sh.refs]))], trivial⟩
  | .pin j off str, g1, g2, vi, ni, _, _, _, hk, hb, hr => ⟨by simp only [Sh.gen, SV.conc, h.hd j (hr j (by simp [Sh.refs])), h.den vi], trivial⟩
  | .fnc f cs, g1, g2, vi, ni, k1, k2, hg, hk, hb, hr => by
    obtain ⟨i1, i2⟩ := genL_tr h cs g1 g2 vi ni k1 k2 hg hk hb hr
    exact ⟨by simp only [Sh.gen, SV.conc, i1], i2⟩
  | .nul c, g1, g2, vi, ni, _, _, _, hk, hb, hr => ⟨rfl, trivial⟩
  | .tup l, g1, g2, vi, ni, k1, k2, hg, hk, hb, hr => by
    obtain ⟨i1, i2⟩ := genL_tr h l g1 g2 vi ni k1 k2 hg hk hb hr
    exact ⟨by simp only [Sh.gen, SV.conc, i1], i2⟩
  | .opt s, g1, g2, vi, ni, k1, k2, hg, hk, hb, hr => by
    have a1 := mkAnd_spec g1 (mkNot (ev1 vi)) k1 (mkNot_spec (ev1 vi) F1 ρ1).2 F1 ρ1
    have a2 := mkAnd_spec g2 (mkNot (ev2 vi)) k2 (mkNot_spec (ev2 vi) F2 ρ2).2 F2 ρ2
    obtain ⟨i1, i2⟩ := gen_tr h s (mkAnd g1 (mkNot (ev1 vi))) (mkAnd g2 (mkNot (ev2 vi))) (vi + 1) ni a1.2 a2.2 (by rw [a1.1, a2.1, (mkNot_spec (ev1 vi) F1 ρ1).1, (mkNot_spec (ev2 vi) F2 ρ2).1, hg, h.tt]) (fun i k hi => by
      have := hk (i + 1) k (by simpa [Sh.ks] using hi)
      rwa [show vi + (i + 1) = vi + 1 + i by omega] at this) hb hr
    refine ⟨?_, i2⟩
    simp only [Sh.gen, SV.conc, h.tt, i1]
  | .und, g1, g2, vi, ni, _, _, _, hk, hb, hr => ⟨rfl, trivial⟩
  | .mp ks vs kag vag, g1, g2, vi, ni, k1, k2, hg, hk, hb, hr => by
    have hd := h.hd ni (by simp only [Sh.nn] at hb; omega)
    refine ⟨by simp only [Sh.gen, SV.conc, hd], ⟨rfl, hg, ?_, fun Im w => ?_⟩, trivial⟩
    · simp only [mutB, hd]
    · simp only [BlkOK, hd, h.den]
  | .seg ty ks cs, g1, g2, vi, ni, k1, k2, hg, hk, hb, hr => by
    obtain ⟨i1, i2⟩ := genL_tr h cs g1 g2 (vi + 1) (ni + 1) k1 k2 hg (fun i k hi => by
      have := hk (i + 1) k (by simpa [Sh.ks] using hi)
      rwa [show vi + (i + 1) = vi + 1 + i by omega] at this) (by simp only [Sh.nn] at hb; omega) hr
    have hd := h.hd ni (by simp only [Sh.nn] at hb; omega)
    refine ⟨by simp only [Sh.gen, SV.conc, hd], ⟨rfl, hg, ?_, fun Im w => ?_⟩, i2⟩
    · simp only [mutB, hd]
    · simp only [BlkOK, hd, i1, h.den]
theorem genL_tr (h : Tr B F1 F2 ρ1 ρ2 ad1 ad2 ev1 ev2 nv1 nv2) : ∀ (l : List Sh) (g1 g2 : E) (vi ni : Nat), g1.kind = .b → g2.kind = .b → g1.tt F1 ρ1 = g2.tt F2 ρ2 → (∀ i k, (Sh.ksL l)[i]? = some k → (ev1 (vi + i)).kind = k) → ni + Sh.nnL l ≤ B → (∀ j ∈ Sh.refsL l, j < B) →
    SV.concL F1 ρ1 ad1 (Sh.genL ev1 nv1 l g1 vi ni).1 = SV.concL F2 ρ2 ad2 (Sh.genL ev2 nv2 l g2 vi ni).1 ∧ SameL F1 F2 ρ1 ρ2 ad1 ad2 nv1 nv2 (Sh.genL ev1 nv1 l g1 vi ni).2 (Sh.genL ev2 nv2 l g2 vi ni).2
  | [], g1, g2, vi, ni, _, _, _, _, _, _ => ⟨rfl, trivial⟩
  | s :: r, g1, g2, vi, ni, k1, k2, hg, hk, hb, hr => by
    obtain ⟨i1, i2⟩ := gen_tr h s g1 g2 vi ni k1 k2 hg (fun i k hi => hk i k (by simp only [Sh.ksL]; rw [List.getElem?_append_left (List.getElem?_eq_some_iff.1 hi).1]; exact hi)) (by simp only [Sh.nnL] at hb; omega) fun j hj => hr j (by simp only [Sh.refsL]; exact List.mem_append_left _ hj)
    obtain ⟨j1, j2⟩ := genL_tr h r g1 g2 (vi + s.ks.length) (ni + s.nn) k1 k2 hg (fun i k hi => by
      have := hk (s.ks.length + i) k (by simp only [Sh.ksL]; rw [List.getElem?_append_right (by omega)]; simpa using hi)
      rwa [← Nat.add_assoc] at this) (by simp only [Sh.nnL] at hb; omega) fun j hj => hr j (by simp only [Sh.refsL]; exact List.mem_append_right _ hj)
    exact ⟨by simp only [Sh.genL, SV.concL, i1, j1], i2.append j2⟩
end

/-! ### names that a generic value speaks of -/
mutual
theorem gen_ok {ev : Nat → E} {nv : Nat → Nat} {p : Nat → Prop} : ∀ (s : Sh) (g : E) (vi ni : Nat), (∀ j, ni ≤ j → j < ni + s.nn → p (nv j)) → (∀ j ∈ s.refs, p (nv j)) →
    (s.gen ev nv g vi ni).1.ok p ∧ ∀ x ∈ (s.gen ev nv g vi ni).2, (ni ≤ x.1 ∧ x.1 < ni + s.nn) ∧ SV.okL p x.2.2.cs
  | .sc k, g, vi, ni, hp, hr => ⟨trivial, fun x hx => by cases hx⟩
  | .lt k n, g, vi, ni, hp, hr => ⟨trivial, fun x hx => by cases hx⟩
  | .agg l, g, vi, ni, hp, hr => genL_ok l g vi ni hp hr
  | .lst ty row own, g, vi, ni, hp, hr => ⟨hp _ (Nat.le_refl _) (by simp [Sh.nn]), fun x hx => by simp only [Sh.gen, List.mem_singleton] at hx; subst hx; exact ⟨⟨Nat.le_refl _, by simp [Sh.nn]⟩, trivial⟩⟩
  | .lsn ty row, g, vi, ni, hp, hr => ⟨hp _ (Nat.le_refl _) (by simp [Sh.nn]), fun x hx => by simp only [Sh.gen, List.mem_singleton] at hx; subst hx; exact ⟨⟨Nat.le_refl _, by simp [Sh.nn]⟩, trivial⟩⟩
  | .obj ty cs, g, vi, ni, hp, hr => by
    obtain ⟨i1, i2⟩ := genL_ok (ev := ev) (nv := nv) cs g vi (ni + 1) (fun j h1 h2 => hp j (by omega) (by simp only [Sh.nn]; omega)) hr
    refine ⟨hp _ (Nat.le_refl _) (by simp [Sh.nn]), fun x hx => ?_⟩
    simp only [Sh.gen, List.mem_cons] at hx
    rcases hx with rfl | hx
    · exact ⟨⟨Nat.le_refl _, by simp [Sh.nn]⟩, i1⟩
    · obtain ⟨⟨r1, r2⟩, r3⟩ := i2 x hx
      exact ⟨⟨by omega, by simp only [Sh.nn]; omega⟩, r3⟩
  | .ref j, g, vi, ni, hp, hr => ⟨hr j (by simp [Sh.refs]), fun x hx => by cases hx⟩
  | .pin j off str, g, vi, ni, hp, hr => ⟨hr j (by simp [Sh.refs]), fun x hx => by cases hx⟩
  | .fnc f cs, g, vi, ni, hp, hr => genL_ok cs g vi ni hp hr
  | .nul c, g, vi, ni, hp, hr => ⟨trivial, fun x hx => by cases hx⟩
  | .tup l, g, vi, ni, hp, hr => genL_ok l g vi ni hp hr
  | .opt s, g, vi, ni, hp, hr => by
    obtain ⟨i1, i2⟩ := gen_ok (ev := ev) (nv := nv) s (mkAnd g (mkNot (ev vi))) (vi + 1) ni hp hr
    exact ⟨⟨trivial, i1⟩, i2⟩
  | .und, g, vi, ni, hp, hr => ⟨trivial, fun x hx => by cases hx⟩
  | .mp ks vs kag vag, g, vi, ni, hp, hr => ⟨hp _ (Nat.le_refl _) (by simp [Sh.nn]), fun x hx => by simp only [Sh.gen, List.mem_singleton] at hx; subst hx; exact ⟨⟨Nat.le_refl _, by simp [Sh.nn]⟩, trivial⟩⟩
  | .seg ty ks cs, g, vi, ni, hp, hr => by
    obtain ⟨i1, i2⟩ := genL_ok (ev := ev) (nv := nv) cs g (vi + 1) (ni + 1) (fun j h1 h2 => hp j (by omega) (by simp only [Sh.nn]; omega)) hr
    refine ⟨hp _ (Nat.le_refl _) (by simp [Sh.nn]), fun x hx => ?_⟩
    simp only [Sh.gen, List.mem_cons] at hx
    rcases hx with rfl | hx
    · exact ⟨⟨Nat.le_refl _, by simp [Sh.nn]⟩, i1⟩
    · obtain ⟨⟨r1, r2⟩, r3⟩ := i2 x hx
      exact ⟨⟨by omega, by simp only [Sh.nn]; omega⟩, r3⟩
theorem genL_ok {ev : Nat → E} {nv : Nat → Nat} {p : Nat → Prop} : ∀ (l : List Sh) (g : E) (vi ni : Nat), (∀ j, ni ≤ j → j < ni + Sh.nnL l → p (nv j)) → (∀ j ∈ Sh.refsL l, p (nv j)) →
    SV.okL p (Sh.genL ev nv l g vi ni).1 ∧ ∀ x ∈ (Sh.genL ev nv l g vi ni).2, (ni ≤ x.1 ∧ x.1 < ni + Sh.nnL l) ∧ SV.okL p x.2.2.cs
  | [], g, vi, ni, hp, hr => ⟨trivial, fun x hx => by cases hx⟩
  | s :: r, g, vi, ni, hp, hr => by
    obtain ⟨i1, i2⟩ := gen_ok (ev := ev) (nv := nv) s g vi ni (fun j h1 h2 => hp j h1 (by simp only [Sh.nnL]; omega)) fun j hj => hr j (by simp only [Sh.refsL]; exact List.mem_append_left _ hj)
    obtain ⟨j1, j2⟩ := genL_ok (ev := ev) (nv := nv) r g (vi + s.ks.length) (ni + s.nn) (fun j h1 h2 => hp j (by omega) (by simp only [Sh.nnL]; omega)) fun j hj => hr j (by simp only [Sh.refsL]; exact List.mem_append_right _ hj)
    refine ⟨⟨i1, j1⟩, fun x hx => ?_⟩
    simp only [Sh.genL, List.mem_append] at hx
    rcases hx with hx | hx
    · obtain ⟨⟨r1, r2⟩, r3⟩ := i2 x hx
      exact ⟨⟨r1, by simp only [Sh.nnL]; omega⟩, r3⟩
    · obtain ⟨⟨r1, r2⟩, r3⟩ := j2 x hx
      exact ⟨⟨by omega, by simp only [Sh.nnL]; omega⟩, r3⟩
end
/- Each name of a generic value has its entry. -/
mutual
theorem gen_has {ev : Nat → E} {nv : Nat → Nat} : ∀ (s : Sh) (g : E) (vi ni j : Nat), ni ≤ j → j < ni + s.nn → ∃ x ∈ (s.gen ev nv g vi ni).2, x.1 = j
  | .sc _, g, vi, ni, j, h1, h2 => by simp only [Sh.nn] at h2; omega
  | .lt _ _, g, vi, ni, j, h1, h2 => by simp only [Sh.nn] at h2; omega
  | .agg l, g, vi, ni, j, h1, h2 => genL_has l g vi ni j h1 h2
  | .lst ty row own, g, vi, ni, j, h1, h2 => by simp only [Sh.nn] at h2; exact ⟨_, List.mem_singleton.2 rfl, by show ni = j; omega⟩
  | .lsn ty row, g, vi, ni, j, h1, h2 => by simp only [Sh.nn] at h2; exact ⟨_, List.mem_singleton.2 rfl, by show ni = j; omega⟩
  | .obj ty cs, g, vi, ni, j, h1, h2 => by
    by_cases hj : j = ni
    · exact ⟨_, List.mem_cons_self .., hj.symm⟩
    · obtain ⟨x, x1, x2⟩ := genL_has (ev := ev) (nv := nv) cs g vi (ni + 1) j (by omega) (by simp only [Sh.nn] at h2; omega)
      exact ⟨x, List.mem_cons_of_mem _ x1, x2⟩
  | .ref _, g, vi, ni, j, h1, h2 => by simp only [Sh.nn] at h2; omega
  | .pin _ _ _, g, vi, ni, j, h1, h2 => by simp only [Sh.nn] at h2; omega
  | .fnc f cs, g, vi, ni, j, h1, h2 => genL_has cs g vi ni j h1 h2
  | .nul c, g, vi, ni, j, h1, h2 => by simp only [Sh.nn] at h2; omega
  | .tup l, g, vi, ni, j, h1, h2 => genL_has l g vi ni j h1 h2
  | .opt s, g, vi, ni, j, h1, h2 => gen_has s (mkAnd g (mkNot (ev vi))) (vi + 1) ni j h1 h2
  | .und, g, vi, ni, j, h1, h2 => by simp only [Sh.nn] at h2; omega
  | .mp ks vs kag vag, g, vi, ni, j, h1, h2 => by simp only [Sh.nn] at h2; exact ⟨_, List.mem_singleton.2 rfl, by show ni = j; omega⟩
  | .seg ty ks cs, g, vi, ni, j, h1, h2 => by
    by_cases hj : j = ni
    · exact ⟨_, List.mem_cons_self .., hj.symm⟩
    · obtain ⟨x, x1, x2⟩ := genL_has (ev := ev) (nv := nv) cs g (vi + 1) (ni + 1) j (by omega) (by simp only [Sh.nn] at h2; omega)
      exact ⟨x, List.mem_cons_of_mem _ x1, x2⟩
theorem genL_has {ev : Nat → E} {nv : Nat → Nat} : ∀ (l : List Sh) (g : E) (vi ni j : Nat), ni ≤ j → j < ni + Sh.nnL l → ∃ x ∈ (Sh.genL ev nv l g vi ni).2, x.1 = j
  | [], g, vi, ni, j, h1, h2 => by simp only [Sh.nnL] at h2; omega
  | s :: r, g, vi, ni, j, h1, h2 => by
    by_cases hj : j < ni + s.nn
    · obtain ⟨x, x1, x2⟩ := gen_has (ev := ev) (nv := nv) s g vi ni j h1 hj
      exact ⟨x, List.mem_append_left _ x1, x2⟩
    · obtain ⟨x, x1, x2⟩ := genL_has (ev := ev) (nv := nv) r g (vi + s.ks.length) (ni + s.nn) j (by omega) (by simp only [Sh.nnL] at h2; omega)
      exact ⟨x, List.mem_append_right _ x1, x2⟩
end
end
end Go.Proofs.Ytmolkkphnehgcaa.Ew

/- Whether values and memory have a shape; that what has a shape reads as the shape's generic value. -/
set_option linter.unusedVariables false
set_option linter.unusedSimpArgs false
namespace Go.Proofs.Ytmolkkphnehgcaa.Ew
open Go Go.RowKit

/-- Where a name of a shape comes from. -/
inductive Src where
  | nm (n : Nat)
  | vw (ty : Nat) (row : Row) (v : SV) (V : LV)
  | dm
  | mpn (n : Nat)
  | mpv (v : SV) (ns : List Nat)
  deriving Repr, Inhabited
/-- Each name once. -/
def dd : List Nat → List Nat
  | [] => []
  | n :: r => bif r.contains n then dd r else n :: dd r
theorem mem_dd {n : Nat} : ∀ {l : List Nat}, n ∈ dd l ↔ n ∈ l
  | [] => Iff.rfl
  | k :: r => by
    simp only [dd]
    cases hc : r.contains k
    · simp only [cond_false, List.mem_cons, mem_dd (l := r)]
    · simp only [cond_true, List.mem_cons, mem_dd (l := r)]
      have hk : k ∈ r := by simpa using hc
      exact ⟨Or.inr, fun h => h.elim (fun e => e ▸ hk) id⟩
def Src.ns : Src → List Nat
  | .nm n => [n]
  | .vw _ _ _ V => dd V.ns
  | .dm => []
  | .mpn n => [n]
  | .mpv _ ns => dd ns
def isNm (l : List Src) (j n : Nat) : Bool :=
  match l[j]? with
  | some (.nm k) => k == n
  | _ => false

/-- A pointer that may be nil: when, and what it is otherwise. -/
def optV : SV → Option (E × Option SV)
  | .nilp .nP => some (mkB true, none)
  | .ite c (.nilp .nP) v => some (c, some v)
  | .ite c v (.nilp .nP) => some (mkNot c, some v)
  | .ptr n o => some (mkB false, some (.ptr n o))
  | _ => none
theorem optV_spec {F : Fam} {ρ : Nat → Int} {ad : Nat → Hd} {v : SV} {c : E} {u : Option SV} (h : optV v = some (c, u)) :
    (u = none → v = .nilp .nP ∧ c = mkB true) ∧ ∀ z, u = some z → v.conc F ρ ad = bif c.tt F ρ then .pointer none else z.conc F ρ ad := by
  unfold optV at h
  split at h <;> simp only [Option.some.injEq, Prod.mk.injEq, reduceCtorEq] at h <;> obtain ⟨rfl, rfl⟩ := h
  · exact ⟨fun _ => ⟨rfl, rfl⟩, fun z hz => by cases hz⟩
  · refine ⟨fun hz => (by cases hz), fun z hz => ?_⟩
    simp only [Option.some.injEq] at hz; subst hz
    rfl
  · refine ⟨fun hz => (by cases hz), fun z hz => ?_⟩
    simp only [Option.some.injEq] at hz; subst hz
    simp only [SV.conc, (mkNot_spec _ F ρ).1, CV.val]
    rename_i c _ _
    cases c.tt F ρ <;> rfl
  · refine ⟨fun hz => (by cases hz), fun z hz => ?_⟩
    simp only [Option.some.injEq] at hz; subst hz
    simp

def getLst (m : Mem) (ty : Nat) (row : Row) (own : Bool) (v : SV) : Option (List E × List Src × E) :=
  match viewL m ty row v with
  | some V => if (bif own then V.own else V.sh) = true then some ([V.c], [.vw ty row v V], V.g) else none
  | none => none
def getMp (m : Mem) (ks vs : List K) (kag vag : Bool) (n : Nat) : Option (List E × List Src × E) :=
  match m.at n with
  | some (g, .mp ks' vs' kag' vag' c) => if ks' = ks ∧ vs' = vs ∧ kag' = kag ∧ vag' = vag ∧ c.kind = .x ∧ g.kind = .b then some ([c], [.mpn n], g) else none
  | _ => none
/-- A map that is one of several. -/
def getMpV (m : Mem) (ks vs : List K) (kag vag : Bool) : SV → Option (E × List Nat × E)
  | .mp n => match m.at n with
    | some (g, .mp ks' vs' kag' vag' c) => if ks' = ks ∧ vs' = vs ∧ kag' = kag ∧ vag' = vag ∧ c.kind = .x ∧ g.kind = .b then some (c, [n], g) else none
    | _ => none
  | .ite p a b => match getMpV m ks vs kag vag a, getMpV m ks vs kag vag b with
    | some x, some y => if p.kind = .b then some (mkIte p x.1 y.1, x.2.1 ++ y.2.1, mkIte p x.2.2 y.2.2) else none
    | _, _ => none
  | _ => none
def mpHd (F : Fam) (ρ : Nat → Int) (ad : Nat → Hd) : SV → Hd
  | .mp n => ad n
  | .ite p a b => bif p.tt F ρ then mpHd F ρ ad a else mpHd F ρ ad b
  | _ => default
theorem getMpV_spec {m : Mem} {ks vs : List K} {kag vag : Bool} : ∀ {v : SV} {c : E} {ns : List Nat} {g : E}, getMpV m ks vs kag vag v = some (c, ns, g) → c.kind = .x ∧ g.kind = .b ∧ ∀ (F : Fam) (ρ : Nat → Int) (ad : Nat → Hd), g.tt F ρ = true →
    ∃ n ∈ ns, ∃ g' c', m.at n = some (g', .mp ks vs kag vag c') ∧ g'.tt F ρ = true ∧ c.den F ρ = c'.den F ρ ∧ mpHd F ρ ad v = ad n ∧ v.conc F ρ ad = .map (some (ad n).blk)
  | .mp n, c, ns, g, h => by
    simp only [getMpV] at h
    split at h
    · rename_i g' ks' vs' kag' vag' c' hn
      split at h
      · rename_i hc
        obtain ⟨rfl, rfl, rfl, rfl, h5, h6⟩ := hc
        simp only [Option.some.injEq, Prod.mk.injEq] at h
        obtain ⟨rfl, rfl, rfl⟩ := h
        exact ⟨h5, h6, fun F ρ ad hg => ⟨n, by simp, _, _, hn, hg, rfl, rfl, rfl⟩⟩
      · cases h
    · cases h
  | .ite p a b, c, ns, g, h => by
    simp only [getMpV] at h
    split at h
    · rename_i x y hx hy
      split at h
      · rename_i hp
        simp only [Option.some.injEq, Prod.mk.injEq] at h
        obtain ⟨rfl, rfl, rfl⟩ := h
        obtain ⟨x1, x2, x3⟩ := getMpV_spec (c := x.1) (ns := x.2.1) (g := x.2.2) hx
        obtain ⟨y1, y2, y3⟩ := getMpV_spec (c := y.1) (ns := y.2.1) (g := y.2.2) hy
        refine ⟨(mkIte_x (F := fun _ _ _ => 0) (ρ := fun _ => 0) hp x1 y1).1, (mkIte_b (F := fun _ _ _ => 0) (ρ := fun _ => 0) hp x2 y2).1, fun F ρ ad hg => ?_⟩
        rw [(mkIte_b hp x2 y2).2] at hg
        have hd := (mkIte_x (F := F) (ρ := ρ) hp x1 y1).2
        cases hpt : p.tt F ρ
        · rw [hpt] at hg hd
          obtain ⟨n, hn, g', c', q1, q2, q3, q4, q5⟩ := y3 F ρ ad hg
          exact ⟨n, List.mem_append_right _ hn, g', c', q1, q2, hd.trans q3, by simp only [mpHd, hpt, cond_false, q4], by simp only [SV.conc, hpt, cond_false, q5]⟩
        · rw [hpt] at hg hd
          obtain ⟨n, hn, g', c', q1, q2, q3, q4, q5⟩ := x3 F ρ ad hg
          exact ⟨n, List.mem_append_left _ hn, g', c', q1, q2, hd.trans q3, by simp only [mpHd, hpt, cond_true, q4], by simp only [SV.conc, hpt, cond_true, q5]⟩
      · cases h
    · cases h
  | .sc _, _, _, _, h | .ptr .., _, _, _, h | .pi .., _, _, _, h | .sl .., _, _, _, h | .ls .., _, _, _, h | .sv .., _, _, _, h | .pe .., _, _, _, h | .nilp _, _, _, _, h | .oq .., _, _, _, h | .fn .., _, _, _, h | .agg .., _, _, _, h | .tup .., _, _, _, h | .gd .., _, _, _, h | .und, _, _, _, h | .gl .., _, _, _, h => by simp [getMpV] at h
theorem getMpV_loc {m m2 : Mem} {ks vs : List K} {kag vag : Bool} : ∀ {v : SV} {r : E × List Nat × E}, getMpV m ks vs kag vag v = some r → (∀ n ∈ r.2.1, m2.at n = m.at n) → getMpV m2 ks vs kag vag v = some r
  | .mp n, r, h, ha => by
    have h0 := h
    simp only [getMpV] at h ⊢
    split at h
    · rename_i g' ks' vs' kag' vag' c' hn
      split at h
      · rename_i hc
        simp only [Option.some.injEq] at h; subst h
        have := ha n (by simp)
        rw [this, hn]
        simp only
        rw [if_pos hc]
      · cases h
    · cases h
  | .ite p a b, r, h, ha => by
    simp only [getMpV] at h ⊢
    split at h
    · rename_i x y hx hy
      split at h
      · rename_i hp
        simp only [Option.some.injEq] at h; subst h
        rw [getMpV_loc hx fun n hn => ha n (List.mem_append_left _ hn), getMpV_loc hy fun n hn => ha n (List.mem_append_right _ hn)]
        simp only [if_pos hp]
      · cases h
    · cases h
  | .sc _, _, h, _ | .ptr .., _, h, _ | .pi .., _, h, _ | .sl .., _, h, _ | .ls .., _, h, _ | .sv .., _, h, _ | .pe .., _, h, _ | .nilp _, _, h, _ | .oq .., _, h, _ | .fn .., _, h, _ | .agg .., _, h, _ | .tup .., _, h, _ | .gd .., _, h, _ | .und, _, h, _ | .gl .., _, h, _ => by simp [getMpV] at h
def getMpI (m : Mem) (ks vs : List K) (kag vag : Bool) (v : SV) : Option (List E × List Src × E) := (getMpV m ks vs kag vag v).map fun r => ([r.1], [.mpv v r.2.1], r.2.2)
def blkS (m : Mem) (n : Nat) : Option (E × Nat × List SV × List K × E) :=
  match m.at n with
  | some (g, .seg ty cs ks c) => if g.kind = .b ∧ c.kind = .x then some (g, ty, cs, ks, c) else none
  | _ => none
theorem blkS_spec {m : Mem} {n : Nat} {g : E} {ty : Nat} {cs : List SV} {ks : List K} {c : E} (h : blkS m n = some (g, ty, cs, ks, c)) : m.at n = some (g, .seg ty cs ks c) ∧ g.kind = .b ∧ c.kind = .x := by
  unfold blkS at h
  split at h
  · rename_i g' ty' cs' ks' c' hn
    split at h
    · rename_i hk
      simp only [Option.some.injEq, Prod.mk.injEq] at h
      obtain ⟨rfl, rfl, rfl, rfl, rfl⟩ := h
      exact ⟨hn, hk⟩
    · cases h
  · cases h
theorem getMp_spec {m : Mem} {ks vs : List K} {kag vag : Bool} {n : Nat} {r : List E × List Src × E} (h : getMp m ks vs kag vag n = some r) : ∃ g c, m.at n = some (g, .mp ks vs kag vag c) ∧ r = ([c], [.mpn n], g) ∧ c.kind = .x ∧ g.kind = .b := by
  unfold getMp at h
  split at h
  · rename_i g ks' vs' kag' vag' c hn
    split at h
    · rename_i hc
      obtain ⟨rfl, rfl, rfl, rfl, h5, h6⟩ := hc
      simp only [Option.some.injEq] at h
      exact ⟨g, c, hn, h.symm, h5, h6⟩
    · cases h
  · cases h
def getOpt (d : List E × List Src × E) (v : SV) (f : SV → Option (List E × List Src × E)) : Option (List E × List Src × E) :=
  match optV v with
  | some (_, none) => some d
  | some (c, some u) => if c.kind = .b ∧ c.sound = true then (f u).map fun r => (c :: r.1, r.2.1, mkOr c r.2.2) else none
  | none => none
/-- An own list by its name. -/
def getLsn (m : Mem) (ty : Nat) (row : Row) : SV → Option (List E × List Src × E)
  | .ls n le => match m.at n with
    | some (g, .lst ty' row' true le' c) => if ty' = ty ∧ row' = row ∧ le.same le' = true ∧ c.kind = .x ∧ le'.kind = .i .i64 ∧ g.kind = .b then some ([c], [.nm n], g) else none
    | _ => none
  | _ => none
theorem getLsn_spec {m : Mem} {ty : Nat} {row : Row} {v : SV} {r : List E × List Src × E} (h : getLsn m ty row v = some r) : ∃ n le g c, v = .ls n le ∧ m.at n = some (g, .lst ty row true le c) ∧ r = ([c], [.nm n], g) ∧ c.kind = .x ∧ le.kind = .i .i64 ∧ g.kind = .b := by
  cases v <;> simp only [getLsn, reduceCtorEq] at h
  split at h
  · rename_i n le _ g' ty' row' le' c' hn
    split at h
    · rename_i hc
      obtain ⟨rfl, rfl, h3, h4, h5, h6⟩ := hc
      have hle := E.same_eq _ _ h3
      subst hle
      simp only [Option.some.injEq] at h
      exact ⟨n, _, g', c', rfl, hn, h.symm, h4, h5, h6⟩
    · cases h
  · cases h
mutual
def Sh.get (m : Mem) : Sh → List Src → SV → Option (List E × List Src × E)
  | .sc k, _, .sc e => if e.kind = k ∧ e.sound = true then some ([e], [], mkB true) else none
  | .lt k n, _, .sc (.lit k' n') => if k = k' ∧ n = n' then some ([], [], mkB true) else none
  | .agg l, acc, .agg vs => Sh.getL m l acc vs
  | .lst ty row own, _, v => getLst m ty row own v
  | .lsn ty row, _, v => getLsn m ty row v
  | .obj ty cs, acc, .ptr n 0 => match blkC m n with
    | some (g, ty', vs) => if ty' = ty then (Sh.getL m cs (acc ++ [.nm n]) vs).map fun r => (r.1, .nm n :: r.2.1, mkAnd g r.2.2) else none
    | none => none
  | .ref j, acc, .ptr n 0 => if isNm acc j n = true then some ([], [], mkB true) else none
  | .pin j off str, acc, .pi n off' str' e => if isNm acc j n = true ∧ off' = off ∧ str' = str ∧ e.kind = .i .i64 ∧ e.sound = true then some ([e], [], mkB true) else none
  | .fnc f l, acc, .fn f' vs => if f = f' then Sh.getL m l acc vs else none
  | .nul c, _, .nilp c' => if c = c' then some ([], [], mkB true) else none
  | .tup l, acc, .tup vs => Sh.getL m l acc vs
  | .opt s, acc, v => getOpt (mkB true :: s.ks.map fun k => .lit k 0, List.replicate s.nn .dm, mkB true) v fun u => s.get m acc u
  | .und, _, .und => some ([], [], mkB true)
  | .mp ks vs kag vag, _, .mp n => getMp m ks vs kag vag n
  | .mp ks vs kag vag, _, .ite p a b => getMpI m ks vs kag vag (.ite p a b)
  | .seg ty ks cs, acc, .ptr n 0 => match blkS m n with
    | some (g, ty', vs, ks', c) => if ty' = ty ∧ ks' = ks then (Sh.getL m cs (acc ++ [.nm n]) vs).map fun r => (c :: r.1, .nm n :: r.2.1, mkAnd g r.2.2) else none
    | none => none
  | _, _, _ => none
def Sh.getL (m : Mem) : List Sh → List Src → List SV → Option (List E × List Src × E)
  | [], _, [] => some ([], [], mkB true)
  | s :: l, acc, v :: vs => match s.get m acc v with
    | some (es, ns, g) => (Sh.getL m l (acc ++ ns) vs).map fun r => (es ++ r.1, ns ++ r.2.1, mkAnd g r.2.2)
    | none => none
  | _, _, _ => none
end

open Classical in
noncomputable def srcHd (F : Fam) (ρ : Nat → Int) (w : World) (Im : Nat → Prop) (ad : Nat → Hd) (m : Mem) : Src → Hd
  | .nm n => ad n
  | .vw ty row v V => if h : ∃ hd, LVok F ρ w Im ad m ty row v V hd then h.choose else default
  | .dm => default
  | .mpn n => ad n
  | .mpv v _ => mpHd F ρ ad v

section
variable {F : Fam} {ρ ρ' : Nat → Int} {w0 w : World} {M0 Im : Nat → Prop} {ad hs : Nat → Hd} {m : Mem} {ev : Nat → E}

/-- The entries of a generic value hold, and what they allow to write is what the memory's own names allow. -/
structure EntOK (F : Fam) (ρ : Nat → Int) (ρ' : Nat → Int) (w : World) (Im : Nat → Prop) (ad hs : Nat → Hd) (m : Mem) (S : List Src) (src : Nat → List Nat) (x : Nat × E × Blk) : Prop where
  ok : BlkOK F0 ρ' Im hs x.1 w x.2.2
  mu : ∀ b, mutB F0 ρ' hs x.1 x.2.2 = some b → ∃ n ∈ src x.1, ∃ g y, m.at n = some (g, y) ∧ g.tt F ρ = true ∧ mutB F ρ ad n y = some b
  nm : ∀ n, S[x.1]? = some (.nm n) → (∃ ty cs, x.2.2 = .cells ty cs) ∨ (∃ ty cs ks c, x.2.2 = .seg ty cs ks c) ∨ ∃ ty row le c g' le' c', x.2.2 = .lst ty row true le c ∧ m.at n = some (g', .lst ty row true le' c') ∧ c.den F0 ρ' = c'.den F ρ ∧ le.den F0 ρ' = le'.den F ρ ∧ hs x.1 = ad n
  mp : ∀ n, S[x.1]? = some (.mpn n) → ∃ ks vs kag vag c g c', x.2.2 = .mp ks vs kag vag c ∧ m.at n = some (g, .mp ks vs kag vag c') ∧ c.den F0 ρ' = c'.den F ρ
  mv : ∀ v ns, S[x.1]? = some (.mpv v ns) → ∃ ks vs kag vag c n g c', x.2.2 = .mp ks vs kag vag c ∧ m.at n = some (g, .mp ks vs kag vag c') ∧ g.tt F ρ = true ∧ c.den F0 ρ' = c'.den F ρ ∧ hs x.1 = ad n
  vw : ∀ ty row v V, S[x.1]? = some (.vw ty row v V) → ∃ own le c, x.2.2 = .lst ty row own le c ∧ viewL m ty row v = some V ∧ c.den F0 ρ' = V.c.den F ρ ∧ v.conc F ρ ad = (hs x.1).sl (dc (V.c.den F ρ)).length ∧ V.g.tt F ρ = true ∧ (own = true → V.own = true)

def EvOK (F : Fam) (ρ ρ' : Nat → Int) (ev : Nat → E) (vi : Nat) (es : List E) : Prop := ∀ i e, es[i]? = some e → (ev (vi + i)).den F0 ρ' = e.den F ρ ∧ (ev (vi + i)).kind = e.kind

theorem EvOK.left {vi : Nat} {a b : List E} (h : EvOK F ρ ρ' ev vi (a ++ b)) : EvOK F ρ ρ' ev vi a := fun i e hi => h i e (by rw [List.getElem?_append_left (List.getElem?_eq_some_iff.1 hi).1]; exact hi)
theorem EvOK.right {vi : Nat} {a b : List E} (h : EvOK F ρ ρ' ev vi (a ++ b)) : EvOK F ρ ρ' ev (vi + a.length) b := fun i e hi => by
  have := h (a.length + i) e (by rw [List.getElem?_append_right (by omega)]; simpa using hi)
  rwa [← Nat.add_assoc] at this
theorem EvOK.tail {vi : Nat} {a : E} {b : List E} (h : EvOK F ρ ρ' ev vi (a :: b)) : EvOK F ρ ρ' ev (vi + 1) b := EvOK.right (a := [a]) h
theorem EvOK.head {vi : Nat} {a : E} {b : List E} (h : EvOK F ρ ρ' ev vi (a :: b)) : (ev vi).den F0 ρ' = a.den F ρ ∧ (ev vi).kind = a.kind := h 0 a rfl
theorem EvOK.val {vi : Nat} {a : E} {b : List E} (h : EvOK F ρ ρ' ev vi (a :: b)) : (ev vi).val F0 ρ' = a.val F ρ := by
  obtain ⟨h1, h2⟩ := h.head
  rw [← val_of_kind, ← val_of_kind, h1, h2]
theorem EvOK.tt {vi : Nat} {a : E} {b : List E} (h : EvOK F ρ ρ' ev vi (a :: b)) : (ev vi).tt F0 ρ' = a.tt F ρ := by unfold E.tt; rw [h.head.1]

/-- The lengths and kinds of what is got. -/
theorem E_kinds_append {a b : List E} {ks ls : List K} (h : a.map E.kind = ks) (h' : b.map E.kind = ls) : (a ++ b).map E.kind = ks ++ ls := by rw [List.map_append, h, h']

mutual
theorem get_kinds : ∀ (s : Sh) (acc : List Src) (v : SV) (r : List E × List Src × E), s.get m acc v = some r → r.1.map E.kind = s.ks ∧ r.2.1.length = s.nn ∧ r.2.2.kind = .b ∧ ∀ e ∈ r.1, e.kind ≠ .x → e.sound = true
  | .sc k, acc, v, r, h => by
    cases v <;> simp only [Sh.get, reduceCtorEq] at h
    split at h
    · rename_i hc
      simp only [Option.some.injEq] at h; subst h
      exact ⟨by simp [Sh.ks, hc.1], rfl, rfl, fun e he => by simp at he; subst he; exact fun _ => hc.2⟩
    · cases h
  | .lt k n, acc, v, r, h => by
    cases v with
    | sc e =>
      cases e <;> simp only [Sh.get, reduceCtorEq] at h
      split at h
      · simp only [Option.some.injEq] at h; subst h
        exact ⟨rfl, rfl, rfl, fun e he => by simp at he⟩
      · cases h
    | _ => simp [Sh.get] at h
  | .agg l, acc, v, r, h => by
    cases v <;> simp only [Sh.get, reduceCtorEq] at h
    exact getL_kinds l acc _ r h
  | .lst ty row own, acc, v, r, h => by
    have h' : getLst m ty row own v = some r := by cases v <;> simpa only [Sh.get] using h
    unfold getLst at h'
    split at h'
    · rename_i V hV
      split at h'
      · simp only [Option.some.injEq] at h'; subst h'
        obtain ⟨k1, k2, k3⟩ := viewL_kind hV
        exact ⟨by simp [Sh.ks, k2], rfl, k3, fun e he hx => by simp at he; subst he; exact (hx k2).elim⟩
      · cases h'
    · cases h'
  | .lsn ty row, acc, v, r, h => by
    have h' : getLsn m ty row v = some r := by cases v <;> simpa only [Sh.get] using h
    obtain ⟨n, le, g, c, rfl, hn, rfl, h3, h4, h5⟩ := getLsn_spec h'
    exact ⟨by simp [Sh.ks, h3], rfl, h5, fun e he hx => by simp at he; subst he; exact (hx h3).elim⟩
  | .obj ty cs, acc, v, r, h => by
    cases v with
    | ptr n o =>
      cases o with
      | zero =>
        simp only [Sh.get] at h
        split at h
        · rename_i g ty' vs hb
          split at h
          · obtain ⟨q, hq, rfl⟩ := Option.map_eq_some_iff.1 h
            obtain ⟨i1, i2, i3, i4⟩ := getL_kinds cs _ _ q hq
            exact ⟨i1, by simp [Sh.nn, i2], (mkAnd_spec g q.2.2 (blkC_spec hb).2 i3 (fun _ _ _ => 0) fun _ => 0).2, i4⟩
          · cases h
        · cases h
      | succ o => simp [Sh.get] at h
    | _ => simp [Sh.get] at h
  | .pin j off str, acc, v, r, h => by
    cases v <;> simp only [Sh.get, reduceCtorEq] at h
    split at h
    · rename_i hc
      simp only [Option.some.injEq] at h; subst h
      exact ⟨by simp [Sh.ks, hc.2.2.2.1], rfl, rfl, fun e he => by simp at he; subst he; exact fun _ => hc.2.2.2.2⟩
    · cases h
  | .ref j, acc, v, r, h => by
    cases v with
    | ptr n o =>
      cases o with
      | zero =>
        simp only [Sh.get] at h
        split at h
        · simp only [Option.some.injEq] at h; subst h
          exact ⟨rfl, rfl, rfl, fun e he => by simp at he⟩
        · cases h
      | succ o => simp [Sh.get] at h
    | _ => simp [Sh.get] at h
  | .fnc f l, acc, v, r, h => by
    cases v <;> simp only [Sh.get, reduceCtorEq] at h
    split at h
    · exact getL_kinds l acc _ r h
    · cases h
  | .nul c, acc, v, r, h => by
    cases v <;> simp only [Sh.get, reduceCtorEq] at h
    split at h
    · simp only [Option.some.injEq] at h; subst h
      exact ⟨rfl, rfl, rfl, fun e he => by simp at he⟩
    · cases h
  | .tup l, acc, v, r, h => by
    cases v <;> simp only [Sh.get, reduceCtorEq] at h
    exact getL_kinds l acc _ r h
  | .opt s, acc, v, r, h => by
    have h' : getOpt (mkB true :: s.ks.map fun k => E.lit k 0, List.replicate s.nn Src.dm, mkB true) v (fun u => s.get m acc u) = some r := by cases v <;> simpa only [Sh.get] using h
    unfold getOpt at h'
    split at h'
    · simp only [Option.some.injEq] at h'; subst h'
      refine ⟨by simp [Sh.ks, E.kind, Function.comp_def], by simp [Sh.nn], rfl, fun e he hx => ?_⟩
      rcases List.mem_cons.1 he with rfl | he
      · rfl
      · obtain ⟨k, _, rfl⟩ := List.mem_map.1 he; rfl
    · rename_i c u ho
      split at h'
      · rename_i hc
        obtain ⟨q, hq, rfl⟩ := Option.map_eq_some_iff.1 h'
        obtain ⟨i1, i2, i3, i4⟩ := get_kinds s acc u q hq
        refine ⟨by simp [Sh.ks, hc.1, i1], i2, (mkOr_spec c q.2.2 hc.1 i3 (fun _ _ _ => 0) fun _ => 0).2, fun e he hx => ?_⟩
        rcases List.mem_cons.1 he with rfl | he
        · exact hc.2
        · exact i4 e he hx
      · cases h'
    · cases h'
  | .und, acc, v, r, h => by
    cases v <;> simp only [Sh.get, reduceCtorEq] at h
    simp only [Option.some.injEq] at h; subst h
    exact ⟨rfl, rfl, rfl, fun e he => by simp at he⟩
  | .mp ks vs kag vag, acc, v, r, h => by
    cases v <;> simp only [Sh.get, reduceCtorEq] at h
    case mp n =>
      obtain ⟨g, c, h1, rfl, h3, h4⟩ := getMp_spec h
      exact ⟨by simp [Sh.ks, h3], rfl, h4, fun e he hx => by simp at he; subst he; exact (hx h3).elim⟩
    case ite p a b =>
      obtain ⟨⟨c, ns, g⟩, h1, rfl⟩ := Option.map_eq_some_iff.1 h
      obtain ⟨h3, h4, _⟩ := getMpV_spec h1
      exact ⟨by simp [Sh.ks, h3], rfl, h4, fun e he hx => by simp at he; subst he; exact (hx h3).elim⟩
  | .seg ty ks cs, acc, v, r, h => by
    cases v with
    | ptr n o =>
      cases o with
      | zero =>
        simp only [Sh.get] at h
        split at h
        · rename_i g ty' vs ks' c hb
          split at h
          · obtain ⟨q, hq, rfl⟩ := Option.map_eq_some_iff.1 h
            obtain ⟨b1, b2, b3⟩ := blkS_spec hb
            obtain ⟨i1, i2, i3, i4⟩ := getL_kinds cs _ _ q hq
            refine ⟨by simp [Sh.ks, b3, i1], by simp [Sh.nn, i2], (mkAnd_spec g q.2.2 b2 i3 (fun _ _ _ => 0) fun _ => 0).2, fun e he hx => ?_⟩
            rcases List.mem_cons.1 he with rfl | he
            · exact (hx b3).elim
            · exact i4 e he hx
          · cases h
        · cases h
      | succ o => simp [Sh.get] at h
    | _ => simp [Sh.get] at h
theorem getL_kinds : ∀ (l : List Sh) (acc : List Src) (vs : List SV) (r : List E × List Src × E), Sh.getL m l acc vs = some r → r.1.map E.kind = Sh.ksL l ∧ r.2.1.length = Sh.nnL l ∧ r.2.2.kind = .b ∧ ∀ e ∈ r.1, e.kind ≠ .x → e.sound = true
  | [], acc, [], r, h => by simp only [Sh.getL, Option.some.injEq] at h; subst h; exact ⟨rfl, rfl, rfl, fun e he => by simp at he⟩
  | [], acc, _ :: _, r, h => by simp [Sh.getL] at h
  | _ :: _, acc, [], r, h => by simp [Sh.getL] at h
  | s :: l, acc, v :: vs, r, h => by
    simp only [Sh.getL] at h
    split at h
    · rename_i es ns g hs
      obtain ⟨q, hq, rfl⟩ := Option.map_eq_some_iff.1 h
      obtain ⟨i1, i2, i3, i4⟩ := get_kinds s acc v _ hs
      obtain ⟨j1, j2, j3, j4⟩ := getL_kinds l _ vs q hq
      refine ⟨E_kinds_append i1 j1, by simp [Sh.nnL, j2]; exact i2, (mkAnd_spec g q.2.2 i3 j3 (fun _ _ _ => 0) fun _ => 0).2, fun e he hx => ?_⟩
      rcases List.mem_append.1 he with he | he
      · exact i4 e he hx
      · exact j4 e he hx
    · cases h
end
end
end Go.Proofs.Ytmolkkphnehgcaa.Ew

/- That what has a shape reads as the shape's generic value. -/
set_option linter.unusedVariables false
set_option linter.unusedSimpArgs false
namespace Go.Proofs.Ytmolkkphnehgcaa.Ew
open Go Go.RowKit

def srcOf (S : List Src) (j : Nat) : List Nat := match S[j]? with | some s => s.ns | none => []

section
variable {F : Fam} {ρ ρ' : Nat → Int} {w0 w : World} {M0 Im : Nat → Prop} {ad hs : Nat → Hd} {m : Mem} {ev : Nat → E} {S : List Src}

mutual
theorem gen_guard {nv : Nat → Nat} : ∀ (s : Sh) (g : E) (vi ni : Nat), g.kind = .b → (∀ i k, s.ks[i]? = some k → (ev (vi + i)).kind = k) → ∀ x ∈ (s.gen ev nv g vi ni).2, x.2.1.kind = .b ∧ (x.2.1.tt F ρ = true → g.tt F ρ = true)
  | .sc k, g, vi, ni, hg, hk, x, hx => by cases hx
  | .lt k n, g, vi, ni, hg, hk, x, hx => by cases hx
  | .agg l, g, vi, ni, hg, hk, x, hx => genL_guard l g vi ni hg hk x hx
  | .lst ty row own, g, vi, ni, hg, hk, x, hx => by simp only [Sh.gen, List.mem_singleton] at hx; subst hx; exact ⟨hg, fun h => h⟩
  | .lsn ty row, g, vi, ni, hg, hk, x, hx => by simp only [Sh.gen, List.mem_singleton] at hx; subst hx; exact ⟨hg, fun h => h⟩
  | .obj ty cs, g, vi, ni, hg, hk, x, hx => by
    simp only [Sh.gen, List.mem_cons] at hx
    rcases hx with rfl | hx
    · exact ⟨hg, fun h => h⟩
    · exact genL_guard cs g vi (ni + 1) hg hk x hx
  | .ref j, g, vi, ni, hg, hk, x, hx => by cases hx
  | .pin j off str, g, vi, ni, hg, hk, x, hx => by cases hx
  | .fnc f cs, g, vi, ni, hg, hk, x, hx => genL_guard cs g vi ni hg hk x hx
  | .nul c, g, vi, ni, hg, hk, x, hx => by cases hx
  | .tup l, g, vi, ni, hg, hk, x, hx => genL_guard l g vi ni hg hk x hx
  | .opt s, g, vi, ni, hg, hk, x, hx => by
    have a := mkAnd_spec g (mkNot (ev vi)) hg (mkNot_spec (ev vi) F ρ).2 F ρ
    obtain ⟨i1, i2⟩ := gen_guard s (mkAnd g (mkNot (ev vi))) (vi + 1) ni a.2 (fun i k hi => by
      have := hk (i + 1) k (by simpa [Sh.ks] using hi)
      rwa [show vi + (i + 1) = vi + 1 + i by omega] at this) x hx
    refine ⟨i1, fun h => ?_⟩
    have := i2 h
    rw [a.1, Bool.and_eq_true] at this
    exact this.1
  | .und, g, vi, ni, hg, hk, x, hx => by cases hx
  | .mp ks vs kag vag, g, vi, ni, hg, hk, x, hx => by simp only [Sh.gen, List.mem_singleton] at hx; subst hx; exact ⟨hg, fun h => h⟩
  | .seg ty ks cs, g, vi, ni, hg, hk, x, hx => by
    simp only [Sh.gen, List.mem_cons] at hx
    rcases hx with rfl | hx
    · exact ⟨hg, fun h => h⟩
    · exact genL_guard cs g (vi + 1) (ni + 1) hg (fun i k hi => by
        have := hk (i + 1) k (by simpa [Sh.ks] using hi)
        rwa [show vi + (i + 1) = vi + 1 + i by omega] at this) x hx
theorem genL_guard {nv : Nat → Nat} : ∀ (l : List Sh) (g : E) (vi ni : Nat), g.kind = .b → (∀ i k, (Sh.ksL l)[i]? = some k → (ev (vi + i)).kind = k) → ∀ x ∈ (Sh.genL ev nv l g vi ni).2, x.2.1.kind = .b ∧ (x.2.1.tt F ρ = true → g.tt F ρ = true)
  | [], g, vi, ni, hg, hk, x, hx => by cases hx
  | s :: r, g, vi, ni, hg, hk, x, hx => by
    simp only [Sh.genL, List.mem_append] at hx
    rcases hx with hx | hx
    · exact gen_guard s g vi ni hg (fun i k hi => hk i k (by simp only [Sh.ksL]; rw [List.getElem?_append_left (List.getElem?_eq_some_iff.1 hi).1]; exact hi)) x hx
    · exact genL_guard r g (vi + s.ks.length) (ni + s.nn) hg (fun i k hi => by
        have := hk (s.ks.length + i) k (by simp only [Sh.ksL]; rw [List.getElem?_append_right (by omega)]; simpa using hi)
        rwa [← Nat.add_assoc] at this) x hx
end

theorem EvOK.kinds {vi : Nat} {es : List E} {ks : List K} (h : EvOK F ρ ρ' ev vi es) (hk : es.map E.kind = ks) : ∀ i k, ks[i]? = some k → (ev (vi + i)).kind = k := fun i k hi => by
  subst hk
  rw [List.getElem?_map] at hi
  obtain ⟨e, h1, h2⟩ := Option.map_eq_some_iff.1 hi
  rw [(h i e h1).2, h2]

/-- A list of sources lies at a place. -/
def SrcAt (S : List Src) (ni : Nat) (ns : List Src) : Prop := ∀ j s, ns[j]? = some s → S[ni + j]? = some s
theorem SrcAt.left {ni : Nat} {a b : List Src} (h : SrcAt S ni (a ++ b)) : SrcAt S ni a := fun j s hj => h j s (by rw [List.getElem?_append_left (List.getElem?_eq_some_iff.1 hj).1]; exact hj)
theorem SrcAt.right {ni : Nat} {a b : List Src} (h : SrcAt S ni (a ++ b)) : SrcAt S (ni + a.length) b := fun j s hj => by
  have := h (a.length + j) s (by rw [List.getElem?_append_right (by omega)]; simpa using hj)
  rwa [← Nat.add_assoc] at this
theorem SrcAt.both {a b : List Src} (h : SrcAt S 0 a) (h' : SrcAt S a.length b) : SrcAt S 0 (a ++ b) := fun j s hj => by
  by_cases hl : j < a.length
  · rw [List.getElem?_append_left hl] at hj; exact h j s hj
  · rw [List.getElem?_append_right (by omega)] at hj
    have := h' _ s hj
    rwa [show a.length + (j - a.length) = 0 + j by omega] at this

mutual
theorem shget_spec (hB : BI F) (hI : RelI F ρ w0 M0 Im ad m w) (hS : ∀ j s, S[j]? = some s → hs j = srcHd F ρ w Im ad m s) : ∀ (s : Sh) (acc : List Src) (v : SV) (r : List E × List Src × E) (gd : E) (vi : Nat), s.get m acc v = some r → gd.kind = .b →
    SrcAt S 0 acc → SrcAt S acc.length r.2.1 → EvOK F ρ ρ' ev vi r.1 → r.2.2.tt F ρ = true →
    v.conc F ρ ad = (s.gen ev id gd vi acc.length).1.conc F0 ρ' hs ∧ ∀ x ∈ (s.gen ev id gd vi acc.length).2, x.2.1.tt F0 ρ' = true → EntOK F ρ ρ' w Im ad hs m S (srcOf S) x
  | .sc k, acc, v, r, gd, vi, h, hgd, hA, hs1, hev, hg => by
    cases v <;> simp only [Sh.get, reduceCtorEq] at h
    split at h
    · simp only [Option.some.injEq] at h; subst h
      exact ⟨by simp only [SV.conc, Sh.gen]; exact hev.val.symm, fun x hx => by cases hx⟩
    · cases h
  | .lt k n, acc, v, r, gd, vi, h, hgd, hA, hs1, hev, hg => by
    cases v with
    | sc e =>
      cases e <;> simp only [Sh.get, reduceCtorEq] at h
      split at h
      · rename_i hc
        obtain ⟨rfl, rfl⟩ := hc
        refine ⟨?_, fun x hx => by cases hx⟩
        simp [SV.conc, Sh.gen, E.val, E.kind, E.tt, E.den]
      · cases h
    | _ => simp [Sh.get] at h
  | .agg l, acc, v, r, gd, vi, h, hgd, hA, hs1, hev, hg => by
    cases v <;> simp only [Sh.get, reduceCtorEq] at h
    obtain ⟨i1, i2⟩ := shgetL_spec hB hI hS l acc _ r gd vi h hgd hA hs1 hev hg
    exact ⟨by simp only [SV.conc, Sh.gen, i1], i2⟩
  | .lst ty row own, acc, v, r, gd, vi, h, hgd, hA, hs1, hev, hg => by
    have h' : getLst m ty row own v = some r := by cases v <;> simpa only [Sh.get] using h
    unfold getLst at h'
    split at h'
    · rename_i V hV
      split at h'
      · rename_i ho
        simp only [Option.some.injEq] at h'; subst h'
        simp only at hg hev hs1
        have hex := viewL_spec hB hI hV hg
        have hhd : hs acc.length = hex.choose := by
          have := hS _ _ (hs1 0 _ rfl)
          simp only [Nat.add_zero] at this
          rw [this]
          simp only [srcHd, dif_pos hex]
        obtain ⟨o1, o2, o3, o4, o5, o6, o7⟩ := hex.choose_spec
        rw [← hhd] at o1 o4 o5 o6 o7
        have hden := hev.head.1
        have hlen : (LEN (ev vi)).den F0 ρ' = ((dc (V.c.den F ρ)).length : Int) := by rw [BI_F0.len, hden, wrap_len o4.1]
        refine ⟨by simp only [Sh.gen, SV.conc, hlen, Int.toNat_natCast, id]; exact o1, fun x hx _ => ?_⟩
        simp only [Sh.gen, List.mem_singleton] at hx
        subst hx
        have hS0 : S[acc.length]? = some (Src.vw ty row v V) := by
          have := hs1 0 _ rfl
          simpa only [Nat.add_zero] using this
        refine ⟨⟨by rw [hden]; exact o2, by rw [hlen, hden], ?_⟩, fun b hb => ?_, fun n hn => (by rw [hS0] at hn; cases hn), fun n hn => (by rw [hS0] at hn; cases hn), fun v' ns' hn => (by rw [hS0] at hn; cases hn), fun ty' row' v' V' hv' => by
          rw [hS0] at hv'
          simp only [Option.some.injEq, Src.vw.injEq] at hv'
          obtain ⟨rfl, rfl, rfl, rfl⟩ := hv'
          exact ⟨own, _, _, rfl, hV, hden, o1, hg, fun hb => by rw [hb] at ho; exact ho⟩⟩
        · simp only [hden]
          cases own
          · exact o6 ho
          · exact o5 ho
        · cases own
          · simp [mutB] at hb
          · simp only [mutB, hlen, Int.toNat_natCast] at hb
            have hsrc : srcOf S acc.length = dd V.ns := by
              have := hs1 0 _ rfl
              simp only [Nat.add_zero] at this
              simp only [srcOf, this, Src.ns]
            rw [hsrc]
            obtain ⟨n, hn, hr⟩ := o7 ho b hb
            exact ⟨n, mem_dd.2 hn, hr⟩
      · cases h'
    · cases h'
  | .lsn ty row, acc, v, r, gd, vi, h, hgd, hA, hs1, hev, hg => by
    have h' : getLsn m ty row v = some r := by cases v <;> simpa only [Sh.get] using h
    obtain ⟨n, le, g, c, rfl, hn, rfl, h3, h4, h5⟩ := getLsn_spec h'
    simp only at hg hev hs1
    have hS0 : S[acc.length]? = some (Src.nm n) := by
      have := hs1 0 _ rfl
      simpa only [Nat.add_zero] using this
    have hnn : hs acc.length = ad n := by rw [hS _ _ hS0]; rfl
    have hent := (hI.ent n g _ hn hg).1
    have hden := hev.head.1
    have hlc : le.den F ρ = ((dc (c.den F ρ)).length : Int) := hent.2.1
    have hwl : IntKind.i64.wrap (((dc (c.den F ρ)).length : Nat) : Int) = ((dc (c.den F ρ)).length : Int) := by
      have := hent.2.2
      simp only [cond_true] at this
      exact wrap_len this.1
    have hlen : (LEN (ev vi)).den F0 ρ' = le.den F ρ := by rw [BI_F0.len, hden, hwl, hlc]
    refine ⟨by simp only [Sh.gen, SV.conc, hlen, hnn, id], fun x hx _ => ?_⟩
    simp only [Sh.gen, List.mem_singleton] at hx
    subst hx
    refine ⟨?_, fun b hb => ?_, fun n' hn' => ?_, fun n' hn' => (by rw [hS0] at hn'; cases hn'), fun v' ns' hn' => (by rw [hS0] at hn'; cases hn'), fun ty' row' v' V' hv' => (by rw [hS0] at hv'; cases hv')⟩
    · simp only [BlkOK, hlen, hden, hnn] at hent ⊢; exact hent
    · simp only [mutB, hlen, hnn] at hb
      have hsrc : srcOf S acc.length = [n] := by simp only [srcOf, hS0, Src.ns]
      exact ⟨n, by rw [hsrc]; simp, g, _, hn, hg, by simp only [mutB]; exact hb⟩
    · rw [hS0] at hn'
      simp only [Option.some.injEq, Src.nm.injEq] at hn'
      subst hn'
      exact Or.inr (Or.inr ⟨_, _, _, _, _, _, _, rfl, hn, hden, hlen, hnn⟩)
  | .obj ty cs, acc, v, r, gd, vi, h, hgd, hA, hs1, hev, hg => by
    cases v with
    | ptr n o =>
      cases o with
      | zero =>
        simp only [Sh.get] at h
        split at h
        · rename_i g ty' vs hb
          split at h
          · rename_i hty
            obtain ⟨q, hq, rfl⟩ := Option.map_eq_some_iff.1 h
            obtain ⟨b1, b2⟩ := blkC_spec hb
            subst hty
            obtain ⟨_, _, k3, _⟩ := getL_kinds cs _ _ q hq
            rw [(mkAnd_spec g q.2.2 b2 k3 F ρ).1, Bool.and_eq_true] at hg
            have hlen : (acc ++ [Src.nm n]).length = acc.length + 1 := by simp
            have hs1' : SrcAt S acc.length ([Src.nm n] ++ q.2.1) := hs1
            have hA' : SrcAt S 0 (acc ++ [Src.nm n]) := hA.both hs1'.left
            have hs2 : SrcAt S (acc ++ [Src.nm n]).length q.2.1 := by rw [hlen]; exact hs1'.right
            obtain ⟨i1, i2⟩ := shgetL_spec hB hI hS cs (acc ++ [.nm n]) vs q gd vi hq hgd hA' hs2 hev hg.2
            rw [hlen] at i1 i2
            have hn : hs acc.length = ad n := by
              have := hS _ _ (hs1 0 _ rfl)
              simp only [Nat.add_zero] at this
              rw [this]; rfl
            have hent := (hI.ent n g _ b1 hg.1).1
            refine ⟨by simp only [Sh.gen, SV.conc, id, hn], fun x hx hxg => ?_⟩
            simp only [Sh.gen, List.mem_cons] at hx
            rcases hx with rfl | hx
            · have hS0 : S[acc.length]? = some (Src.nm n) := by
                have := hs1 0 _ rfl
                simpa only [Nat.add_zero] using this
              refine ⟨?_, fun b hb => ?_, fun _ _ => Or.inl ⟨_, _, rfl⟩, fun n' hn' => (by rw [hS0] at hn'; cases hn'), fun v' ns' hn' => (by rw [hS0] at hn'; cases hn'), fun ty' row' v' V' hv' => (by rw [hS0] at hv'; cases hv')⟩
              · simp only [BlkOK, hn, ← i1]; exact hent
              · simp only [mutB, hn, Option.some.injEq] at hb
                have hsrc : srcOf S acc.length = [n] := by
                  have := hs1 0 _ rfl
                  simp only [Nat.add_zero] at this
                  simp only [srcOf, this, Src.ns]
                refine ⟨n, by rw [hsrc]; simp, g, _, b1, hg.1, by simp only [mutB, hb]⟩
            · exact i2 x hx hxg
          · cases h
        · cases h
      | succ o => simp [Sh.get] at h
    | _ => simp [Sh.get] at h
  | .pin j off str, acc, v, r, gd, vi, h, hgd, hA, hs1, hev, hg => by
    cases v <;> simp only [Sh.get, reduceCtorEq] at h
    split at h
    · rename_i hc
      obtain ⟨hn, rfl, rfl, hk, hs⟩ := hc
      simp only [Option.some.injEq] at h; subst h
      refine ⟨?_, fun x hx => by cases hx⟩
      unfold isNm at hn
      split at hn
      · rename_i k hk
        have hkn := (by simpa using hn : k = _)
        subst hkn
        have := hS _ _ (hA j _ hk)
        rw [Nat.zero_add] at this
        simp only [Sh.gen, SV.conc, id, this, hev.head.1]
        rfl
      · cases hn
    · cases h
  | .ref j, acc, v, r, gd, vi, h, hgd, hA, hs1, hev, hg => by
    cases v with
    | ptr n o =>
      cases o with
      | zero =>
        simp only [Sh.get] at h
        split at h
        · rename_i hn
          simp only [Option.some.injEq] at h; subst h
          refine ⟨?_, fun x hx => by cases hx⟩
          unfold isNm at hn
          split at hn
          · rename_i k hk
            have hkn : k = n := by simpa using hn
            subst hkn
            have := hS _ _ (hA j _ hk)
            rw [Nat.zero_add] at this
            simp only [Sh.gen, SV.conc, id, this]
            rfl
          · cases hn
        · cases h
      | succ o => simp [Sh.get] at h
    | _ => simp [Sh.get] at h
  | .fnc f l, acc, v, r, gd, vi, h, hgd, hA, hs1, hev, hg => by
    cases v <;> simp only [Sh.get, reduceCtorEq] at h
    split at h
    · rename_i hf
      subst hf
      obtain ⟨i1, i2⟩ := shgetL_spec hB hI hS l acc _ r gd vi h hgd hA hs1 hev hg
      exact ⟨by simp only [SV.conc, Sh.gen, i1], i2⟩
    · cases h
  | .nul c, acc, v, r, gd, vi, h, hgd, hA, hs1, hev, hg => by
    cases v <;> simp only [Sh.get, reduceCtorEq] at h
    split at h
    · rename_i hc
      simp only [Option.some.injEq] at h; subst h
      subst hc
      exact ⟨rfl, fun x hx => by cases hx⟩
    · cases h
  | .tup l, acc, v, r, gd, vi, h, hgd, hA, hs1, hev, hg => by
    cases v <;> simp only [Sh.get, reduceCtorEq] at h
    obtain ⟨i1, i2⟩ := shgetL_spec hB hI hS l acc _ r gd vi h hgd hA hs1 hev hg
    exact ⟨by simp only [SV.conc, Sh.gen, i1], i2⟩
  | .opt s, acc, v, r, gd, vi, h, hgd, hA, hs1, hev, hg => by
    have h' : getOpt (mkB true :: s.ks.map fun k => E.lit k 0, List.replicate s.nn Src.dm, mkB true) v (fun u => s.get m acc u) = some r := by cases v <;> simpa only [Sh.get] using h
    unfold getOpt at h'
    split at h'
    · rename_i c ho
      simp only [Option.some.injEq] at h'; subst h'
      simp only at hev
      obtain ⟨e1, e2⟩ := (optV_spec (F := F) (ρ := ρ) (ad := ad) ho).1 rfl
      have hall : (ev vi).tt F0 ρ' = true := by rw [hev.tt]; simp
      have hkk : (ev vi).kind = .b := by rw [hev.head.2]; rfl
      refine ⟨?_, fun x hx hxg => ?_⟩
      · rw [e1]
        simp only [Sh.gen, SV.conc, hall, cond_true]
      · have a := mkAnd_spec gd (mkNot (ev vi)) hgd (mkNot_spec (ev vi) F0 ρ').2 F0 ρ'
        have hk : ∀ i k, s.ks[i]? = some k → (ev (vi + 1 + i)).kind = k := fun i k hi => by
          have := (hev (i + 1) (.lit k 0) (by simp [hi])).2
          rwa [show vi + (i + 1) = vi + 1 + i by omega] at this
        have := (gen_guard (F := F0) (ρ := ρ') s (mkAnd gd (mkNot (ev vi))) (vi + 1) acc.length a.2 hk x hx).2 hxg
        rw [a.1, (mkNot_spec (ev vi) F0 ρ').1, hall] at this
        simp at this
    · rename_i c u ho
      split at h'
      · rename_i hc
        obtain ⟨q, hq, rfl⟩ := Option.map_eq_some_iff.1 h'
        simp only at hev hs1 hg
        obtain ⟨k1, k2, k3, _⟩ := get_kinds s acc u q hq
        have hv := (optV_spec (F := F) (ρ := ρ) (ad := ad) ho).2 u rfl
        have a := mkAnd_spec gd (mkNot (ev vi)) hgd (mkNot_spec (ev vi) F0 ρ').2 F0 ρ'
        have htt : (ev vi).tt F0 ρ' = c.tt F ρ := hev.tt
        rw [(mkOr_spec c q.2.2 hc.1 k3 F ρ).1, Bool.or_eq_true] at hg
        by_cases hct : c.tt F ρ = true
        · refine ⟨?_, fun x hx hxg => ?_⟩
          · rw [hv, hct]
            simp only [Sh.gen, SV.conc, htt, hct, cond_true, CV.val]
          · have := (gen_guard (F := F0) (ρ := ρ') s (mkAnd gd (mkNot (ev vi))) (vi + 1) acc.length a.2 (hev.tail.kinds k1) x hx).2 hxg
            rw [a.1, (mkNot_spec (ev vi) F0 ρ').1, htt, hct] at this
            simp at this
        · have hcf : c.tt F ρ = false := by simpa using hct
          obtain ⟨i1, i2⟩ := shget_spec hB hI hS s acc u q (mkAnd gd (mkNot (ev vi))) (vi + 1) hq a.2 hA hs1 hev.tail (hg.resolve_left hct)
          refine ⟨?_, i2⟩
          rw [hv, hcf]
          simp only [Sh.gen, SV.conc, htt, hcf, cond_false]
          exact i1
      · cases h'
    · cases h'
  | .und, acc, v, r, gd, vi, h, hgd, hA, hs1, hev, hg => by
    cases v <;> simp only [Sh.get, reduceCtorEq] at h
    simp only [Option.some.injEq] at h; subst h
    exact ⟨rfl, fun x hx => by cases hx⟩
  | .mp ks vs kag vag, acc, v, r, gd, vi, h, hgd, hA, hs1, hev, hg => by
    cases v <;> simp only [Sh.get, reduceCtorEq] at h
    case mp n =>
      obtain ⟨g, c, b1, rfl, h3, h4⟩ := getMp_spec h
      have hS0 : S[acc.length]? = some (Src.mpn n) := by
        have := hs1 0 _ rfl
        simpa only [Nat.add_zero] using this
      have hn : hs acc.length = ad n := by rw [hS _ _ hS0]; rfl
      have hent := (hI.ent n g _ b1 hg).1
      have hden := hev.head.1
      refine ⟨by simp only [Sh.gen, SV.conc, id, hn], fun x hx hxg => ?_⟩
      simp only [Sh.gen, List.mem_singleton] at hx
      subst hx
      refine ⟨?_, fun b hb => ?_, fun n' hn' => (by rw [hS0] at hn'; cases hn'), fun n' hn' => ?_, fun v' ns' hn' => (by rw [hS0] at hn'; cases hn'), fun ty' row' v' V' hv' => (by rw [hS0] at hv'; cases hv')⟩
      · simp only [BlkOK, hn, hden]; exact hent
      · simp only [mutB, hn, Option.some.injEq] at hb
        have hsrc : srcOf S acc.length = [n] := by simp only [srcOf, hS0, Src.ns]
        exact ⟨n, by rw [hsrc]; simp, g, _, b1, hg, by simp only [mutB, hb]⟩
      · rw [hS0] at hn'
        simp only [Option.some.injEq, Src.mpn.injEq] at hn'
        subst hn'
        exact ⟨ks, vs, kag, vag, _, g, c, rfl, b1, hden⟩
    case ite p a b =>
      obtain ⟨⟨c, ns, g⟩, h1, rfl⟩ := Option.map_eq_some_iff.1 h
      obtain ⟨h3, h4, h5⟩ := getMpV_spec h1
      obtain ⟨n, hn, g', c', q1, q2, q3, q4, q5⟩ := h5 F ρ ad hg
      have hS0 : S[acc.length]? = some (Src.mpv (.ite p a b) ns) := by
        have := hs1 0 _ rfl
        simpa only [Nat.add_zero] using this
      have hn' : hs acc.length = ad n := by rw [hS _ _ hS0]; exact q4
      have hent := (hI.ent n g' _ q1 q2).1
      have hden := hev.head.1
      refine ⟨by rw [q5]; simp only [Sh.gen, SV.conc, id, hn'], fun x hx hxg => ?_⟩
      simp only [Sh.gen, List.mem_singleton] at hx
      subst hx
      refine ⟨?_, fun b hb => ?_, fun n' hn'' => (by rw [hS0] at hn''; cases hn''), fun n' hn'' => (by rw [hS0] at hn''; cases hn''), fun v' ns' hn'' => ?_, fun ty' row' v' V' hv' => (by rw [hS0] at hv'; cases hv')⟩
      · simp only [BlkOK, hn', hden, q3] at hent ⊢; exact hent
      · simp only [mutB, hn', Option.some.injEq] at hb
        have hsrc : srcOf S acc.length = dd ns := by simp only [srcOf, hS0, Src.ns]
        exact ⟨n, by rw [hsrc]; exact mem_dd.2 hn, g', _, q1, q2, by simp only [mutB, hb]⟩
      · exact ⟨ks, vs, kag, vag, _, n, g', c', rfl, q1, q2, by rw [hden, q3], hn'⟩
  | .seg ty ks cs, acc, v, r, gd, vi, h, hgd, hA, hs1, hev, hg => by
    cases v with
    | ptr n o =>
      cases o with
      | zero =>
        simp only [Sh.get] at h
        split at h
        · rename_i g ty' vs ks' c hb
          split at h
          · rename_i hty
            obtain ⟨q, hq, rfl⟩ := Option.map_eq_some_iff.1 h
            obtain ⟨b1, b2, b3⟩ := blkS_spec hb
            obtain ⟨rfl, rfl⟩ := hty
            obtain ⟨_, _, k3, _⟩ := getL_kinds cs _ _ q hq
            simp only at hev
            rw [(mkAnd_spec g q.2.2 b2 k3 F ρ).1, Bool.and_eq_true] at hg
            have hlen : (acc ++ [Src.nm n]).length = acc.length + 1 := by simp
            have hs1' : SrcAt S acc.length ([Src.nm n] ++ q.2.1) := hs1
            have hA' : SrcAt S 0 (acc ++ [Src.nm n]) := hA.both hs1'.left
            have hs2 : SrcAt S (acc ++ [Src.nm n]).length q.2.1 := by rw [hlen]; exact hs1'.right
            obtain ⟨i1, i2⟩ := shgetL_spec hB hI hS cs (acc ++ [.nm n]) vs q gd (vi + 1) hq hgd hA' hs2 hev.tail hg.2
            rw [hlen] at i1 i2
            have hS0 : S[acc.length]? = some (Src.nm n) := by
              have := hs1 0 _ rfl
              simpa only [Nat.add_zero] using this
            have hn : hs acc.length = ad n := by rw [hS _ _ hS0]; rfl
            have hent := (hI.ent n g _ b1 hg.1).1
            have hden := hev.head.1
            refine ⟨by simp only [Sh.gen, SV.conc, id, hn], fun x hx hxg => ?_⟩
            simp only [Sh.gen, List.mem_cons] at hx
            rcases hx with rfl | hx
            · refine ⟨?_, fun b hb => ?_, fun _ _ => Or.inr (Or.inl ⟨_, _, _, _, rfl⟩), fun n' hn' => (by rw [hS0] at hn'; cases hn'), fun v' ns' hn' => (by rw [hS0] at hn'; cases hn'), fun ty'' row' v' V' hv' => (by rw [hS0] at hv'; cases hv')⟩
              · simp only [BlkOK, hn, ← i1, hden]; exact hent
              · simp only [mutB, hn, Option.some.injEq] at hb
                have hsrc : srcOf S acc.length = [n] := by simp only [srcOf, hS0, Src.ns]
                exact ⟨n, by rw [hsrc]; simp, g, _, b1, hg.1, by simp only [mutB, hb]⟩
            · exact i2 x hx hxg
          · cases h
        · cases h
      | succ o => simp [Sh.get] at h
    | _ => simp [Sh.get] at h
theorem shgetL_spec (hB : BI F) (hI : RelI F ρ w0 M0 Im ad m w) (hS : ∀ j s, S[j]? = some s → hs j = srcHd F ρ w Im ad m s) : ∀ (l : List Sh) (acc : List Src) (vs : List SV) (r : List E × List Src × E) (gd : E) (vi : Nat), Sh.getL m l acc vs = some r → gd.kind = .b →
    SrcAt S 0 acc → SrcAt S acc.length r.2.1 → EvOK F ρ ρ' ev vi r.1 → r.2.2.tt F ρ = true →
    SV.concL F ρ ad vs = SV.concL F0 ρ' hs (Sh.genL ev id l gd vi acc.length).1 ∧ ∀ x ∈ (Sh.genL ev id l gd vi acc.length).2, x.2.1.tt F0 ρ' = true → EntOK F ρ ρ' w Im ad hs m S (srcOf S) x
  | [], acc, [], r, gd, vi, h, hgd, hA, hs1, hev, hg => ⟨rfl, fun x hx => by cases hx⟩
  | [], acc, _ :: _, r, gd, vi, h, hgd, hA, hs1, hev, hg => by simp [Sh.getL] at h
  | _ :: _, acc, [], r, gd, vi, h, hgd, hA, hs1, hev, hg => by simp [Sh.getL] at h
  | s :: l, acc, v :: vs, r, gd, vi, h, hgd, hA, hs1, hev, hg => by
    simp only [Sh.getL] at h
    split at h
    · rename_i es ns g hs0
      obtain ⟨q, hq, rfl⟩ := Option.map_eq_some_iff.1 h
      obtain ⟨k1, k2, k3, _⟩ := get_kinds s acc v _ hs0
      obtain ⟨l1, l2, l3, _⟩ := getL_kinds l _ vs q hq
      simp only at k1 k2 k3 hev hs1 hg
      rw [(mkAnd_spec g q.2.2 k3 l3 F ρ).1, Bool.and_eq_true] at hg
      have hel : es.length = s.ks.length := by rw [← k1]; simp
      obtain ⟨i1, i2⟩ := shget_spec hB hI hS s acc v (es, ns, g) gd vi hs0 hgd hA hs1.left hev.left hg.1
      have hlen : (acc ++ ns).length = acc.length + s.nn := by rw [List.length_append, k2]
      have hA' : SrcAt S 0 (acc ++ ns) := hA.both hs1.left
      have hs2 : SrcAt S (acc ++ ns).length q.2.1 := by rw [List.length_append]; exact hs1.right
      have hev2 := hev.right
      rw [hel] at hev2
      obtain ⟨j1, j2⟩ := shgetL_spec hB hI hS l (acc ++ ns) vs q gd (vi + s.ks.length) hq hgd hA' hs2 hev2 hg.2
      rw [hlen] at j1 j2
      refine ⟨by simp only [SV.concL, Sh.genL, i1, j1], fun x hx hxg => ?_⟩
      simp only [Sh.genL, List.mem_append] at hx
      rcases hx with hx | hx
      · exact i2 x hx hxg
      · exact j2 x hx hxg
    · cases h
end
end
end Go.Proofs.Ytmolkkphnehgcaa.Ew

/- Summaries of functions: shapes of what they take and give, and what is computed; how a call is taken by its summary. -/
set_option linter.unusedVariables false
set_option linter.unusedSimpArgs false
namespace Go.Proofs.Ytmolkkphnehgcaa.Ew
open Go Go.RowKit

/- An object that gets new cells: its name among the parameters', its type, its tail (the kinds of a row; the rows' code stands ahead of the cells), the shapes of its cells; or a list that is changed in place: its element's type, its rows, the code. -/
inductive Tl where
  | seg (ks : List K)
  | lst (row : Row)
  deriving DecidableEq, Inhabited
instance : Coe (List K) Tl := ⟨Tl.seg⟩
structure Ob where
  j : Nat
  ty : Nat
  tl : Option Tl := none
  cs : List Sh
  deriving Inhabited
/-- A block made of values; the values of a block. -/
def mkO (ty : Nat) (tl : Option Tl) (vs : List SV) : Blk :=
  match tl, vs with
  | none, vs => .cells ty vs
  | some (.seg ks), .sc c :: vs => if c.kind = .x then .seg ty vs ks c else .dead
  | some (.lst row), .sc c :: _ => if c.kind = .x then .lst ty row true (LEN c) c else .dead
  | some _, _ => .dead
def unO : Blk → Option (Nat × Option Tl × List SV)
  | .cells ty cs => some (ty, none, cs)
  | .seg ty cs ks c => if c.kind = .x then some (ty, some (.seg ks), .sc c :: cs) else none
  | .lst ty row true _ c => if c.kind = .x then some (ty, some (.lst row), [.sc c]) else none
  | _ => none
/-- The length of a list as its code tells it. -/
def Blk.nrm : Blk → Blk
  | .lst ty row own _ c => .lst ty row own (LEN c) c
  | b => b
theorem Blk.nrm_cs (b : Blk) : b.nrm.cs = b.cs := by cases b <;> rfl
/-- The length is that of the code. -/
def Blk.lenOK (F : Fam) (ρ : Nat → Int) : Blk → Prop
  | .lst _ _ _ le c => le.den F ρ = (LEN c).den F ρ
  | _ => True
theorem Blk.nrm_same {F : Fam} {ρ : Nat → Int} {b : Blk} (h : b.lenOK F ρ) (ad : Nat → Hd) (n : Nat) : mutB F ρ ad n b.nrm = mutB F ρ ad n b ∧ ∀ (Im : Nat → Prop) (w : World), BlkOK F ρ Im ad n w b.nrm ↔ BlkOK F ρ Im ad n w b := by
  cases b with
  | lst ty row own le c =>
    simp only [Blk.lenOK] at h
    refine ⟨?_, fun Im w => ?_⟩
    · cases own <;> simp only [Blk.nrm, mutB, h]
    · simp only [Blk.nrm, BlkOK, h]
  | _ => exact ⟨rfl, fun _ _ => Iff.rfl⟩
theorem BlkOK.lenOK {F : Fam} {ρ : Nat → Int} (hB : BI F) {Im : Nat → Prop} {ad : Nat → Hd} {n : Nat} {w : World} {b : Blk} (h : BlkOK F ρ Im ad n w b) : b.lenOK F ρ := by
  cases b with
  | lst ty row own le c =>
    simp only [Blk.lenOK]
    have hw : (dc (c.den F ρ)).length ≤ maxLen := by
      have := h.2.2
      cases own
      · exact this.1
      · exact this.1
    rw [hB.len, wrap_len hw, h.2.1]
  | _ => trivial
theorem mkO_unO {b : Blk} {ty : Nat} {tl : Option Tl} {vs : List SV} (h : unO b = some (ty, tl, vs)) : mkO ty tl vs = b.nrm := by
  unfold unO at h
  split at h
  · simp only [Option.some.injEq, Prod.mk.injEq] at h
    obtain ⟨rfl, rfl, rfl⟩ := h; rfl
  · split at h
    · rename_i hk
      simp only [Option.some.injEq, Prod.mk.injEq] at h
      obtain ⟨rfl, rfl, rfl⟩ := h
      simp only [mkO, if_pos hk, Blk.nrm]
    · cases h
  · split at h
    · rename_i hk
      simp only [Option.some.injEq, Prod.mk.injEq] at h
      obtain ⟨rfl, rfl, rfl⟩ := h
      simp only [mkO, if_pos hk, Blk.nrm]
    · cases h
  · cases h
/-- The code stands ahead. -/
def isX : List SV → Bool
  | .sc c :: _ => decide (c.kind = .x)
  | _ => false
theorem mkO_same {F1 F2 : Fam} {ρ1 ρ2 : Nat → Int} {ad1 ad2 : Nat → Hd} {n j ty : Nat} {tl : Option Tl} {vs us : List SV} (hB1 : BI F1) (hB2 : BI F2) (h : SV.concL F1 ρ1 ad1 vs = SV.concL F2 ρ2 ad2 us) (hx : isX vs = isX us) (hn : ad1 n = ad2 j) :
    mutB F1 ρ1 ad1 n (mkO ty tl vs) = mutB F2 ρ2 ad2 j (mkO ty tl us) ∧ ∀ (Im : Nat → Prop) (w : World), BlkOK F1 ρ1 Im ad1 n w (mkO ty tl vs) ↔ BlkOK F2 ρ2 Im ad2 j w (mkO ty tl us) := by
  cases tl with
  | none => simp only [mkO, mutB, BlkOK, h, hn, iff_self, implies_true, and_self]
  | some ks =>
    by_cases h1 : isX vs = true
    · have h2 := h1
      rw [hx] at h2
      unfold isX at h1 h2
      split at h1
      · rename_i c r
        split at h2
        · rename_i c' r'
          have k1 : c.kind = .x := by simpa using h1
          have k2 : c'.kind = .x := by simpa using h2
          simp only [SV.concL, List.cons.injEq, SV.conc, E.val_x k1, E.val_x k2, Value.int.injEq, true_and] at h
          cases ks with
          | seg ks => simp only [mkO, if_pos k1, if_pos k2, mutB, BlkOK, h.1, h.2, hn, iff_self, implies_true, and_self]
          | lst row =>
            have hl : (LEN c).den F1 ρ1 = (LEN c').den F2 ρ2 := by rw [hB1.len, hB2.len, h.1]
            simp only [mkO, if_pos k1, if_pos k2, mutB, BlkOK, h.1, hl, hn, iff_self, implies_true, and_self]
        · cases h2
      · cases h1
    · have h1' : isX vs = false := by simpa using h1
      have h2' : isX us = false := by rw [← hx]; exact h1'
      have dead : ∀ l : List SV, isX l = false → mkO ty (some ks) l = .dead := fun l hl => by
        unfold isX at hl
        split at hl
        · rename_i c r
          have : ¬ c.kind = .x := by simpa using hl
          cases ks <;> simp only [mkO, if_neg this]
        · rename_i hne
          cases l with
          | nil => cases ks <;> rfl
          | cons v r =>
            cases v with
            | sc c => exact absurd rfl (hne c r)
            | _ => cases ks <;> rfl
      rw [dead _ h1', dead _ h2']
      exact ⟨rfl, fun _ _ => Iff.rfl⟩
theorem mkO_ok {p : Nat → Prop} {ty : Nat} {tl : Option Tl} {vs : List SV} (h : SV.okL p vs) : SV.okL p (mkO ty tl vs).cs := by
  unfold mkO
  split
  · exact h
  · split
    · exact h.2
    · trivial
  · split
    · trivial
    · trivial
  · trivial

structure Ent where
  key : Nat
  f : Nat
  ps : List Sh
  os : List Ob
  kp : List Nat
  rs : Sh
  fn : Nat → List Int → Int
  pre : List Int → Prop
abbrev Tabs := List Ent

def env (xs : List Int) : Nat → Int := fun i => xs.getD i 0
def varE (ks : List K) : Nat → E := fun i => match ks[i]? with | some k => .var k i | none => mkB false
def Ent.pks (e : Ent) : List K := Sh.ksL e.ps
def Ent.outL (e : Ent) : List Sh := e.os.flatMap (fun o => o.cs) ++ [e.rs]
def Ent.oks (e : Ent) : List K := Sh.ksL e.outL
def Ent.np (e : Ent) : Nat := e.pks.length
def Ent.nn (e : Ent) : Nat := Sh.nnL e.ps
def Ent.pgen (e : Ent) : List SV × Ents := Sh.genL (varE e.pks) id e.ps (mkB true) 0 0
def Ent.ogen (e : Ent) : List SV × Ents := Sh.genL (varE (e.pks ++ e.oks)) id e.outL (mkB true) e.np e.nn
/-- The objects' new cells among what is given. -/
def objE : List Ob → List SV → Ents
  | [], _ => []
  | o :: r, vs => (o.j, mkB true, mkO o.ty o.tl (vs.take o.cs.length)) :: objE r (vs.drop o.cs.length)
def keptE (kp : List Nat) (l : Ents) : Ents := l.filter fun x => kp.contains x.1
def lastV (l : List SV) : SV := l.getLastD .und
def Ent.oents (e : Ent) : Ents := objE e.os e.ogen.1 ++ (keptE e.kp e.pgen.2 ++ e.ogen.2)
def outsE (fn : Nat → List Int → Int) (xs : List Int) : Nat → List K → List Int
  | _, [] => []
  | j, k :: ks => k.norm (fn j xs) :: outsE fn xs (j + 1) ks

/-- What is told of named things holds in the world w. -/
structure RelE (F : Fam) (ρ : Nat → Int) (w0 : World) (M0 Im : Nat → Prop) (hs : Nat → Hd) (l : Ents) (w : World) : Prop where
  ent : ∀ x ∈ l, x.2.1.tt F ρ = true → BlkOK F ρ Im hs x.1 w x.2.2 ∧ ∀ b, mutB F ρ hs x.1 x.2.2 = some b → (M0 b ∨ w0.heap.size ≤ b) ∧ ¬ Im b ∧ b < w.heap.size
  inj : ∀ x ∈ l, ∀ y ∈ l, x.2.1.tt F ρ = true → y.2.1.tt F ρ = true → ∀ b, mutB F ρ hs x.1 x.2.2 = some b → mutB F ρ hs y.1 y.2.2 = some b → x.1 = y.1
  im : ∀ b, Im b → b < w.heap.size
  fr : Fr M0 w0 w

/-- What a summary says. -/
def EntryOK (P : Program) (G : Glob) (e : Ent) : Prop :=
  ∀ xs, fits e.pks xs → e.pre xs → ∀ (w : World) (M0 Im0 : Nat → Prop) (hs : Nat → Hd), (∀ b, M0 b → ¬ Im0 b ∧ b < w.heap.size) → GOK G Im0 w → RelE F0 (env xs) w M0 Im0 hs e.pgen.2 w →
    Calls P e.f (SV.concL F0 (env xs) hs e.pgen.1).toArray w fun en w' => ∃ (hs' : Nat → Hd) (Im' : Nat → Prop), (∀ j, j < e.nn → hs' j = hs j) ∧ (∀ b, Im0 b → Im' b) ∧ (∀ b, Im' b → Im0 b ∨ M0 b ∨ w.heap.size ≤ b) ∧
      en = .returned ((lastV e.ogen.1).conc F0 (env (xs ++ outsE e.fn xs 0 e.oks)) hs') ∧ RelE F0 (env (xs ++ outsE e.fn xs 0 e.oks)) w M0 Im' hs' e.oents w'

def Tabs.get (l : Tabs) (k : Nat) : Option Ent := l.find? fun e => e.key == k
def preC : Nat := 1000000
open Classical in
noncomputable def Tabs.F (l : Tabs) : Fam := fun k j xs => if k = 0 then bi j xs else match l.get k with
  | some e => if j = preC then (if e.pre xs then 1 else 0) else e.fn j xs
  | none => 0
theorem Tabs.BI (l : Tabs) : BI l.F := fun j xs => by simp [Tabs.F]

/-! ### a call that is taken by a summary -/
def appsE (key : Nat) (es : List E) : Nat → List K → List E
  | _, [] => []
  | j, k :: ks => .app k key j es :: appsE key es (j + 1) ks
/-- A summary whose key is as great as this gives its results names: fresh variables, with the condition that each is what it names. -/
def namB : Nat := 100000000
def varsE (b : Nat) : Nat → List K → List E
  | _, [] => []
  | j, k :: ks => .var k (b + j) :: varsE b (j + 1) ks
def eqsE : List E → List E → E
  | a :: l, b :: r => .and (.cmp .eql a b) (eqsE l r)
  | _, _ => mkB true
def outV (key nm : Nat) (es : List E) (ks : List K) : List E := bif decide (namB ≤ key) then varsE ((key * 100000 + nm) * 64) 0 ks else appsE key es 0 ks
def defG (key nm : Nat) (es : List E) (ks : List K) : E := bif decide (namB ≤ key) then eqsE (varsE ((key * 100000 + nm) * 64) 0 ks) (appsE key es 0 ks) else mkB true
def nvC (srcs : List Src) (N nm k : Nat) : Nat → Nat := fun j => if j < N then (match srcs[j]? with | some (.nm n) => n | _ => 1000000000 + j) else if j - N < k then nm + (j - N) else 1000000000 + j
def evC (es os : List E) : Nat → E := fun i => if i < es.length then es.getD i (mkB false) else os.getD (i - es.length) (mkB false)
/-- Which of the names may be written by way of a shape. -/
def mutJ (l : Ents) : List Nat := l.filterMap fun x => match x.2.2 with
  | .cells .. => some x.1
  | .lst _ _ true _ _ => some x.1
  | .mp .. => some x.1
  | .seg .. => some x.1
  | _ => none
def nodupB : List Nat → Bool
  | [] => true
  | n :: r => !r.contains n && nodupB r
def setEs (m : Mem) : List (Nat × E × Blk) → Mem
  | [] => m
  | (n, g, b) :: r => setEs (m.set n (some (g, b))) r
/-- A list that is changed in place keeps the length that was told of it. -/
def setLe : Blk → Blk → Blk
  | .lst _ _ _ le _, .lst ty row own _ c => .lst ty row own le c
  | _, b => b
theorem setLe_cs (b x : Blk) : (setLe b x).cs = x.cs := by cases b <;> cases x <;> rfl
/-- Lists that are changed in place are as long as before. -/
def leC : List (Nat × E × Blk) → E
  | [] => mkB true
  | (_, _, .lst _ _ _ le c) :: r => if le.kind = .i .i64 then mkAnd (mkCmp .eql (LEN c) le) (leC r) else mkB false
  | _ :: r => leC r
theorem leC_kind : ∀ l : List (Nat × E × Blk), (leC l).kind = .b
  | [] => rfl
  | (_, _, .lst _ _ _ le c) :: r => by
    simp only [leC]
    split
    · exact (mkAnd_spec _ _ (mkCmp_spec .eql (LEN c) le (fun _ _ _ => 0) fun _ => 0).2 (leC_kind r) (fun _ _ _ => 0) fun _ => 0).2
    · rfl
  | (_, _, .cells ..) :: r => leC_kind r
  | (_, _, .seg ..) :: r => leC_kind r
  | (_, _, .mp ..) :: r => leC_kind r
  | (_, _, .dead) :: r => leC_kind r
theorem leC_spec {F : Fam} {ρ : Nat → Int} : ∀ {l : List (Nat × E × Blk)}, (leC l).tt F ρ = true → ∀ y ∈ l, y.2.2.lenOK F ρ
  | [], _, y, hy => by cases hy
  | (n, g, .lst ty row own le c) :: r, h, y, hy => by
    simp only [leC] at h
    split at h
    · have hk := mkCmp_spec .eql (LEN c) le F ρ
      rw [(mkAnd_spec _ _ hk.2 (leC_kind r) F ρ).1, Bool.and_eq_true] at h
      rcases List.mem_cons.1 hy with rfl | hy
      · have := h.1
        rw [hk.1] at this
        simp only [cmpB, beq_iff_eq] at this
        exact this.symm
      · exact leC_spec h.2 y hy
    · simp at h
  | (n, g, .cells ..) :: r, h, y, hy => by
    rcases List.mem_cons.1 hy with rfl | hy
    · trivial
    · exact leC_spec (l := r) h y hy
  | (n, g, .seg ..) :: r, h, y, hy => by
    rcases List.mem_cons.1 hy with rfl | hy
    · trivial
    · exact leC_spec (l := r) h y hy
  | (n, g, .mp ..) :: r, h, y, hy => by
    rcases List.mem_cons.1 hy with rfl | hy
    · trivial
    · exact leC_spec (l := r) h y hy
  | (n, g, .dead) :: r, h, y, hy => by
    rcases List.mem_cons.1 hy with rfl | hy
    · trivial
    · exact leC_spec (l := r) h y hy
/-- No list is kept that is handed on by its name. -/
def noLs (srcs : List Src) (kp : List Nat) (l : Ents) : Bool := l.all fun x => match x.2.2, srcs[x.1]? with
  | .lst .., some (.nm _) => !kp.contains x.1
  | _, _ => true
/-- The memory's own entries of the objects that get new cells. -/
def objSet (srcs : List Src) (m : Mem) : List Ob → List SV → Option (List (Nat × E × Blk))
  | [], _ => some []
  | o :: r, vs => match srcs[o.j]? with
    | some (.nm n) => match m.at n with
      | some (g, b) => if (unO b).isSome = true ∧ (unO b).map (·.1) = some o.ty ∧ (unO b).map (·.2.1) = some o.tl ∧ (o.tl.isSome = true → isX (vs.take o.cs.length) = true) then (objSet srcs m r (vs.drop o.cs.length)).map fun l => (n, g, setLe b (mkO o.ty o.tl (vs.take o.cs.length))) :: l else none
      | _ => none
    | _ => none
def keptOK (srcs : List Src) (kp : List Nat) : Bool := kp.all fun j => match srcs[j]? with
  | some (.nm _) => true
  | some (.vw _ _ _ _) => true
  | some (.mpn _) => true
  | some (.mpv _ _) => true
  | _ => false
def isRef (srcs : List Src) (j : Nat) : Bool :=
  match srcs[j]? with
  | some (.nm _) => true
  | _ => false
def freeB (m : Mem) (nm k : Nat) : Bool := (List.range k).all fun i => decide (nm + i < m.length) && (m.at (nm + i)).isNone

/-- A call by one summary: the condition, the value, the memory behind it. -/
def callE (e : Ent) (m : Mem) (nm : Nat) (args : List SV) : Option (E × SV × Mem) :=
  match Sh.getL m e.ps [] args with
  | some (es, srcs, g) =>
    let os := outV e.key nm es e.oks
    let gen := Sh.genL (evC es os) (nvC srcs e.nn nm (Sh.nnL e.outL)) e.outL (mkB true) e.np e.nn
    let mj := mutJ e.pgen.2
    let dead := (mj.filter fun j => !e.kp.contains j && !(e.os.any fun o => o.j == j)).flatMap (srcOf srcs)
    match objSet srcs m e.os gen.1 with
    | some sets => if nodupB (mj.flatMap (srcOf srcs)) = true ∧ (keptOK srcs e.kp = true ∧ noLs srcs e.kp e.pgen.2 = true) ∧ freeB m nm (Sh.nnL e.outL) = true ∧ m.length < 1000000000 ∧ nodupB (e.os.map (·.j)) = true ∧
        (e.os.all fun o => mj.contains o.j && !e.kp.contains o.j) = true ∧
        e.key ≠ 0 ∧ e.oks.length < preC ∧ ((Sh.refsL e.outL).all fun j => isRef srcs j && decide (j < e.nn)) = true ∧ ((Sh.refsL e.ps).all fun j => decide (j < e.nn)) = true then
        some (mkAnd (mkAnd (mkAnd g (.app .b e.key preC es)) (leC sets)) (defG e.key nm es e.oks), lastV gen.1, setEs (setEs (killL m dead) sets) (gen.2.map fun x => (nvC srcs e.nn nm (Sh.nnL e.outL) x.1, x.2.1, x.2.2)))
      else none
    | none => none
  | none => none
end Go.Proofs.Ytmolkkphnehgcaa.Ew

/- That a call may be taken by its summary. -/
set_option linter.unusedVariables false
set_option linter.unusedSimpArgs false
namespace Go.Proofs.Ytmolkkphnehgcaa.Ew
open Go Go.RowKit

section
variable {P : Program} {F : Fam} {ρ ρ' : Nat → Int} {G : Glob} {w0 w w' : World} {M0 Im0 Im Im' T : Nat → Prop} {ad ad' hs hs' : Nat → Hd} {m m' : Mem}

theorem varE_kind (ks : List K) (i : Nat) (k : K) (h : ks[i]? = some k) : (varE ks i).kind = k := by simp [varE, h, E.kind]
theorem varE_den {ks : List K} {xs : List Int} (hf : fits ks xs) (i : Nat) : (varE ks i).den F (env xs) = if i < ks.length then xs.getD i 0 else 0 := by
  unfold varE
  by_cases hi : i < ks.length
  · simp only [List.getElem?_eq_getElem hi, hi, if_true, E.den, env]
    exact fits_get hf i _ (List.getElem?_eq_getElem hi)
  · rw [List.getElem?_eq_none (by omega), if_neg hi]
    simp [b2i]
theorem outsE_fits (fn : Nat → List Int → Int) (xs : List Int) : ∀ (ks : List K) (j : Nat), fits ks (outsE fn xs j ks)
  | [], _ => trivial
  | k :: ks, j => ⟨K.norm_norm k _, outsE_fits fn xs ks (j + 1)⟩
theorem appsE_len (key : Nat) (es : List E) : ∀ (ks : List K) (j : Nat), (appsE key es j ks).length = ks.length
  | [], _ => rfl
  | k :: ks, j => by simp [appsE, appsE_len key es ks (j + 1)]
theorem appsE_kind (key : Nat) (es : List E) : ∀ (ks : List K) (j : Nat), (appsE key es j ks).map E.kind = ks
  | [], _ => rfl
  | k :: ks, j => by simp [appsE, E.kind, appsE_kind key es ks (j + 1)]
theorem varsE_len (b : Nat) : ∀ (ks : List K) (j : Nat), (varsE b j ks).length = ks.length
  | [], _ => rfl
  | k :: ks, j => by simp [varsE, varsE_len b ks (j + 1)]
theorem varsE_kind (b : Nat) : ∀ (ks : List K) (j : Nat), (varsE b j ks).map E.kind = ks
  | [], _ => rfl
  | k :: ks, j => by simp [varsE, E.kind, varsE_kind b ks (j + 1)]
theorem outV_len (key nm : Nat) (es : List E) (ks : List K) : (outV key nm es ks).length = ks.length := by
  unfold outV; cases decide (namB ≤ key)
  · exact appsE_len _ _ _ _
  · exact varsE_len _ _ _
theorem outV_kind (key nm : Nat) (es : List E) (ks : List K) : (outV key nm es ks).map E.kind = ks := by
  unfold outV; cases decide (namB ≤ key)
  · exact appsE_kind _ _ _ _
  · exact varsE_kind _ _ _
theorem eqsE_den {F : Fam} : ∀ {a b : List E}, a.length = b.length → (eqsE a b).tt F ρ = true → a.map (E.den F ρ) = b.map (E.den F ρ)
  | [], [], _, _ => rfl
  | [], _ :: _, h, _ => by simp at h
  | _ :: _, [], h, _ => by simp at h
  | x :: a, y :: b, h, ht => by
    simp only [eqsE, E.tt, E.den, i2b_b2i, Bool.and_eq_true, cmpB, beq_iff_eq] at ht
    simp only [List.map_cons, ht.1, eqsE_den (a := a) (b := b) (by simpa using h) ht.2]
theorem eqsE_kind : ∀ (a b : List E), (eqsE a b).kind = .b
  | [], [] => rfl
  | [], _ :: _ => rfl
  | _ :: _, [] => rfl
  | _ :: _, _ :: _ => rfl
theorem defG_kind (key nm : Nat) (es : List E) (ks : List K) : (defG key nm es ks).kind = .b := by
  unfold defG; cases decide (namB ≤ key)
  · rfl
  · exact eqsE_kind _ _
theorem outV_den {F : Fam} {key nm : Nat} {es : List E} {ks : List K} (h : (defG key nm es ks).tt F ρ = true) : (outV key nm es ks).map (E.den F ρ) = (appsE key es 0 ks).map (E.den F ρ) := by
  unfold outV defG at *
  cases hd : decide (namB ≤ key)
  · rfl
  · rw [hd] at h
    simp only [cond_true] at h ⊢
    exact eqsE_den (by rw [varsE_len, appsE_len]) h
theorem Tabs.F_fn {l : Tabs} {e : Ent} (he : l.get e.key = some e) (hk : e.key ≠ 0) {j : Nat} (hj : j ≠ preC) (xs : List Int) : l.F e.key j xs = e.fn j xs := by
  simp [Tabs.F, hk, he, hj]
open Classical in
theorem Tabs.F_pre {l : Tabs} {e : Ent} (he : l.get e.key = some e) (hk : e.key ≠ 0) {xs : List Int} (h : (E.app .b e.key preC []).kind = .b) : (i2b (K.b.norm (l.F e.key preC xs)) = true ↔ e.pre xs) := by
  have : l.F e.key preC xs = if e.pre xs then 1 else 0 := by simp [Tabs.F, hk, he]
  rw [this]
  by_cases hp : e.pre xs
  · simp [hp, K.norm, i2b]
  · simp [hp, K.norm, i2b]
theorem appsE_den {l : Tabs} {e : Ent} (he : l.get e.key = some e) (hk : e.key ≠ 0) (es : List E) : ∀ (ks : List K) (j : Nat), j + ks.length ≤ preC → (appsE e.key es j ks).map (E.den l.F ρ) = outsE e.fn (es.map (E.den l.F ρ)) j ks
  | [], _, _ => rfl
  | k :: ks, j, h => by
    simp only [appsE, List.map_cons, outsE, E.den, denL_eq, Tabs.F_fn he hk (show j ≠ preC by simp only [List.length_cons] at h; omega)]
    rw [appsE_den he hk es ks (j + 1) (by simp only [List.length_cons] at h; omega)]

theorem fits_of {es : List E} {ks : List K} (hk : es.map E.kind = ks) (hs : ∀ e ∈ es, e.kind ≠ .x → e.sound = true) : fits ks (es.map (E.den F ρ)) := by
  subst hk
  induction es with
  | nil => trivial
  | cons e es ih =>
    refine ⟨?_, ih fun x hx => hs x (List.mem_cons_of_mem _ hx)⟩
    by_cases hx : e.kind = .x
    · rw [hx]; rfl
    · exact E.den_norm F ρ e (hs e (List.mem_cons_self ..) hx)

theorem getD_app (a b : List Int) (i : Nat) : (a ++ b).getD i 0 = if i < a.length then a.getD i 0 else b.getD (i - a.length) 0 := by
  simp only [List.getD]
  by_cases h : i < a.length
  · rw [if_pos h, List.getElem?_append_left h]
  · rw [if_neg h, List.getElem?_append_right (by omega)]

/-- The generic parameters read the same among the parameters alone and among parameters and results. -/
theorem Tr.params (B : Nat) {ks : List K} {xs ys : List Int} (hx : fits ks xs) (hh : ∀ j, j < B → hs' j = hs j) : Tr B F0 F0 (env xs) (env (xs ++ ys)) hs hs' (varE ks) (varE ks) id id := by
  refine ⟨BI_F0, BI_F0, fun i => ?_, fun i => rfl, fun j hj => (hh j hj).symm⟩
  have hl := fits_length hx
  unfold varE
  cases hk : ks[i]? with
  | none => simp
  | some k =>
    have hi := (List.getElem?_eq_some_iff.1 hk).1
    simp only [E.den, env, getD_app, hl, hi, if_true]

theorem mem_setEs : ∀ {l : List (Nat × E × Blk)} {m : Mem} {k : Nat} {g : E} {x : Blk}, (setEs m l).at k = some (g, x) → (k, g, x) ∈ l ∨ ((∀ y ∈ l, y.1 ≠ k) ∧ m.at k = some (g, x)) ∨ ((∃ y ∈ l, y.1 = k ∧ m.length ≤ k))
  | [], m, k, g, x, h => Or.inr (Or.inl ⟨by simp, h⟩)
  | (n, g', b) :: r, m, k, g, x, h => by
    simp only [setEs] at h
    rcases mem_setEs (l := r) h with h1 | ⟨h1, h2⟩ | ⟨y, h1, h2, h3⟩
    · exact Or.inl (List.mem_cons_of_mem _ h1)
    · by_cases hk : n = k
      · subst hk
        by_cases hl : n < m.length
        · rw [Mem.at_set_same hl] at h2
          simp only [Option.some.injEq, Prod.mk.injEq] at h2
          obtain ⟨rfl, rfl⟩ := h2
          exact Or.inl (List.mem_cons_self ..)
        · exact Or.inr (Or.inr ⟨_, List.mem_cons_self .., rfl, by omega⟩)
      · rw [Mem.at_set_other hk] at h2
        refine Or.inr (Or.inl ⟨fun y hy => ?_, h2⟩)
        rcases List.mem_cons.1 hy with rfl | hy
        · exact hk
        · exact h1 y hy
    · exact Or.inr (Or.inr ⟨y, List.mem_cons_of_mem _ h1, h2, by simpa using h3⟩)
theorem setEs_len : ∀ (l : List (Nat × E × Blk)) (m : Mem), (setEs m l).length = m.length
  | [], _ => rfl
  | (n, g, b) :: r, m => by simp only [setEs, setEs_len r, List.length_set]
theorem setEs_al : ∀ {l : List (Nat × E × Blk)} {m : Mem} {k : Nat}, al m k → al (setEs m l) k
  | [], m, k, h => h
  | (n, g, b) :: r, m, k, h => by
    refine setEs_al (l := r) ?_
    by_cases hl : n < m.length
    · exact al_set_new hl k h
    · rw [List.set_eq_of_length_le (by omega)]; exact h
theorem setEs_new : ∀ {l : List (Nat × E × Blk)} {m : Mem} {y : Nat × E × Blk}, y ∈ l → y.1 < m.length → al (setEs m l) y.1
  | [], m, y, h, _ => by cases h
  | (n, g, b) :: r, m, y, h, hl => by
    rcases List.mem_cons.1 h with rfl | h
    · refine setEs_al (l := r) ?_
      have hl' : n < m.length := hl
      show al (m.set n (some (g, b))) n
      simp [al, Mem.at_set_same hl']
    · exact setEs_new (l := r) h (by simpa using hl)

theorem nodup_flat {f : Nat → List Nat} : ∀ {l : List Nat}, nodupB (l.flatMap f) = true → ∀ a ∈ l, ∀ b ∈ l, ∀ n, n ∈ f a → n ∈ f b → a = b
  | [], _, a, ha, _, _, _, _, _ => by cases ha
  | c :: l, h, a, ha, b, hb, n, hna, hnb => by
    have key : ∀ (u v : List Nat), nodupB (u ++ v) = true → nodupB v = true ∧ ∀ n ∈ u, n ∉ v := by
      intro u
      induction u with
      | nil => intro v h; exact ⟨h, fun n hn => by cases hn⟩
      | cons x u ih =>
        intro v h
        simp only [List.cons_append, nodupB, Bool.and_eq_true, Bool.not_eq_true'] at h
        obtain ⟨i1, i2⟩ := ih v h.2
        refine ⟨i1, fun n hn => ?_⟩
        rcases List.mem_cons.1 hn with rfl | hn
        · have := h.1
          simp only [List.contains_eq_mem, decide_eq_false_iff_not, List.mem_append, not_or] at this
          exact this.2
        · exact i2 n hn
    rw [List.flatMap_cons] at h
    obtain ⟨h1, h2⟩ := key _ _ h
    rcases List.mem_cons.1 ha with ha' | ha' <;> rcases List.mem_cons.1 hb with hb' | hb'
    · rw [ha', hb']
    · rw [ha'] at hna; exact (h2 n hna (List.mem_flatMap.2 ⟨b, hb', hnb⟩)).elim
    · rw [hb'] at hnb; exact (h2 n hnb (List.mem_flatMap.2 ⟨a, ha', hna⟩)).elim
    · exact nodup_flat h1 a ha' b hb' n hna hnb

theorem mutJ_mem {l : Ents} {x : Nat × E × Blk} (hx : x ∈ l) {b : Nat} (h : mutB F ρ ad x.1 x.2.2 = some b) : x.1 ∈ mutJ l := by
  unfold mutJ
  refine List.mem_filterMap.2 ⟨x, hx, ?_⟩
  revert h
  cases x.2.2 with
  | cells ty cs => intro _; rfl
  | lst ty row own le c =>
    cases own with
    | true => intro _; rfl
    | false => intro h; simp [mutB] at h
  | mp => intro _; rfl
  | seg => intro _; rfl
  | dead => intro h; simp [mutB] at h

theorem freeB_spec {nm k : Nat} (h : freeB m nm k = true) {i : Nat} (hi : i < k) : nm + i < m.length ∧ (m.at (nm + i)).isNone = true := by
  unfold freeB at h
  have := List.all_eq_true.1 h i (List.mem_range.2 hi)
  simpa using this

theorem setLe_nrm (b : Blk) (ty : Nat) (tl : Option Tl) (vs : List SV) : (setLe b (mkO ty tl vs)).nrm = mkO ty tl vs := by
  have h1 : ∀ x : Blk, (setLe b x).nrm = x.nrm := fun x => by cases b <;> cases x <;> rfl
  rw [h1]
  unfold mkO
  split
  · rfl
  · split <;> rfl
  · split <;> rfl
  · rfl
theorem objSet_spec {srcs : List Src} : ∀ {os : List Ob} {vs : List SV} {l : List (Nat × E × Blk)}, objSet srcs m os vs = some l →
    ∀ y ∈ l, ∃ j b0 X, srcs[j]? = some (.nm y.1) ∧ j ∈ os.map (·.j) ∧ ((j, mkB true, X) ∈ objE os vs ∧ X = y.2.2.nrm) ∧ m.at y.1 = some (y.2.1, b0)
  | [], vs, l, h, y, hy => by simp [objSet] at h; subst h; cases hy
  | o :: r, vs, l, h, y, hy => by
    simp only [objSet] at h
    split at h
    · rename_i n hn
      split at h
      · rename_i g b0 hm
        split at h
        · obtain ⟨l', hl, rfl⟩ := Option.map_eq_some_iff.1 h
          rcases List.mem_cons.1 hy with rfl | hy
          · exact ⟨o.j, b0, _, hn, by simp, ⟨by simp only [objE]; exact List.mem_cons_self .., (setLe_nrm _ _ _ _).symm⟩, hm⟩
          · obtain ⟨j', b0', X, a1, a2, a3, a4⟩ := objSet_spec hl y hy
            exact ⟨j', b0', X, a1, by simp at a2 ⊢; exact Or.inr a2, ⟨by simp only [objE]; exact List.mem_cons_of_mem _ a3.1, a3.2⟩, a4⟩
        · cases h
      · cases h
    · cases h
theorem objSet_has {srcs : List Src} : ∀ {os : List Ob} {vs : List SV} {l : List (Nat × E × Blk)}, objSet srcs m os vs = some l → ∀ j ∈ os.map (·.j), ∃ n, srcs[j]? = some (.nm n) ∧ ∃ y ∈ l, y.1 = n
  | [], vs, l, h, j, hj => by simp at hj
  | o :: r, vs, l, h, j, hj => by
    simp only [objSet] at h
    split at h
    · rename_i n hn
      split at h
      · rename_i g b0 hm
        split at h
        · obtain ⟨l', hl, rfl⟩ := Option.map_eq_some_iff.1 h
          simp only [List.map_cons, List.mem_cons] at hj
          rcases hj with rfl | hj
          · exact ⟨n, hn, _, List.mem_cons_self .., rfl⟩
          · obtain ⟨n', a1, y, a2, a3⟩ := objSet_has hl j hj
            exact ⟨n', a1, y, List.mem_cons_of_mem _ a2, a3⟩
        · cases h
      · cases h
    · cases h
/-- Where codes stand, at two readings. -/
def isXv : SV → Bool
  | .sc c => decide (c.kind = .x)
  | _ => false
theorem isX_eq (vs : List SV) : isX vs = (vs.map isXv).headD false := by
  cases vs with
  | nil => rfl
  | cons v r => cases v <;> rfl
theorem isXv_gen {ev1 ev2 : Nat → E} {nv1 nv2 : Nat → Nat} (hk : ∀ i, (ev1 i).kind = (ev2 i).kind) : ∀ (L : List Sh) (g1 g2 : E) (vi ni : Nat), (Sh.genL ev1 nv1 L g1 vi ni).1.map isXv = (Sh.genL ev2 nv2 L g2 vi ni).1.map isXv
  | [], _, _, _, _ => rfl
  | s :: r, g1, g2, vi, ni => by
    have ih := isXv_gen (nv1 := nv1) (nv2 := nv2) hk r g1 g2 (vi + s.ks.length) (ni + s.nn)
    simp only [Sh.genL, List.map_cons, ih]
    congr 1
    cases s <;> simp only [Sh.gen, isXv, hk]
theorem isXv_get {ev : Nat → E} {nv : Nat → Nat} : ∀ (L : List Sh) (acc : List Src) (vs : List SV) (r : List E × List Src × E) (g : E) (vi ni : Nat), Sh.getL m L acc vs = some r → (∀ i k, (Sh.ksL L)[i]? = some k → (ev (vi + i)).kind = k) → vs.map isXv = (Sh.genL ev nv L g vi ni).1.map isXv
  | [], acc, [], r, g, vi, ni, h, hk => rfl
  | [], acc, _ :: _, r, g, vi, ni, h, hk => by simp [Sh.getL] at h
  | _ :: _, acc, [], r, g, vi, ni, h, hk => by simp [Sh.getL] at h
  | s :: L, acc, v :: vs, r, g, vi, ni, h, hk => by
    simp only [Sh.getL] at h
    split at h
    · rename_i es ns g' hs
      obtain ⟨q, hq, rfl⟩ := Option.map_eq_some_iff.1 h
      have ih := isXv_get (nv := nv) L _ vs q g (vi + s.ks.length) (ni + s.nn) hq (fun i k hi => by
        have := hk (s.ks.length + i) k (by simp only [Sh.ksL]; rw [List.getElem?_append_right (by omega)]; simpa using hi)
        rwa [← Nat.add_assoc] at this)
      simp only [Sh.genL, List.map_cons, ih]
      congr 1
      cases s with
      | sc k =>
        have h0 := hk 0 k (by simp [Sh.ksL, Sh.ks])
        rw [Nat.add_zero] at h0
        cases v <;> simp only [Sh.get, reduceCtorEq] at hs
        split at hs
        · rename_i hc
          simp only [Sh.gen, isXv, h0, hc.1]
        · cases hs
      | lt k n =>
        cases v with
        | sc e =>
          cases e <;> simp only [Sh.get, reduceCtorEq] at hs
          split at hs
          · rename_i hc
            obtain ⟨rfl, rfl⟩ := hc
            rfl
          · cases hs
        | _ => simp [Sh.get] at hs
      | lst ty row own =>
        have h' : getLst m ty row own v = some (es, ns, g') := by cases v <;> simpa only [Sh.get] using hs
        simp only [Sh.gen, isXv]
        cases v <;> first | rfl | simp [getLst, viewL] at h'
      | opt s =>
        have h' : getOpt (mkB true :: s.ks.map fun k => E.lit k 0, List.replicate s.nn Src.dm, mkB true) v (fun u => s.get m acc u) = some (es, ns, g') := by cases v <;> simpa only [Sh.get] using hs
        simp only [Sh.gen, isXv]
        cases v <;> first | rfl | simp [getOpt, optV] at h'
      | lsn ty row => cases v <;> first | rfl | simp [Sh.get, getLsn] at hs
      | _ => cases v <;> first | rfl | simp [Sh.get] at hs
    · cases h

/-- The new cells of objects, at two readings. -/
theorem objE_same {F1 F2 : Fam} {ρ1 ρ2 : Nat → Int} {ad1 ad2 : Nat → Hd} : ∀ {os : List Ob} {vs us : List SV}, SV.concL F1 ρ1 ad1 vs = SV.concL F2 ρ2 ad2 us → vs.map isXv = us.map isXv → ∀ j X, (j, mkB true, X) ∈ objE os vs →
    ∃ ty tl vs' us', X = mkO ty tl vs' ∧ (j, mkB true, mkO ty tl us') ∈ objE os us ∧ SV.concL F1 ρ1 ad1 vs' = SV.concL F2 ρ2 ad2 us' ∧ isX vs' = isX us'
  | [], vs, us, h, hx, j, X, hm => by simp [objE] at hm
  | o :: r, vs, us, h, hx, j, X, hm => by
    simp only [objE, List.mem_cons, Prod.mk.injEq, true_and] at hm
    have ht : ∀ n, SV.concL F1 ρ1 ad1 (vs.take n) = SV.concL F2 ρ2 ad2 (us.take n) := fun n => by
      rw [concL_eq, concL_eq] at h ⊢; rw [List.map_take, List.map_take, h]
    have hd : ∀ n, SV.concL F1 ρ1 ad1 (vs.drop n) = SV.concL F2 ρ2 ad2 (us.drop n) := fun n => by
      rw [concL_eq, concL_eq] at h ⊢; rw [List.map_drop, List.map_drop, h]
    rcases hm with ⟨rfl, rfl⟩ | hm
    · exact ⟨o.ty, o.tl, _, us.take o.cs.length, rfl, by simp [objE], ht _, by rw [isX_eq, isX_eq, List.map_take, List.map_take, hx]⟩
    · obtain ⟨ty, tl, vs', us', a1, a2, a3, a4⟩ := objE_same (hd o.cs.length) (by rw [List.map_drop, List.map_drop, hx]) j X hm
      exact ⟨ty, tl, vs', us', a1, by simp only [objE]; exact List.mem_cons_of_mem _ a2, a3, a4⟩
theorem objE_j {os : List Ob} {vs : List SV} : ∀ x ∈ objE os vs, x.1 ∈ os.map (·.j) := by
  induction os generalizing vs with
  | nil => intro x hx; cases hx
  | cons o r ih =>
    intro x hx
    simp only [objE, List.mem_cons] at hx
    rcases hx with rfl | hx
    · simp
    · exact List.mem_cons_of_mem _ (ih x hx)
theorem objE_ok {p : Nat → Prop} {os : List Ob} {vs : List SV} (h : SV.okL p vs) : ∀ x ∈ objE os vs, SV.okL p x.2.2.cs := by
  induction os generalizing vs with
  | nil => intro x hx; cases hx
  | cons o r ih =>
    intro x hx
    simp only [objE, List.mem_cons] at hx
    rcases hx with rfl | hx
    · exact mkO_ok (okL_take h _)
    · exact ih (okL_drop h _) x hx
theorem lastV_conc {F1 F2 : Fam} {ρ1 ρ2 : Nat → Int} {ad1 ad2 : Nat → Hd} {vs us : List SV} (h : SV.concL F1 ρ1 ad1 vs = SV.concL F2 ρ2 ad2 us) : (lastV vs).conc F1 ρ1 ad1 = (lastV us).conc F2 ρ2 ad2 := by
  rw [concL_eq, concL_eq] at h
  have hl : ∀ (F : Fam) (ρ : Nat → Int) (ad : Nat → Hd) (l : List SV), (lastV l).conc F ρ ad = (l.map (SV.conc F ρ ad)).getLastD undef := fun F ρ ad l => by
    unfold lastV
    cases l with
    | nil => rfl
    | cons a l => rw [List.getLastD_eq_getLast?, List.getLastD_eq_getLast?, List.getLast?_map]; cases hh : (a :: l).getLast? with
      | none => rfl
      | some x => rfl
  rw [hl, hl, h]
theorem lastV_ok {p : Nat → Prop} {vs : List SV} (h : SV.okL p vs) : (lastV vs).ok p := by
  unfold lastV
  rw [List.getLastD_eq_getLast?]
  cases hh : vs.getLast? with
  | none => trivial
  | some x => exact (okL_iff p vs).1 h x (List.mem_of_getLast? hh)
end
end Go.Proofs.Ytmolkkphnehgcaa.Ew

/- That a call may be taken by its summary. -/
set_option linter.unusedVariables false
set_option linter.unusedSimpArgs false
namespace Go.Proofs.Ytmolkkphnehgcaa.Ew
open Go Go.RowKit

section
variable {P : Program} {ρ ρ' : Nat → Int} {G : Glob} {w0 w w' : World} {M0 Im0 Im Im' T : Nat → Prop} {ad ad' hs hs' : Nat → Hd} {m m' : Mem}

theorem viewL_sel {F : Fam} {ρ : Nat → Int} {m : Mem} {ad : Nat → Hd} {ty : Nat} {q : Row} : ∀ {v : SV} {V : LV}, viewL m ty q v = some V → V.own = true → V.g.tt F ρ = true → ∀ b, (v.conc F ρ ad).ownBlock = some b →
    ∃ n ∈ V.ns, ∃ g le c, m.at n = some (g, .lst ty q true le c) ∧ g.tt F ρ = true ∧ c.den F ρ = V.c.den F ρ ∧ v.conc F ρ ad = (ad n).sl (le.den F ρ).toNat
  | .ls n le, V, h, ho, hg, b, hb => by
    simp only [viewL] at h
    split at h
    · rename_i g ty' row' own le' c hn
      split at h
      · rename_i hc
        obtain ⟨rfl, rfl, h3, h4, h5, h6⟩ := hc
        simp only [Option.some.injEq] at h; subst h
        simp only at ho hg
        subst ho
        have hle := E.same_eq _ _ h3
        subst hle
        exact ⟨n, by simp, g, _, c, hn, hg, rfl, rfl⟩
      · cases h
    · cases h
  | .sv n str l0 lo hi, V, h, ho, hg, b, hb => by
    simp only [viewL] at h
    split at h
    · split at h
      · simp only [Option.some.injEq] at h; subst h
        simp at ho
      · cases h
    · cases h
  | .nilp c, V, h, ho, hg, b, hb => by
    cases c <;> simp only [viewL, Option.some.injEq, reduceCtorEq] at h
    simp [SV.conc, CV.val, Value.ownBlock] at hb
  | .ite p x y, V, h, ho, hg, b, hb => by
    simp only [viewL] at h
    split at h
    · rename_i X Y hx hy
      split at h
      · rename_i hp
        simp only [Option.some.injEq] at h; subst h
        simp only [Bool.and_eq_true] at ho
        obtain ⟨i1, i2, i3⟩ := viewL_kind hx
        obtain ⟨j1, j2, j3⟩ := viewL_kind hy
        simp only at hg
        rw [(mkIte_b hp i3 j3).2] at hg
        have hd := (mkIte_x (F := F) (ρ := ρ) hp i2 j2).2
        cases hpt : p.tt F ρ
        · simp only [SV.conc, hpt, cond_false] at hb hg hd ⊢
          obtain ⟨n, hn, g, le, c, q1, q2, q3, q4⟩ := viewL_sel hy ho.2 hg b hb
          exact ⟨n, List.mem_append_right _ hn, g, le, c, q1, q2, q3.trans hd.symm, q4⟩
        · simp only [SV.conc, hpt, cond_true] at hb hg hd ⊢
          obtain ⟨n, hn, g, le, c, q1, q2, q3, q4⟩ := viewL_sel hx ho.1 hg b hb
          exact ⟨n, List.mem_append_left _ hn, g, le, c, q1, q2, q3.trans hd.symm, q4⟩
      · cases h
    · cases h
  | .sc _, V, h, _, _, _, _ | .ptr .., V, h, _, _, _, _ | .pi .., V, h, _, _, _, _ | .sl .., V, h, _, _, _, _ | .pe .., V, h, _, _, _, _ | .mp .., V, h, _, _, _, _ | .oq .., V, h, _, _, _, _ | .fn .., V, h, _, _, _, _ | .agg .., V, h, _, _, _, _ | .tup .., V, h, _, _, _, _ | .gd .., V, h, _, _, _, _ | .und, V, h, _, _, _, _ | .gl .., V, h, _, _, _, _ => by simp [viewL] at h

theorem OwL.hd {w : World} {Im : Nat → Prop} {ty : Nat} {q : Row} {h h' : Hd} {l : RL} (ho : OwL w Im ty q h l) (e : h.sl l.length = h'.sl l.length) : OwL w Im ty q h' l := by
  obtain ⟨h1, xs, h2, h3⟩ := ho
  exact ⟨h1, xs, by rw [← e]; exact h2, h3⟩

mutual
theorem get_nm : ∀ (s : Sh) (acc : List Src) (v : SV) (r : List E × List Src × E), s.get m acc v = some r → ∀ n, Src.nm n ∈ r.2.1 → al m n
  | .sc k, acc, v, r, h, n, hn => by
    cases v <;> simp only [Sh.get, reduceCtorEq] at h
    split at h <;> simp only [Option.some.injEq, reduceCtorEq] at h
    subst h; cases hn
  | .lt k z, acc, v, r, h, n, hn => by
    cases v with
    | sc x =>
      cases x <;> simp only [Sh.get, reduceCtorEq] at h
      split at h <;> simp only [Option.some.injEq, reduceCtorEq] at h
      subst h; cases hn
    | _ => simp [Sh.get] at h
  | .agg L, acc, v, r, h, n, hn => by
    cases v <;> simp only [Sh.get, reduceCtorEq] at h
    exact getL_nm L acc _ r h n hn
  | .lst ty row own, acc, v, r, h, n, hn => by
    have h' : getLst m ty row own v = some r := by cases v <;> simpa only [Sh.get] using h
    unfold getLst at h'
    split at h'
    · split at h' <;> simp only [Option.some.injEq, reduceCtorEq] at h'
      subst h'
      simp at hn
    · cases h'
  | .lsn ty row, acc, v, r, h, n, hn => by
    have h' : getLsn m ty row v = some r := by cases v <;> simpa only [Sh.get] using h
    obtain ⟨k, le, g, c, rfl, hk, rfl, _⟩ := getLsn_spec h'
    simp only [List.mem_singleton, Src.nm.injEq] at hn
    subst hn
    exact Mem.at_al hk
  | .obj ty cs, acc, v, r, h, n, hn => by
    cases v with
    | ptr k o =>
      cases o with
      | zero =>
        simp only [Sh.get] at h
        split at h
        · rename_i g' ty' vs hb
          split at h
          · obtain ⟨q, hq, rfl⟩ := Option.map_eq_some_iff.1 h
            simp only [List.mem_cons, Src.nm.injEq] at hn
            rcases hn with rfl | hn
            · exact Mem.at_al (blkC_spec hb).1
            · exact getL_nm cs _ vs q hq n hn
          · cases h
        · cases h
      | succ o => simp [Sh.get] at h
    | _ => simp [Sh.get] at h
  | .mp ks vs kag vag, acc, v, r, h, n, hn => by
    cases v <;> simp only [Sh.get, reduceCtorEq] at h
    case mp k =>
      obtain ⟨g, c, h1, rfl, h3, h4⟩ := getMp_spec h
      simp at hn
    case ite p a b =>
      obtain ⟨q, h1, rfl⟩ := Option.map_eq_some_iff.1 h
      simp at hn
  | .seg ty ks cs, acc, v, r, h, n, hn => by
    cases v with
    | ptr k o =>
      cases o with
      | zero =>
        simp only [Sh.get] at h
        split at h
        · rename_i g' ty' vs ks' c hb
          split at h
          · obtain ⟨q, hq, rfl⟩ := Option.map_eq_some_iff.1 h
            simp only [List.mem_cons, Src.nm.injEq] at hn
            rcases hn with rfl | hn
            · exact Mem.at_al (blkS_spec hb).1
            · exact getL_nm cs _ vs q hq n hn
          · cases h
        · cases h
      | succ o => simp [Sh.get] at h
    | _ => simp [Sh.get] at h
  | .pin j off str, acc, v, r, h, n, hn => by
    cases v <;> simp only [Sh.get, reduceCtorEq] at h
    split at h <;> simp only [Option.some.injEq, reduceCtorEq] at h
    subst h; cases hn
  | .ref j, acc, v, r, h, n, hn => by
    cases v with
    | ptr k o =>
      cases o with
      | zero =>
        simp only [Sh.get] at h
        split at h <;> simp only [Option.some.injEq, reduceCtorEq] at h
        subst h; cases hn
      | succ o => simp [Sh.get] at h
    | _ => simp [Sh.get] at h
  | .fnc f L, acc, v, r, h, n, hn => by
    cases v <;> simp only [Sh.get, reduceCtorEq] at h
    split at h
    · exact getL_nm L acc _ r h n hn
    · cases h
  | .nul c, acc, v, r, h, n, hn => by
    cases v <;> simp only [Sh.get, reduceCtorEq] at h
    split at h <;> simp only [Option.some.injEq, reduceCtorEq] at h
    subst h; cases hn
  | .tup L, acc, v, r, h, n, hn => by
    cases v <;> simp only [Sh.get, reduceCtorEq] at h
    exact getL_nm L acc _ r h n hn
  | .opt s, acc, v, r, h, n, hn => by
    have h' : getOpt (mkB true :: s.ks.map fun k => E.lit k 0, List.replicate s.nn Src.dm, mkB true) v (fun u => s.get m acc u) = some r := by cases v <;> simpa only [Sh.get] using h
    unfold getOpt at h'
    split at h'
    · simp only [Option.some.injEq] at h'; subst h'
      simp only [List.mem_replicate] at hn
      cases hn.2
    · split at h'
      · obtain ⟨q, hq, rfl⟩ := Option.map_eq_some_iff.1 h'
        exact get_nm s acc _ q hq n hn
      · cases h'
    · cases h'
  | .und, acc, v, r, h, n, hn => by
    cases v <;> simp only [Sh.get, reduceCtorEq] at h
    simp only [Option.some.injEq] at h; subst h; cases hn
theorem getL_nm : ∀ (L : List Sh) (acc : List Src) (vs : List SV) (r : List E × List Src × E), Sh.getL m L acc vs = some r → ∀ n, Src.nm n ∈ r.2.1 → al m n
  | [], acc, [], r, h, n, hn => by simp only [Sh.getL, Option.some.injEq] at h; subst h; cases hn
  | [], acc, _ :: _, r, h, n, hn => by simp [Sh.getL] at h
  | _ :: _, acc, [], r, h, n, hn => by simp [Sh.getL] at h
  | s :: L, acc, v :: vs, r, h, n, hn => by
    simp only [Sh.getL] at h
    split at h
    · rename_i es' ns' g' hs0
      obtain ⟨q, hq, rfl⟩ := Option.map_eq_some_iff.1 h
      rcases List.mem_append.1 hn with hn | hn
      · exact get_nm s acc v _ hs0 n hn
      · exact getL_nm L _ vs q hq n hn
    · cases h
end
theorem SameL.self {F1 F2 : Fam} {ρ1 ρ2 : Nat → Int} {ad1 ad2 : Nat → Hd} {nv1 nv2 : Nat → Nat} : ∀ {a : Ents}, SameL F1 F2 ρ1 ρ2 ad1 ad2 nv1 nv2 a a → ∀ x ∈ a, SameE F1 F2 ρ1 ρ2 ad1 ad2 nv1 nv2 x x
  | [], _, x, hx => by cases hx
  | a :: l, h, x, hx => by
    rcases List.mem_cons.1 hx with rfl | hx
    · exact h.1
    · exact SameL.self h.2 x hx

theorem callE_core {l : Tabs} {e : Ent} (he : l.get e.key = some e) (hG : GOK G Im0 w0) (hR : Rel l.F ρ w0 M0 Im0 ad m w) {nm : Nat} {args : List SV} {g : E} {v : SV}
    (h : callE e m nm args = some (g, v, m')) : g.kind = .b ∧ (g.tt l.F ρ = true → ∃ (xs : List Int) (hs : Nat → Hd) (M1 Im : Nat → Prop), fits e.pks xs ∧ e.pre xs ∧ SV.concL l.F ρ ad args = SV.concL F0 (env xs) hs e.pgen.1 ∧
      (∀ b, M1 b → ¬ Im b ∧ b < w.heap.size) ∧ GOK G Im w ∧ RelE F0 (env xs) w M1 Im hs e.pgen.2 w ∧
      ∀ (w' : World) (hs' : Nat → Hd) (Im' : Nat → Prop), (∀ j, j < e.nn → hs' j = hs j) → (∀ b, Im b → Im' b) → (∀ b, Im' b → Im b ∨ M1 b ∨ w.heap.size ≤ b) → RelE F0 (env (xs ++ outsE e.fn xs 0 e.oks)) w M1 Im' hs' e.oents w' →
        ∃ ad', v.conc l.F ρ ad' = (lastV e.ogen.1).conc F0 (env (xs ++ outsE e.fn xs 0 e.oks)) hs' ∧ Rel l.F ρ w0 M0 Im0 ad' m' w' ∧ Ext ad ad' m m' ∧ v.ok (al m')) := by
  have hB := l.BI
  unfold callE at h
  split at h
  · rename_i es srcs g0 hget
    simp only at h
    split at h
    · rename_i sets hsets
      split at h
      · rename_i hc
        obtain ⟨c1, ⟨c2, c2'⟩, c3, c4, c5, c6, c7, c8, c9, c10⟩ := hc
        simp only [Option.some.injEq, Prod.mk.injEq] at h
        obtain ⟨rfl, rfl, rfl⟩ := h
        obtain ⟨k1, k2, k3, k4⟩ := getL_kinds e.ps [] args _ hget
        simp only at k1 k2 k3 k4
        have hpk : (E.app .b e.key preC es).kind = .b := rfl
        have hm := mkAnd_spec g0 (.app .b e.key preC es) k3 hpk l.F ρ
        have hml := mkAnd_spec (mkAnd g0 (.app .b e.key preC es)) (leC sets) hm.2 (leC_kind _) l.F ρ
        have hmd := mkAnd_spec (mkAnd (mkAnd g0 (.app .b e.key preC es)) (leC sets)) (defG e.key nm es e.oks) hml.2 (defG_kind _ _ _ _) l.F ρ
        refine ⟨hmd.2, fun hg => ?_⟩
        rw [hmd.1, Bool.and_eq_true] at hg
        obtain ⟨hg, hgd⟩ := hg
        rw [hml.1, Bool.and_eq_true] at hg
        obtain ⟨hg, hgl⟩ := hg
        rw [hm.1, Bool.and_eq_true] at hg
        have hG' := hG.now hR
        have hR0 := hR
        obtain ⟨hM, Im, h1, h2, hI⟩ := hR
        -- the parameters
        have hxs : ∃ xs, xs = es.map (E.den l.F ρ) := ⟨_, rfl⟩
        obtain ⟨xs, hxs⟩ := hxs
        have hfit : fits e.pks xs := by rw [hxs]; exact fits_of k1 k4
        have hxl : xs.length = e.np := fits_length hfit
        have hel : es.length = e.np := by rw [← hxl, hxs]; simp
        have hpre : e.pre xs := by
          have := hg.2
          unfold E.tt at this
          simp only [E.den, denL_eq, ← hxs] at this
          exact (Tabs.F_pre he c7 rfl).1 this
        have hSrc : SrcAt srcs 0 srcs := fun j s hj => by simpa using hj
        have hev : EvOK l.F ρ (env xs) (varE e.pks) 0 es := fun i x hi => by
          have hil := (List.getElem?_eq_some_iff.1 hi).1
          rw [Nat.zero_add]
          refine ⟨?_, ?_⟩
          · rw [varE_den hfit, if_pos (by rw [show e.pks.length = e.np from rfl]; omega), hxs]
            simp [List.getD, hi]
          · refine varE_kind _ _ _ ?_
            have : (es.map E.kind)[i]? = some x.kind := by simp [hi]
            rw [k1] at this; exact this
        obtain ⟨p1, p2⟩ := shgetL_spec (F := l.F) (ρ := ρ) (ρ' := env xs) (w0 := w0) (w := w) (M0 := M0) (Im := Im) (ad := ad) (m := m) (ev := varE e.pks) (S := srcs) (hs := fun j => match srcs[j]? with | some s => srcHd l.F ρ w Im ad m s | none => default)
          hB hI (fun j s hj => by simp only [hj]) e.ps [] args _ (mkB true) 0 hget (mkB_kind _) (fun j s hj => by simp at hj) hSrc hev hg.1
        generalize hhs : (fun j => match srcs[j]? with | some s => srcHd l.F ρ w Im ad m s | none => default : Nat → Hd) = hs at p1 p2
        change SV.concL l.F ρ ad args = SV.concL F0 (env xs) hs e.pgen.1 at p1
        change ∀ x ∈ e.pgen.2, _ at p2
        -- what may be written
        have hM1 : ∃ M1 : Nat → Prop, M1 = fun b => ∃ x ∈ e.pgen.2, x.2.1.tt F0 (env xs) = true ∧ mutB F0 (env xs) hs x.1 x.2.2 = some b := ⟨_, rfl⟩
        obtain ⟨M1, hM1⟩ := hM1
        have hM1b : ∀ b, M1 b → (M0 b ∨ w0.heap.size ≤ b) ∧ ¬ Im b ∧ b < w.heap.size := fun b hb => by
          rw [hM1] at hb
          obtain ⟨x, hx, hxg, hxb⟩ := hb
          obtain ⟨n, _, g', y, a1, a2, a3⟩ := (p2 x hx hxg).mu b hxb
          exact (hI.ent n g' y a1 a2).2 b a3
        have hrel : RelE F0 (env xs) w M1 Im hs e.pgen.2 w := by
          refine ⟨fun x hx hxg => ⟨(p2 x hx hxg).ok, fun b hb => ?_⟩, fun x hx y hy hxg hyg b hbx hby => ?_, hI.im, Fr.refl _ _⟩
          · have hb1 : M1 b := by rw [hM1]; exact ⟨x, hx, hxg, hb⟩
            exact ⟨Or.inl hb1, (hM1b b hb1).2⟩
          · obtain ⟨n, n1, g1, y1, a1, a2, a3⟩ := (p2 x hx hxg).mu b hbx
            obtain ⟨n', n1', g1', y1', a1', a2', a3'⟩ := (p2 y hy hyg).mu b hby
            have := hI.inj n n' g1 y1 g1' y1' b a1 a2 a1' a2' a3 a3'
            subst this
            exact nodup_flat c1 x.1 (mutJ_mem hx hbx) y.1 (mutJ_mem hy hby) n n1 n1'
        refine ⟨xs, hs, M1, Im, hfit, hpre, p1, fun b hb => ⟨(hM1b b hb).2.1, (hM1b b hb).2.2⟩, hG.fr hM hI.fr h1, hrel, fun w' hs' Im' q1 q2 q3 q5 => ?_⟩
        -- names behind the call
        have hys : ∃ ys, ys = outsE e.fn xs 0 e.oks := ⟨_, rfl⟩
        obtain ⟨ys, hys⟩ := hys
        rw [← hys] at q5 ⊢
        have hyfit : fits e.oks ys := by rw [hys]; exact outsE_fits _ _ _ _
        have hyl : ys.length = e.oks.length := fits_length hyfit
        have hod : (outV e.key nm es e.oks).map (E.den l.F ρ) = ys := by rw [outV_den hgd, appsE_den he c7 es e.oks 0 (by have := c8; omega), ← hxs, hys]
        have hall : fits (e.pks ++ e.oks) (xs ++ ys) := fits_append hfit hyfit
        let nw := Sh.nnL e.outL
        let ad' : Nat → Hd := fun k => if nm ≤ k ∧ k < nm + nw then hs' (e.nn + (k - nm)) else if 1000000000 ≤ k then hs' (k - 1000000000) else ad k
        have hfree : ∀ k, al m k → ¬ (nm ≤ k ∧ k < nm + nw) ∧ k < m.length := fun k hk => by
          obtain ⟨x, hx⟩ := Option.isSome_iff_exists.1 hk
          refine ⟨fun ⟨a, b⟩ => ?_, Mem.at_lt hx⟩
          have := (freeB_spec c3 (i := k - nm) (by show k - nm < nw; omega)).2
          rw [show nm + (k - nm) = k by omega, hx] at this
          cases this
        have hadal : ∀ k, al m k → ad k = ad' k := fun k hk => by
          obtain ⟨a, b⟩ := hfree k hk
          have c4' := c4
          simp only [ad', if_neg a, if_neg (show ¬ 1000000000 ≤ k by omega)]
        have hnmal : ∀ j n, srcs[j]? = some (Src.nm n) → hs j = ad n := fun j n hj => by rw [← hhs]; simp only [hj]; rfl
        have newlt : ∀ t, t < nw → nm + t < m.length := fun t ht => (freeB_spec c3 ht).1
        have nmal : ∀ j n, srcs[j]? = some (Src.nm n) → al m n := fun j n hj => getL_nm e.ps [] args _ hget n (List.mem_of_getElem? hj)
        have hadnv : ∀ j, ad' (nvC srcs e.nn nm nw j) = hs' j := fun j => by
          unfold nvC
          by_cases hj : j < e.nn
          · rw [if_pos hj]
            split
            · rename_i n hn
              rw [← hadal n (nmal j n hn), ← hnmal j n hn, q1 j hj]
            · have hnl : nm + nw ≤ m.length ∨ nw = 0 := by
                by_cases hz : nw = 0
                · exact Or.inr hz
                · exact Or.inl (by have := newlt (nw - 1) (by omega); omega)
              simp only [ad']
              rw [if_neg (by omega), if_pos (by omega), show 1000000000 + j - 1000000000 = j by omega]
          · rw [if_neg hj]
            by_cases hw : j - e.nn < nw
            · rw [if_pos hw]
              simp only [ad']
              rw [if_pos (by omega)]
              congr 1; omega
            · rw [if_neg hw]
              have hnl : nm + nw ≤ m.length ∨ nw = 0 := by
                by_cases hz : nw = 0
                · exact Or.inr hz
                · exact Or.inl (by have := newlt (nw - 1) (by omega); omega)
              simp only [ad']
              rw [if_neg (by omega), if_pos (by omega), show 1000000000 + j - 1000000000 = j by omega]
        have htr : ∀ B, Tr B l.F F0 ρ (env (xs ++ ys)) ad' hs' (evC es (outV e.key nm es e.oks)) (varE (e.pks ++ e.oks)) (nvC srcs e.nn nm nw) id := fun B => by
          have hkk : (outV e.key nm es e.oks).map E.kind = e.oks := outV_kind _ _ _ _
          have hol := outV_len e.key nm es e.oks
          refine ⟨hB, BI_F0, fun i => ?_, fun i => ?_, fun j _ => hadnv j⟩
          · rw [varE_den hall, List.length_append, getD_app, hxl]
            unfold evC
            rw [hel, show e.pks.length = e.np from rfl]
            by_cases hi : i < e.np
            · rw [if_pos hi, if_pos (by omega), if_pos hi, hxs]
              simp [List.getD, show i < es.length by omega]
            · rw [if_neg hi, if_neg hi]
              by_cases hi2 : i - e.np < e.oks.length
              · rw [if_pos (by omega), ← hod]
                simp [List.getD, show i - e.np < (outV e.key nm es e.oks).length by omega]
              · rw [if_neg (by omega)]
                simp [List.getD, List.getElem?_eq_none (show (outV e.key nm es e.oks).length ≤ i - e.np by omega), b2i]
          · unfold evC varE
            rw [hel]
            by_cases hi : i < e.np
            · rw [if_pos hi, List.getElem?_append_left (by exact hi)]
              have : (es.map E.kind)[i]? = e.pks[i]? := by rw [k1]; rfl
              rw [List.getElem?_map, List.getElem?_eq_getElem (show i < es.length by omega)] at this
              simp only [Option.map_some] at this
              rw [← this]
              simp [List.getD, show i < es.length by omega, E.kind]
            · rw [if_neg hi, List.getElem?_append_right (by rw [show e.pks.length = e.np from rfl]; omega), show e.pks.length = e.np from rfl]
              by_cases hi2 : i - e.np < e.oks.length
              · have : ((outV e.key nm es e.oks).map E.kind)[i - e.np]? = e.oks[i - e.np]? := by rw [hkk]
                rw [List.getElem?_map, List.getElem?_eq_getElem (show i - e.np < (outV e.key nm es e.oks).length by omega)] at this
                simp only [Option.map_some] at this
                rw [← this]
                simp [List.getD, show i - e.np < (outV e.key nm es e.oks).length by omega, E.kind]
              · rw [List.getElem?_eq_none (by omega)]
                simp [List.getD, List.getElem?_eq_none (show (outV e.key nm es e.oks).length ≤ i - e.np by omega)]
        have hkev : ∀ i k, (Sh.ksL e.outL)[i]? = some k → (evC es (outV e.key nm es e.oks) (e.np + i)).kind = k := fun i k hi => by
          have hkk : (outV e.key nm es e.oks).map E.kind = e.oks := outV_kind _ _ _ _
          have hil : i < e.oks.length := (List.getElem?_eq_some_iff.1 hi).1
          have hol := outV_len e.key nm es e.oks
          unfold evC
          rw [hel, if_neg (by omega), show e.np + i - e.np = i by omega]
          have : ((outV e.key nm es e.oks).map E.kind)[i]? = some k := by rw [hkk]; exact hi
          rw [List.getElem?_map, List.getElem?_eq_getElem (show i < (outV e.key nm es e.oks).length by omega)] at this
          simp only [Option.map_some, Option.some.injEq] at this
          simp [List.getD, show i < (outV e.key nm es e.oks).length by omega, this]
        have hrefs : ∀ j ∈ Sh.refsL e.outL, isRef srcs j = true ∧ j < e.nn := fun j hj => by
          have := List.all_eq_true.1 c9 j hj
          simpa using this
        obtain ⟨t1, t2⟩ := genL_tr (htr (e.nn + nw)) e.outL (mkB true) (mkB true) e.np e.nn (mkB_kind _) (mkB_kind _) (by simp) hkev (Nat.le_refl _) (fun j hj => by have := (hrefs j hj).2; omega)
        change SV.concL l.F ρ ad' _ = SV.concL F0 (env (xs ++ ys)) hs' e.ogen.1 at t1
        change SameL l.F F0 ρ (env (xs ++ ys)) ad' hs' (nvC srcs e.nn nm nw) id _ e.ogen.2 at t2
        have hisx : (Sh.genL (evC es (outV e.key nm es e.oks)) (nvC srcs e.nn nm nw) e.outL (mkB true) e.np e.nn).1.map isXv = e.ogen.1.map isXv := isXv_gen (htr 0).kd e.outL _ _ _ _
        generalize hgen : Sh.genL (evC es (outV e.key nm es e.oks)) (nvC srcs e.nn nm (Sh.nnL e.outL)) e.outL (mkB true) e.np e.nn = gen at hsets t1 t2 hisx ⊢
        have hgo : ∀ p : Nat → Prop, (∀ j, e.nn ≤ j → j < e.nn + nw → p (nvC srcs e.nn nm nw j)) → (∀ j ∈ Sh.refsL e.outL, p (nvC srcs e.nn nm nw j)) → SV.okL p gen.1 ∧ ∀ x ∈ gen.2, (e.nn ≤ x.1 ∧ x.1 < e.nn + nw) ∧ SV.okL p x.2.2.cs := fun p a b => by
          rw [← hgen]; exact genL_ok _ _ _ _ a b
        have hgh : ∀ j, e.nn ≤ j → j < e.nn + nw → ∃ x ∈ gen.2, x.1 = j := fun j a b => by rw [← hgen]; exact genL_has _ _ _ _ j a b
        have hnew : ∀ j, e.nn ≤ j → j < e.nn + nw → nvC srcs e.nn nm nw j = nm + (j - e.nn) ∧ nm + (j - e.nn) < m.length := fun j a b => by
          refine ⟨?_, newlt _ (by omega)⟩
          unfold nvC
          rw [if_neg (by omega), if_pos (by omega)]
        have hself := (genL_tr (Tr.params (ys := ys) e.nn hfit q1) e.ps (mkB true) (mkB true) 0 0 (mkB_kind _) (mkB_kind _) (by simp) (fun i k hi => by rw [Nat.zero_add]; exact varE_kind _ _ _ hi) (by rw [Nat.zero_add]; exact Nat.le_refl _) (fun j hj => by have := List.all_eq_true.1 c10 j hj; simpa using this)).2.self
        change ∀ x ∈ e.pgen.2, _ at hself
        have hsrclen : ∀ j s, srcs[j]? = some s → j < e.nn := fun j s hj => by have := (List.getElem?_eq_some_iff.1 hj).1; rw [k2] at this; exact this
        -- what the memory behind the call holds
        let dead := ((mutJ e.pgen.2).filter fun j => !e.kp.contains j && !(e.os.any fun o => o.j == j)).flatMap (srcOf srcs)
        have hkeep : ∀ k, al m k → al (setEs (setEs (killL m dead) sets) (gen.2.map fun x => (nvC srcs e.nn nm nw x.1, x.2.1, x.2.2))) k := fun k hk => setEs_al (setEs_al ((killL_al dead m k).2 hk))
        have hnews : ∀ j, e.nn ≤ j → j < e.nn + nw → al (setEs (setEs (killL m dead) sets) (gen.2.map fun x => (nvC srcs e.nn nm nw x.1, x.2.1, x.2.2))) (nvC srcs e.nn nm nw j) := fun j a b => by
          obtain ⟨x, x1, x2⟩ := hgh j a b
          obtain ⟨r1, r2⟩ := hnew j a b
          have := setEs_new (l := gen.2.map fun x => (nvC srcs e.nn nm nw x.1, x.2.1, x.2.2)) (m := setEs (killL m dead) sets) (y := (nvC srcs e.nn nm nw x.1, x.2.1, x.2.2)) (List.mem_map.2 ⟨x, x1, rfl⟩) (by rw [setEs_len, killL_len, x2]; show nvC srcs e.nn nm nw j < _; rw [r1]; exact r2)
          rwa [x2] at this
        obtain ⟨gok1, gok2⟩ := hgo (al (setEs (setEs (killL m dead) sets) (gen.2.map fun x => (nvC srcs e.nn nm nw x.1, x.2.1, x.2.2)))) hnews fun j hj => by
          obtain ⟨r1, r2⟩ := hrefs j hj
          unfold isRef at r1
          split at r1
          · rename_i n hn
            have : nvC srcs e.nn nm nw j = n := by unfold nvC; rw [if_pos r2]; simp only [hn]
            rw [this]
            exact hkeep n (nmal j n hn)
          · cases r1
        let NameIs : Nat → Nat → Blk → Prop := fun j n x => (srcOf srcs j = [n] ∧ j < e.nn) ∨ (e.nn ≤ j ∧ n = nvC srcs e.nn nm nw j) ∨ (n ∈ srcOf srcs j ∧ j < e.nn ∧ ∃ g, m.at n = some (g, x) ∧ g.tt l.F ρ = true)
        have hIm : ∀ b, Im b → Im' b ∧ w'.heap[b]? = w.heap[b]? := fun b hb => ⟨q2 b hb, q5.fr.block b (hI.im b hb) fun t => (hM1b b t).2.1 hb⟩
        have cls : ∀ n g x, (setEs (setEs (killL m dead) sets) (gen.2.map fun x => (nvC srcs e.nn nm nw x.1, x.2.1, x.2.2))).at n = some (g, x) → g.tt l.F ρ = true →
            ((∃ g', m.at n = some (g', x) ∧ g'.tt l.F ρ = true) ∧ ∀ b, mutB l.F ρ ad n x = some b → ¬ M1 b ∧ ¬ Im' b) ∨
            (∃ z ∈ e.oents, z.2.1.tt F0 (env (xs ++ ys)) = true ∧ NameIs z.1 n x ∧ mutB l.F ρ ad' n x = mutB F0 (env (xs ++ ys)) hs' z.1 z.2.2 ∧ BlkOK l.F ρ Im' ad' n w' x) ∨ x = .dead := by
          intro n g x hn hg'
          rcases mem_setEs hn with hn | ⟨hn1, hn⟩ | ⟨y, hy, hy1, hy2⟩
          · obtain ⟨y, hy, he'⟩ := List.mem_map.1 hn
            simp only [Prod.mk.injEq] at he'
            obtain ⟨rfl, rfl, rfl⟩ := he'
            obtain ⟨z, hz, hs⟩ := t2.mem y hy
            right; left
            have hzo : z ∈ e.oents := by unfold Ent.oents; exact List.mem_append_right _ (List.mem_append_right _ hz)
            have hzg : z.2.1.tt F0 (env (xs ++ ys)) = true := by rw [← hs.gd]; exact hg'
            have hb1 := (q5.ent z hzo hzg).1
            exact ⟨z, hzo, hzg, Or.inr (Or.inl ⟨by rw [← hs.nm]; exact (gok2 y hy).1.1, by rw [← hs.nm]⟩), hs.mu, (hs.ok Im' w').2 hb1⟩
          · rcases mem_setEs hn with hn | ⟨hn2, hn⟩ | ⟨y, hy, hy1, hy2⟩
            · obtain ⟨j, b0, X, s1, s2, ⟨s4, s4'⟩, s5⟩ := objSet_spec hsets _ hn
              simp only at s1 s4' s5
              obtain ⟨ty, tl, vs', us', hX, u1, u2, u3⟩ := objE_same (F1 := l.F) (F2 := F0) (ρ1 := ρ) (ρ2 := env (xs ++ ys)) (ad1 := ad') (ad2 := hs') t1 hisx j X s4
              have hnr := Blk.nrm_same (leC_spec hgl _ hn) ad' n
              simp only at hnr
              right; left
              have hzo : (j, mkB true, mkO ty tl us') ∈ e.oents := by unfold Ent.oents; exact List.mem_append_left _ u1
              have hjn := hsrclen j _ s1
              have hadn : ad' n = hs' j := by rw [← hadal n (Mem.at_al s5), ← hnmal j n s1, q1 j hjn]
              have hb1 := (q5.ent _ hzo (by simp)).1
              obtain ⟨v1, v2⟩ := mkO_same (n := n) (j := j) (ty := ty) (tl := tl) hB BI_F0 u2 u3 hadn
              rw [← hX, s4'] at v1 v2
              exact ⟨_, hzo, by simp, Or.inl ⟨by simp [srcOf, s1, Src.ns], hjn⟩, hnr.1.symm.trans v1, (hnr.2 Im' w').1 ((v2 Im' w').2 hb1)⟩
            · rcases killL_at hn with hd | ⟨hn3, hn4⟩
              · exact Or.inr (Or.inr hd)
              · cases hmb : mutB l.F ρ ad n x with
                | none => exact Or.inl ⟨⟨g, hn3, hg'⟩, fun b hb => by cases hb⟩
                | some b =>
                  obtain ⟨hx1, hx2⟩ := hI.ent n g x hn3 hg'
                  by_cases hb1 : M1 b
                  · have hb1' := hb1
                    rw [hM1] at hb1'
                    obtain ⟨y, hy, hyg, hyb⟩ := hb1'
                    have hEnt := p2 y hy hyg
                    obtain ⟨n', n1, g1, y1, a1, a2, a3⟩ := hEnt.mu b hyb
                    have hnn := hI.inj n' n g1 y1 g x b a1 a2 hn3 hg' a3 hmb
                    subst hnn
                    have hyj := mutJ_mem hy hyb
                    have hkp : e.kp.contains y.1 = true := by
                      cases hkc : e.kp.contains y.1 with
                      | true => rfl
                      | false =>
                        exfalso
                        by_cases hos : (e.os.any fun o => o.j == y.1) = true
                        · obtain ⟨o, ho1, ho2⟩ := List.any_eq_true.1 hos
                          have hoj : o.j = y.1 := by simpa using ho2
                          obtain ⟨n'', b1, yy, b2, b3⟩ := objSet_has hsets y.1 (List.mem_map.2 ⟨o, ho1, hoj⟩)
                          have : srcOf srcs y.1 = [n''] := by simp [srcOf, b1, Src.ns]
                          rw [this] at n1
                          simp only [List.mem_singleton] at n1
                          subst n1
                          exact hn2 yy b2 b3
                        · refine hn4 (List.mem_flatMap.2 ⟨y.1, List.mem_filter.2 ⟨hyj, ?_⟩, n1⟩)
                          rw [hkc]
                          simp only [Bool.not_false, Bool.true_and, Bool.not_eq_true', Bool.not_eq_true] at hos ⊢
                          exact hos
                    have hyo : y ∈ e.oents := by unfold Ent.oents keptE; exact List.mem_append_right _ (List.mem_append_left _ (List.mem_filter.2 ⟨hy, hkp⟩))
                    have hse := hself y hy
                    have hyg' : y.2.1.tt F0 (env (xs ++ ys)) = true := by rw [← hse.gd]; exact hyg
                    obtain ⟨r1, r2⟩ := q5.ent y hyo hyg'
                    have r1' := (hse.ok Im' w').2 r1
                    have hk1 := List.all_eq_true.1 c2 y.1 (by simpa using hkp)
                    have hadn : ad' n' = ad n' := (hadal n' (Mem.at_al hn3)).symm
                    right; left
                    have hmu : mutB l.F ρ ad' n' x = mutB F0 (env (xs ++ ys)) hs' y.1 y.2.2 := by
                      rw [mutB_congr hadn, hmb]
                      have := hse.mu
                      simp only [id] at this
                      rw [← this, hyb]
                    split at hk1
                    · rename_i n0 hn0
                      have hso : srcOf srcs y.1 = [n0] := by simp [srcOf, hn0, Src.ns, dd]
                      rw [hso] at n1
                      simp only [List.mem_singleton] at n1
                      subst n1
                      refine ⟨y, hyo, hyg', Or.inl ⟨hso, hsrclen _ _ hn0⟩, hmu, ?_⟩
                      have e1 := hEnt.ok
                      have hsame : w'.heap[b]? = w.heap[b]? := by
                        rcases hEnt.nm n' hn0 with ⟨ty, cs, hc⟩ | ⟨ty, cs, ks, c, hc⟩ | ⟨ty, row, le, c, _, _, _, hc, _⟩
                        · rw [hc] at e1 r1' hyb
                          simp only [BlkOK, id] at e1 r1'
                          simp only [mutB, Option.some.injEq] at hyb
                          rw [hyb] at e1 r1'
                          rw [e1, r1']
                        · rw [hc] at e1 r1' hyb
                          simp only [BlkOK, id] at e1 r1'
                          simp only [mutB, Option.some.injEq] at hyb
                          rw [hyb] at e1 r1'
                          rw [e1.2.2, r1'.2.2]
                        · exfalso
                          have hno := List.all_eq_true.1 c2' y hy
                          simp only [hc, hn0, hkp] at hno
                          cases hno
                      refine hx1.fr hIm (fun b' hb' => ?_) hadn ?_
                      · rw [hmb] at hb'
                        simp only [Option.some.injEq] at hb'
                        subst hb'
                        exact hsame
                      · exact (SV.concL_congr hadal x.cs (hI.ok n' g x hn3)).symm
                    · rename_i ty row v0 V hn0
                      obtain ⟨own, le, c, v1, v2, v3, v4, v5, v6⟩ := hEnt.vw ty row v0 V hn0
                      cases own with
                      | false => rw [v1] at hyb; simp [mutB] at hyb
                      | true =>
                        have e1 := hEnt.ok
                        rw [v1] at hyb r1' e1
                        obtain ⟨k1, k2, k3⟩ := e1
                        have hvb : (v0.conc l.F ρ ad).ownBlock = some b := by
                          rw [v4, ← v3]
                          simp only [mutB, k2, Int.toNat_natCast, id] at hyb
                          exact hyb
                        obtain ⟨n0, z0, g0, le0, c0, z1, z2, z3, z4⟩ := viewL_sel v2 (v6 rfl) v5 b hvb
                        have hnn0 := hI.inj n0 n' g0 _ g x b z1 z2 hn3 hg' (by simp only [mutB]; rw [← z4]; exact hvb) hmb
                        subst hnn0
                        rw [hn3] at z1
                        simp only [Option.some.injEq, Prod.mk.injEq] at z1
                        obtain ⟨rfl, rfl⟩ := z1
                        refine ⟨y, hyo, hyg', Or.inr (Or.inr ⟨n1, hsrclen _ _ hn0, g, hn3, hg'⟩), hmu, ?_⟩
                        obtain ⟨u1, u2, u3⟩ := r1'
                        simp only [cond_true, id] at u3
                        obtain ⟨x1, x2, x3⟩ := hx1
                        refine ⟨x1, x2, ?_⟩
                        simp only [cond_true]
                        rw [v3, ← z3] at u3
                        refine u3.hd ?_
                        have hle0 : (le0.den l.F ρ).toNat = (dc (c0.den l.F ρ)).length := by rw [x2]; simp
                        rw [hadn, ← hle0, ← z4, v4, hle0, z3]
                    · rename_i n0 hn0
                      have hso : srcOf srcs y.1 = [n0] := by simp [srcOf, hn0, Src.ns, dd]
                      rw [hso] at n1
                      simp only [List.mem_singleton] at n1
                      subst n1
                      obtain ⟨ks, vs, kag, vag, c, g2, c', m1, m2, m3⟩ := hEnt.mp _ hn0
                      rw [hn3] at m2
                      simp only [Option.some.injEq, Prod.mk.injEq] at m2
                      obtain ⟨rfl, rfl⟩ := m2
                      refine ⟨y, hyo, hyg', Or.inl ⟨hso, hsrclen _ _ hn0⟩, hmu, ?_⟩
                      have e1 := hEnt.mu
                      rw [m1] at r1' hyb
                      simp only [BlkOK, id, m3] at r1'
                      simp only [mutB, Option.some.injEq] at hyb hmb
                      rw [hyb, ← hmb] at r1'
                      simp only [BlkOK, hadn]
                      exact r1'
                    · rename_i v0 ns0 hn0
                      obtain ⟨ks, vs, kag, vag, c, n0, g0, c', m1, m2, m3, m4, m5⟩ := hEnt.mv _ _ hn0
                      rw [m1] at r1' hyb
                      simp only [mutB, Option.some.injEq, id] at hyb
                      have hnn0 := hI.inj n0 n' g0 _ g x b m2 m3 hn3 hg' (by simp only [mutB]; rw [← m5, hyb]) hmb
                      subst hnn0
                      rw [hn3] at m2
                      simp only [Option.some.injEq, Prod.mk.injEq] at m2
                      obtain ⟨rfl, rfl⟩ := m2
                      refine ⟨y, hyo, hyg', Or.inr (Or.inr ⟨n1, hsrclen _ _ hn0, g, hn3, hg'⟩), hmu, ?_⟩
                      simp only [BlkOK, id, m4] at r1'
                      simp only [mutB, Option.some.injEq] at hmb
                      rw [hyb, ← hmb] at r1'
                      simp only [BlkOK, hadn]
                      exact r1'
                    · cases hk1
                  · refine Or.inl ⟨⟨g, hn3, hg'⟩, fun b' hb' => ?_⟩
                    simp only [Option.some.injEq] at hb'
                    subst hb'
                    refine ⟨hb1, fun hi => ?_⟩
                    obtain ⟨_, f2, f3⟩ := hx2 b hmb
                    rcases q3 b hi with h | h | h
                    · exact f2 h
                    · exact hb1 h
                    · omega
            · exfalso
              obtain ⟨j, b0, X, s1, s2, s4, s5⟩ := objSet_spec hsets y hy
              have := Mem.at_lt s5
              rw [killL_len] at hy2
              omega
          · exfalso
            obtain ⟨z, hz, he'⟩ := List.mem_map.1 hy
            obtain ⟨⟨a, b⟩, _⟩ := gok2 z hz
            obtain ⟨r1, r2⟩ := hnew z.1 a b
            rw [setEs_len, killL_len] at hy2
            rw [← he'] at hy1
            simp only at hy1
            omega
        have hmz : ∀ z ∈ e.oents, z.2.1.tt F0 (env (xs ++ ys)) = true → ∀ b, mutB F0 (env (xs ++ ys)) hs' z.1 z.2.2 = some b → ((M0 b ∨ w0.heap.size ≤ b) ∧ ¬ Im' b ∧ b < w'.heap.size) ∧ (M1 b ∨ w.heap.size ≤ b) := fun z hz hzg b hb => by
          obtain ⟨r1, r2, r3⟩ := (q5.ent z hz hzg).2 b hb
          refine ⟨⟨?_, r2, r3⟩, r1⟩
          rcases r1 with r1 | r1
          · exact (hM1b b r1).1
          · have := hI.fr.size; exact Or.inr (by omega)
        refine ⟨ad', ?_, ⟨hM, Im', fun b hb => q2 b (h1 b hb), fun b hb => ?_, ?_⟩, ⟨hadal, hkeep⟩, lastV_ok gok1⟩
        · exact lastV_conc t1
        · rcases q3 b hb with h | h | h
          · exact h2 b h
          · rcases (hM1b b h).1 with h | h
            · exact Or.inr (Or.inl h)
            · exact Or.inr (Or.inr h)
          · have := hI.fr.size; exact Or.inr (Or.inr (by omega))
        · refine hI.step q5.fr (fun b _ hb => ⟨(hM1b b hb).1, (hM1b b hb).2.1⟩) q2 q5.im hadal hkeep (fun n g x hn hg' => ?_) (fun n g x hn => ?_) (fun n k g x g' y b a1 a2 a3 a4 a5 a6 a7 => ?_)
          · rcases cls n g x hn hg' with h | ⟨z, z1, z2, z3, z4, z5⟩ | rfl
            · exact Or.inl h
            · exact Or.inr ⟨z5, fun b hb => hmz z z1 z2 b (by rw [← z4]; exact hb)⟩
            · exact Or.inr ⟨trivial, fun b hb => by simp [mutB] at hb⟩
          · rcases mem_setEs hn with hn | ⟨_, hn⟩ | ⟨y, hy, hy1, hy2⟩
            · obtain ⟨y, hy, he'⟩ := List.mem_map.1 hn
              simp only [Prod.mk.injEq] at he'
              rw [← he'.2.2]; exact (gok2 y hy).2
            · rcases mem_setEs hn with hn | ⟨_, hn⟩ | ⟨y, hy, hy1, hy2⟩
              · obtain ⟨j, b0, X, s1, s2, s4, s5⟩ := objSet_spec hsets _ hn
                have hok := objE_ok gok1 _ s4.1
                simp only [s4.2, Blk.nrm_cs] at hok
                exact hok
              · rcases killL_at hn with hd | ⟨hn3, _⟩
                · rw [hd]; trivial
                · exact SV.okL_mono hkeep _ (hI.ok n g x hn3)
              · exfalso
                obtain ⟨j, b0, X, s1, s2, s4, s5⟩ := objSet_spec hsets y hy
                have := Mem.at_lt s5
                rw [killL_len] at hy2
                omega
            · exfalso
              obtain ⟨z, hz, he'⟩ := List.mem_map.1 hy
              obtain ⟨⟨a, b⟩, _⟩ := gok2 z hz
              obtain ⟨r1, r2⟩ := hnew z.1 a b
              rw [setEs_len, killL_len] at hy2
              rw [← he'] at hy1
              simp only at hy1
              have r1' : nvC srcs e.nn nm (Sh.nnL e.outL) z.1 = nm + (z.1 - e.nn) := r1
              omega
          · have up : ∀ n g x, (setEs (setEs (killL m dead) sets) (gen.2.map fun x => (nvC srcs e.nn nm nw x.1, x.2.1, x.2.2))).at n = some (g, x) → g.tt l.F ρ = true → mutB l.F ρ ad' n x = some b → ∃ z ∈ e.oents, z.2.1.tt F0 (env (xs ++ ys)) = true ∧ NameIs z.1 n x ∧ mutB F0 (env (xs ++ ys)) hs' z.1 z.2.2 = some b := fun n g x hn hg' hb => by
              rcases cls n g x hn hg' with ⟨⟨g', o1, o2⟩, o3⟩ | ⟨z, z1, z2, z3, z4, z5⟩ | rfl
              · exfalso
                rw [mutB_congr (hadal n (Mem.at_al o1)).symm] at hb
                rcases a7 with a7 | a7
                · exact (o3 b hb).1 a7
                · have := ((hI.ent n g' x o1 o2).2 b hb).2.2; omega
              · exact ⟨z, z1, z2, z3, by rw [← z4]; exact hb⟩
              · simp [mutB] at hb
            obtain ⟨z, z1, z2, z3, z4⟩ := up n g x a1 a2 a5
            obtain ⟨z', z1', z2', z3', z4'⟩ := up k g' y a3 a4 a6
            have := q5.inj z z1 z' z1' z2 z2' b z4 z4'
            rw [← this] at z3'
            rcases z3 with ⟨e1, e2⟩ | ⟨e1, e2⟩ | ⟨e1, e2, e3⟩ <;> rcases z3' with ⟨f1, f2⟩ | ⟨f1, f2⟩ | ⟨f1, f2, f3⟩
            · rw [e1] at f1; simpa using f1
            · omega
            · rw [e1] at f1; simp only [List.mem_singleton] at f1; exact f1.symm
            · omega
            · rw [e2, f2]
            · omega
            · rw [f1] at e1; simpa using e1
            · omega
            · obtain ⟨gn, n1, n2⟩ := e3
              obtain ⟨gk, k1, k2⟩ := f3
              exact hI.inj n k gn x gk y b n1 n2 k1 k2 (by rw [← mutB_congr (hadal n (Mem.at_al n1)).symm]; exact a5) (by rw [← mutB_congr (hadal k (Mem.at_al k1)).symm]; exact a6)
      · cases h
    · cases h
  · cases h

theorem callE_sound {l : Tabs} {e : Ent} (he : l.get e.key = some e) (hE : EntryOK P G e) (hG : GOK G Im0 w0) (hR : Rel l.F ρ w0 M0 Im0 ad m w) {nm : Nat} {args : List SV} {g : E} {v : SV}
    (h : callE e m nm args = some (g, v, m')) : g.kind = .b ∧ (g.tt l.F ρ = true → Calls P e.f (SV.concL l.F ρ ad args).toArray w fun en w' => ∃ ad', en = .returned (v.conc l.F ρ ad') ∧ Rel l.F ρ w0 M0 Im0 ad' m' w' ∧ Ext ad ad' m m' ∧ v.ok (al m')) := by
  obtain ⟨h1, h2⟩ := callE_core he hG hR h
  refine ⟨h1, fun ht => ?_⟩
  obtain ⟨xs, hs, M1, Im, a1, a2, a3, a4, a5, a6, a7⟩ := h2 ht
  rw [a3]
  refine (hE xs a1 a2 w M1 Im hs a4 a5 a6).mono ?_
  rintro en w' ⟨hs', Im', q1, q2, q3, rfl, q5⟩
  obtain ⟨ad', r1, r2, r3, r4⟩ := a7 w' hs' Im' q1 q2 q3 q5
  exact ⟨ad', by rw [r1], r2, r3, r4⟩
end
end Go.Proofs.Ytmolkkphnehgcaa.Ew

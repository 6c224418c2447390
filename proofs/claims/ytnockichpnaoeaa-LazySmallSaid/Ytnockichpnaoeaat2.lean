/- Texts that the claim needs, set narrow. -/
import Derived.Test.Ytnockichpnaoeaat1
import Derived.LoopN
set_option linter.unusedVariables false
set_option linter.unusedSimpArgs false
set_option maxHeartbeats 8000000
namespace Go.Proofs.Ytnockichpnaoeaa.Ew
open Go Go.RowKit
section
variable {P : Program} {F : Fam} {ρ : Nat -> Int} {G : Glob} {w0 w w' : World} {M0 Im0 Im Im' T : Nat -> Prop} {ad ad' : Nat -> Hd} {m m' : Mem} {q : Row} {ks : List K}
theorem NB (hB : BI F) (hG : GOK G Im0 w0) (hR : Rel F ρ w0 M0 Im0 ad m w) {x : X} {nm : Nat} {g : E} {v : SV} {m' : Mem} (hx : x.good F ρ (al m)) (h : applyX P G m nm x = some (g, v, m')) :
 g.kind = .b /\ (g.tt F ρ = true -> Done F ρ w0 M0 Im0 ad m m' (x.run P F ρ ad w) v) := by
 cases x with
 | old d =>
   simp only [applyX] at h
   split at h
   ·rename_i r hr
    simp only [oJ] at h; subst h
    exact OZ (P := P) hG hR hx hr
   ·exact Nz (P := P) hB hR hx h
 | len x =>
   simp only [applyX] at h
   split at h
   ·obtain ⟨V, hV, he⟩ := Option.map_eq_some_iff.1 h
    simp only [pJ] at he
    obtain ⟨rfl, rfl, rfl⟩ := he
    exact Mi hB hR hV
   ·obtain ⟨V, hV, he⟩ := Option.map_eq_some_iff.1 h
    simp only [pJ] at he
    obtain ⟨rfl, rfl, rfl⟩ := he
    exact Mi hB hR hV
 | lde n str i o sz ag =>
   simp only [applyX] at h
   split at h
   ·rename_i g' ty row own le c hn
    split at h
    ·rename_i ks hr
     split at h
     ·rename_i hc
      obtain ⟨u, hv, he⟩ := Option.map_eq_some_iff.1 h
      simp only [pJ] at he
      obtain ⟨rfl, rfl, rfl⟩ := he
      obtain ⟨hk, rfl⟩ := hc
      exact Mj hB hR hn hk hr hv
     ·split at h
      ·rename_i q e hs
       split at h
       ·rename_i hc
        simp only [oJ, pJ] at h
        obtain ⟨rfl, rfl, rfl⟩ := h
        obtain ⟨hk, rfl, rfl, rfl, hl⟩ := hc
        exact Sk hB hR hn hk hr hs hl
       ·cases h
      ·cases h
    ·cases h
   ·cases h
 | ste n str i o cs =>
   simp only [applyX] at h
   split at h
   ·rename_i g' ty row le c hn
    split at h
    ·rename_i ks hr
     split at h
     ·rename_i es he
      split at h
      ·rename_i hc
       simp only [oJ, pJ] at h
       obtain ⟨rfl, rfl, rfl⟩ := h
       obtain ⟨hk, rfl, hl⟩ := hc
       exact Sl hB hR hn hk hr he hl
      ·cases h
     ·cases h
    ·cases h
   ·cases h
 | app t e rt x y =>
   simp only [applyX] at h
   split at h
   ·rename_i ks hks
    split at h
    ·rename_i V size bytes hV hi
     split at h
     ·rename_i hc
      obtain ⟨rfl, ho, ht, hn1, hn2⟩ := hc
      obtain ⟨k1, k2, k3⟩ := AS hV
      split at h
      ·rename_i m2 len cp
       split at h
       ·rename_i g2 ty2 cs hb
        split at h
        ·rename_i hl
         obtain ⟨c', hs, he⟩ := Option.map_eq_some_iff.1 h
         simp only [pJ] at he
         obtain ⟨rfl, rfl, rfl⟩ := he
         obtain ⟨b1, b2⟩ := Br hb
         have p1 := Aa V.g g2 k3 b2 F ρ
         have p2 := Ae .leq (.app .x 0 0 [c']) (.lit .x (Ba bytes)) F ρ
         have p3 := Aa _ _ p1.2 p2.2 F ρ
         refine ⟨p3.2, fun hg => ?_⟩
         rw [p3.1, p1.1, Bool.and_eq_true, Bool.and_eq_true] at hg
         have hcap := JM hg.2
         have hR' := hR
         obtain ⟨hM, Im, h1, h2, hI⟩ := hR'
         obtain ⟨hd, o1, o2, o3, o4, o5, o6, o7⟩ := Bb hB hI hV hg.1.1
         obtain ⟨rows, r1, r2, r3, r4⟩ := EP (w := w) (Im := Im) (ad := ad) hB hs o2 k2
         rw [AH hB] at hcap
         simp only [List.map_cons, List.map_nil, bi, K.norm, r1, Ab] at hcap
         refine Nt hB hR hV hg.1.1 ho ht hi hn1 hn2 r1 (Or.inr ⟨⟨(ad m2).blk, 0, none⟩, cp, SV.concL F ρ ad cs, by simp only [SV.conc, r3], fun Im' => FI r4, fun j u hu => ?_⟩) hcap
         have hh := (hI.ent m2 g2 _ b1 hg.1.2).1
         rw [Addr.add_none, Nat.zero_add, Cx hh]
         simpa using hu
        ·cases h
       ·cases h
      ·rename_i y hy
       split at h
       ·rename_i V2 hV2
        simp only [oJ, pJ] at h
        obtain ⟨rfl, rfl, rfl⟩ := h
        obtain ⟨l1, l2, l3⟩ := AS hV2
        have p1 := Aa V.g V2.g k3 l3 F ρ
        have p2 := Ae .leq (.app .x 0 0 [.app .x 0 4 [V.c, V2.c]]) (.lit .x (Ba bytes)) F ρ
        have p3 := Aa _ _ p1.2 p2.2 F ρ
        refine ⟨p3.2, fun hg => ?_⟩
        rw [p3.1, p1.1, Bool.and_eq_true, Bool.and_eq_true] at hg
        have hcap := JM hg.2
        have hR' := hR
        obtain ⟨hM, Im, h1, h2, hI⟩ := hR'
        obtain ⟨hd, o1, o2, o3, o4, o5, o6, o7⟩ := Bb hB hI hV2 hg.1.2
        have hden : (E.app .x 0 4 [V.c, V2.c]).den F ρ = cd (dc (V.c.den F ρ) ++ dc (V2.c.den F ρ)) := by rw [AH hB]; rfl
        rw [AH hB] at hcap
        simp only [List.map_cons, List.map_nil, bi, K.norm, hden, Ab] at hcap
        refine Nt hB hR hV hg.1.1 ho ht hi hn1 hn2 hden ?_ hcap
        rcases LC hd (dc (V2.c.den F ρ)).length with ⟨e0, hz⟩ | e0
        ·simp_all
        ·right
         obtain ⟨xs, x1, x2⟩ := flatL (w := w) (Im := Im) (b := hd.blk) (o := hd.off) o4.2.2
         exact ⟨_, _, xs, o1.trans e0, fun Im' => FI x1, fun j u hu => by grind [Addr.add_none]⟩
       ·cases h
     ·cases h
    ·cases h
   ·cases h
 | sub t e x lo hi =>
   simp only [applyX] at h
   split at h
   ·rename_i r hr
    simp only [oJ] at h; subst h
    exact Qo hB hR hr
   split at h
   ·rename_i ty row hrow
    split at h
    ·rename_i V0 hV0
     split at h
     ·rename_i V hV
      split at h
      ·rename_i hc
       simp only [oJ, pJ] at h
       obtain ⟨rfl, rfl, rfl⟩ := h
       exact Sm hB hR hV0 hV hc.1 hc.2.1 hc.2.2.1 hc.2.2.2.1 hc.2.2.2.2.1 hc.2.2.2.2.2.1 hc.2.2.2.2.2.2
      ·cases h
     ·cases h
    ·cases h
   ·cases h
 | mk t e n c =>
   simp only [applyX] at h
   split at h
   ·rename_i ks size bytes hks hi
    split at h
    ·rename_i hc
     simp only [oJ, pJ] at h
     obtain ⟨rfl, rfl, rfl⟩ := h
     obtain ⟨c1, c2, c3, rfl, c5, c6, c7⟩ := hc
     exact Uj hB hR c1 c2 c3 hi c5 c6 c7
    ·cases h
   ·cases h
 | bl e ks cs len =>
   simp only [applyX] at h
   split at h
   ·rename_i c' size bytes hs hi
    split at h
    ·rename_i hc
     simp only [oJ, pJ] at h
     obtain ⟨rfl, rfl, rfl⟩ := h
     obtain ⟨rfl, c2, c3, c4⟩ := hc
     exact ⟨Af _, fun _ => Uk hB hR hs hi c2 c3 c4⟩
    ·cases h
   ·cases h
 | gsl e b off n =>
   simp only [applyX] at h
   split at h
   ·rename_i ks hks
    split at h
    ·rename_i cs hr
     split at h
     ·rename_i c' hs
      split at h
      ·rename_i hc
       simp only [oJ, pJ] at h
       obtain ⟨rfl, rfl, rfl⟩ := h
       obtain ⟨c1, c2, c3, c4, c5⟩ := hc
       exact ⟨Af _, fun _ => SC hB hG hR hr hs c1 c2 c3 c4 c5⟩
      ·cases h
     ·cases h
    ·cases h
   ·cases h
 | _ => exact NA (nm := nm) hB hR hx h
end
inductive Sh where
 | sc (k : K)
 | lt (k : K) (n : Int)
 | agg (cs : List Sh)
 | lst (ty : Nat) (row : Row) (own : Bool)
 | obj (ty : Nat) (cs : List Sh)
 | ref (j : Nat)
 | pin (j off str : Nat)
 | fnc (f : Nat) (cs : List Sh)
 | nul (c : CV)
 | tup (cs : List Sh)
 | opt (sh : Sh)
 | und
 | mp (ks vs : List K) (kag vag : Bool)
 | seg (ty : Nat) (ks : List K) (cs : List Sh)
 | lsn (ty : Nat) (row : Row)
 deriving Repr, Inhabited
mutual
def Sh.ks : Sh -> List K
 | .sc k => [k]
 | .pin .. => [.i .i64]
 | .agg l | .obj _ l | .fnc _ l | .tup l => Sh.ksL l
 | .lst .. => [.x]
 | .lsn .. => [.x]
 | .mp .. => [.x]
 | .seg _ _ l => .x :: Sh.ksL l
 | .opt s => .b :: s.ks
 | _ => []
def Sh.ksL : List Sh -> List K
 | [] => []
 | s :: r => s.ks ++ Sh.ksL r
end
mutual
def Sh.nn : Sh -> Nat
 | .agg l | .fnc _ l | .tup l => Sh.nnL l
 | .obj _ l => Sh.nnL l + 1
 | .lst .. => 1
 | .lsn .. => 1
 | .mp .. => 1
 | .seg _ _ l => Sh.nnL l + 1
 | .opt s => s.nn
 | _ => 0
def Sh.nnL : List Sh -> Nat
 | [] => 0
 | s :: r => s.nn + Sh.nnL r
end
mutual
def Sh.refs : Sh -> List Nat
 | .agg l | .obj _ l | .fnc _ l | .tup l | .seg _ _ l => Sh.refsL l
 | .ref j => [j]
 | .pin j _ _ => [j]
 | .opt s => s.refs
 | _ => []
def Sh.refsL : List Sh -> List Nat
 | [] => []
 | s :: r => s.refs ++ Sh.refsL r
end
abbrev Ents := List (Nat × E × Blk)
mutual
def Sh.gen (ev : Nat -> E) (nv : Nat -> Nat) : Sh -> E -> Nat -> Nat -> SV × Ents
 | .sc _, _, vi, _ => (.sc (ev vi), [])
 | .lt k n, _, _, _ => (.sc (.lit k n), [])
 | .agg l, g, vi, ni => let r := Sh.genL ev nv l g vi ni; (.agg r.1, r.2)
 | .lst ty row own, g, vi, ni => (.ls (nv ni) (LEN (ev vi)), [(ni, g, .lst ty row own (LEN (ev vi)) (ev vi))])
 | .lsn ty row, g, vi, ni => (.ls (nv ni) (LEN (ev vi)), [(ni, g, .lst ty row true (LEN (ev vi)) (ev vi))])
 | .obj ty cs, g, vi, ni => let r := Sh.genL ev nv cs g vi (ni + 1); (.ptr (nv ni) 0, (ni, g, .cells ty r.1) :: r.2)
 | .ref j, _, _, _ => (.ptr (nv j) 0, [])
 | .pin j off str, _, vi, _ => (.pi (nv j) off str (ev vi), [])
 | .fnc f cs, g, vi, ni => let r := Sh.genL ev nv cs g vi ni; (.fn f r.1, r.2)
 | .nul c, _, _, _ => (.nilp c, [])
 | .tup l, g, vi, ni => let r := Sh.genL ev nv l g vi ni; (.tup r.1, r.2)
 | .opt s, g, vi, ni => let r := s.gen ev nv (mkAnd g (Ak (ev vi))) (vi + 1) ni; (.ite (ev vi) (.nilp .nP) r.1, r.2)
 | .und, _, _, _ => (.und, [])
 | .mp ks vs kag vag, g, vi, ni => (.mp (nv ni), [(ni, g, .mp ks vs kag vag (ev vi))])
 | .seg ty ks cs, g, vi, ni => let r := Sh.genL ev nv cs g (vi + 1) (ni + 1); (.ptr (nv ni) 0, (ni, g, .seg ty r.1 ks (ev vi)) :: r.2)
def Sh.genL (ev : Nat -> E) (nv : Nat -> Nat) : List Sh -> E -> Nat -> Nat -> List SV × Ents
 | [], _, _, _ => ([], [])
 | s :: r, g, vi, ni => let a := s.gen ev nv g vi ni; let b := Sh.genL ev nv r g (vi + s.ks.length) (ni + s.nn); (a.1 :: b.1, a.2 ++ b.2)
end
noncomputable def F0 : Fam := fun k j xs => if k = 0 then bi j xs else 0
theorem FJ : BI F0 := fun j xs => rfl
structure Tr (B : Nat) (F1 F2 : Fam) (ρ1 ρ2 : Nat -> Int) (ad1 ad2 : Nat -> Hd) (ev1 ev2 : Nat -> E) (nv1 nv2 : Nat -> Nat) : Prop where
 b1 : BI F1
 b2 : BI F2
 den : ∀ i, (ev1 i).den F1 ρ1 = (ev2 i).den F2 ρ2
 kd : ∀ i, (ev1 i).kind = (ev2 i).kind
 hd : ∀ j, j < B -> ad1 (nv1 j) = ad2 (nv2 j)
structure SameE (F1 F2 : Fam) (ρ1 ρ2 : Nat -> Int) (ad1 ad2 : Nat -> Hd) (nv1 nv2 : Nat -> Nat) (a b : Nat × E × Blk) : Prop where
 nm : a.1 = b.1
 gd : a.2.1.tt F1 ρ1 = b.2.1.tt F2 ρ2
 mu : mutB F1 ρ1 ad1 (nv1 a.1) a.2.2 = mutB F2 ρ2 ad2 (nv2 b.1) b.2.2
 ok : ∀ (Im : Nat -> Prop) (w : World), BlkOK F1 ρ1 Im ad1 (nv1 a.1) w a.2.2 ↔ BlkOK F2 ρ2 Im ad2 (nv2 b.1) w b.2.2
section
variable {F1 F2 : Fam} {ρ1 ρ2 : Nat -> Int} {ad1 ad2 : Nat -> Hd} {ev1 ev2 : Nat -> E} {nv1 nv2 : Nat -> Nat} {B : Nat}
theorem Tr.tt (h : Tr B F1 F2 ρ1 ρ2 ad1 ad2 ev1 ev2 nv1 nv2) (i : Nat) : (ev1 i).tt F1 ρ1 = (ev2 i).tt F2 ρ2 := by unfold E.tt; rw [h.den i]
theorem Tr.val (h : Tr B F1 F2 ρ1 ρ2 ad1 ad2 ev1 ev2 nv1 nv2) (i : Nat) : (ev1 i).val F1 ρ1 = (ev2 i).val F2 ρ2 := by rw [<- Bj, <- Bj, h.kd, h.den]
theorem Tr.len (h : Tr B F1 F2 ρ1 ρ2 ad1 ad2 ev1 ev2 nv1 nv2) (i : Nat) : (LEN (ev1 i)).den F1 ρ1 = (LEN (ev2 i)).den F2 ρ2 := by rw [h.b1.len, h.b2.len, h.den]
def SameL (F1 F2 : Fam) (ρ1 ρ2 : Nat -> Int) (ad1 ad2 : Nat -> Hd) (nv1 nv2 : Nat -> Nat) : Ents -> Ents -> Prop
 | [], [] => True
 | a :: l, b :: r => SameE F1 F2 ρ1 ρ2 ad1 ad2 nv1 nv2 a b /\ SameL F1 F2 ρ1 ρ2 ad1 ad2 nv1 nv2 l r
 | _, _ => False
theorem SameL.append : ∀ {a b c d : Ents}, SameL F1 F2 ρ1 ρ2 ad1 ad2 nv1 nv2 a b -> SameL F1 F2 ρ1 ρ2 ad1 ad2 nv1 nv2 c d -> SameL F1 F2 ρ1 ρ2 ad1 ad2 nv1 nv2 (a ++ c) (b ++ d)
 | [], [], c, d, _, h' => h'
 | [], _ :: _, _, _, h, _ => h.elim
 | _ :: _, [], _, _, h, _ => h.elim
 | a :: l, b :: r, c, d, h, h' => ⟨h.1, SameL.append h.2 h'⟩
theorem SameL.mem : ∀ {a b : Ents}, SameL F1 F2 ρ1 ρ2 ad1 ad2 nv1 nv2 a b -> ∀ x ∈ a, ∃ y ∈ b, SameE F1 F2 ρ1 ρ2 ad1 ad2 nv1 nv2 x y
 | [], [], _, x, hx => by cases hx
 | [], _ :: _, h, _, _ => h.elim
 | _ :: _, [], h, _, _ => h.elim
 | a :: l, b :: r, h, x, hx => by
   rcases List.mem_cons.1 hx with rfl | hx
   ·exact ⟨b, List.mem_cons_self .., h.1⟩
   ·obtain ⟨y, h1, h2⟩ := SameL.mem h.2 x hx
    grind
mutual
theorem SD (h : Tr B F1 F2 ρ1 ρ2 ad1 ad2 ev1 ev2 nv1 nv2) : ∀ (s : Sh) (g1 g2 : E) (vi ni : Nat), g1.kind = .b -> g2.kind = .b -> g1.tt F1 ρ1 = g2.tt F2 ρ2 -> (∀ i k, s.ks[i]? = some k -> (ev1 (vi + i)).kind = k) -> ni + s.nn <= B -> (∀ j ∈ s.refs, j < B) ->
 (s.gen ev1 nv1 g1 vi ni).1.conc F1 ρ1 ad1 = (s.gen ev2 nv2 g2 vi ni).1.conc F2 ρ2 ad2 /\ SameL F1 F2 ρ1 ρ2 ad1 ad2 nv1 nv2 (s.gen ev1 nv1 g1 vi ni).2 (s.gen ev2 nv2 g2 vi ni).2
 | .sc k, g1, g2, vi, ni, _, _, _, hk, hb, hr => ⟨h.val vi, trivial⟩
 | .lt k n, g1, g2, vi, ni, _, _, _, hk, hb, hr => ⟨by simp [Sh.gen, SV.conc, E.val, E.kind, E.tt, E.den], trivial⟩
 | .agg l, g1, g2, vi, ni, k1, k2, hg, hk, hb, hr => by
   obtain ⟨i1, i2⟩ := C1 h l g1 g2 vi ni k1 k2 hg hk hb hr
   grind [Sh.gen, SV.conc]
 | .lst ty row own, g1, g2, vi, ni, k1, k2, hg, hk, hb, hr => by
   have hl := h.len vi
   have hd := h.hd ni (by grind [Sh.nn])
   refine ⟨by grind [Sh.gen, SV.conc], ⟨rfl, hg, ?_, fun Im w => ?_⟩, trivial⟩
   ·cases own <;> simp only [mutB, hl, hd]
   ·simp only [BlkOK, hl, hd, h.den]
 | .lsn ty row, g1, g2, vi, ni, k1, k2, hg, hk, hb, hr => by
   have hl := h.len vi
   have hd := h.hd ni (by grind [Sh.nn])
   refine ⟨by grind [Sh.gen, SV.conc], ⟨rfl, hg, ?_, fun Im w => ?_⟩, trivial⟩
   ·grind [mutB]
   ·simp only [BlkOK, hl, hd, h.den]
 | .obj ty cs, g1, g2, vi, ni, k1, k2, hg, hk, hb, hr => by
   obtain ⟨i1, i2⟩ := C1 h cs g1 g2 vi (ni + 1) k1 k2 hg hk (by grind [Sh.nn]) hr
   have hd := h.hd ni (by grind [Sh.nn])
   refine ⟨by simp only [Sh.gen, SV.conc, hd], ⟨rfl, hg, ?_, fun Im w => ?_⟩, i2⟩
   ·simp only [mutB, hd]
   grind [BlkOK]
 | .ref j, g1, g2, vi, ni, _, _, _, hk, hb, hr => ⟨by simp only [Sh.gen, SV.conc, h.hd j (hr j (by simp [Sh.refs]))], trivial⟩
 | .pin j off str, g1, g2, vi, ni, _, _, _, hk, hb, hr => ⟨by simp only [Sh.gen, SV.conc, h.hd j (hr j (by simp [Sh.refs])), h.den vi], trivial⟩
 | .fnc f cs, g1, g2, vi, ni, k1, k2, hg, hk, hb, hr => by
   obtain ⟨i1, i2⟩ := C1 h cs g1 g2 vi ni k1 k2 hg hk hb hr
   grind [Sh.gen, SV.conc]
 | .nul c, g1, g2, vi, ni, _, _, _, hk, hb, hr => ⟨rfl, trivial⟩
 | .tup l, g1, g2, vi, ni, k1, k2, hg, hk, hb, hr => by
   obtain ⟨i1, i2⟩ := C1 h l g1 g2 vi ni k1 k2 hg hk hb hr
   grind [Sh.gen, SV.conc]
 | .opt s, g1, g2, vi, ni, k1, k2, hg, hk, hb, hr => by
   have a1 := Aa g1 (Ak (ev1 vi)) k1 (Ad (ev1 vi) F1 ρ1).2 F1 ρ1
   have a2 := Aa g2 (Ak (ev2 vi)) k2 (Ad (ev2 vi) F2 ρ2).2 F2 ρ2
   obtain ⟨i1, i2⟩ := SD h s (mkAnd g1 (Ak (ev1 vi))) (mkAnd g2 (Ak (ev2 vi))) (vi + 1) ni a1.2 a2.2 (by rw [a1.1, a2.1, (Ad (ev1 vi) F1 ρ1).1, (Ad (ev2 vi) F2 ρ2).1, hg, h.tt]) (fun i k hi => by
    have := hk (i + 1) k (by simpa [Sh.ks] using hi)
    grind) hb hr
   refine ⟨?_, i2⟩
   simp only [Sh.gen, SV.conc, h.tt, i1]
 | .und, g1, g2, vi, ni, _, _, _, hk, hb, hr => ⟨rfl, trivial⟩
 | .mp ks vs kag vag, g1, g2, vi, ni, k1, k2, hg, hk, hb, hr => by
   have hd := h.hd ni (by grind [Sh.nn])
   refine ⟨by simp only [Sh.gen, SV.conc, hd], ⟨rfl, hg, ?_, fun Im w => ?_⟩, trivial⟩
   ·simp only [mutB, hd]
   ·simp only [BlkOK, hd, h.den]
 | .seg ty ks cs, g1, g2, vi, ni, k1, k2, hg, hk, hb, hr => by
   obtain ⟨i1, i2⟩ := C1 h cs g1 g2 (vi + 1) (ni + 1) k1 k2 hg (fun i k hi => by
    have := hk (i + 1) k (by simpa [Sh.ks] using hi)
    grind) (by grind [Sh.nn]) hr
   have hd := h.hd ni (by grind [Sh.nn])
   refine ⟨by simp only [Sh.gen, SV.conc, hd], ⟨rfl, hg, ?_, fun Im w => ?_⟩, i2⟩
   ·simp only [mutB, hd]
   ·simp only [BlkOK, hd, i1, h.den]
theorem C1 (h : Tr B F1 F2 ρ1 ρ2 ad1 ad2 ev1 ev2 nv1 nv2) : ∀ (l : List Sh) (g1 g2 : E) (vi ni : Nat), g1.kind = .b -> g2.kind = .b -> g1.tt F1 ρ1 = g2.tt F2 ρ2 -> (∀ i k, (Sh.ksL l)[i]? = some k -> (ev1 (vi + i)).kind = k) -> ni + Sh.nnL l <= B -> (∀ j ∈ Sh.refsL l, j < B) ->
 SV.concL F1 ρ1 ad1 (Sh.genL ev1 nv1 l g1 vi ni).1 = SV.concL F2 ρ2 ad2 (Sh.genL ev2 nv2 l g2 vi ni).1 /\ SameL F1 F2 ρ1 ρ2 ad1 ad2 nv1 nv2 (Sh.genL ev1 nv1 l g1 vi ni).2 (Sh.genL ev2 nv2 l g2 vi ni).2
 | [], g1, g2, vi, ni, _, _, _, _, _, _ => ⟨rfl, trivial⟩
 | s :: r, g1, g2, vi, ni, k1, k2, hg, hk, hb, hr => by
   obtain ⟨i1, i2⟩ := SD h s g1 g2 vi ni k1 k2 hg (fun i k hi => hk i k (by grind [Sh.ksL])) (by grind [Sh.nnL]) fun j hj => hr j (by grind [Sh.refsL])
   obtain ⟨j1, j2⟩ := C1 h r g1 g2 (vi + s.ks.length) (ni + s.nn) k1 k2 hg (fun i k hi => by
    have := hk (s.ks.length + i) k (by grind [Sh.ksL])
    grind) (by grind [Sh.nnL]) fun j hj => hr j (by grind [Sh.refsL])
   grind [Sh.genL, SV.concL, SameL.append]
end
mutual
theorem SE {ev : Nat -> E} {nv : Nat -> Nat} {p : Nat -> Prop} : ∀ (s : Sh) (g : E) (vi ni : Nat), (∀ j, ni <= j -> j < ni + s.nn -> p (nv j)) -> (∀ j ∈ s.refs, p (nv j)) ->
 (s.gen ev nv g vi ni).1.ok p /\ ∀ x ∈ (s.gen ev nv g vi ni).2, (ni <= x.1 /\ x.1 < ni + s.nn) /\ SV.okL p x.2.2.cs
 | .sc k, g, vi, ni, hp, hr => ⟨trivial, fun x hx => by cases hx⟩
 | .lt k n, g, vi, ni, hp, hr => ⟨trivial, fun x hx => by cases hx⟩
 | .agg l, g, vi, ni, hp, hr => BT l g vi ni hp hr
 | .lst ty row own, g, vi, ni, hp, hr => ⟨hp _ (Nat.le_refl _) (by simp [Sh.nn]), fun x hx => by simp only [Sh.gen, List.mem_singleton] at hx; subst hx; exact ⟨⟨Nat.le_refl _, by simp [Sh.nn]⟩, trivial⟩⟩
 | .lsn ty row, g, vi, ni, hp, hr => ⟨hp _ (Nat.le_refl _) (by simp [Sh.nn]), fun x hx => by simp only [Sh.gen, List.mem_singleton] at hx; subst hx; exact ⟨⟨Nat.le_refl _, by simp [Sh.nn]⟩, trivial⟩⟩
 | .obj ty cs, g, vi, ni, hp, hr => by
   obtain ⟨i1, i2⟩ := BT (ev := ev) (nv := nv) cs g vi (ni + 1) (fun j h1 h2 => hp j (by omega) (by grind [Sh.nn])) hr
   refine ⟨hp _ (Nat.le_refl _) (by simp [Sh.nn]), fun x hx => ?_⟩
   simp only [Sh.gen, List.mem_cons] at hx
   rcases hx with rfl | hx
   ·exact ⟨⟨Nat.le_refl _, by simp [Sh.nn]⟩, i1⟩
   grind [Sh.nn]
 | .ref j, g, vi, ni, hp, hr => ⟨hr j (by simp [Sh.refs]), fun x hx => by cases hx⟩
 | .pin j off str, g, vi, ni, hp, hr => ⟨hr j (by simp [Sh.refs]), fun x hx => by cases hx⟩
 | .fnc f cs, g, vi, ni, hp, hr => BT cs g vi ni hp hr
 | .nul c, g, vi, ni, hp, hr => ⟨trivial, fun x hx => by cases hx⟩
 | .tup l, g, vi, ni, hp, hr => BT l g vi ni hp hr
 | .opt s, g, vi, ni, hp, hr => by
   obtain ⟨i1, i2⟩ := SE (ev := ev) (nv := nv) s (mkAnd g (Ak (ev vi))) (vi + 1) ni hp hr
   exact ⟨⟨trivial, i1⟩, i2⟩
 | .und, g, vi, ni, hp, hr => ⟨trivial, fun x hx => by cases hx⟩
 | .mp ks vs kag vag, g, vi, ni, hp, hr => ⟨hp _ (Nat.le_refl _) (by simp [Sh.nn]), fun x hx => by simp only [Sh.gen, List.mem_singleton] at hx; subst hx; exact ⟨⟨Nat.le_refl _, by simp [Sh.nn]⟩, trivial⟩⟩
 | .seg ty ks cs, g, vi, ni, hp, hr => by
   obtain ⟨i1, i2⟩ := BT (ev := ev) (nv := nv) cs g (vi + 1) (ni + 1) (fun j h1 h2 => hp j (by omega) (by grind [Sh.nn])) hr
   refine ⟨hp _ (Nat.le_refl _) (by simp [Sh.nn]), fun x hx => ?_⟩
   simp only [Sh.gen, List.mem_cons] at hx
   rcases hx with rfl | hx
   ·exact ⟨⟨Nat.le_refl _, by simp [Sh.nn]⟩, i1⟩
   grind [Sh.nn]
theorem BT {ev : Nat -> E} {nv : Nat -> Nat} {p : Nat -> Prop} : ∀ (l : List Sh) (g : E) (vi ni : Nat), (∀ j, ni <= j -> j < ni + Sh.nnL l -> p (nv j)) -> (∀ j ∈ Sh.refsL l, p (nv j)) ->
 SV.okL p (Sh.genL ev nv l g vi ni).1 /\ ∀ x ∈ (Sh.genL ev nv l g vi ni).2, (ni <= x.1 /\ x.1 < ni + Sh.nnL l) /\ SV.okL p x.2.2.cs
 | [], g, vi, ni, hp, hr => ⟨trivial, fun x hx => by cases hx⟩
 | s :: r, g, vi, ni, hp, hr => by
   obtain ⟨i1, i2⟩ := SE (ev := ev) (nv := nv) s g vi ni (fun j h1 h2 => hp j h1 (by grind [Sh.nnL])) fun j hj => hr j (by grind [Sh.refsL])
   obtain ⟨j1, j2⟩ := BT (ev := ev) (nv := nv) r g (vi + s.ks.length) (ni + s.nn) (fun j h1 h2 => hp j (by omega) (by grind [Sh.nnL])) fun j hj => hr j (by grind [Sh.refsL])
   refine ⟨⟨i1, j1⟩, fun x hx => ?_⟩
   grind [Sh.genL, Sh.nnL]
end
mutual
theorem Po {ev : Nat -> E} {nv : Nat -> Nat} : ∀ (s : Sh) (g : E) (vi ni j : Nat), ni <= j -> j < ni + s.nn -> ∃ x ∈ (s.gen ev nv g vi ni).2, x.1 = j
 | .sc _, g, vi, ni, j, h1, h2 => by grind [Sh.nn]
 | .lt _ _, g, vi, ni, j, h1, h2 => by grind [Sh.nn]
 | .agg l, g, vi, ni, j, h1, h2 => CC l g vi ni j h1 h2
 | .lst ty row own, g, vi, ni, j, h1, h2 => by simp only [Sh.nn] at h2; exact ⟨_, List.mem_singleton.2 rfl, by show ni = j; omega⟩
 | .lsn ty row, g, vi, ni, j, h1, h2 => by simp only [Sh.nn] at h2; exact ⟨_, List.mem_singleton.2 rfl, by show ni = j; omega⟩
 | .obj ty cs, g, vi, ni, j, h1, h2 => by
   by_cases hj : j = ni
   ·exact ⟨_, List.mem_cons_self .., hj.symm⟩
   ·obtain ⟨x, x1, x2⟩ := CC (ev := ev) (nv := nv) cs g vi (ni + 1) j (by omega) (by grind [Sh.nn])
    exact ⟨x, List.mem_cons_of_mem _ x1, x2⟩
 | .ref _, g, vi, ni, j, h1, h2 => by grind [Sh.nn]
 | .pin _ _ _, g, vi, ni, j, h1, h2 => by grind [Sh.nn]
 | .fnc f cs, g, vi, ni, j, h1, h2 => CC cs g vi ni j h1 h2
 | .nul c, g, vi, ni, j, h1, h2 => by grind [Sh.nn]
 | .tup l, g, vi, ni, j, h1, h2 => CC l g vi ni j h1 h2
 | .opt s, g, vi, ni, j, h1, h2 => Po s (mkAnd g (Ak (ev vi))) (vi + 1) ni j h1 h2
 | .und, g, vi, ni, j, h1, h2 => by grind [Sh.nn]
 | .mp ks vs kag vag, g, vi, ni, j, h1, h2 => by simp only [Sh.nn] at h2; exact ⟨_, List.mem_singleton.2 rfl, by show ni = j; omega⟩
 | .seg ty ks cs, g, vi, ni, j, h1, h2 => by
   by_cases hj : j = ni
   ·exact ⟨_, List.mem_cons_self .., hj.symm⟩
   ·obtain ⟨x, x1, x2⟩ := CC (ev := ev) (nv := nv) cs g (vi + 1) (ni + 1) j (by omega) (by grind [Sh.nn])
    exact ⟨x, List.mem_cons_of_mem _ x1, x2⟩
theorem CC {ev : Nat -> E} {nv : Nat -> Nat} : ∀ (l : List Sh) (g : E) (vi ni j : Nat), ni <= j -> j < ni + Sh.nnL l -> ∃ x ∈ (Sh.genL ev nv l g vi ni).2, x.1 = j
 | [], g, vi, ni, j, h1, h2 => by grind [Sh.nnL]
 | s :: r, g, vi, ni, j, h1, h2 => by
   by_cases hj : j < ni + s.nn
   ·obtain ⟨x, x1, x2⟩ := Po (ev := ev) (nv := nv) s g vi ni j h1 hj
    exact ⟨x, List.mem_append_left _ x1, x2⟩
   ·obtain ⟨x, x1, x2⟩ := CC (ev := ev) (nv := nv) r g (vi + s.ks.length) (ni + s.nn) j (by omega) (by grind [Sh.nnL])
    exact ⟨x, List.mem_append_right _ x1, x2⟩
end
end
inductive Src where
 | nm (n : Nat)
 | vw (ty : Nat) (row : Row) (v : SV) (V : LV)
 | dm
 | mpn (n : Nat)
 | mpv (v : SV) (ns : List Nat)
 deriving Repr, Inhabited
def dd : List Nat -> List Nat
 | [] => []
 | n :: r => bif r.contains n then dd r else n :: dd r
theorem Gl {n : Nat} : ∀ {l : List Nat}, n ∈ dd l ↔ n ∈ l
 | [] => Iff.rfl
 | k :: r => by
   simp only [dd]
   cases hc : r.contains k
   ·simp only [cond_false, List.mem_cons, Gl (l := r)]
   ·simp only [cond_true, List.mem_cons, Gl (l := r)]
    simp_all
def Src.ns : Src -> List Nat
 | .nm n => [n]
 | .vw _ _ _ V => dd V.ns
 | .dm => []
 | .mpn n => [n]
 | .mpv _ ns => dd ns
def isNm (l : List Src) (j n : Nat) : Bool :=
 match l[j]? with
 | some (.nm k) => k == n
 | _ => false
def optV : SV -> Option (E × Option SV)
 | .nilp .nP => some (mkB true, none)
 | .ite c (.nilp .nP) v => some (c, some v)
 | .ite c v (.nilp .nP) => some (Ak c, some v)
 | .ptr n o => some (mkB false, some (.ptr n o))
 | _ => none
theorem Mp {F : Fam} {ρ : Nat -> Int} {ad : Nat -> Hd} {v : SV} {c : E} {u : Option SV} (h : optV v = some (c, u)) :
 (u = none -> v = .nilp .nP /\ c = mkB true) /\ ∀ z, u = some z -> v.conc F ρ ad = bif c.tt F ρ then .pointer none else z.conc F ρ ad := by
 unfold optV at h
 split at h <;> simp only [oJ, pJ, reduceCtorEq] at h <;> obtain ⟨rfl, rfl⟩ := h
 ·simp_all
 ·refine ⟨fun hz => (by cases hz), fun z hz => ?_⟩
  simp only [oJ] at hz; subst hz
  rfl
 ·grind [SV.conc, CV.val, Ad, E.tt]
 simp_all
def CD (m : Mem) (ty : Nat) (row : Row) (own : Bool) (v : SV) : Option (List E × List Src × E) :=
 match Ag m ty row v with
 | some V => if (bif own then V.own else V.sh) = true then some ([V.c], [.vw ty row v V], V.g) else none
 | none => none
def ML (m : Mem) (ks vs : List K) (kag vag : Bool) (n : Nat) : Option (List E × List Src × E) :=
 match m.at n with
 | some (g, .mp ks' vs' kag' vag' c) => if ks' = ks /\ vs' = vs /\ kag' = kag /\ vag' = vag /\ c.kind = .x /\ g.kind = .b then some ([c], [.mpn n], g) else none
 | _ => none
def Cm (m : Mem) (ks vs : List K) (kag vag : Bool) : SV -> Option (E × List Nat × E)
 | .mp n => match m.at n with
   | some (g, .mp ks' vs' kag' vag' c) => if ks' = ks /\ vs' = vs /\ kag' = kag /\ vag' = vag /\ c.kind = .x /\ g.kind = .b then some (c, [n], g) else none
   | _ => none
 | .ite p a b => match Cm m ks vs kag vag a, Cm m ks vs kag vag b with
   | some x, some y => if p.kind = .b then some (mkIte p x.1 y.1, x.2.1 ++ y.2.1, mkIte p x.2.2 y.2.2) else none
   | _, _ => none
 | _ => none
def mpHd (F : Fam) (ρ : Nat -> Int) (ad : Nat -> Hd) : SV -> Hd
 | .mp n => ad n
 | .ite p a b => bif p.tt F ρ then mpHd F ρ ad a else mpHd F ρ ad b
 | _ => default
theorem Er {m : Mem} {ks vs : List K} {kag vag : Bool} : ∀ {v : SV} {c : E} {ns : List Nat} {g : E}, Cm m ks vs kag vag v = some (c, ns, g) -> c.kind = .x /\ g.kind = .b /\ ∀ (F : Fam) (ρ : Nat -> Int) (ad : Nat -> Hd), g.tt F ρ = true ->
 ∃ n ∈ ns, ∃ g' c', m.at n = some (g', .mp ks vs kag vag c') /\ g'.tt F ρ = true /\ c.den F ρ = c'.den F ρ /\ mpHd F ρ ad v = ad n /\ v.conc F ρ ad = .map (some (ad n).blk)
 | .mp n, c, ns, g, h => by
   simp only [Cm] at h
   split at h
   ·rename_i g' ks' vs' kag' vag' c' hn
    split at h
    ·rename_i hc
     obtain ⟨rfl, rfl, rfl, rfl, h5, h6⟩ := hc
     simp only [oJ, pJ] at h
     obtain ⟨rfl, rfl, rfl⟩ := h
     exact ⟨h5, h6, fun F ρ ad hg => ⟨n, by simp, _, _, hn, hg, rfl, rfl, rfl⟩⟩
    ·cases h
   ·cases h
 | .ite p a b, c, ns, g, h => by
   simp only [Cm] at h
   split at h
   ·rename_i x y hx hy
    split at h
    ·rename_i hp
     simp only [oJ, pJ] at h
     obtain ⟨rfl, rfl, rfl⟩ := h
     obtain ⟨x1, x2, x3⟩ := Er (c := x.1) (ns := x.2.1) (g := x.2.2) hx
     obtain ⟨y1, y2, y3⟩ := Er (c := y.1) (ns := y.2.1) (g := y.2.2) hy
     refine ⟨(Dw (F := fun _ _ _ => 0) (ρ := fun _ => 0) hp x1 y1).1, (E6 (F := fun _ _ _ => 0) (ρ := fun _ => 0) hp x2 y2).1, fun F ρ ad hg => ?_⟩
     rw [(E6 hp x2 y2).2] at hg
     have hd := (Dw (F := F) (ρ := ρ) hp x1 y1).2
     cases hpt : p.tt F ρ
     ·rw [hpt] at hg hd
      obtain ⟨n, hn, g', c', q1, q2, q3, q4, q5⟩ := y3 F ρ ad hg
      grind [mpHd, SV.conc]
     ·rw [hpt] at hg hd
      obtain ⟨n, hn, g', c', q1, q2, q3, q4, q5⟩ := x3 F ρ ad hg
      grind [mpHd, SV.conc]
    ·cases h
   ·cases h
 | .sc _, _, _, _, h | .ptr .., _, _, _, h | .pi .., _, _, _, h | .sl .., _, _, _, h | .ls .., _, _, _, h | .sv .., _, _, _, h | .pe .., _, _, _, h | .nilp _, _, _, _, h | .oq .., _, _, _, h | .fn .., _, _, _, h | .agg .., _, _, _, h | .tup .., _, _, _, h | .gd .., _, _, _, h | .und, _, _, _, h | .gl .., _, _, _, h => by simp [Cm] at h
theorem G7 {m m2 : Mem} {ks vs : List K} {kag vag : Bool} : ∀ {v : SV} {r : E × List Nat × E}, Cm m ks vs kag vag v = some r -> (∀ n ∈ r.2.1, m2.at n = m.at n) -> Cm m2 ks vs kag vag v = some r
 | .mp n, r, h, ha => by
   grind [Cm]
 | .ite p a b, r, h, ha => by
   simp only [Cm] at h ⊢
   split at h
   ·rename_i x y hx hy
    split at h
    ·rename_i hp
     simp only [oJ] at h; subst h
     rw [G7 hx fun n hn => ha n (List.mem_append_left _ hn), G7 hy fun n hn => ha n (List.mem_append_right _ hn)]
     simp only [if_pos hp]
    ·cases h
   ·cases h
 | .sc _, _, h, _ | .ptr .., _, h, _ | .pi .., _, h, _ | .sl .., _, h, _ | .ls .., _, h, _ | .sv .., _, h, _ | .pe .., _, h, _ | .nilp _, _, h, _ | .oq .., _, h, _ | .fn .., _, h, _ | .agg .., _, h, _ | .tup .., _, h, _ | .gd .., _, h, _ | .und, _, h, _ | .gl .., _, h, _ => by simp [Cm] at h
def SF (m : Mem) (ks vs : List K) (kag vag : Bool) (v : SV) : Option (List E × List Src × E) := (Cm m ks vs kag vag v).map fun r => ([r.1], [.mpv v r.2.1], r.2.2)
def blkS (m : Mem) (n : Nat) : Option (E × Nat × List SV × List K × E) :=
 match m.at n with
 | some (g, .seg ty cs ks c) => if g.kind = .b /\ c.kind = .x then some (g, ty, cs, ks, c) else none
 | _ => none
theorem HW {m : Mem} {n : Nat} {g : E} {ty : Nat} {cs : List SV} {ks : List K} {c : E} (h : blkS m n = some (g, ty, cs, ks, c)) : m.at n = some (g, .seg ty cs ks c) /\ g.kind = .b /\ c.kind = .x := by
 grind [blkS]
theorem ET {m : Mem} {ks vs : List K} {kag vag : Bool} {n : Nat} {r : List E × List Src × E} (h : ML m ks vs kag vag n = some r) : ∃ g c, m.at n = some (g, .mp ks vs kag vag c) /\ r = ([c], [.mpn n], g) /\ c.kind = .x /\ g.kind = .b := by
 grind [ML]
def Cn (d : List E × List Src × E) (v : SV) (f : SV -> Option (List E × List Src × E)) : Option (List E × List Src × E) :=
 match optV v with
 | some (_, none) => some d
 | some (c, some u) => if c.kind = .b /\ c.sound = true then (f u).map fun r => (c :: r.1, r.2.1, mkOr c r.2.2) else none
 | none => none
def getLsn (m : Mem) (ty : Nat) (row : Row) : SV -> Option (List E × List Src × E)
 | .ls n le => match m.at n with
   | some (g, .lst ty' row' true le' c) => if ty' = ty /\ row' = row /\ le.same le' = true /\ c.kind = .x /\ le'.kind = .i .i64 /\ g.kind = .b then some ([c], [.nm n], g) else none
   | _ => none
 | _ => none
theorem Es {m : Mem} {ty : Nat} {row : Row} {v : SV} {r : List E × List Src × E} (h : getLsn m ty row v = some r) : ∃ n le g c, v = .ls n le /\ m.at n = some (g, .lst ty row true le c) /\ r = ([c], [.nm n], g) /\ c.kind = .x /\ le.kind = .i .i64 /\ g.kind = .b := by
 cases v <;> simp only [getLsn, reduceCtorEq] at h
 grind [E.same_eq]
mutual
def Sh.get (m : Mem) : Sh -> List Src -> SV -> Option (List E × List Src × E)
 | .sc k, _, .sc e => if e.kind = k /\ e.sound = true then some ([e], [], mkB true) else none
 | .lt k n, _, .sc (.lit k' n') => if k = k' /\ n = n' then some ([], [], mkB true) else none
 | .agg l, acc, .agg vs => Sh.getL m l acc vs
 | .lst ty row own, _, v => CD m ty row own v
 | .lsn ty row, _, v => getLsn m ty row v
 | .obj ty cs, acc, .ptr n 0 => match blkC m n with
   | some (g, ty', vs) => if ty' = ty then (Sh.getL m cs (acc ++ [.nm n]) vs).map fun r => (r.1, .nm n :: r.2.1, mkAnd g r.2.2) else none
   | none => none
 | .ref j, acc, .ptr n 0 => if isNm acc j n = true then some ([], [], mkB true) else none
 | .pin j off str, acc, .pi n off' str' e => if isNm acc j n = true /\ off' = off /\ str' = str /\ e.kind = .i .i64 /\ e.sound = true then some ([e], [], mkB true) else none
 | .fnc f l, acc, .fn f' vs => if f = f' then Sh.getL m l acc vs else none
 | .nul c, _, .nilp c' => if c = c' then some ([], [], mkB true) else none
 | .tup l, acc, .tup vs => Sh.getL m l acc vs
 | .opt s, acc, v => Cn (mkB true :: s.ks.map fun k => .lit k 0, List.replicate s.nn .dm, mkB true) v fun u => s.get m acc u
 | .und, _, .und => some ([], [], mkB true)
 | .mp ks vs kag vag, _, .mp n => ML m ks vs kag vag n
 | .mp ks vs kag vag, _, .ite p a b => SF m ks vs kag vag (.ite p a b)
 | .seg ty ks cs, acc, .ptr n 0 => match blkS m n with
   | some (g, ty', vs, ks', c) => if ty' = ty /\ ks' = ks then (Sh.getL m cs (acc ++ [.nm n]) vs).map fun r => (c :: r.1, .nm n :: r.2.1, mkAnd g r.2.2) else none
   | none => none
 | _, _, _ => none
def Sh.getL (m : Mem) : List Sh -> List Src -> List SV -> Option (List E × List Src × E)
 | [], _, [] => some ([], [], mkB true)
 | s :: l, acc, v :: vs => match s.get m acc v with
   | some (es, ns, g) => (Sh.getL m l (acc ++ ns) vs).map fun r => (es ++ r.1, ns ++ r.2.1, mkAnd g r.2.2)
   | none => none
 | _, _, _ => none
end
open Classical in
noncomputable def srcHd (F : Fam) (ρ : Nat -> Int) (w : World) (Im : Nat -> Prop) (ad : Nat -> Hd) (m : Mem) : Src -> Hd
 | .nm n => ad n
 | .vw ty row v V => if h : ∃ hd, LVok F ρ w Im ad m ty row v V hd then h.choose else default
 | .dm => default
 | .mpn n => ad n
 | .mpv v _ => mpHd F ρ ad v
section
variable {F : Fam} {ρ ρ' : Nat -> Int} {w0 w : World} {M0 Im : Nat -> Prop} {ad hs : Nat -> Hd} {m : Mem} {ev : Nat -> E}
structure EntOK (F : Fam) (ρ : Nat -> Int) (ρ' : Nat -> Int) (w : World) (Im : Nat -> Prop) (ad hs : Nat -> Hd) (m : Mem) (S : List Src) (src : Nat -> List Nat) (x : Nat × E × Blk) : Prop where
 ok : BlkOK F0 ρ' Im hs x.1 w x.2.2
 mu : ∀ b, mutB F0 ρ' hs x.1 x.2.2 = some b -> ∃ n ∈ src x.1, ∃ g y, m.at n = some (g, y) /\ g.tt F ρ = true /\ mutB F ρ ad n y = some b
 nm : ∀ n, S[x.1]? = some (.nm n) -> (∃ ty cs, x.2.2 = .cells ty cs) \/ (∃ ty cs ks c, x.2.2 = .seg ty cs ks c) \/ ∃ ty row le c g' le' c', x.2.2 = .lst ty row true le c /\ m.at n = some (g', .lst ty row true le' c') /\ c.den F0 ρ' = c'.den F ρ /\ le.den F0 ρ' = le'.den F ρ /\ hs x.1 = ad n
 mp : ∀ n, S[x.1]? = some (.mpn n) -> ∃ ks vs kag vag c g c', x.2.2 = .mp ks vs kag vag c /\ m.at n = some (g, .mp ks vs kag vag c') /\ c.den F0 ρ' = c'.den F ρ
 mv : ∀ v ns, S[x.1]? = some (.mpv v ns) -> ∃ ks vs kag vag c n g c', x.2.2 = .mp ks vs kag vag c /\ m.at n = some (g, .mp ks vs kag vag c') /\ g.tt F ρ = true /\ c.den F0 ρ' = c'.den F ρ /\ hs x.1 = ad n
 vw : ∀ ty row v V, S[x.1]? = some (.vw ty row v V) -> ∃ own le c, x.2.2 = .lst ty row own le c /\ Ag m ty row v = some V /\ c.den F0 ρ' = V.c.den F ρ /\ v.conc F ρ ad = (hs x.1).sl (dc (V.c.den F ρ)).length /\ V.g.tt F ρ = true /\ (own = true -> V.own = true)
def EvOK (F : Fam) (ρ ρ' : Nat -> Int) (ev : Nat -> E) (vi : Nat) (es : List E) : Prop := ∀ i e, es[i]? = some e -> (ev (vi + i)).den F0 ρ' = e.den F ρ /\ (ev (vi + i)).kind = e.kind
theorem EvOK.left {vi : Nat} {a b : List E} (h : EvOK F ρ ρ' ev vi (a ++ b)) : EvOK F ρ ρ' ev vi a := fun i e hi => h i e (by grind)
theorem EvOK.right {vi : Nat} {a b : List E} (h : EvOK F ρ ρ' ev vi (a ++ b)) : EvOK F ρ ρ' ev (vi + a.length) b := fun i e hi => by
 have := h (a.length + i) e (by grind)
 grind
theorem EvOK.tail {vi : Nat} {a : E} {b : List E} (h : EvOK F ρ ρ' ev vi (a :: b)) : EvOK F ρ ρ' ev (vi + 1) b := EvOK.right (a := [a]) h
theorem EvOK.head {vi : Nat} {a : E} {b : List E} (h : EvOK F ρ ρ' ev vi (a :: b)) : (ev vi).den F0 ρ' = a.den F ρ /\ (ev vi).kind = a.kind := h 0 a rfl
theorem EvOK.val {vi : Nat} {a : E} {b : List E} (h : EvOK F ρ ρ' ev vi (a :: b)) : (ev vi).val F0 ρ' = a.val F ρ := by
 obtain ⟨h1, h2⟩ := h.head
 rw [<- Bj, <- Bj, h1, h2]
theorem EvOK.tt {vi : Nat} {a : E} {b : List E} (h : EvOK F ρ ρ' ev vi (a :: b)) : (ev vi).tt F0 ρ' = a.tt F ρ := by unfold E.tt; rw [h.head.1]
theorem LJ {a b : List E} {ks ls : List K} (h : a.map E.kind = ks) (h' : b.map E.kind = ls) : (a ++ b).map E.kind = ks ++ ls := by simp_all
mutual
theorem FK : ∀ (s : Sh) (acc : List Src) (v : SV) (r : List E × List Src × E), s.get m acc v = some r -> r.1.map E.kind = s.ks /\ r.2.1.length = s.nn /\ r.2.2.kind = .b /\ ∀ e ∈ r.1, e.kind ≠ .x -> e.sound = true
 | .sc k, acc, v, r, h => by
   cases v <;> simp only [Sh.get, reduceCtorEq] at h
   split at h
   ·rename_i hc
    simp only [oJ] at h; subst h
    exact ⟨by simp [Sh.ks, hc.1], rfl, rfl, fun e he => by simp_all⟩
   ·cases h
 | .lt k n, acc, v, r, h => by
   cases v with
   | sc e =>
     cases e <;> simp only [Sh.get, reduceCtorEq] at h
     split at h
     ·simp only [oJ] at h; subst h
      exact ⟨rfl, rfl, rfl, fun e he => by simp at he⟩
     ·cases h
   | _ => simp [Sh.get] at h
 | .agg l, acc, v, r, h => by
   cases v <;> simp only [Sh.get, reduceCtorEq] at h
   exact Bc l acc _ r h
 | .lst ty row own, acc, v, r, h => by
   have h' : CD m ty row own v = some r := by cases v <;> simpa only [Sh.get] using h
   unfold CD at h'
   split at h'
   ·rename_i V hV
    split at h'
    ·simp only [oJ] at h'; subst h'
     obtain ⟨k1, k2, k3⟩ := AS hV
     exact ⟨by simp [Sh.ks, k2], rfl, k3, fun e he hx => by simp_all⟩
    ·cases h'
   ·cases h'
 | .lsn ty row, acc, v, r, h => by
   have h' : getLsn m ty row v = some r := by cases v <;> simpa only [Sh.get] using h
   obtain ⟨n, le, g, c, rfl, hn, rfl, h3, h4, h5⟩ := Es h'
   exact ⟨by simp [Sh.ks, h3], rfl, h5, fun e he hx => by simp_all⟩
 | .obj ty cs, acc, v, r, h => by
   cases v with
   | ptr n o =>
     cases o with
     | zero =>
       simp only [Sh.get] at h
       split at h
       ·rename_i g ty' vs hb
        split at h
        ·obtain ⟨q, hq, rfl⟩ := Option.map_eq_some_iff.1 h
         obtain ⟨i1, i2, i3, i4⟩ := Bc cs _ _ q hq
         exact ⟨i1, by simp [Sh.nn, i2], (Aa g q.2.2 (Br hb).2 i3 (fun _ _ _ => 0) fun _ => 0).2, i4⟩
        ·cases h
       ·cases h
     | succ o => simp [Sh.get] at h
   | _ => simp [Sh.get] at h
 | .pin j off str, acc, v, r, h => by
   cases v <;> simp only [Sh.get, reduceCtorEq] at h
   split at h
   ·rename_i hc
    simp only [oJ] at h; subst h
    exact ⟨by grind [Sh.ks], rfl, rfl, fun e he => by simp_all⟩
   ·cases h
 | .ref j, acc, v, r, h => by
   cases v with
   | ptr n o =>
     cases o with
     | zero =>
       simp only [Sh.get] at h
       split at h
       ·simp only [oJ] at h; subst h
        exact ⟨rfl, rfl, rfl, fun e he => by simp at he⟩
       ·cases h
     | succ o => simp [Sh.get] at h
   | _ => simp [Sh.get] at h
 | .fnc f l, acc, v, r, h => by
   cases v <;> simp only [Sh.get, reduceCtorEq] at h
   split at h
   ·exact Bc l acc _ r h
   ·cases h
 | .nul c, acc, v, r, h => by
   cases v <;> simp only [Sh.get, reduceCtorEq] at h
   split at h
   ·simp only [oJ] at h; subst h
    exact ⟨rfl, rfl, rfl, fun e he => by simp at he⟩
   ·cases h
 | .tup l, acc, v, r, h => by
   cases v <;> simp only [Sh.get, reduceCtorEq] at h
   exact Bc l acc _ r h
 | .opt s, acc, v, r, h => by
   have h' : Cn (mkB true :: s.ks.map fun k => E.lit k 0, List.replicate s.nn Src.dm, mkB true) v (fun u => s.get m acc u) = some r := by cases v <;> simpa only [Sh.get] using h
   unfold Cn at h'
   split at h'
   ·simp only [oJ] at h'; subst h'
    refine ⟨by simp [Sh.ks, E.kind, Function.comp_def], by simp [Sh.nn], rfl, fun e he hx => ?_⟩
    rcases List.mem_cons.1 he with rfl | he
    ·rfl
    ·obtain ⟨k, _, rfl⟩ := List.mem_map.1 he; rfl
   ·rename_i c u ho
    split at h'
    ·rename_i hc
     obtain ⟨q, hq, rfl⟩ := Option.map_eq_some_iff.1 h'
     obtain ⟨i1, i2, i3, i4⟩ := FK s acc u q hq
     refine ⟨by simp [Sh.ks, hc.1, i1], i2, (Cw c q.2.2 hc.1 i3 (fun _ _ _ => 0) fun _ => 0).2, fun e he hx => ?_⟩
     grind
    ·cases h'
   ·cases h'
 | .und, acc, v, r, h => by
   cases v <;> simp only [Sh.get, reduceCtorEq] at h
   simp only [oJ] at h; subst h
   exact ⟨rfl, rfl, rfl, fun e he => by simp at he⟩
 | .mp ks vs kag vag, acc, v, r, h => by
   cases v <;> simp only [Sh.get, reduceCtorEq] at h
   case mp n =>
    obtain ⟨g, c, h1, rfl, h3, h4⟩ := ET h
    exact ⟨by simp [Sh.ks, h3], rfl, h4, fun e he hx => by simp_all⟩
   case ite p a b =>
    obtain ⟨⟨c, ns, g⟩, h1, rfl⟩ := Option.map_eq_some_iff.1 h
    obtain ⟨h3, h4, _⟩ := Er h1
    exact ⟨by simp [Sh.ks, h3], rfl, h4, fun e he hx => by simp_all⟩
 | .seg ty ks cs, acc, v, r, h => by
   cases v with
   | ptr n o =>
     cases o with
     | zero =>
       simp only [Sh.get] at h
       split at h
       ·rename_i g ty' vs ks' c hb
        split at h
        ·obtain ⟨q, hq, rfl⟩ := Option.map_eq_some_iff.1 h
         obtain ⟨b1, b2, b3⟩ := HW hb
         obtain ⟨i1, i2, i3, i4⟩ := Bc cs _ _ q hq
         refine ⟨by simp [Sh.ks, b3, i1], by simp [Sh.nn, i2], (Aa g q.2.2 b2 i3 (fun _ _ _ => 0) fun _ => 0).2, fun e he hx => ?_⟩
         grind
        ·cases h
       ·cases h
     | succ o => simp [Sh.get] at h
   | _ => simp [Sh.get] at h
theorem Bc : ∀ (l : List Sh) (acc : List Src) (vs : List SV) (r : List E × List Src × E), Sh.getL m l acc vs = some r -> r.1.map E.kind = Sh.ksL l /\ r.2.1.length = Sh.nnL l /\ r.2.2.kind = .b /\ ∀ e ∈ r.1, e.kind ≠ .x -> e.sound = true
 | [], acc, [], r, h => by simp only [Sh.getL, oJ] at h; subst h; exact ⟨rfl, rfl, rfl, fun e he => by simp at he⟩
 | [], acc, _ :: _, r, h => by simp [Sh.getL] at h
 | _ :: _, acc, [], r, h => by simp [Sh.getL] at h
 | s :: l, acc, v :: vs, r, h => by
   simp only [Sh.getL] at h
   split at h
   ·rename_i es ns g hs
    obtain ⟨q, hq, rfl⟩ := Option.map_eq_some_iff.1 h
    obtain ⟨i1, i2, i3, i4⟩ := FK s acc v _ hs
    obtain ⟨j1, j2, j3, j4⟩ := Bc l _ vs q hq
    refine ⟨LJ i1 j1, by grind [Sh.nnL], (Aa g q.2.2 i3 j3 (fun _ _ _ => 0) fun _ => 0).2, fun e he hx => ?_⟩
    grind
   ·cases h
end
end
def srcOf (S : List Src) (j : Nat) : List Nat := match S[j]? with | some s => s.ns | none => []
section
variable {F : Fam} {ρ ρ' : Nat -> Int} {w0 w : World} {M0 Im : Nat -> Prop} {ad hs : Nat -> Hd} {m : Mem} {ev : Nat -> E} {S : List Src}
mutual
theorem FL {nv : Nat -> Nat} : ∀ (s : Sh) (g : E) (vi ni : Nat), g.kind = .b -> (∀ i k, s.ks[i]? = some k -> (ev (vi + i)).kind = k) -> ∀ x ∈ (s.gen ev nv g vi ni).2, x.2.1.kind = .b /\ (x.2.1.tt F ρ = true -> g.tt F ρ = true)
 | .sc k, g, vi, ni, hg, hk, x, hx => by cases hx
 | .lt k n, g, vi, ni, hg, hk, x, hx => by cases hx
 | .agg l, g, vi, ni, hg, hk, x, hx => C2 l g vi ni hg hk x hx
 | .lst ty row own, g, vi, ni, hg, hk, x, hx => by grind [Sh.gen]
 | .lsn ty row, g, vi, ni, hg, hk, x, hx => by grind [Sh.gen]
 | .obj ty cs, g, vi, ni, hg, hk, x, hx => by
   simp only [Sh.gen, List.mem_cons] at hx
   rcases hx with rfl | hx
   ·simp_all
   ·exact C2 cs g vi (ni + 1) hg hk x hx
 | .ref j, g, vi, ni, hg, hk, x, hx => by cases hx
 | .pin j off str, g, vi, ni, hg, hk, x, hx => by cases hx
 | .fnc f cs, g, vi, ni, hg, hk, x, hx => C2 cs g vi ni hg hk x hx
 | .nul c, g, vi, ni, hg, hk, x, hx => by cases hx
 | .tup l, g, vi, ni, hg, hk, x, hx => C2 l g vi ni hg hk x hx
 | .opt s, g, vi, ni, hg, hk, x, hx => by
   have a := Aa g (Ak (ev vi)) hg (Ad (ev vi) F ρ).2 F ρ
   obtain ⟨i1, i2⟩ := FL s (mkAnd g (Ak (ev vi))) (vi + 1) ni a.2 (fun i k hi => by
    have := hk (i + 1) k (by simpa [Sh.ks] using hi)
    grind) x hx
   simp_all
 | .und, g, vi, ni, hg, hk, x, hx => by cases hx
 | .mp ks vs kag vag, g, vi, ni, hg, hk, x, hx => by grind [Sh.gen]
 | .seg ty ks cs, g, vi, ni, hg, hk, x, hx => by
   simp only [Sh.gen, List.mem_cons] at hx
   rcases hx with rfl | hx
   ·simp_all
   ·exact C2 cs g (vi + 1) (ni + 1) hg (fun i k hi => by
     have := hk (i + 1) k (by simpa [Sh.ks] using hi)
     grind) x hx
theorem C2 {nv : Nat -> Nat} : ∀ (l : List Sh) (g : E) (vi ni : Nat), g.kind = .b -> (∀ i k, (Sh.ksL l)[i]? = some k -> (ev (vi + i)).kind = k) -> ∀ x ∈ (Sh.genL ev nv l g vi ni).2, x.2.1.kind = .b /\ (x.2.1.tt F ρ = true -> g.tt F ρ = true)
 | [], g, vi, ni, hg, hk, x, hx => by cases hx
 | s :: r, g, vi, ni, hg, hk, x, hx => by
   simp only [Sh.genL, List.mem_append] at hx
   rcases hx with hx | hx
   ·exact FL s g vi ni hg (fun i k hi => hk i k (by grind [Sh.ksL])) x hx
   ·exact C2 r g (vi + s.ks.length) (ni + s.nn) hg (fun i k hi => by
     have := hk (s.ks.length + i) k (by grind [Sh.ksL])
     grind) x hx
end
theorem EvOK.kinds {vi : Nat} {es : List E} {ks : List K} (h : EvOK F ρ ρ' ev vi es) (hk : es.map E.kind = ks) : ∀ i k, ks[i]? = some k -> (ev (vi + i)).kind = k := fun i k hi => by
 subst hk
 rw [List.getElem?_map] at hi
 obtain ⟨e, h1, h2⟩ := Option.map_eq_some_iff.1 hi
 rw [(h i e h1).2, h2]
def SrcAt (S : List Src) (ni : Nat) (ns : List Src) : Prop := ∀ j s, ns[j]? = some s -> S[ni + j]? = some s
theorem SrcAt.left {ni : Nat} {a b : List Src} (h : SrcAt S ni (a ++ b)) : SrcAt S ni a := fun j s hj => h j s (by grind)
theorem SrcAt.right {ni : Nat} {a b : List Src} (h : SrcAt S ni (a ++ b)) : SrcAt S (ni + a.length) b := fun j s hj => by
 have := h (a.length + j) s (by grind)
 grind
theorem SrcAt.both {a b : List Src} (h : SrcAt S 0 a) (h' : SrcAt S a.length b) : SrcAt S 0 (a ++ b) := fun j s hj => by
 by_cases hl : j < a.length
 ·rw [List.getElem?_append_left hl] at hj; exact h j s hj
 ·rw [List.getElem?_append_right (by omega)] at hj
  have := h' _ s hj
  simp_all
mutual
theorem Kn (hB : BI F) (hI : RelI F ρ w0 M0 Im ad m w) (hS : ∀ j s, S[j]? = some s -> hs j = srcHd F ρ w Im ad m s) : ∀ (s : Sh) (acc : List Src) (v : SV) (r : List E × List Src × E) (gd : E) (vi : Nat), s.get m acc v = some r -> gd.kind = .b ->
 SrcAt S 0 acc -> SrcAt S acc.length r.2.1 -> EvOK F ρ ρ' ev vi r.1 -> r.2.2.tt F ρ = true ->
 v.conc F ρ ad = (s.gen ev id gd vi acc.length).1.conc F0 ρ' hs /\ ∀ x ∈ (s.gen ev id gd vi acc.length).2, x.2.1.tt F0 ρ' = true -> EntOK F ρ ρ' w Im ad hs m S (srcOf S) x
 | .sc k, acc, v, r, gd, vi, h, hgd, hA, hs1, hev, hg => by
   cases v <;> simp only [Sh.get, reduceCtorEq] at h
   grind [SV.conc, Sh.gen, EvOK.val]
 | .lt k n, acc, v, r, gd, vi, h, hgd, hA, hs1, hev, hg => by
   cases v with
   | sc e =>
     cases e <;> simp only [Sh.get, reduceCtorEq] at h
     grind [SV.conc, Sh.gen, E.val, E.kind, E.tt, E.den]
   | _ => simp [Sh.get] at h
 | .agg l, acc, v, r, gd, vi, h, hgd, hA, hs1, hev, hg => by
   cases v <;> simp only [Sh.get, reduceCtorEq] at h
   obtain ⟨i1, i2⟩ := Bs hB hI hS l acc _ r gd vi h hgd hA hs1 hev hg
   grind [SV.conc, Sh.gen]
 | .lst ty row own, acc, v, r, gd, vi, h, hgd, hA, hs1, hev, hg => by
   have h' : CD m ty row own v = some r := by cases v <;> simpa only [Sh.get] using h
   unfold CD at h'
   split at h'
   ·rename_i V hV
    split at h'
    ·rename_i ho
     simp only [oJ] at h'; subst h'
     simp only at hg hev hs1
     have hex := Bb hB hI hV hg
     have hhd : hs acc.length = hex.choose := by
      have := hS _ _ (hs1 0 _ rfl)
      simp only [Nat.add_zero] at this
      rw [this]
      simp only [srcHd, dif_pos hex]
     obtain ⟨o1, o2, o3, o4, o5, o6, o7⟩ := hex.choose_spec
     rw [<- hhd] at o1 o4 o5 o6 o7
     have hden := hev.head.1
     have hlen : (LEN (ev vi)).den F0 ρ' = ((dc (V.c.den F ρ)).length : Int) := by rw [FJ.len, hden, Bw o4.1]
     refine ⟨by grind [Sh.gen, SV.conc], fun x hx _ => ?_⟩
     simp only [Sh.gen, List.mem_singleton] at hx
     subst hx
     have hS0 : S[acc.length]? = some (Src.vw ty row v V) := by
      have := hs1 0 _ rfl
      simpa only [Nat.add_zero] using this
     refine ⟨⟨by rw [hden]; exact o2, by rw [hlen, hden], ?_⟩, fun b hb => ?_, fun n hn => (by simp_all), fun n hn => (by simp_all), fun v' ns' hn => (by simp_all), fun ty' row' v' V' hv' => by
      rw [hS0] at hv'
      simp only [oJ, Src.vw.injEq] at hv'
      obtain ⟨rfl, rfl, rfl, rfl⟩ := hv'
      grind⟩
     ·grind
     grind [mutB, srcOf, dd, Src.ns, Gl]
    ·cases h'
   ·cases h'
 | .lsn ty row, acc, v, r, gd, vi, h, hgd, hA, hs1, hev, hg => by
   have h' : getLsn m ty row v = some r := by cases v <;> simpa only [Sh.get] using h
   obtain ⟨n, le, g, c, rfl, hn, rfl, h3, h4, h5⟩ := Es h'
   simp only at hg hev hs1
   have hS0 : S[acc.length]? = some (Src.nm n) := by
    have := hs1 0 _ rfl
    simpa only [Nat.add_zero] using this
   have hnn : hs acc.length = ad n := by rw [hS _ _ hS0]; rfl
   have hent := (hI.ent n g _ hn hg).1
   have hden := hev.head.1
   have hlc : le.den F ρ = ((dc (c.den F ρ)).length : Int) := hent.2.1
   have hwl : IntKind.i64.wrap (((dc (c.den F ρ)).length : Nat) : Int) = ((dc (c.den F ρ)).length : Int) := by
    have := hent.2.2
    simp only [cond_true] at this
    exact Bw this.1
   have hlen : (LEN (ev vi)).den F0 ρ' = le.den F ρ := by rw [FJ.len, hden, hwl, hlc]
   refine ⟨by grind [Sh.gen, SV.conc], fun x hx _ => ?_⟩
   simp only [Sh.gen, List.mem_singleton] at hx
   subst hx
   refine ⟨?_, fun b hb => ?_, fun n' hn' => ?_, fun n' hn' => (by simp_all), fun v' ns' hn' => (by simp_all), fun ty' row' v' V' hv' => (by simp_all)⟩
   ·grind [BlkOK]
   ·simp only [mutB, hlen, hnn] at hb
    have hsrc : srcOf S acc.length = [n] := by simp only [srcOf, hS0, Src.ns]
    exact ⟨n, by rw [hsrc]; simp, g, _, hn, hg, by grind [mutB]⟩
   grind
 | .obj ty cs, acc, v, r, gd, vi, h, hgd, hA, hs1, hev, hg => by
   cases v with
   | ptr n o =>
     cases o with
     | zero =>
       simp only [Sh.get] at h
       split at h
       ·rename_i g ty' vs hb
        split at h
        ·rename_i hty
         obtain ⟨q, hq, rfl⟩ := Option.map_eq_some_iff.1 h
         obtain ⟨b1, b2⟩ := Br hb
         subst hty
         obtain ⟨_, _, k3, _⟩ := Bc cs _ _ q hq
         rw [(Aa g q.2.2 b2 k3 F ρ).1, Bool.and_eq_true] at hg
         have hlen : (acc ++ [Src.nm n]).length = acc.length + 1 := by simp
         have hs1' : SrcAt S acc.length ([Src.nm n] ++ q.2.1) := hs1
         have hA' : SrcAt S 0 (acc ++ [Src.nm n]) := hA.both hs1'.left
         have hs2 : SrcAt S (acc ++ [Src.nm n]).length q.2.1 := by rw [hlen]; exact hs1'.right
         obtain ⟨i1, i2⟩ := Bs hB hI hS cs (acc ++ [.nm n]) vs q gd vi hq hgd hA' hs2 hev hg.2
         rw [hlen] at i1 i2
         have hn : hs acc.length = ad n := by
          have := hS _ _ (hs1 0 _ rfl)
          simp only [Nat.add_zero] at this
          rw [this]; rfl
         have hent := (hI.ent n g _ b1 hg.1).1
         refine ⟨by grind [Sh.gen, SV.conc], fun x hx hxg => ?_⟩
         simp only [Sh.gen, List.mem_cons] at hx
         rcases hx with rfl | hx
         ·have hS0 : S[acc.length]? = some (Src.nm n) := by
           have := hs1 0 _ rfl
           simpa only [Nat.add_zero] using this
          refine ⟨?_, fun b hb => ?_, fun _ _ => Or.inl ⟨_, _, rfl⟩, fun n' hn' => (by simp_all), fun v' ns' hn' => (by simp_all), fun ty' row' v' V' hv' => (by simp_all)⟩
          ·grind [BlkOK]
          ·simp only [mutB, hn, oJ] at hb
           have hsrc : srcOf S acc.length = [n] := by
            have := hs1 0 _ rfl
            simp only [Nat.add_zero] at this
            simp only [srcOf, this, Src.ns]
           refine ⟨n, by rw [hsrc]; simp, g, _, b1, hg.1, by simp only [mutB, hb]⟩
         ·exact i2 x hx hxg
        ·cases h
       ·cases h
     | succ o => simp [Sh.get] at h
   | _ => simp [Sh.get] at h
 | .pin j off str, acc, v, r, gd, vi, h, hgd, hA, hs1, hev, hg => by
   cases v <;> simp only [Sh.get, reduceCtorEq] at h
   split at h
   ·rename_i hc
    obtain ⟨hn, rfl, rfl, hk, hs⟩ := hc
    simp only [oJ] at h; subst h
    refine ⟨?_, fun x hx => by cases hx⟩
    unfold isNm at hn
    split at hn
    ·rename_i k hk
     have hkn := (by simpa using hn : k = _)
     subst hkn
     have := hS _ _ (hA j _ hk)
     rw [Nat.zero_add] at this
     simp only [Sh.gen, SV.conc, id, this, hev.head.1]
     rfl
    ·cases hn
   ·cases h
 | .ref j, acc, v, r, gd, vi, h, hgd, hA, hs1, hev, hg => by
   cases v with
   | ptr n o =>
     cases o with
     | zero =>
       simp only [Sh.get] at h
       split at h
       ·rename_i hn
        simp only [oJ] at h; subst h
        refine ⟨?_, fun x hx => by cases hx⟩
        unfold isNm at hn
        split at hn
        ·rename_i k hk
         have hkn : k = n := by simpa using hn
         subst hkn
         have := hS _ _ (hA j _ hk)
         rw [Nat.zero_add] at this
         simp only [Sh.gen, SV.conc, id, this]
         rfl
        ·cases hn
       ·cases h
     | succ o => simp [Sh.get] at h
   | _ => simp [Sh.get] at h
 | .fnc f l, acc, v, r, gd, vi, h, hgd, hA, hs1, hev, hg => by
   cases v <;> simp only [Sh.get, reduceCtorEq] at h
   split at h
   ·rename_i hf
    subst hf
    obtain ⟨i1, i2⟩ := Bs hB hI hS l acc _ r gd vi h hgd hA hs1 hev hg
    grind [SV.conc, Sh.gen]
   ·cases h
 | .nul c, acc, v, r, gd, vi, h, hgd, hA, hs1, hev, hg => by
   cases v <;> simp only [Sh.get, reduceCtorEq] at h
   split at h
   ·rename_i hc
    simp only [oJ] at h; subst h
    subst hc
    exact ⟨rfl, fun x hx => by cases hx⟩
   ·cases h
 | .tup l, acc, v, r, gd, vi, h, hgd, hA, hs1, hev, hg => by
   cases v <;> simp only [Sh.get, reduceCtorEq] at h
   obtain ⟨i1, i2⟩ := Bs hB hI hS l acc _ r gd vi h hgd hA hs1 hev hg
   grind [SV.conc, Sh.gen]
 | .opt s, acc, v, r, gd, vi, h, hgd, hA, hs1, hev, hg => by
   have h' : Cn (mkB true :: s.ks.map fun k => E.lit k 0, List.replicate s.nn Src.dm, mkB true) v (fun u => s.get m acc u) = some r := by cases v <;> simpa only [Sh.get] using h
   unfold Cn at h'
   split at h'
   ·rename_i c ho
    simp only [oJ] at h'; subst h'
    simp only at hev
    obtain ⟨e1, e2⟩ := (Mp (F := F) (ρ := ρ) (ad := ad) ho).1 rfl
    have hall : (ev vi).tt F0 ρ' = true := by rw [hev.tt]; simp
    have hkk : (ev vi).kind = .b := by rw [hev.head.2]; rfl
    refine ⟨?_, fun x hx hxg => ?_⟩
    ·grind [Sh.gen, SV.conc]
    ·have a := Aa gd (Ak (ev vi)) hgd (Ad (ev vi) F0 ρ').2 F0 ρ'
     have hk : ∀ i k, s.ks[i]? = some k -> (ev (vi + 1 + i)).kind = k := fun i k hi => by
      have := (hev (i + 1) (.lit k 0) (by simp [hi])).2
      rwa [show vi + (i + 1) = vi + 1 + i by omega] at this
     have := (FL (F := F0) (ρ := ρ') s (mkAnd gd (Ak (ev vi))) (vi + 1) acc.length a.2 hk x hx).2 hxg
     grind [Ad, F0]
   ·rename_i c u ho
    split at h'
    ·rename_i hc
     obtain ⟨q, hq, rfl⟩ := Option.map_eq_some_iff.1 h'
     simp only at hev hs1 hg
     obtain ⟨k1, k2, k3, _⟩ := FK s acc u q hq
     have hv := (Mp (F := F) (ρ := ρ) (ad := ad) ho).2 u rfl
     have a := Aa gd (Ak (ev vi)) hgd (Ad (ev vi) F0 ρ').2 F0 ρ'
     have htt : (ev vi).tt F0 ρ' = c.tt F ρ := hev.tt
     rw [(Cw c q.2.2 hc.1 k3 F ρ).1, Bool.or_eq_true] at hg
     by_cases hct : c.tt F ρ = true
     ·refine ⟨?_, fun x hx hxg => ?_⟩
      ·grind [Sh.gen, SV.conc, CV.val]
      ·have := (FL (F := F0) (ρ := ρ') s (mkAnd gd (Ak (ev vi))) (vi + 1) acc.length a.2 (hev.tail.kinds k1) x hx).2 hxg
       grind [Ad, F0]
     ·have hcf : c.tt F ρ = false := by simpa using hct
      obtain ⟨i1, i2⟩ := Kn hB hI hS s acc u q (mkAnd gd (Ak (ev vi))) (vi + 1) hq a.2 hA hs1 hev.tail (hg.resolve_left hct)
      grind [Sh.gen, SV.conc]
    ·cases h'
   ·cases h'
 | .und, acc, v, r, gd, vi, h, hgd, hA, hs1, hev, hg => by
   cases v <;> simp only [Sh.get, reduceCtorEq] at h
   simp only [oJ] at h; subst h
   exact ⟨rfl, fun x hx => by cases hx⟩
 | .mp ks vs kag vag, acc, v, r, gd, vi, h, hgd, hA, hs1, hev, hg => by
   cases v <;> simp only [Sh.get, reduceCtorEq] at h
   case mp n =>
    obtain ⟨g, c, b1, rfl, h3, h4⟩ := ET h
    have hS0 : S[acc.length]? = some (Src.mpn n) := by
     have := hs1 0 _ rfl
     simpa only [Nat.add_zero] using this
    have hn : hs acc.length = ad n := by rw [hS _ _ hS0]; rfl
    have hent := (hI.ent n g _ b1 hg).1
    have hden := hev.head.1
    refine ⟨by grind [Sh.gen, SV.conc], fun x hx hxg => ?_⟩
    simp only [Sh.gen, List.mem_singleton] at hx
    subst hx
    refine ⟨?_, fun b hb => ?_, fun n' hn' => (by simp_all), fun n' hn' => ?_, fun v' ns' hn' => (by simp_all), fun ty' row' v' V' hv' => (by simp_all)⟩
    ·grind [BlkOK]
    ·simp only [mutB, hn, oJ] at hb
     have hsrc : srcOf S acc.length = [n] := by simp only [srcOf, hS0, Src.ns]
     exact ⟨n, by rw [hsrc]; simp, g, _, b1, hg, by simp only [mutB, hb]⟩
    grind
   case ite p a b =>
    obtain ⟨⟨c, ns, g⟩, h1, rfl⟩ := Option.map_eq_some_iff.1 h
    obtain ⟨h3, h4, h5⟩ := Er h1
    obtain ⟨n, hn, g', c', q1, q2, q3, q4, q5⟩ := h5 F ρ ad hg
    have hS0 : S[acc.length]? = some (Src.mpv (.ite p a b) ns) := by
     have := hs1 0 _ rfl
     simpa only [Nat.add_zero] using this
    have hn' : hs acc.length = ad n := by rw [hS _ _ hS0]; exact q4
    have hent := (hI.ent n g' _ q1 q2).1
    have hden := hev.head.1
    refine ⟨by grind [Sh.gen, SV.conc], fun x hx hxg => ?_⟩
    simp only [Sh.gen, List.mem_singleton] at hx
    subst hx
    refine ⟨?_, fun b hb => ?_, fun n' hn'' => (by simp_all), fun n' hn'' => (by simp_all), fun v' ns' hn'' => ?_, fun ty' row' v' V' hv' => (by simp_all)⟩
    ·grind [BlkOK]
    ·simp only [mutB, hn', oJ] at hb
     have hsrc : srcOf S acc.length = dd ns := by simp only [srcOf, hS0, Src.ns]
     exact ⟨n, by grind [Gl], g', _, q1, q2, by simp only [mutB, hb]⟩
    grind
 | .seg ty ks cs, acc, v, r, gd, vi, h, hgd, hA, hs1, hev, hg => by
   cases v with
   | ptr n o =>
     cases o with
     | zero =>
       simp only [Sh.get] at h
       split at h
       ·rename_i g ty' vs ks' c hb
        split at h
        ·rename_i hty
         obtain ⟨q, hq, rfl⟩ := Option.map_eq_some_iff.1 h
         obtain ⟨b1, b2, b3⟩ := HW hb
         obtain ⟨rfl, rfl⟩ := hty
         obtain ⟨_, _, k3, _⟩ := Bc cs _ _ q hq
         simp only at hev
         rw [(Aa g q.2.2 b2 k3 F ρ).1, Bool.and_eq_true] at hg
         have hlen : (acc ++ [Src.nm n]).length = acc.length + 1 := by simp
         have hs1' : SrcAt S acc.length ([Src.nm n] ++ q.2.1) := hs1
         have hA' : SrcAt S 0 (acc ++ [Src.nm n]) := hA.both hs1'.left
         have hs2 : SrcAt S (acc ++ [Src.nm n]).length q.2.1 := by rw [hlen]; exact hs1'.right
         obtain ⟨i1, i2⟩ := Bs hB hI hS cs (acc ++ [.nm n]) vs q gd (vi + 1) hq hgd hA' hs2 hev.tail hg.2
         rw [hlen] at i1 i2
         have hS0 : S[acc.length]? = some (Src.nm n) := by
          have := hs1 0 _ rfl
          simpa only [Nat.add_zero] using this
         have hn : hs acc.length = ad n := by rw [hS _ _ hS0]; rfl
         have hent := (hI.ent n g _ b1 hg.1).1
         have hden := hev.head.1
         refine ⟨by grind [Sh.gen, SV.conc], fun x hx hxg => ?_⟩
         simp only [Sh.gen, List.mem_cons] at hx
         rcases hx with rfl | hx
         ·refine ⟨?_, fun b hb => ?_, fun _ _ => Or.inr (Or.inl ⟨_, _, _, _, rfl⟩), fun n' hn' => (by simp_all), fun v' ns' hn' => (by simp_all), fun ty'' row' v' V' hv' => (by simp_all)⟩
          ·grind [BlkOK]
          ·simp only [mutB, hn, oJ] at hb
           have hsrc : srcOf S acc.length = [n] := by simp only [srcOf, hS0, Src.ns]
           exact ⟨n, by rw [hsrc]; simp, g, _, b1, hg.1, by simp only [mutB, hb]⟩
         ·exact i2 x hx hxg
        ·cases h
       ·cases h
     | succ o => simp [Sh.get] at h
   | _ => simp [Sh.get] at h
theorem Bs (hB : BI F) (hI : RelI F ρ w0 M0 Im ad m w) (hS : ∀ j s, S[j]? = some s -> hs j = srcHd F ρ w Im ad m s) : ∀ (l : List Sh) (acc : List Src) (vs : List SV) (r : List E × List Src × E) (gd : E) (vi : Nat), Sh.getL m l acc vs = some r -> gd.kind = .b ->
 SrcAt S 0 acc -> SrcAt S acc.length r.2.1 -> EvOK F ρ ρ' ev vi r.1 -> r.2.2.tt F ρ = true ->
 SV.concL F ρ ad vs = SV.concL F0 ρ' hs (Sh.genL ev id l gd vi acc.length).1 /\ ∀ x ∈ (Sh.genL ev id l gd vi acc.length).2, x.2.1.tt F0 ρ' = true -> EntOK F ρ ρ' w Im ad hs m S (srcOf S) x
 | [], acc, [], r, gd, vi, h, hgd, hA, hs1, hev, hg => ⟨rfl, fun x hx => by cases hx⟩
 | [], acc, _ :: _, r, gd, vi, h, hgd, hA, hs1, hev, hg => by simp [Sh.getL] at h
 | _ :: _, acc, [], r, gd, vi, h, hgd, hA, hs1, hev, hg => by simp [Sh.getL] at h
 | s :: l, acc, v :: vs, r, gd, vi, h, hgd, hA, hs1, hev, hg => by
   simp only [Sh.getL] at h
   split at h
   ·rename_i es ns g hs0
    obtain ⟨q, hq, rfl⟩ := Option.map_eq_some_iff.1 h
    obtain ⟨k1, k2, k3, _⟩ := FK s acc v _ hs0
    obtain ⟨l1, l2, l3, _⟩ := Bc l _ vs q hq
    simp only at k1 k2 k3 hev hs1 hg
    rw [(Aa g q.2.2 k3 l3 F ρ).1, Bool.and_eq_true] at hg
    have hel : es.length = s.ks.length := by rw [<- k1]; simp
    obtain ⟨i1, i2⟩ := Kn hB hI hS s acc v (es, ns, g) gd vi hs0 hgd hA hs1.left hev.left hg.1
    have hlen : (acc ++ ns).length = acc.length + s.nn := by rw [List.length_append, k2]
    have hA' : SrcAt S 0 (acc ++ ns) := hA.both hs1.left
    have hs2 : SrcAt S (acc ++ ns).length q.2.1 := by rw [List.length_append]; exact hs1.right
    have hev2 := hev.right
    rw [hel] at hev2
    obtain ⟨j1, j2⟩ := Bs hB hI hS l (acc ++ ns) vs q gd (vi + s.ks.length) hq hgd hA' hs2 hev2 hg.2
    grind [SV.concL, Sh.genL]
   ·cases h
end
end
inductive Tl where
 | seg (ks : List K)
 | lst (row : Row)
 deriving DecidableEq, Inhabited
instance : Coe (List K) Tl := ⟨Tl.seg⟩
structure Ob where
 j : Nat
 ty : Nat
 tl : Option Tl := none
 cs : List Sh
 deriving Inhabited
def mkO (ty : Nat) (tl : Option Tl) (vs : List SV) : Blk :=
 match tl, vs with
 | none, vs => .cells ty vs
 | some (.seg ks), .sc c :: vs => if c.kind = .x then .seg ty vs ks c else .dead
 | some (.lst row), .sc c :: _ => if c.kind = .x then .lst ty row true (LEN c) c else .dead
 | some _, _ => .dead
def unO : Blk -> Option (Nat × Option Tl × List SV)
 | .cells ty cs => some (ty, none, cs)
 | .seg ty cs ks c => if c.kind = .x then some (ty, some (.seg ks), .sc c :: cs) else none
 | .lst ty row true _ c => if c.kind = .x then some (ty, some (.lst row), [.sc c]) else none
 | _ => none
def Blk.nrm : Blk -> Blk
 | .lst ty row own _ c => .lst ty row own (LEN c) c
 | b => b
theorem Blk.nrm_cs (b : Blk) : b.nrm.cs = b.cs := by cases b <;> rfl
def Blk.lenOK (F : Fam) (ρ : Nat -> Int) : Blk -> Prop
 | .lst _ _ _ le c => le.den F ρ = (LEN c).den F ρ
 | _ => True
theorem Blk.nrm_same {F : Fam} {ρ : Nat -> Int} {b : Blk} (h : b.lenOK F ρ) (ad : Nat -> Hd) (n : Nat) : mutB F ρ ad n b.nrm = mutB F ρ ad n b /\ ∀ (Im : Nat -> Prop) (w : World), BlkOK F ρ Im ad n w b.nrm ↔ BlkOK F ρ Im ad n w b := by
 cases b with
 | lst ty row own le c =>
   simp only [Blk.lenOK] at h
   refine ⟨?_, fun Im w => ?_⟩
   ·cases own <;> simp only [Blk.nrm, mutB, h]
   ·simp only [Blk.nrm, BlkOK, h]
 | _ => exact ⟨rfl, fun _ _ => Iff.rfl⟩
theorem BlkOK.lenOK {F : Fam} {ρ : Nat -> Int} (hB : BI F) {Im : Nat -> Prop} {ad : Nat -> Hd} {n : Nat} {w : World} {b : Blk} (h : BlkOK F ρ Im ad n w b) : b.lenOK F ρ := by
 cases b with
 | lst ty row own le c =>
   simp only [Blk.lenOK]
   have hw : (dc (c.den F ρ)).length <= maxLen := by
    have := h.2.2
    cases own
    ·exact this.1
    ·exact this.1
   rw [hB.len, Bw hw, h.2.1]
 | _ => trivial
theorem Vm {b : Blk} {ty : Nat} {tl : Option Tl} {vs : List SV} (h : unO b = some (ty, tl, vs)) : mkO ty tl vs = b.nrm := by
 unfold unO at h
 grind [mkO, Blk.nrm]
def isX : List SV -> Bool
 | .sc c :: _ => decide (c.kind = .x)
 | _ => false
theorem NC {F1 F2 : Fam} {ρ1 ρ2 : Nat -> Int} {ad1 ad2 : Nat -> Hd} {n j ty : Nat} {tl : Option Tl} {vs us : List SV} (hB1 : BI F1) (hB2 : BI F2) (h : SV.concL F1 ρ1 ad1 vs = SV.concL F2 ρ2 ad2 us) (hx : isX vs = isX us) (hn : ad1 n = ad2 j) :
 mutB F1 ρ1 ad1 n (mkO ty tl vs) = mutB F2 ρ2 ad2 j (mkO ty tl us) /\ ∀ (Im : Nat -> Prop) (w : World), BlkOK F1 ρ1 Im ad1 n w (mkO ty tl vs) ↔ BlkOK F2 ρ2 Im ad2 j w (mkO ty tl us) := by
 cases tl with
 | none => grind [mkO, mutB, BlkOK]
 | some ks =>
   by_cases h1 : isX vs = true
   ·have h2 := h1
    rw [hx] at h2
    unfold isX at h1 h2
    split at h1
    ·rename_i c r
     split at h2
     ·rename_i c' r'
      have k1 : c.kind = .x := by simpa using h1
      have k2 : c'.kind = .x := by simpa using h2
      simp only [SV.concL, List.cons.injEq, SV.conc, E.val_x k1, E.val_x k2, Value.int.injEq, true_and] at h
      cases ks with
      | seg ks => grind [mkO, mutB, BlkOK]
      | lst row =>
        grind [E.den, LEN, BI.len, mkO, mutB, BlkOK]
     ·cases h2
    ·cases h1
   ·have h1' : isX vs = false := by simpa using h1
    have h2' : isX us = false := by rw [<- hx]; exact h1'
    have dead : ∀ l : List SV, isX l = false -> mkO ty (some ks) l = .dead := fun l hl => by
     unfold isX at hl
     split at hl
     ·rename_i c r
      have : ¬ c.kind = .x := by simpa using hl
      cases ks <;> simp only [mkO, if_neg this]
     ·rename_i hne
      cases l with
      | nil => cases ks <;> rfl
      | cons v r =>
        cases v with
        | sc c => simp_all
        | _ => cases ks <;> rfl
    rw [dead _ h1', dead _ h2']
    exact ⟨rfl, fun _ _ => Iff.rfl⟩
theorem VO {p : Nat -> Prop} {ty : Nat} {tl : Option Tl} {vs : List SV} (h : SV.okL p vs) : SV.okL p (mkO ty tl vs).cs := by
 unfold mkO
 split
 ·exact h
 ·split
  ·exact h.2
  ·trivial
 ·split
  ·trivial
  ·trivial
 ·trivial
structure Ent where
 key : Nat
 f : Nat
 ps : List Sh
 os : List Ob
 kp : List Nat
 rs : Sh
 fn : Nat -> List Int -> Int
 pre : List Int -> Prop
abbrev Tabs := List Ent
def env (xs : List Int) : Nat -> Int := fun i => xs.getD i 0
def varE (ks : List K) : Nat -> E := fun i => match ks[i]? with | some k => .var k i | none => mkB false
def Ent.pks (e : Ent) : List K := Sh.ksL e.ps
def Ent.outL (e : Ent) : List Sh := e.os.flatMap (fun o => o.cs) ++ [e.rs]
def Ent.oks (e : Ent) : List K := Sh.ksL e.outL
def Ent.np (e : Ent) : Nat := e.pks.length
def Ent.nn (e : Ent) : Nat := Sh.nnL e.ps
def Ent.pgen (e : Ent) : List SV × Ents := Sh.genL (varE e.pks) id e.ps (mkB true) 0 0
def Ent.ogen (e : Ent) : List SV × Ents := Sh.genL (varE (e.pks ++ e.oks)) id e.outL (mkB true) e.np e.nn
def objE : List Ob -> List SV -> Ents
 | [], _ => []
 | o :: r, vs => (o.j, mkB true, mkO o.ty o.tl (vs.take o.cs.length)) :: objE r (vs.drop o.cs.length)
def Qp (kp : List Nat) (l : Ents) : Ents := l.filter fun x => kp.contains x.1
def BA (l : List SV) : SV := l.getLastD .und
def Ent.oents (e : Ent) : Ents := objE e.os e.ogen.1 ++ (Qp e.kp e.pgen.2 ++ e.ogen.2)
def Aw (fn : Nat -> List Int -> Int) (xs : List Int) : Nat -> List K -> List Int
 | _, [] => []
 | j, k :: ks => k.norm (fn j xs) :: Aw fn xs (j + 1) ks
structure RelE (F : Fam) (ρ : Nat -> Int) (w0 : World) (M0 Im : Nat -> Prop) (hs : Nat -> Hd) (l : Ents) (w : World) : Prop where
 ent : ∀ x ∈ l, x.2.1.tt F ρ = true -> BlkOK F ρ Im hs x.1 w x.2.2 /\ ∀ b, mutB F ρ hs x.1 x.2.2 = some b -> (M0 b \/ w0.heap.size <= b) /\ ¬ Im b /\ b < w.heap.size
 inj : ∀ x ∈ l, ∀ y ∈ l, x.2.1.tt F ρ = true -> y.2.1.tt F ρ = true -> ∀ b, mutB F ρ hs x.1 x.2.2 = some b -> mutB F ρ hs y.1 y.2.2 = some b -> x.1 = y.1
 im : ∀ b, Im b -> b < w.heap.size
 fr : Fr M0 w0 w
def EntryOK (P : Program) (G : Glob) (e : Ent) : Prop :=
 ∀ xs, fits e.pks xs -> e.pre xs -> ∀ (w : World) (M0 Im0 : Nat -> Prop) (hs : Nat -> Hd), (∀ b, M0 b -> ¬ Im0 b /\ b < w.heap.size) -> GOK G Im0 w -> RelE F0 (env xs) w M0 Im0 hs e.pgen.2 w ->
   Calls P e.f (SV.concL F0 (env xs) hs e.pgen.1).toArray w fun en w' => ∃ (hs' : Nat -> Hd) (Im' : Nat -> Prop), (∀ j, j < e.nn -> hs' j = hs j) /\ (∀ b, Im0 b -> Im' b) /\ (∀ b, Im' b -> Im0 b \/ M0 b \/ w.heap.size <= b) /\
    en = .returned ((BA e.ogen.1).conc F0 (env (xs ++ Aw e.fn xs 0 e.oks)) hs') /\ RelE F0 (env (xs ++ Aw e.fn xs 0 e.oks)) w M0 Im' hs' e.oents w'
def Tabs.get (l : Tabs) (k : Nat) : Option Ent := l.find? fun e => e.key == k
def preC : Nat := 1000000
open Classical in
noncomputable def Tabs.F (l : Tabs) : Fam := fun k j xs => if k = 0 then bi j xs else match l.get k with
 | some e => if j = preC then (if e.pre xs then 1 else 0) else e.fn j xs
 | none => 0
theorem Tabs.BI (l : Tabs) : BI l.F := fun j xs => by simp [Tabs.F]
def Et (key : Nat) (es : List E) : Nat -> List K -> List E
 | _, [] => []
 | j, k :: ks => .app k key j es :: Et key es (j + 1) ks
def namB : Nat := 100000000
def G8 (b : Nat) : Nat -> List K -> List E
 | _, [] => []
 | j, k :: ks => .var k (b + j) :: G8 b (j + 1) ks
def eqsE : List E -> List E -> E
 | a :: l, b :: r => .and (.cmp .eql a b) (eqsE l r)
 | _, _ => mkB true
def outV (key nm : Nat) (es : List E) (ks : List K) : List E := bif decide (namB <= key) then G8 ((key * 100000 + nm) * 64) 0 ks else Et key es 0 ks
def defG (key nm : Nat) (es : List E) (ks : List K) : E := bif decide (namB <= key) then eqsE (G8 ((key * 100000 + nm) * 64) 0 ks) (Et key es 0 ks) else mkB true
def nvC (srcs : List Src) (N nm k : Nat) : Nat -> Nat := fun j => if j < N then (match srcs[j]? with | some (.nm n) => n | _ => 1000000000 + j) else if j - N < k then nm + (j - N) else 1000000000 + j
def evC (es os : List E) : Nat -> E := fun i => if i < es.length then es.getD i (mkB false) else os.getD (i - es.length) (mkB false)
def mutJ (l : Ents) : List Nat := l.filterMap fun x => match x.2.2 with
 | .cells .. => some x.1
 | .lst _ _ true _ _ => some x.1
 | .mp .. => some x.1
 | .seg .. => some x.1
 | _ => none
def EB : List Nat -> Bool
 | [] => true
 | n :: r => !r.contains n && EB r
def AX (m : Mem) : List (Nat × E × Blk) -> Mem
 | [] => m
 | (n, g, b) :: r => AX (m.set n (some (g, b))) r
def Qq : Blk -> Blk -> Blk
 | .lst _ _ _ le _, .lst ty row own _ c => .lst ty row own le c
 | _, b => b
def leC : List (Nat × E × Blk) -> E
 | [] => mkB true
 | (_, _, .lst _ _ _ le c) :: r => if le.kind = .i .i64 then mkAnd (mkCmp .eql (LEN c) le) (leC r) else mkB false
 | _ :: r => leC r
theorem Dn : ∀ l : List (Nat × E × Blk), (leC l).kind = .b
 | [] => rfl
 | (_, _, .lst _ _ _ le c) :: r => by
   simp only [leC]
   split
   ·exact (Aa _ _ (Ae .eql (LEN c) le (fun _ _ _ => 0) fun _ => 0).2 (Dn r) (fun _ _ _ => 0) fun _ => 0).2
   ·rfl
 | (_, _, .cells ..) :: r => Dn r
 | (_, _, .seg ..) :: r => Dn r
 | (_, _, .mp ..) :: r => Dn r
 | (_, _, .dead) :: r => Dn r
theorem Ea {F : Fam} {ρ : Nat -> Int} : ∀ {l : List (Nat × E × Blk)}, (leC l).tt F ρ = true -> ∀ y ∈ l, y.2.2.lenOK F ρ
 | [], _, y, hy => by cases hy
 | (n, g, .lst ty row own le c) :: r, h, y, hy => by
   simp only [leC] at h
   split at h
   ·have hk := Ae .eql (LEN c) le F ρ
    rw [(Aa _ _ hk.2 (Dn r) F ρ).1, Bool.and_eq_true] at h
    rcases List.mem_cons.1 hy with rfl | hy
    ·have := h.1
     rw [hk.1] at this
     simp only [cmpB, beq_iff_eq] at this
     exact this.symm
    ·exact Ea h.2 y hy
   ·simp at h
 | (n, g, .cells ..) :: r, h, y, hy => by
   rcases List.mem_cons.1 hy with rfl | hy
   ·trivial
   ·exact Ea (l := r) h y hy
 | (n, g, .seg ..) :: r, h, y, hy => by
   rcases List.mem_cons.1 hy with rfl | hy
   ·trivial
   ·exact Ea (l := r) h y hy
 | (n, g, .mp ..) :: r, h, y, hy => by
   rcases List.mem_cons.1 hy with rfl | hy
   ·trivial
   ·exact Ea (l := r) h y hy
 | (n, g, .dead) :: r, h, y, hy => by
   rcases List.mem_cons.1 hy with rfl | hy
   ·trivial
   ·exact Ea (l := r) h y hy
def noLs (srcs : List Src) (kp : List Nat) (l : Ents) : Bool := l.all fun x => match x.2.2, srcs[x.1]? with
 | .lst .., some (.nm _) => !kp.contains x.1
 | _, _ => true
def C9 (srcs : List Src) (m : Mem) : List Ob -> List SV -> Option (List (Nat × E × Blk))
 | [], _ => some []
 | o :: r, vs => match srcs[o.j]? with
   | some (.nm n) => match m.at n with
     | some (g, b) => if (unO b).isSome = true /\ (unO b).map (·.1) = some o.ty /\ (unO b).map (·.2.1) = some o.tl /\ (o.tl.isSome = true -> isX (vs.take o.cs.length) = true) then (C9 srcs m r (vs.drop o.cs.length)).map fun l => (n, g, Qq b (mkO o.ty o.tl (vs.take o.cs.length))) :: l else none
     | _ => none
   | _ => none
def VP (srcs : List Src) (kp : List Nat) : Bool := kp.all fun j => match srcs[j]? with
 | some (.nm _) => true
 | some (.vw _ _ _ _) => true
 | some (.mpn _) => true
 | some (.mpv _ _) => true
 | _ => false
def Qr (srcs : List Src) (j : Nat) : Bool :=
 match srcs[j]? with
 | some (.nm _) => true
 | _ => false
def IY (m : Mem) (nm k : Nat) : Bool := (List.range k).all fun i => decide (nm + i < m.length) && (m.at (nm + i)).isNone
def Dm (e : Ent) (m : Mem) (nm : Nat) (args : List SV) : Option (E × SV × Mem) :=
 match Sh.getL m e.ps [] args with
 | some (es, srcs, g) =>
   let os := outV e.key nm es e.oks
   let gen := Sh.genL (evC es os) (nvC srcs e.nn nm (Sh.nnL e.outL)) e.outL (mkB true) e.np e.nn
   let mj := mutJ e.pgen.2
   let dead := (mj.filter fun j => !e.kp.contains j && !(e.os.any fun o => o.j == j)).flatMap (srcOf srcs)
   match C9 srcs m e.os gen.1 with
   | some sets => if EB (mj.flatMap (srcOf srcs)) = true /\ (VP srcs e.kp = true /\ noLs srcs e.kp e.pgen.2 = true) /\ IY m nm (Sh.nnL e.outL) = true /\ m.length < 1000000000 /\ EB (e.os.map (·.j)) = true /\
    (e.os.all fun o => mj.contains o.j && !e.kp.contains o.j) = true /\
    e.key ≠ 0 /\ e.oks.length < preC /\ ((Sh.refsL e.outL).all fun j => Qr srcs j && decide (j < e.nn)) = true /\ ((Sh.refsL e.ps).all fun j => decide (j < e.nn)) = true then
    some (mkAnd (mkAnd (mkAnd g (.app .b e.key preC es)) (leC sets)) (defG e.key nm es e.oks), BA gen.1, AX (AX (AJ m dead) sets) (gen.2.map fun x => (nvC srcs e.nn nm (Sh.nnL e.outL) x.1, x.2.1, x.2.2)))
     else none
   | none => none
 | none => none
section
variable {P : Program} {F : Fam} {ρ ρ' : Nat -> Int} {G : Glob} {w0 w w' : World} {M0 Im0 Im Im' T : Nat -> Prop} {ad ad' hs hs' : Nat -> Hd} {m m' : Mem}
theorem EC (ks : List K) (i : Nat) (k : K) (h : ks[i]? = some k) : (varE ks i).kind = k := by simp [varE, h, E.kind]
theorem JR {ks : List K} {xs : List Int} (hf : fits ks xs) (i : Nat) : (varE ks i).den F (env xs) = if i < ks.length then xs.getD i 0 else 0 := by
 unfold varE
 by_cases hi : i < ks.length
 ·grind [E.den, env, JA]
 ·rw [List.getElem?_eq_none (by omega), if_neg hi]
  simp [b2i]
theorem Ko (fn : Nat -> List Int -> Int) (xs : List Int) : ∀ (ks : List K) (j : Nat), fits ks (Aw fn xs j ks)
 | [], _ => trivial
 | k :: ks, j => ⟨K.norm_norm k _, Ko fn xs ks (j + 1)⟩
theorem HX (key : Nat) (es : List E) : ∀ (ks : List K) (j : Nat), (Et key es j ks).length = ks.length
 | [], _ => rfl
 | k :: ks, j => by simp [Et, HX key es ks (j + 1)]
theorem Kp (key : Nat) (es : List E) : ∀ (ks : List K) (j : Nat), (Et key es j ks).map E.kind = ks
 | [], _ => rfl
 | k :: ks, j => by simp [Et, E.kind, Kp key es ks (j + 1)]
theorem HY (b : Nat) : ∀ (ks : List K) (j : Nat), (G8 b j ks).length = ks.length
 | [], _ => rfl
 | k :: ks, j => by simp [G8, HY b ks (j + 1)]
theorem Kq (b : Nat) : ∀ (ks : List K) (j : Nat), (G8 b j ks).map E.kind = ks
 | [], _ => rfl
 | k :: ks, j => by simp [G8, E.kind, Kq b ks (j + 1)]
theorem ND (key nm : Nat) (es : List E) (ks : List K) : (outV key nm es ks).length = ks.length := by
 grind [outV, namB, HX, HY]
theorem Mq (key nm : Nat) (es : List E) (ks : List K) : (outV key nm es ks).map E.kind = ks := by
 grind [outV, namB, Kp, Kq]
theorem NF {F : Fam} : ∀ {a b : List E}, a.length = b.length -> (eqsE a b).tt F ρ = true -> a.map (E.den F ρ) = b.map (E.den F ρ)
 | [], [], _, _ => rfl
 | [], _ :: _, h, _ => by simp at h
 | _ :: _, [], h, _ => by simp at h
 | x :: a, y :: b, h, ht => by
   simp only [eqsE, E.tt, E.den, D1, Bool.and_eq_true, cmpB, beq_iff_eq] at ht
   simp only [List.map_cons, ht.1, NF (a := a) (b := b) (by simpa using h) ht.2]
theorem SG : ∀ (a b : List E), (eqsE a b).kind = .b
 | [], [] => rfl
 | [], _ :: _ => rfl
 | _ :: _, [] => rfl
 | _ :: _, _ :: _ => rfl
theorem SH (key nm : Nat) (es : List E) (ks : List K) : (defG key nm es ks).kind = .b := by
 unfold defG; cases decide (namB <= key)
 ·rfl
 ·exact SG _ _
theorem Ul {F : Fam} {key nm : Nat} {es : List E} {ks : List K} (h : (defG key nm es ks).tt F ρ = true) : (outV key nm es ks).map (E.den F ρ) = (Et key es 0 ks).map (E.den F ρ) := by
 grind [outV, defG, namB, NF, HY, HX]
theorem Tabs.F_fn {l : Tabs} {e : Ent} (he : l.get e.key = some e) (hk : e.key ≠ 0) {j : Nat} (hj : j ≠ preC) (xs : List Int) : l.F e.key j xs = e.fn j xs := by
 grind [F]
open Classical in
theorem Tabs.F_pre {l : Tabs} {e : Ent} (he : l.get e.key = some e) (hk : e.key ≠ 0) {xs : List Int} (h : (E.app .b e.key preC []).kind = .b) : (i2b (K.b.norm (l.F e.key preC xs)) = true ↔ e.pre xs) := by
 have : l.F e.key preC xs = if e.pre xs then 1 else 0 := by simp [Tabs.F, hk, he]
 rw [this]
 by_cases hp : e.pre xs
 ·simp [hp, K.norm, i2b]
 ·simp [hp, K.norm, i2b]
theorem Mr {l : Tabs} {e : Ent} (he : l.get e.key = some e) (hk : e.key ≠ 0) (es : List E) : ∀ (ks : List K) (j : Nat), j + ks.length <= preC -> (Et e.key es j ks).map (E.den l.F ρ) = Aw e.fn (es.map (E.den l.F ρ)) j ks
 | [], _, _ => rfl
 | k :: ks, j, h => by
   simp only [Et, List.map_cons, Aw, E.den, E3, Tabs.F_fn he hk (show j ≠ preC by grind)]
   rw [Mr he hk es ks (j + 1) (by grind)]
theorem Pp {es : List E} {ks : List K} (hk : es.map E.kind = ks) (hs : ∀ e ∈ es, e.kind ≠ .x -> e.sound = true) : fits ks (es.map (E.den F ρ)) := by
 subst hk
 induction es with
 | nil => trivial
 | cons e es ih =>
   refine ⟨?_, ih fun x hx => hs x (List.mem_cons_of_mem _ hx)⟩
   by_cases hx : e.kind = .x
   ·rw [hx]; rfl
   grind [E.den_norm]
theorem G9 (a b : List Int) (i : Nat) : (a ++ b).getD i 0 = if i < a.length then a.getD i 0 else b.getD (i - a.length) 0 := by
 grind
theorem Tr.params (B : Nat) {ks : List K} {xs ys : List Int} (hx : fits ks xs) (hh : ∀ j, j < B -> hs' j = hs j) : Tr B F0 F0 (env xs) (env (xs ++ ys)) hs hs' (varE ks) (varE ks) id id := by
 refine ⟨FJ, FJ, fun i => ?_, fun i => rfl, fun j hj => (hh j hj).symm⟩
 have hl := Am hx
 unfold varE
 cases hk : ks[i]? with
 | none => simp
 | some k =>
   have hi := (List.getElem?_eq_some_iff.1 hk).1
   simp only [E.den, env, G9, hl, hi, if_true]
theorem ED : ∀ {l : List (Nat × E × Blk)} {m : Mem} {k : Nat} {g : E} {x : Blk}, (AX m l).at k = some (g, x) -> (k, g, x) ∈ l \/ ((∀ y ∈ l, y.1 ≠ k) /\ m.at k = some (g, x)) \/ ((∃ y ∈ l, y.1 = k /\ m.length <= k))
 | [], m, k, g, x, h => Or.inr (Or.inl ⟨by simp, h⟩)
 | (n, g', b) :: r, m, k, g, x, h => by
   simp only [AX] at h
   rcases ED (l := r) h with h1 | ⟨h1, h2⟩ | ⟨y, h1, h2, h3⟩
   ·simp_all
   ·by_cases hk : n = k
    ·subst hk
     by_cases hl : n < m.length
     ·grind [Mem.at_set_same]
     simp_all
    grind [Mem.at_set_other]
   grind
theorem BL : ∀ (l : List (Nat × E × Blk)) (m : Mem), (AX m l).length = m.length
 | [], _ => rfl
 | (n, g, b) :: r, m => by simp only [AX, BL r, List.length_set]
theorem Ha : ∀ {l : List (Nat × E × Blk)} {m : Mem} {k : Nat}, al m k -> al (AX m l) k
 | [], m, k, h => h
 | (n, g, b) :: r, m, k, h => by
   refine Ha (l := r) ?_
   by_cases hl : n < m.length
   ·exact EL hl k h
   ·rw [List.set_eq_of_length_le (by omega)]; exact h
theorem Ms : ∀ {l : List (Nat × E × Blk)} {m : Mem} {y : Nat × E × Blk}, y ∈ l -> y.1 < m.length -> al (AX m l) y.1
 | [], m, y, h, _ => by cases h
 | (n, g, b) :: r, m, y, h, hl => by
   rcases List.mem_cons.1 h with rfl | h
   ·refine Ha (l := r) ?_
    grind [al, Mem.at_set_same]
   ·exact Ms (l := r) h (by simpa using hl)
theorem Hb {f : Nat -> List Nat} : ∀ {l : List Nat}, EB (l.flatMap f) = true -> ∀ a ∈ l, ∀ b ∈ l, ∀ n, n ∈ f a -> n ∈ f b -> a = b
 | [], _, a, ha, _, _, _, _, _ => by cases ha
 | c :: l, h, a, ha, b, hb, n, hna, hnb => by
   have key : ∀ (u v : List Nat), EB (u ++ v) = true -> EB v = true /\ ∀ n ∈ u, n ∉ v := by
    intro u
    induction u with
    | nil => simp_all
    | cons x u ih =>
      grind [EB]
   rw [List.flatMap_cons] at h
   obtain ⟨h1, h2⟩ := key _ _ h
   rcases List.mem_cons.1 ha with ha' | ha' <;> rcases List.mem_cons.1 hb with hb' | hb'
   ·rw [ha', hb']
   ·simp_all
   ·simp_all
   ·exact Hb h1 a ha' b hb' n hna hnb
theorem Fs {l : Ents} {x : Nat × E × Blk} (hx : x ∈ l) {b : Nat} (h : mutB F ρ ad x.1 x.2.2 = some b) : x.1 ∈ mutJ l := by
 unfold mutJ
 refine List.mem_filterMap.2 ⟨x, hx, ?_⟩
 revert h
 cases x.2.2 with
 | cells ty cs => intro _; rfl
 | lst ty row own le c =>
   cases own with
   | true => intro _; rfl
   | false => grind [mutB]
 | mp => intro _; rfl
 | seg => intro _; rfl
 | dead => grind [mutB]
theorem EU {nm k : Nat} (h : IY m nm k = true) {i : Nat} (hi : i < k) : nm + i < m.length /\ (m.at (nm + i)).isNone = true := by
 grind [IY]
theorem SI (b : Blk) (ty : Nat) (tl : Option Tl) (vs : List SV) : (Qq b (mkO ty tl vs)).nrm = mkO ty tl vs := by
 have h1 : ∀ x : Blk, (Qq b x).nrm = x.nrm := fun x => by cases b <;> cases x <;> rfl
 rw [h1]
 unfold mkO
 split
 ·rfl
 ·split <;> rfl
 ·split <;> rfl
 ·rfl
theorem Cs {srcs : List Src} : ∀ {os : List Ob} {vs : List SV} {l : List (Nat × E × Blk)}, C9 srcs m os vs = some l ->
 ∀ y ∈ l, ∃ j b0 X, srcs[j]? = some (.nm y.1) /\ j ∈ os.map (·.j) /\ ((j, mkB true, X) ∈ objE os vs /\ X = y.2.2.nrm) /\ m.at y.1 = some (y.2.1, b0)
 | [], vs, l, h, y, hy => by grind [C9]
 | o :: r, vs, l, h, y, hy => by
   simp only [C9] at h
   split at h
   ·rename_i n hn
    split at h
    ·rename_i g b0 hm
     split at h
     ·obtain ⟨l', hl, rfl⟩ := Option.map_eq_some_iff.1 h
      rcases List.mem_cons.1 hy with rfl | hy
      ·grind [objE, SI]
      ·obtain ⟨j', b0', X, a1, a2, a3, a4⟩ := Cs hl y hy
       grind [objE]
     ·cases h
    ·cases h
   ·cases h
theorem Kr {srcs : List Src} : ∀ {os : List Ob} {vs : List SV} {l : List (Nat × E × Blk)}, C9 srcs m os vs = some l -> ∀ j ∈ os.map (·.j), ∃ n, srcs[j]? = some (.nm n) /\ ∃ y ∈ l, y.1 = n
 | [], vs, l, h, j, hj => by simp at hj
 | o :: r, vs, l, h, j, hj => by
   simp only [C9] at h
   split at h
   ·rename_i n hn
    split at h
    ·rename_i g b0 hm
     split at h
     ·obtain ⟨l', hl, rfl⟩ := Option.map_eq_some_iff.1 h
      simp only [List.map_cons, List.mem_cons] at hj
      rcases hj with rfl | hj
      ·simp_all
      ·obtain ⟨n', a1, y, a2, a3⟩ := Kr hl j hj
       grind
     ·cases h
    ·cases h
   ·cases h
def isXv : SV -> Bool
 | .sc c => decide (c.kind = .x)
 | _ => false
theorem VQ (vs : List SV) : isX vs = (vs.map isXv).headD false := by
 cases vs with
 | nil => rfl
 | cons v r => cases v <;> rfl
theorem NG {ev1 ev2 : Nat -> E} {nv1 nv2 : Nat -> Nat} (hk : ∀ i, (ev1 i).kind = (ev2 i).kind) : ∀ (L : List Sh) (g1 g2 : E) (vi ni : Nat), (Sh.genL ev1 nv1 L g1 vi ni).1.map isXv = (Sh.genL ev2 nv2 L g2 vi ni).1.map isXv
 | [], _, _, _, _ => rfl
 | s :: r, g1, g2, vi, ni => by
   have ih := NG (nv1 := nv1) (nv2 := nv2) hk r g1 g2 (vi + s.ks.length) (ni + s.nn)
   simp only [Sh.genL, List.map_cons, ih]
   congr 1
   cases s <;> simp only [Sh.gen, isXv, hk]
theorem NH {ev : Nat -> E} {nv : Nat -> Nat} : ∀ (L : List Sh) (acc : List Src) (vs : List SV) (r : List E × List Src × E) (g : E) (vi ni : Nat), Sh.getL m L acc vs = some r -> (∀ i k, (Sh.ksL L)[i]? = some k -> (ev (vi + i)).kind = k) -> vs.map isXv = (Sh.genL ev nv L g vi ni).1.map isXv
 | [], acc, [], r, g, vi, ni, h, hk => rfl
 | [], acc, _ :: _, r, g, vi, ni, h, hk => by simp [Sh.getL] at h
 | _ :: _, acc, [], r, g, vi, ni, h, hk => by simp [Sh.getL] at h
 | s :: L, acc, v :: vs, r, g, vi, ni, h, hk => by
   simp only [Sh.getL] at h
   split at h
   ·rename_i es ns g' hs
    obtain ⟨q, hq, rfl⟩ := Option.map_eq_some_iff.1 h
    have ih := NH (nv := nv) L _ vs q g (vi + s.ks.length) (ni + s.nn) hq (fun i k hi => by
     have := hk (s.ks.length + i) k (by grind [Sh.ksL])
     rwa [<- Nat.add_assoc] at this)
    simp only [Sh.genL, List.map_cons, ih]
    congr 1
    cases s with
    | sc k =>
      have h0 := hk 0 k (by simp [Sh.ksL, Sh.ks])
      rw [Nat.add_zero] at h0
      cases v <;> simp only [Sh.get, reduceCtorEq] at hs
      grind [Sh.gen, isXv]
    | lt k n =>
      cases v with
      | sc e =>
        cases e <;> simp only [Sh.get, reduceCtorEq] at hs
        split at hs
        ·rename_i hc
         obtain ⟨rfl, rfl⟩ := hc
         rfl
        ·cases hs
      | _ => simp [Sh.get] at hs
    | lst ty row own =>
      have h' : CD m ty row own v = some (es, ns, g') := by cases v <;> simpa only [Sh.get] using hs
      simp only [Sh.gen, isXv]
      grind [CD, Ag]
    | opt s =>
      have h' : Cn (mkB true :: s.ks.map fun k => E.lit k 0, List.replicate s.nn Src.dm, mkB true) v (fun u => s.get m acc u) = some (es, ns, g') := by cases v <;> simpa only [Sh.get] using hs
      simp only [Sh.gen, isXv]
      grind [Cn, optV]
    | lsn ty row => cases v <;> first | rfl | simp [Sh.get, getLsn] at hs
    | _ => cases v <;> first | rfl | simp [Sh.get] at hs
   ·cases h
theorem HZ {F1 F2 : Fam} {ρ1 ρ2 : Nat -> Int} {ad1 ad2 : Nat -> Hd} : ∀ {os : List Ob} {vs us : List SV}, SV.concL F1 ρ1 ad1 vs = SV.concL F2 ρ2 ad2 us -> vs.map isXv = us.map isXv -> ∀ j X, (j, mkB true, X) ∈ objE os vs ->
 ∃ ty tl vs' us', X = mkO ty tl vs' /\ (j, mkB true, mkO ty tl us') ∈ objE os us /\ SV.concL F1 ρ1 ad1 vs' = SV.concL F2 ρ2 ad2 us' /\ isX vs' = isX us'
 | [], vs, us, h, hx, j, X, hm => by simp [objE] at hm
 | o :: r, vs, us, h, hx, j, X, hm => by
   simp only [objE, List.mem_cons, pJ, true_and] at hm
   have ht : ∀ n, SV.concL F1 ρ1 ad1 (vs.take n) = SV.concL F2 ρ2 ad2 (us.take n) := fun n => by
    simp_all [Ac]
   have hd : ∀ n, SV.concL F1 ρ1 ad1 (vs.drop n) = SV.concL F2 ρ2 ad2 (us.drop n) := fun n => by
    simp_all [Ac]
   rcases hm with ⟨rfl, rfl⟩ | hm
   ·exact ⟨o.ty, o.tl, _, us.take o.cs.length, rfl, by simp [objE], ht _, by simp_all [VQ]⟩
   ·obtain ⟨ty, tl, vs', us', a1, a2, a3, a4⟩ := HZ (hd o.cs.length) (by simp_all) j X hm
    grind [objE]
theorem Vn {p : Nat -> Prop} {os : List Ob} {vs : List SV} (h : SV.okL p vs) : ∀ x ∈ objE os vs, SV.okL p x.2.2.cs := by
 induction os generalizing vs with
 | nil => intro x hx; cases hx
 | cons o r ih =>
   intro x hx
   grind [objE, VO, D4, Fh]
theorem Ks {F1 F2 : Fam} {ρ1 ρ2 : Nat -> Int} {ad1 ad2 : Nat -> Hd} {vs us : List SV} (h : SV.concL F1 ρ1 ad1 vs = SV.concL F2 ρ2 ad2 us) : (BA vs).conc F1 ρ1 ad1 = (BA us).conc F2 ρ2 ad2 := by
 rw [Ac, Ac] at h
 have hl : ∀ (F : Fam) (ρ : Nat -> Int) (ad : Nat -> Hd) (l : List SV), (BA l).conc F ρ ad = (l.map (SV.conc F ρ ad)).getLastD undef := fun F ρ ad l => by
  unfold BA
  cases l with
  | nil => rfl
  | cons a l => grind
 rw [hl, hl, h]
theorem Um {p : Nat -> Prop} {vs : List SV} (h : SV.okL p vs) : (BA vs).ok p := by
 unfold BA
 rw [List.getLastD_eq_getLast?]
 cases hh : vs.getLast? with
 | none => trivial
 | some x => grind [Cq]
end
section
variable {P : Program} {ρ ρ' : Nat -> Int} {G : Glob} {w0 w w' : World} {M0 Im0 Im Im' T : Nat -> Prop} {ad ad' hs hs' : Nat -> Hd} {m m' : Mem}
theorem H0 {F : Fam} {ρ : Nat -> Int} {m : Mem} {ad : Nat -> Hd} {ty : Nat} {q : Row} : ∀ {v : SV} {V : LV}, Ag m ty q v = some V -> V.own = true -> V.g.tt F ρ = true -> ∀ b, (v.conc F ρ ad).ownBlock = some b ->
 ∃ n ∈ V.ns, ∃ g le c, m.at n = some (g, .lst ty q true le c) /\ g.tt F ρ = true /\ c.den F ρ = V.c.den F ρ /\ v.conc F ρ ad = (ad n).sl (le.den F ρ).toNat
 | .ls n le, V, h, ho, hg, b, hb => by
   simp only [Ag] at h
   split at h
   ·rename_i g ty' row' own le' c hn
    split at h
    ·rename_i hc
     obtain ⟨rfl, rfl, h3, h4, h5, h6⟩ := hc
     simp only [oJ] at h; subst h
     simp only at ho hg
     subst ho
     have hle := E.same_eq _ _ h3
     subst hle
     exact ⟨n, by simp, g, _, c, hn, hg, rfl, rfl⟩
    ·cases h
   ·cases h
 | .sv n str l0 lo hi, V, h, ho, hg, b, hb => by
   grind [Ag]
 | .nilp c, V, h, ho, hg, b, hb => by
   cases c <;> simp only [Ag, oJ, reduceCtorEq] at h
   simp [SV.conc, CV.val, Value.ownBlock] at hb
 | .ite p x y, V, h, ho, hg, b, hb => by
   simp only [Ag] at h
   split at h
   ·rename_i X Y hx hy
    split at h
    ·rename_i hp
     simp only [oJ] at h; subst h
     simp only [Bool.and_eq_true] at ho
     obtain ⟨i1, i2, i3⟩ := AS hx
     obtain ⟨j1, j2, j3⟩ := AS hy
     simp only at hg
     rw [(E6 hp i3 j3).2] at hg
     have hd := (Dw (F := F) (ρ := ρ) hp i2 j2).2
     cases hpt : p.tt F ρ
     ·simp only [SV.conc, hpt, cond_false] at hb hg hd ⊢
      obtain ⟨n, hn, g, le, c, q1, q2, q3, q4⟩ := H0 hy ho.2 hg b hb
      grind
     ·simp only [SV.conc, hpt, cond_true] at hb hg hd ⊢
      obtain ⟨n, hn, g, le, c, q1, q2, q3, q4⟩ := H0 hx ho.1 hg b hb
      grind
    ·cases h
   ·cases h
 | .sc _, V, h, _, _, _, _ | .ptr .., V, h, _, _, _, _ | .pi .., V, h, _, _, _, _ | .sl .., V, h, _, _, _, _ | .pe .., V, h, _, _, _, _ | .mp .., V, h, _, _, _, _ | .oq .., V, h, _, _, _, _ | .fn .., V, h, _, _, _, _ | .agg .., V, h, _, _, _, _ | .tup .., V, h, _, _, _, _ | .gd .., V, h, _, _, _, _ | .und, V, h, _, _, _, _ | .gl .., V, h, _, _, _, _ => by simp [Ag] at h
theorem OwL.hd {w : World} {Im : Nat -> Prop} {ty : Nat} {q : Row} {h h' : Hd} {l : RL} (ho : OwL w Im ty q h l) (e : h.sl l.length = h'.sl l.length) : OwL w Im ty q h' l := by
 obtain ⟨h1, xs, h2, h3⟩ := ho
 exact ⟨h1, xs, by rw [<- e]; exact h2, h3⟩
mutual
theorem SJ : ∀ (s : Sh) (acc : List Src) (v : SV) (r : List E × List Src × E), s.get m acc v = some r -> ∀ n, Src.nm n ∈ r.2.1 -> al m n
 | .sc k, acc, v, r, h, n, hn => by
   cases v <;> simp only [Sh.get, reduceCtorEq] at h
   grind
 | .lt k z, acc, v, r, h, n, hn => by
   cases v with
   | sc x =>
     cases x <;> simp only [Sh.get, reduceCtorEq] at h
     grind
   | _ => simp [Sh.get] at h
 | .agg L, acc, v, r, h, n, hn => by
   cases v <;> simp only [Sh.get, reduceCtorEq] at h
   exact Eb L acc _ r h n hn
 | .lst ty row own, acc, v, r, h, n, hn => by
   grind [CD, Sh.get]
 | .lsn ty row, acc, v, r, h, n, hn => by
   grind [getLsn, Sh.get, Es, Src.nm.injEq, Mem.at_al]
 | .obj ty cs, acc, v, r, h, n, hn => by
   cases v with
   | ptr k o =>
     cases o with
     | zero =>
       simp only [Sh.get] at h
       split at h
       ·rename_i g' ty' vs hb
        split at h
        ·obtain ⟨q, hq, rfl⟩ := Option.map_eq_some_iff.1 h
         simp only [List.mem_cons, Src.nm.injEq] at hn
         rcases hn with rfl | hn
         ·exact Mem.at_al (Br hb).1
         ·exact Eb cs _ vs q hq n hn
        ·cases h
       ·cases h
     | succ o => simp [Sh.get] at h
   | _ => simp [Sh.get] at h
 | .mp ks vs kag vag, acc, v, r, h, n, hn => by
   cases v <;> simp only [Sh.get, reduceCtorEq] at h
   case mp k =>
    grind [ET]
   case ite p a b =>
    obtain ⟨q, h1, rfl⟩ := Option.map_eq_some_iff.1 h
    simp at hn
 | .seg ty ks cs, acc, v, r, h, n, hn => by
   cases v with
   | ptr k o =>
     cases o with
     | zero =>
       simp only [Sh.get] at h
       split at h
       ·rename_i g' ty' vs ks' c hb
        split at h
        ·obtain ⟨q, hq, rfl⟩ := Option.map_eq_some_iff.1 h
         simp only [List.mem_cons, Src.nm.injEq] at hn
         rcases hn with rfl | hn
         ·exact Mem.at_al (HW hb).1
         ·exact Eb cs _ vs q hq n hn
        ·cases h
       ·cases h
     | succ o => simp [Sh.get] at h
   | _ => simp [Sh.get] at h
 | .pin j off str, acc, v, r, h, n, hn => by
   cases v <;> simp only [Sh.get, reduceCtorEq] at h
   grind
 | .ref j, acc, v, r, h, n, hn => by
   cases v with
   | ptr k o =>
     cases o with
     | zero =>
       grind [Sh.get]
     | succ o => simp [Sh.get] at h
   | _ => simp [Sh.get] at h
 | .fnc f L, acc, v, r, h, n, hn => by
   cases v <;> simp only [Sh.get, reduceCtorEq] at h
   split at h
   ·exact Eb L acc _ r h n hn
   ·cases h
 | .nul c, acc, v, r, h, n, hn => by
   cases v <;> simp only [Sh.get, reduceCtorEq] at h
   grind
 | .tup L, acc, v, r, h, n, hn => by
   cases v <;> simp only [Sh.get, reduceCtorEq] at h
   exact Eb L acc _ r h n hn
 | .opt s, acc, v, r, h, n, hn => by
   have h' : Cn (mkB true :: s.ks.map fun k => E.lit k 0, List.replicate s.nn Src.dm, mkB true) v (fun u => s.get m acc u) = some r := by cases v <;> simpa only [Sh.get] using h
   unfold Cn at h'
   split at h'
   ·grind
   ·split at h'
    ·obtain ⟨q, hq, rfl⟩ := Option.map_eq_some_iff.1 h'
     exact SJ s acc _ q hq n hn
    ·cases h'
   ·cases h'
 | .und, acc, v, r, h, n, hn => by
   grind [Sh.get]
theorem Eb : ∀ (L : List Sh) (acc : List Src) (vs : List SV) (r : List E × List Src × E), Sh.getL m L acc vs = some r -> ∀ n, Src.nm n ∈ r.2.1 -> al m n
 | [], acc, [], r, h, n, hn => by grind [Sh.getL]
 | [], acc, _ :: _, r, h, n, hn => by simp [Sh.getL] at h
 | _ :: _, acc, [], r, h, n, hn => by simp [Sh.getL] at h
 | s :: L, acc, v :: vs, r, h, n, hn => by
   simp only [Sh.getL] at h
   split at h
   ·rename_i es' ns' g' hs0
    obtain ⟨q, hq, rfl⟩ := Option.map_eq_some_iff.1 h
    rcases List.mem_append.1 hn with hn | hn
    ·exact SJ s acc v _ hs0 n hn
    ·exact Eb L _ vs q hq n hn
   ·cases h
end
theorem SameL.self {F1 F2 : Fam} {ρ1 ρ2 : Nat -> Int} {ad1 ad2 : Nat -> Hd} {nv1 nv2 : Nat -> Nat} : ∀ {a : Ents}, SameL F1 F2 ρ1 ρ2 ad1 ad2 nv1 nv2 a a -> ∀ x ∈ a, SameE F1 F2 ρ1 ρ2 ad1 ad2 nv1 nv2 x x
 | [], _, x, hx => by cases hx
 | a :: l, h, x, hx => by
   rcases List.mem_cons.1 hx with rfl | hx
   ·exact h.1
   ·exact SameL.self h.2 x hx
theorem Kt {l : Tabs} {e : Ent} (he : l.get e.key = some e) (hG : GOK G Im0 w0) (hR : Rel l.F ρ w0 M0 Im0 ad m w) {nm : Nat} {args : List SV} {g : E} {v : SV}
 (h : Dm e m nm args = some (g, v, m')) : g.kind = .b /\ (g.tt l.F ρ = true -> ∃ (xs : List Int) (hs : Nat -> Hd) (M1 Im : Nat -> Prop), fits e.pks xs /\ e.pre xs /\ SV.concL l.F ρ ad args = SV.concL F0 (env xs) hs e.pgen.1 /\
  (∀ b, M1 b -> ¬ Im b /\ b < w.heap.size) /\ GOK G Im w /\ RelE F0 (env xs) w M1 Im hs e.pgen.2 w /\
  ∀ (w' : World) (hs' : Nat -> Hd) (Im' : Nat -> Prop), (∀ j, j < e.nn -> hs' j = hs j) -> (∀ b, Im b -> Im' b) -> (∀ b, Im' b -> Im b \/ M1 b \/ w.heap.size <= b) -> RelE F0 (env (xs ++ Aw e.fn xs 0 e.oks)) w M1 Im' hs' e.oents w' ->
    ∃ ad', v.conc l.F ρ ad' = (BA e.ogen.1).conc F0 (env (xs ++ Aw e.fn xs 0 e.oks)) hs' /\ Rel l.F ρ w0 M0 Im0 ad' m' w' /\ Ext ad ad' m m' /\ v.ok (al m')) := by
 have hB := l.BI
 unfold Dm at h
 split at h
 ·rename_i es srcs g0 hget
  simp only at h
  split at h
  ·rename_i sets hsets
   split at h
   ·rename_i hc
    obtain ⟨c1, ⟨c2, c2'⟩, c3, c4, c5, c6, c7, c8, c9, c10⟩ := hc
    simp only [oJ, pJ] at h
    obtain ⟨rfl, rfl, rfl⟩ := h
    obtain ⟨k1, k2, k3, k4⟩ := Bc e.ps [] args _ hget
    simp only at k1 k2 k3 k4
    have hpk : (E.app .b e.key preC es).kind = .b := rfl
    have hm := Aa g0 (.app .b e.key preC es) k3 hpk l.F ρ
    have hml := Aa (mkAnd g0 (.app .b e.key preC es)) (leC sets) hm.2 (Dn _) l.F ρ
    have hmd := Aa (mkAnd (mkAnd g0 (.app .b e.key preC es)) (leC sets)) (defG e.key nm es e.oks) hml.2 (SH _ _ _ _) l.F ρ
    refine ⟨hmd.2, fun hg => ?_⟩
    rw [hmd.1, Bool.and_eq_true] at hg
    obtain ⟨hg, hgd⟩ := hg
    rw [hml.1, Bool.and_eq_true] at hg
    obtain ⟨hg, hgl⟩ := hg
    rw [hm.1, Bool.and_eq_true] at hg
    have hG' := hG.now hR
    have hR0 := hR
    obtain ⟨hM, Im, h1, h2, hI⟩ := hR
    have hxs : ∃ xs, xs = es.map (E.den l.F ρ) := ⟨_, rfl⟩
    obtain ⟨xs, hxs⟩ := hxs
    have hfit : fits e.pks xs := by rw [hxs]; exact Pp k1 k4
    have hxl : xs.length = e.np := Am hfit
    have hel : es.length = e.np := by rw [<- hxl, hxs]; simp
    have hpre : e.pre xs := by
     have := hg.2
     unfold E.tt at this
     simp only [E.den, E3, <- hxs] at this
     exact (Tabs.F_pre he c7 rfl).1 this
    have hSrc : SrcAt srcs 0 srcs := fun j s hj => by simpa using hj
    have hev : EvOK l.F ρ (env xs) (varE e.pks) 0 es := fun i x hi => by
     have hil := (List.getElem?_eq_some_iff.1 hi).1
     rw [Nat.zero_add]
     refine ⟨?_, ?_⟩
     ·rw [JR hfit, if_pos (by rw [show e.pks.length = e.np from rfl]; omega), hxs]
      simp [List.getD, hi]
     ·refine EC _ _ _ ?_
      have : (es.map E.kind)[i]? = some x.kind := by simp [hi]
      rw [k1] at this; exact this
    obtain ⟨p1, p2⟩ := Bs (F := l.F) (ρ := ρ) (ρ' := env xs) (w0 := w0) (w := w) (M0 := M0) (Im := Im) (ad := ad) (m := m) (ev := varE e.pks) (S := srcs) (hs := fun j => match srcs[j]? with | some s => srcHd l.F ρ w Im ad m s | none => default)
     hB hI (fun j s hj => by simp only [hj]) e.ps [] args _ (mkB true) 0 hget (Af _) (fun j s hj => by simp at hj) hSrc hev hg.1
    generalize hhs : (fun j => match srcs[j]? with | some s => srcHd l.F ρ w Im ad m s | none => default : Nat -> Hd) = hs at p1 p2
    change SV.concL l.F ρ ad args = SV.concL F0 (env xs) hs e.pgen.1 at p1
    change ∀ x ∈ e.pgen.2, _ at p2
    have hM1 : ∃ M1 : Nat -> Prop, M1 = fun b => ∃ x ∈ e.pgen.2, x.2.1.tt F0 (env xs) = true /\ mutB F0 (env xs) hs x.1 x.2.2 = some b := ⟨_, rfl⟩
    obtain ⟨M1, hM1⟩ := hM1
    have hM1b : ∀ b, M1 b -> (M0 b \/ w0.heap.size <= b) /\ ¬ Im b /\ b < w.heap.size := fun b hb => by
     rw [hM1] at hb
     obtain ⟨x, hx, hxg, hxb⟩ := hb
     obtain ⟨n, _, g', y, a1, a2, a3⟩ := (p2 x hx hxg).mu b hxb
     exact (hI.ent n g' y a1 a2).2 b a3
    have hrel : RelE F0 (env xs) w M1 Im hs e.pgen.2 w := by
     refine ⟨fun x hx hxg => ⟨(p2 x hx hxg).ok, fun b hb => ?_⟩, fun x hx y hy hxg hyg b hbx hby => ?_, hI.im, Fr.refl _ _⟩
     ·have hb1 : M1 b := by rw [hM1]; exact ⟨x, hx, hxg, hb⟩
      exact ⟨Or.inl hb1, (hM1b b hb1).2⟩
     ·obtain ⟨n, n1, g1, y1, a1, a2, a3⟩ := (p2 x hx hxg).mu b hbx
      obtain ⟨n', n1', g1', y1', a1', a2', a3'⟩ := (p2 y hy hyg).mu b hby
      have := hI.inj n n' g1 y1 g1' y1' b a1 a2 a1' a2' a3 a3'
      subst this
      exact Hb c1 x.1 (Fs hx hbx) y.1 (Fs hy hby) n n1 n1'
    refine ⟨xs, hs, M1, Im, hfit, hpre, p1, fun b hb => ⟨(hM1b b hb).2.1, (hM1b b hb).2.2⟩, hG.fr hM hI.fr h1, hrel, fun w' hs' Im' q1 q2 q3 q5 => ?_⟩
    have hys : ∃ ys, ys = Aw e.fn xs 0 e.oks := ⟨_, rfl⟩
    obtain ⟨ys, hys⟩ := hys
    rw [<- hys] at q5 ⊢
    have hyfit : fits e.oks ys := by rw [hys]; exact Ko _ _ _ _
    have hyl : ys.length = e.oks.length := Am hyfit
    have hod : (outV e.key nm es e.oks).map (E.den l.F ρ) = ys := by rw [Ul hgd, Mr he c7 es e.oks 0 (by have := c8; omega), <- hxs, hys]
    have hall : fits (e.pks ++ e.oks) (xs ++ ys) := Cr hfit hyfit
    let nw := Sh.nnL e.outL
    let ad' : Nat -> Hd := fun k => if nm <= k /\ k < nm + nw then hs' (e.nn + (k - nm)) else if 1000000000 <= k then hs' (k - 1000000000) else ad k
    have hfree : ∀ k, al m k -> ¬ (nm <= k /\ k < nm + nw) /\ k < m.length := fun k hk => by
     obtain ⟨x, hx⟩ := Option.isSome_iff_exists.1 hk
     refine ⟨fun ⟨a, b⟩ => ?_, Mem.at_lt hx⟩
     have := (EU c3 (i := k - nm) (by show k - nm < nw; omega)).2
     rw [show nm + (k - nm) = k by omega, hx] at this
     cases this
    have hadal : ∀ k, al m k -> ad k = ad' k := fun k hk => by
     obtain ⟨a, b⟩ := hfree k hk
     have c4' := c4
     simp only [ad', if_neg a, if_neg (show ¬ 1000000000 <= k by omega)]
    have hnmal : ∀ j n, srcs[j]? = some (Src.nm n) -> hs j = ad n := fun j n hj => by rw [<- hhs]; simp only [hj]; rfl
    have newlt : ∀ t, t < nw -> nm + t < m.length := fun t ht => (EU c3 ht).1
    have nmal : ∀ j n, srcs[j]? = some (Src.nm n) -> al m n := fun j n hj => Eb e.ps [] args _ hget n (List.mem_of_getElem? hj)
    have hadnv : ∀ j, ad' (nvC srcs e.nn nm nw j) = hs' j := fun j => by
     unfold nvC
     by_cases hj : j < e.nn
     ·rw [if_pos hj]
      split
      ·rename_i n hn
       rw [<- hadal n (nmal j n hn), <- hnmal j n hn, q1 j hj]
      ·have hnl : nm + nw <= m.length \/ nw = 0 := by
        by_cases hz : nw = 0
        ·exact Or.inr hz
        ·exact Or.inl (by have := newlt (nw - 1) (by omega); omega)
       simp only [ad']
       rw [if_neg (by omega), if_pos (by omega), show 1000000000 + j - 1000000000 = j by omega]
     ·rw [if_neg hj]
      by_cases hw : j - e.nn < nw
      ·rw [if_pos hw]
       simp only [ad']
       rw [if_pos (by omega)]
       congr 1; omega
      ·rw [if_neg hw]
       have hnl : nm + nw <= m.length \/ nw = 0 := by
        by_cases hz : nw = 0
        ·exact Or.inr hz
        ·exact Or.inl (by have := newlt (nw - 1) (by omega); omega)
       simp only [ad']
       rw [if_neg (by omega), if_pos (by omega), show 1000000000 + j - 1000000000 = j by omega]
    have htr : ∀ B, Tr B l.F F0 ρ (env (xs ++ ys)) ad' hs' (evC es (outV e.key nm es e.oks)) (varE (e.pks ++ e.oks)) (nvC srcs e.nn nm nw) id := fun B => by
     have hkk : (outV e.key nm es e.oks).map E.kind = e.oks := Mq _ _ _ _
     have hol := ND e.key nm es e.oks
     refine ⟨hB, FJ, fun i => ?_, fun i => ?_, fun j _ => hadnv j⟩
     ·rw [JR hall, List.length_append, G9, hxl]
      unfold evC
      rw [hel, show e.pks.length = e.np from rfl]
      by_cases hi : i < e.np
      ·rw [if_pos hi, if_pos (by omega), if_pos hi, hxs]
       simp [List.getD, show i < es.length by omega]
      ·rw [if_neg hi, if_neg hi]
       by_cases hi2 : i - e.np < e.oks.length
       ·rw [if_pos (by omega), <- hod]
        simp [List.getD, show i - e.np < (outV e.key nm es e.oks).length by omega]
       ·rw [if_neg (by omega)]
        simp [List.getD, List.getElem?_eq_none (show (outV e.key nm es e.oks).length <= i - e.np by omega), b2i]
     ·unfold evC varE
      rw [hel]
      by_cases hi : i < e.np
      ·rw [if_pos hi, List.getElem?_append_left (by exact hi)]
       have : (es.map E.kind)[i]? = e.pks[i]? := by rw [k1]; rfl
       rw [List.getElem?_map, List.getElem?_eq_getElem (show i < es.length by omega)] at this
       simp only [Option.map_some] at this
       rw [<- this]
       simp [List.getD, show i < es.length by omega, E.kind]
      ·rw [if_neg hi, List.getElem?_append_right (by rw [show e.pks.length = e.np from rfl]; omega), show e.pks.length = e.np from rfl]
       by_cases hi2 : i - e.np < e.oks.length
       ·have : ((outV e.key nm es e.oks).map E.kind)[i - e.np]? = e.oks[i - e.np]? := by rw [hkk]
        rw [List.getElem?_map, List.getElem?_eq_getElem (show i - e.np < (outV e.key nm es e.oks).length by omega)] at this
        simp only [Option.map_some] at this
        rw [<- this]
        simp [List.getD, show i - e.np < (outV e.key nm es e.oks).length by omega, E.kind]
       ·rw [List.getElem?_eq_none (by omega)]
        simp [List.getD, List.getElem?_eq_none (show (outV e.key nm es e.oks).length <= i - e.np by omega)]
    have hkev : ∀ i k, (Sh.ksL e.outL)[i]? = some k -> (evC es (outV e.key nm es e.oks) (e.np + i)).kind = k := fun i k hi => by
     have hkk : (outV e.key nm es e.oks).map E.kind = e.oks := Mq _ _ _ _
     have hil : i < e.oks.length := (List.getElem?_eq_some_iff.1 hi).1
     have hol := ND e.key nm es e.oks
     unfold evC
     rw [hel, if_neg (by omega), show e.np + i - e.np = i by omega]
     have : ((outV e.key nm es e.oks).map E.kind)[i]? = some k := by rw [hkk]; exact hi
     rw [List.getElem?_map, List.getElem?_eq_getElem (show i < (outV e.key nm es e.oks).length by omega)] at this
     simp only [Option.map_some, oJ] at this
     simp [List.getD, show i < (outV e.key nm es e.oks).length by omega, this]
    have hrefs : ∀ j ∈ Sh.refsL e.outL, Qr srcs j = true /\ j < e.nn := fun j hj => by
     have := List.all_eq_true.1 c9 j hj
     simpa using this
    obtain ⟨t1, t2⟩ := C1 (htr (e.nn + nw)) e.outL (mkB true) (mkB true) e.np e.nn (Af _) (Af _) (by simp) hkev (Nat.le_refl _) (fun j hj => by have := (hrefs j hj).2; omega)
    change SV.concL l.F ρ ad' _ = SV.concL F0 (env (xs ++ ys)) hs' e.ogen.1 at t1
    change SameL l.F F0 ρ (env (xs ++ ys)) ad' hs' (nvC srcs e.nn nm nw) id _ e.ogen.2 at t2
    have hisx : (Sh.genL (evC es (outV e.key nm es e.oks)) (nvC srcs e.nn nm nw) e.outL (mkB true) e.np e.nn).1.map isXv = e.ogen.1.map isXv := NG (htr 0).kd e.outL _ _ _ _
    generalize hgen : Sh.genL (evC es (outV e.key nm es e.oks)) (nvC srcs e.nn nm (Sh.nnL e.outL)) e.outL (mkB true) e.np e.nn = gen at hsets t1 t2 hisx ⊢
    have hgo : ∀ p : Nat -> Prop, (∀ j, e.nn <= j -> j < e.nn + nw -> p (nvC srcs e.nn nm nw j)) -> (∀ j ∈ Sh.refsL e.outL, p (nvC srcs e.nn nm nw j)) -> SV.okL p gen.1 /\ ∀ x ∈ gen.2, (e.nn <= x.1 /\ x.1 < e.nn + nw) /\ SV.okL p x.2.2.cs := fun p a b => by
     rw [<- hgen]; exact BT _ _ _ _ a b
    have hgh : ∀ j, e.nn <= j -> j < e.nn + nw -> ∃ x ∈ gen.2, x.1 = j := fun j a b => by rw [<- hgen]; exact CC _ _ _ _ j a b
    have hnew : ∀ j, e.nn <= j -> j < e.nn + nw -> nvC srcs e.nn nm nw j = nm + (j - e.nn) /\ nm + (j - e.nn) < m.length := fun j a b => by
     refine ⟨?_, newlt _ (by omega)⟩
     unfold nvC
     rw [if_neg (by omega), if_pos (by omega)]
    have hself := (C1 (Tr.params (ys := ys) e.nn hfit q1) e.ps (mkB true) (mkB true) 0 0 (Af _) (Af _) (by simp) (fun i k hi => by rw [Nat.zero_add]; exact EC _ _ _ hi) (by rw [Nat.zero_add]; exact Nat.le_refl _) (fun j hj => by have := List.all_eq_true.1 c10 j hj; simpa using this)).2.self
    change ∀ x ∈ e.pgen.2, _ at hself
    have hsrclen : ∀ j s, srcs[j]? = some s -> j < e.nn := fun j s hj => by have := (List.getElem?_eq_some_iff.1 hj).1; rw [k2] at this; exact this
    let dead := ((mutJ e.pgen.2).filter fun j => !e.kp.contains j && !(e.os.any fun o => o.j == j)).flatMap (srcOf srcs)
    have hkeep : ∀ k, al m k -> al (AX (AX (AJ m dead) sets) (gen.2.map fun x => (nvC srcs e.nn nm nw x.1, x.2.1, x.2.2))) k := fun k hk => Ha (Ha ((G1 dead m k).2 hk))
    have hnews : ∀ j, e.nn <= j -> j < e.nn + nw -> al (AX (AX (AJ m dead) sets) (gen.2.map fun x => (nvC srcs e.nn nm nw x.1, x.2.1, x.2.2))) (nvC srcs e.nn nm nw j) := fun j a b => by
     obtain ⟨x, x1, x2⟩ := hgh j a b
     obtain ⟨r1, r2⟩ := hnew j a b
     have := Ms (l := gen.2.map fun x => (nvC srcs e.nn nm nw x.1, x.2.1, x.2.2)) (m := AX (AJ m dead) sets) (y := (nvC srcs e.nn nm nw x.1, x.2.1, x.2.2)) (List.mem_map.2 ⟨x, x1, rfl⟩) (by rw [BL, AD, x2]; show nvC srcs e.nn nm nw j < _; rw [r1]; exact r2)
     rwa [x2] at this
    obtain ⟨gok1, gok2⟩ := hgo (al (AX (AX (AJ m dead) sets) (gen.2.map fun x => (nvC srcs e.nn nm nw x.1, x.2.1, x.2.2)))) hnews fun j hj => by
     obtain ⟨r1, r2⟩ := hrefs j hj
     unfold Qr at r1
     split at r1
     ·rename_i n hn
      have : nvC srcs e.nn nm nw j = n := by unfold nvC; rw [if_pos r2]; simp only [hn]
      rw [this]
      exact hkeep n (nmal j n hn)
     ·cases r1
    let NameIs : Nat -> Nat -> Blk -> Prop := fun j n x => (srcOf srcs j = [n] /\ j < e.nn) \/ (e.nn <= j /\ n = nvC srcs e.nn nm nw j) \/ (n ∈ srcOf srcs j /\ j < e.nn /\ ∃ g, m.at n = some (g, x) /\ g.tt l.F ρ = true)
    have hIm : ∀ b, Im b -> Im' b /\ w'.heap[b]? = w.heap[b]? := fun b hb => ⟨q2 b hb, q5.fr.block b (hI.im b hb) fun t => (hM1b b t).2.1 hb⟩
    have cls : ∀ n g x, (AX (AX (AJ m dead) sets) (gen.2.map fun x => (nvC srcs e.nn nm nw x.1, x.2.1, x.2.2))).at n = some (g, x) -> g.tt l.F ρ = true ->
     ((∃ g', m.at n = some (g', x) /\ g'.tt l.F ρ = true) /\ ∀ b, mutB l.F ρ ad n x = some b -> ¬ M1 b /\ ¬ Im' b) \/
     (∃ z ∈ e.oents, z.2.1.tt F0 (env (xs ++ ys)) = true /\ NameIs z.1 n x /\ mutB l.F ρ ad' n x = mutB F0 (env (xs ++ ys)) hs' z.1 z.2.2 /\ BlkOK l.F ρ Im' ad' n w' x) \/ x = .dead := by
     intro n g x hn hg'
     rcases ED hn with hn | ⟨hn1, hn⟩ | ⟨y, hy, hy1, hy2⟩
     ·obtain ⟨y, hy, he'⟩ := List.mem_map.1 hn
      simp only [pJ] at he'
      obtain ⟨rfl, rfl, rfl⟩ := he'
      obtain ⟨z, hz, hs⟩ := t2.mem y hy
      right; left
      have hzo : z ∈ e.oents := by unfold Ent.oents; exact List.mem_append_right _ (List.mem_append_right _ hz)
      have hzg : z.2.1.tt F0 (env (xs ++ ys)) = true := by rw [<- hs.gd]; exact hg'
      have hb1 := (q5.ent z hzo hzg).1
      exact ⟨z, hzo, hzg, Or.inr (Or.inl ⟨by rw [<- hs.nm]; exact (gok2 y hy).1.1, by rw [<- hs.nm]⟩), hs.mu, (hs.ok Im' w').2 hb1⟩
     ·rcases ED hn with hn | ⟨hn2, hn⟩ | ⟨y, hy, hy1, hy2⟩
      ·obtain ⟨j, b0, X, s1, s2, ⟨s4, s4'⟩, s5⟩ := Cs hsets _ hn
       simp only at s1 s4' s5
       obtain ⟨ty, tl, vs', us', hX, u1, u2, u3⟩ := HZ (F1 := l.F) (F2 := F0) (ρ1 := ρ) (ρ2 := env (xs ++ ys)) (ad1 := ad') (ad2 := hs') t1 hisx j X s4
       have hnr := Blk.nrm_same (Ea hgl _ hn) ad' n
       simp only at hnr
       right; left
       have hzo : (j, mkB true, mkO ty tl us') ∈ e.oents := by unfold Ent.oents; exact List.mem_append_left _ u1
       have hjn := hsrclen j _ s1
       have hadn : ad' n = hs' j := by rw [<- hadal n (Mem.at_al s5), <- hnmal j n s1, q1 j hjn]
       have hb1 := (q5.ent _ hzo (by simp)).1
       obtain ⟨v1, v2⟩ := NC (n := n) (j := j) (ty := ty) (tl := tl) hB FJ u2 u3 hadn
       rw [<- hX, s4'] at v1 v2
       exact ⟨_, hzo, by simp, Or.inl ⟨by simp [srcOf, s1, Src.ns], hjn⟩, hnr.1.symm.trans v1, (hnr.2 Im' w').1 ((v2 Im' w').2 hb1)⟩
      ·rcases G2 hn with hd | ⟨hn3, hn4⟩
       ·exact Or.inr (Or.inr hd)
       ·cases hmb : mutB l.F ρ ad n x with
        | none => exact Or.inl ⟨⟨g, hn3, hg'⟩, fun b hb => by cases hb⟩
        | some b =>
          obtain ⟨hx1, hx2⟩ := hI.ent n g x hn3 hg'
          by_cases hb1 : M1 b
          ·have hb1' := hb1
           rw [hM1] at hb1'
           obtain ⟨y, hy, hyg, hyb⟩ := hb1'
           have hEnt := p2 y hy hyg
           obtain ⟨n', n1, g1, y1, a1, a2, a3⟩ := hEnt.mu b hyb
           have hnn := hI.inj n' n g1 y1 g x b a1 a2 hn3 hg' a3 hmb
           subst hnn
           have hyj := Fs hy hyb
           have hkp : e.kp.contains y.1 = true := by
            cases hkc : e.kp.contains y.1 with
            | true => rfl
            | false =>
              exfalso
              by_cases hos : (e.os.any fun o => o.j == y.1) = true
              ·obtain ⟨o, ho1, ho2⟩ := List.any_eq_true.1 hos
               have hoj : o.j = y.1 := by simpa using ho2
               obtain ⟨n'', b1, yy, b2, b3⟩ := Kr hsets y.1 (List.mem_map.2 ⟨o, ho1, hoj⟩)
               have : srcOf srcs y.1 = [n''] := by simp [srcOf, b1, Src.ns]
               rw [this] at n1
               simp only [List.mem_singleton] at n1
               subst n1
               exact hn2 yy b2 b3
              ·refine hn4 (List.mem_flatMap.2 ⟨y.1, List.mem_filter.2 ⟨hyj, ?_⟩, n1⟩)
               rw [hkc]
               simp only [Bool.not_false, Bool.true_and, Bool.not_eq_true', Bool.not_eq_true] at hos ⊢
               exact hos
           have hyo : y ∈ e.oents := by unfold Ent.oents Qp; exact List.mem_append_right _ (List.mem_append_left _ (List.mem_filter.2 ⟨hy, hkp⟩))
           have hse := hself y hy
           have hyg' : y.2.1.tt F0 (env (xs ++ ys)) = true := by rw [<- hse.gd]; exact hyg
           obtain ⟨r1, r2⟩ := q5.ent y hyo hyg'
           have r1' := (hse.ok Im' w').2 r1
           have hk1 := List.all_eq_true.1 c2 y.1 (by simpa using hkp)
           have hadn : ad' n' = ad n' := (hadal n' (Mem.at_al hn3)).symm
           right; left
           have hmu : mutB l.F ρ ad' n' x = mutB F0 (env (xs ++ ys)) hs' y.1 y.2.2 := by
            rw [AW hadn, hmb]
            have := hse.mu
            simp only [id] at this
            rw [<- this, hyb]
           split at hk1
           ·rename_i n0 hn0
            have hso : srcOf srcs y.1 = [n0] := by simp [srcOf, hn0, Src.ns, dd]
            rw [hso] at n1
            simp only [List.mem_singleton] at n1
            subst n1
            refine ⟨y, hyo, hyg', Or.inl ⟨hso, hsrclen _ _ hn0⟩, hmu, ?_⟩
            have e1 := hEnt.ok
            have hsame : w'.heap[b]? = w.heap[b]? := by
             rcases hEnt.nm n' hn0 with ⟨ty, cs, hc⟩ | ⟨ty, cs, ks, c, hc⟩ | ⟨ty, row, le, c, _, _, _, hc, _⟩
             ·rw [hc] at e1 r1' hyb
              simp only [BlkOK, id] at e1 r1'
              simp only [mutB, oJ] at hyb
              rw [hyb] at e1 r1'
              rw [e1, r1']
             ·rw [hc] at e1 r1' hyb
              simp only [BlkOK, id] at e1 r1'
              simp only [mutB, oJ] at hyb
              rw [hyb] at e1 r1'
              rw [e1.2.2, r1'.2.2]
             ·exfalso
              have hno := List.all_eq_true.1 c2' y hy
              simp only [hc, hn0, hkp] at hno
              cases hno
            refine hx1.fr hIm (fun b' hb' => ?_) hadn ?_
            ·rw [hmb] at hb'
             simp only [oJ] at hb'
             subst hb'
             exact hsame
            ·exact (SV.concL_congr hadal x.cs (hI.ok n' g x hn3)).symm
           ·rename_i ty row v0 V hn0
            obtain ⟨own, le, c, v1, v2, v3, v4, v5, v6⟩ := hEnt.vw ty row v0 V hn0
            cases own with
            | false => rw [v1] at hyb; simp [mutB] at hyb
            | true =>
              have e1 := hEnt.ok
              rw [v1] at hyb r1' e1
              obtain ⟨k1, k2, k3⟩ := e1
              have hvb : (v0.conc l.F ρ ad).ownBlock = some b := by
               rw [v4, <- v3]
               simp only [mutB, k2, Int.toNat_natCast, id] at hyb
               exact hyb
              obtain ⟨n0, z0, g0, le0, c0, z1, z2, z3, z4⟩ := H0 v2 (v6 rfl) v5 b hvb
              have hnn0 := hI.inj n0 n' g0 _ g x b z1 z2 hn3 hg' (by simp only [mutB]; rw [<- z4]; exact hvb) hmb
              subst hnn0
              rw [hn3] at z1
              simp only [oJ, pJ] at z1
              obtain ⟨rfl, rfl⟩ := z1
              refine ⟨y, hyo, hyg', Or.inr (Or.inr ⟨n1, hsrclen _ _ hn0, g, hn3, hg'⟩), hmu, ?_⟩
              obtain ⟨u1, u2, u3⟩ := r1'
              simp only [cond_true, id] at u3
              obtain ⟨x1, x2, x3⟩ := hx1
              refine ⟨x1, x2, ?_⟩
              simp only [cond_true]
              rw [v3, <- z3] at u3
              refine u3.hd ?_
              have hle0 : (le0.den l.F ρ).toNat = (dc (c0.den l.F ρ)).length := by rw [x2]; simp
              rw [hadn, <- hle0, <- z4, v4, hle0, z3]
           ·rename_i n0 hn0
            have hso : srcOf srcs y.1 = [n0] := by simp [srcOf, hn0, Src.ns, dd]
            rw [hso] at n1
            simp only [List.mem_singleton] at n1
            subst n1
            obtain ⟨ks, vs, kag, vag, c, g2, c', m1, m2, m3⟩ := hEnt.mp _ hn0
            rw [hn3] at m2
            simp only [oJ, pJ] at m2
            obtain ⟨rfl, rfl⟩ := m2
            refine ⟨y, hyo, hyg', Or.inl ⟨hso, hsrclen _ _ hn0⟩, hmu, ?_⟩
            have e1 := hEnt.mu
            rw [m1] at r1' hyb
            simp only [BlkOK, id, m3] at r1'
            simp only [mutB, oJ] at hyb hmb
            rw [hyb, <- hmb] at r1'
            simp only [BlkOK, hadn]
            exact r1'
           ·rename_i v0 ns0 hn0
            obtain ⟨ks, vs, kag, vag, c, n0, g0, c', m1, m2, m3, m4, m5⟩ := hEnt.mv _ _ hn0
            rw [m1] at r1' hyb
            simp only [mutB, oJ, id] at hyb
            have hnn0 := hI.inj n0 n' g0 _ g x b m2 m3 hn3 hg' (by simp only [mutB]; rw [<- m5, hyb]) hmb
            subst hnn0
            rw [hn3] at m2
            simp only [oJ, pJ] at m2
            obtain ⟨rfl, rfl⟩ := m2
            refine ⟨y, hyo, hyg', Or.inr (Or.inr ⟨n1, hsrclen _ _ hn0, g, hn3, hg'⟩), hmu, ?_⟩
            simp only [BlkOK, id, m4] at r1'
            simp only [mutB, oJ] at hmb
            rw [hyb, <- hmb] at r1'
            simp only [BlkOK, hadn]
            exact r1'
           ·cases hk1
          ·refine Or.inl ⟨⟨g, hn3, hg'⟩, fun b' hb' => ?_⟩
           simp only [oJ] at hb'
           subst hb'
           refine ⟨hb1, fun hi => ?_⟩
           obtain ⟨_, f2, f3⟩ := hx2 b hmb
           rcases q3 b hi with h | h | h
           ·exact f2 h
           ·exact hb1 h
           ·omega
      ·exfalso
       obtain ⟨j, b0, X, s1, s2, s4, s5⟩ := Cs hsets y hy
       have := Mem.at_lt s5
       rw [AD] at hy2
       omega
     ·exfalso
      obtain ⟨z, hz, he'⟩ := List.mem_map.1 hy
      obtain ⟨⟨a, b⟩, _⟩ := gok2 z hz
      obtain ⟨r1, r2⟩ := hnew z.1 a b
      rw [BL, AD] at hy2
      rw [<- he'] at hy1
      simp only at hy1
      omega
    have hmz : ∀ z ∈ e.oents, z.2.1.tt F0 (env (xs ++ ys)) = true -> ∀ b, mutB F0 (env (xs ++ ys)) hs' z.1 z.2.2 = some b -> ((M0 b \/ w0.heap.size <= b) /\ ¬ Im' b /\ b < w'.heap.size) /\ (M1 b \/ w.heap.size <= b) := fun z hz hzg b hb => by
     obtain ⟨r1, r2, r3⟩ := (q5.ent z hz hzg).2 b hb
     refine ⟨⟨?_, r2, r3⟩, r1⟩
     rcases r1 with r1 | r1
     ·exact (hM1b b r1).1
     ·have := hI.fr.size; exact Or.inr (by omega)
    refine ⟨ad', ?_, ⟨hM, Im', fun b hb => q2 b (h1 b hb), fun b hb => ?_, ?_⟩, ⟨hadal, hkeep⟩, Um gok1⟩
    ·exact Ks t1
    ·rcases q3 b hb with h | h | h
     ·exact h2 b h
     ·rcases (hM1b b h).1 with h | h
      ·exact Or.inr (Or.inl h)
      ·exact Or.inr (Or.inr h)
     ·have := hI.fr.size; exact Or.inr (Or.inr (by omega))
    ·refine hI.step q5.fr (fun b _ hb => ⟨(hM1b b hb).1, (hM1b b hb).2.1⟩) q2 q5.im hadal hkeep (fun n g x hn hg' => ?_) (fun n g x hn => ?_) (fun n k g x g' y b a1 a2 a3 a4 a5 a6 a7 => ?_)
     ·rcases cls n g x hn hg' with h | ⟨z, z1, z2, z3, z4, z5⟩ | rfl
      ·exact Or.inl h
      ·exact Or.inr ⟨z5, fun b hb => hmz z z1 z2 b (by rw [<- z4]; exact hb)⟩
      ·exact Or.inr ⟨trivial, fun b hb => by simp [mutB] at hb⟩
     ·rcases ED hn with hn | ⟨_, hn⟩ | ⟨y, hy, hy1, hy2⟩
      ·obtain ⟨y, hy, he'⟩ := List.mem_map.1 hn
       simp only [pJ] at he'
       rw [<- he'.2.2]; exact (gok2 y hy).2
      ·rcases ED hn with hn | ⟨_, hn⟩ | ⟨y, hy, hy1, hy2⟩
       ·obtain ⟨j, b0, X, s1, s2, s4, s5⟩ := Cs hsets _ hn
        have hok := Vn gok1 _ s4.1
        simp only [s4.2, Blk.nrm_cs] at hok
        exact hok
       ·rcases G2 hn with hd | ⟨hn3, _⟩
        ·rw [hd]; trivial
        ·exact SV.okL_mono hkeep _ (hI.ok n g x hn3)
       ·exfalso
        obtain ⟨j, b0, X, s1, s2, s4, s5⟩ := Cs hsets y hy
        have := Mem.at_lt s5
        rw [AD] at hy2
        omega
      ·exfalso
       obtain ⟨z, hz, he'⟩ := List.mem_map.1 hy
       obtain ⟨⟨a, b⟩, _⟩ := gok2 z hz
       obtain ⟨r1, r2⟩ := hnew z.1 a b
       rw [BL, AD] at hy2
       rw [<- he'] at hy1
       simp only at hy1
       have r1' : nvC srcs e.nn nm (Sh.nnL e.outL) z.1 = nm + (z.1 - e.nn) := r1
       omega
     ·have up : ∀ n g x, (AX (AX (AJ m dead) sets) (gen.2.map fun x => (nvC srcs e.nn nm nw x.1, x.2.1, x.2.2))).at n = some (g, x) -> g.tt l.F ρ = true -> mutB l.F ρ ad' n x = some b -> ∃ z ∈ e.oents, z.2.1.tt F0 (env (xs ++ ys)) = true /\ NameIs z.1 n x /\ mutB F0 (env (xs ++ ys)) hs' z.1 z.2.2 = some b := fun n g x hn hg' hb => by
       rcases cls n g x hn hg' with ⟨⟨g', o1, o2⟩, o3⟩ | ⟨z, z1, z2, z3, z4, z5⟩ | rfl
       ·exfalso
        rw [AW (hadal n (Mem.at_al o1)).symm] at hb
        rcases a7 with a7 | a7
        ·exact (o3 b hb).1 a7
        ·have := ((hI.ent n g' x o1 o2).2 b hb).2.2; omega
       ·exact ⟨z, z1, z2, z3, by rw [<- z4]; exact hb⟩
       ·simp [mutB] at hb
      obtain ⟨z, z1, z2, z3, z4⟩ := up n g x a1 a2 a5
      obtain ⟨z', z1', z2', z3', z4'⟩ := up k g' y a3 a4 a6
      have := q5.inj z z1 z' z1' z2 z2' b z4 z4'
      rw [<- this] at z3'
      rcases z3 with ⟨e1, e2⟩ | ⟨e1, e2⟩ | ⟨e1, e2, e3⟩ <;> rcases z3' with ⟨f1, f2⟩ | ⟨f1, f2⟩ | ⟨f1, f2, f3⟩
      ·rw [e1] at f1; simpa using f1
      ·omega
      ·rw [e1] at f1; simp only [List.mem_singleton] at f1; exact f1.symm
      ·omega
      ·rw [e2, f2]
      ·omega
      ·rw [f1] at e1; simpa using e1
      ·omega
      ·obtain ⟨gn, n1, n2⟩ := e3
       obtain ⟨gk, k1, k2⟩ := f3
       exact hI.inj n k gn x gk y b n1 n2 k1 k2 (by rw [<- AW (hadal n (Mem.at_al n1)).symm]; exact a5) (by rw [<- AW (hadal k (Mem.at_al k1)).symm]; exact a6)
   ·cases h
  ·cases h
 ·cases h
theorem Ju {l : Tabs} {e : Ent} (he : l.get e.key = some e) (hE : EntryOK P G e) (hG : GOK G Im0 w0) (hR : Rel l.F ρ w0 M0 Im0 ad m w) {nm : Nat} {args : List SV} {g : E} {v : SV}
 (h : Dm e m nm args = some (g, v, m')) : g.kind = .b /\ (g.tt l.F ρ = true -> Calls P e.f (SV.concL l.F ρ ad args).toArray w fun en w' => ∃ ad', en = .returned (v.conc l.F ρ ad') /\ Rel l.F ρ w0 M0 Im0 ad' m' w' /\ Ext ad ad' m m' /\ v.ok (al m')) := by
 obtain ⟨h1, h2⟩ := Kt he hG hR h
 refine ⟨h1, fun ht => ?_⟩
 obtain ⟨xs, hs, M1, Im, a1, a2, a3, a4, a5, a6, a7⟩ := h2 ht
 rw [a3]
 refine (hE xs a1 a2 w M1 Im hs a4 a5 a6).mono ?_
 rintro en w' ⟨hs', Im', q1, q2, q3, rfl, q5⟩
 obtain ⟨ad', r1, r2, r3, r4⟩ := a7 w' hs' Im' q1 q2 q3 q5
 exact ⟨ad', by rw [r1], r2, r3, r4⟩
end
abbrev Tm := List (Option SV)
def Tm.at (tm : Tm) (i : Nat) : Option SV := tm.getD i none
def setT (tm : Tm) (d : Option Nat) (v : SV) : Tm :=
 match d with
 | some d => tm.set d (some v)
 | none => tm
structure RelT (F : Fam) (ρ : Nat -> Int) (ad : Nat -> Hd) (m : Mem) (tm : Tm) (a : Act) : Prop where
 defers : a.defers = []
 size : a.tmps.size = tm.length
 slot : ∀ i v, tm.at i = some v -> a.tmps[i]? = some (v.conc F ρ ad) /\ v.ok (al m)
abbrev Env := Nat -> Option SV
def RelV (F : Fam) (ρ : Nat -> Int) (ad : Nat -> Hd) (m : Mem) (en : Env) (a : Act) : Prop :=
 ∀ i v, en i = some v -> a.tmps[i]? = some (v.conc F ρ ad) /\ v.ok (al m)
def MM (tm : Env) : Operand -> Option SV
 | .tmp t => tm t
 | .const v => El v
 | .global g => some (.gl g 0)
 | .func f => some (.fn f [])
def getC (cs : List E) (tm : Env) (x : Operand) : Option SV := (MM tm x).bind (J9 cs)
section
variable {P : Program} {F : Fam} {ρ : Nat -> Int} {G : Glob} {w0 w : World} {M0 Im0 Im : Nat -> Prop} {ad : Nat -> Hd} {m : Mem} {tm : Tm} {en : Env} {a : Act}
theorem Ku (hT : RelV F ρ ad m en a) {x : Operand} {v : SV} (h : MM en x = some v) : a.eval x = v.conc F ρ ad /\ v.ok (al m) := by
 cases x with
 | tmp t =>
   obtain ⟨h1, h2⟩ := hT t v h
   exact ⟨by simp [Act.eval, h1], h2⟩
 | const u => exact ⟨(Kb h).symm, Nh h⟩
 | global g => simp only [MM, oJ] at h; subst h; exact ⟨rfl, trivial⟩
 | func f => simp only [MM, oJ] at h; subst h; exact ⟨rfl, trivial⟩
theorem Bt (hT : RelV F ρ ad m en a) {cs : List E} (hc : holds F ρ cs = true) {x : Operand} {v : SV} (h : getC cs en x = some v) : a.eval x = v.conc F ρ ad /\ v.ok (al m) := by
 obtain ⟨u, h1, h2⟩ := Option.bind_eq_some_iff.1 h
 obtain ⟨i1, i2⟩ := Ku hT h1
 grind [PW, Nf]
inductive Gd where
 | yes
 | no
 | cond (cs : List E)
 deriving Repr, Inhabited
def guardV (want : Bool) : SV -> Option Gd
 | .sc e => match e.kind with
   | .b => match e.lit? with
     | some n => some (if i2b n = want then .yes else .no)
     | none => some (.cond [bif want then e else Ak e])
   | _ => none
 | .gd gs (.sc e) => match e.kind with
   | .b => match e.lit? with
     | some n => some (if i2b n = want then .cond gs else .no)
     | none => some (.cond (gs ++ [bif want then e else Ak e]))
   | _ => none
 | .und => some .no
 | _ => none
def NI (ops : Array Oper) (tm : Env) (o : Oper) : Option Gd :=
 match o.guard with
 | none => some .yes
 | some (j, want) => match (ops[j]?).bind (·.dst) with
   | some d => match tm d with
     | some v => guardV want v
     | none => none
   | none => none
def Gd.tt (F : Fam) (ρ : Nat -> Int) : Gd -> Bool
 | .yes => true
 | .no => false
 | .cond cs => holds F ρ cs
theorem Pq (e : E) (want : Bool) : (bif want then e else Ak e).tt F ρ = (e.tt F ρ == want) := by
 grind [Ad, E.tt]
theorem Eu (hT : RelV F ρ ad m en a) {ops : Array Oper} {o : Oper} {g : Gd} (h : NI ops en o = some g) : Region.wanted o (yielded ops a.tmps) = g.tt F ρ := by
 unfold NI at h
 unfold Region.wanted
 split at h
 ·grind [Gd.tt]
 ·rename_i j want hg
  simp only [hg]
  split at h
  ·rename_i d hd
   split at h
   ·rename_i v hv
    have i1 := (hT d v hv).1
    have hy : yielded ops a.tmps j = match v.conc F ρ ad with | .bool b => some b | _ => none := by
     unfold yielded
     rw [hd]
     simp only [Option.bind_some, i1]
     cases v.conc F ρ ad <;> rfl
    rw [hy]
    unfold guardV at h
    split at h
    ·rename_i e
     split at h
     ·rename_i hk
      simp only [SV.conc, E.val_b hk]
      split at h
      ·grind [lit?_tt, i2b, Gd.tt]
      ·simp only [oJ] at h; subst h
       simp only [Gd.tt, holds, List.all_cons, List.all_nil, Bool.and_true, Pq]
       simp_all
     ·cases h
    ·rename_i gs e
     split at h
     ·rename_i hk
      simp only [SV.conc, E.val_b hk]
      split at h
      ·rename_i n hn
       simp only [oJ] at h; subst h
       rw [lit?_tt hn]
       by_cases hw : i2b n = want
       ·rw [if_pos hw]
        simp only [Gd.tt, holds]
        cases hgs : gs.all (fun g => g.tt F ρ)
        ·simp [undef]
        ·simp [hw]
       ·rw [if_neg hw]
        simp only [Gd.tt]
        cases hgs : gs.all (fun g => g.tt F ρ)
        ·simp [undef]
        ·simp [hw]
      ·simp only [oJ] at h; subst h
       simp only [Gd.tt, holds, List.all_append, List.all_cons, List.all_nil, Bool.and_true, Pq]
       cases hgs : gs.all (fun g => g.tt F ρ)
       ·simp [undef]
       simp_all
     ·cases h
    ·simp only [oJ] at h; subst h
     rfl
    ·cases h
   ·cases h
  ·cases h
end
def Kv (cs : List E) (tm : Env) (c a b : Operand) : Option SV :=
 match getC cs tm c with
 | some (.sc ce) => if ce.kind = .b then
  match ce.lit? with
  | some n => bif i2b n then getC cs tm a else getC cs tm b
  | none => match getC (cs ++ [ce]) tm a, getC (cs ++ [Ak ce]) tm b with
    | some x, some y => some (A5 ce x y)
    | _, _ => none
   else none
 | _ => none
def pick? : Op -> Option (Operand × Operand × Operand)
 | .pick c a b => some (c, a, b)
 | _ => none
section
variable {P : Program} {F : Fam} {ρ : Nat -> Int} {G : Glob} {w0 w : World} {M0 Im0 Im : Nat -> Prop} {ad : Nat -> Hd} {m : Mem} {tm : Tm} {en : Env} {a : Act}
theorem O3 (hT : RelV F ρ ad m en a) {cs : List E} (hc : holds F ρ cs = true) {x y z : Operand} {v : SV} (h : Kv cs en x y z = some v) :
 (asBool (a.eval x)).run P w = .ok (match a.eval x with | .bool b => b | _ => false) w /\ (bif (match a.eval x with | .bool b => b | _ => false) then a.eval y else a.eval z) = v.conc F ρ ad /\ v.ok (al m) := by
 unfold Kv at h
 split at h
 ·rename_i ce h1
  split at h
  ·rename_i hk
   obtain ⟨e1, _⟩ := Bt hT hc h1
   simp only [SV.conc, E.val_b hk] at e1
   rw [e1]
   refine ⟨rfl, ?_⟩
   simp only
   split at h
   ·grind [lit?_tt, i2b, Bt]
   ·split at h
    ·rename_i u t hu ht
     simp only [oJ] at h; subst h
     rw [DM hk]
     have mono : ∀ {q : E} {o : Operand} {s : SV}, getC (cs ++ [q]) en o = some s -> s.ok (al m) := fun {q o s} hq => by
      obtain ⟨r, r1, r2⟩ := Option.bind_eq_some_iff.1 hq
      exact Nf r2 (Ku hT r1).2
     refine ⟨?_, GW _ _ (mono hu) (mono ht)⟩
     cases hct : ce.tt F ρ
     ·simp only [cond_false]
      exact (Bt hT (cs := cs ++ [Ak ce]) (by
       grind [holds, Ad]) ht).1
     ·simp only [cond_true]
      exact (Bt hT (cs := cs ++ [ce]) (by
       grind [holds]) hu).1
    ·cases h
  ·cases h
 ·cases h
theorem Qs (hT : RelV F ρ ad m en a) {cs : List E} (hc : holds F ρ cs = true) {x y z : Operand} {v : SV} (h : Kv cs en x y z = some v) {o : Oper} (ho : o.op = .pick x y z) :
 (execOp a.eval o).run P w = .ok (.value (v.conc F ρ ad)) w /\ v.ok (al m) := by
 obtain ⟨i1, i2, i3⟩ := O3 (P := P) (w := w) hT hc h
 refine ⟨?_, i3⟩
 simp only [execOp, ho, Sem.run_bind, i1, Result.andThen_ok, Sem.run_pure]
 grind
theorem RelT.ext {ad' : Nat -> Hd} {m' : Mem} (hT : RelT F ρ ad m tm a) (h : Ext ad ad' m m') : RelT F ρ ad' m' tm a :=
 ⟨hT.defers, hT.size, fun i v hv => by
  obtain ⟨h1, h2⟩ := hT.slot i v hv
  exact ⟨by rw [h1, SV.conc_congr h.same v h2], SV.ok_mono h.keep v h2⟩⟩
theorem RelT.put (hT : RelT F ρ ad m tm a) (d : Option Nat) {v : SV} (hv : v.ok (al m)) : RelT F ρ ad m (setT tm d v) (a.put d (v.conc F ρ ad)) := by
 cases d with
 | none => exact hT
 | some d =>
   refine ⟨hT.defers, by simp [Act.put, setT, hT.size], fun i u hu => ?_⟩
   simp only [setT, Tm.at, List.getD, List.getElem?_set] at hu
   simp only [Act.put, Array.getElem?_setIfInBounds]
   grind [size, slot, Tm.at]
theorem RelT.envV (hT : RelT F ρ ad m tm a) : RelV F ρ ad m tm.at a := hT.slot
end
abbrev St := Tm × Mem
def RelS (F : Fam) (ρ : Nat -> Int) (w0 : World) (M0 Im0 : Nat -> Prop) (ad : Nat -> Hd) (s : St) (a : Act) (w : World) : Prop := RelT F ρ ad s.2 s.1 a /\ Rel F ρ w0 M0 Im0 ad s.2 w
def AA (c : E) : Option (E × Blk) -> Option (E × Blk) -> Option (E × Blk)
 | some (g, .cells ty cs), some (g', .cells ty' cs') => if ty = ty' /\ cs.length = cs'.length /\ g.kind = .b /\ g'.kind = .b then some (mkIte c g g', .cells ty (BE c cs cs')) else some (mkB true, .dead)
 | some (g, .lst ty row own le k), some (g', .lst ty' row' own' le' k') =>
   if ty = ty' /\ row = row' /\ own = own' /\ le.same le' = true /\ k.kind = .x /\ k'.kind = .x /\ g.kind = .b /\ g'.kind = .b then some (mkIte c g g', .lst ty row own le (mkIte c k k')) else some (mkB true, .dead)
 | some (g, .mp ks vs ka va k), some (g', .mp ks' vs' ka' va' k') =>
   if ks = ks' /\ vs = vs' /\ ka = ka' /\ va = va' /\ k.kind = .x /\ k'.kind = .x /\ g.kind = .b /\ g'.kind = .b then some (mkIte c g g', .mp ks vs ka va (mkIte c k k')) else some (mkB true, .dead)
 | some (g, .seg ty cs ks k), some (g', .seg ty' cs' ks' k') =>
   if ty = ty' /\ ks = ks' /\ cs.length = cs'.length /\ k.kind = .x /\ k'.kind = .x /\ g.kind = .b /\ g'.kind = .b then some (mkIte c g g', .seg ty (BE c cs cs') ks (mkIte c k k')) else some (mkB true, .dead)
 | some (g, b), none => if g.kind = .b then some (mkAnd c g, b) else some (mkB true, .dead)
 | none, some (g, b) => if g.kind = .b then some (mkAnd (Ak c) g, b) else some (mkB true, .dead)
 | none, none => none
 | some (_, .dead), some (_, .dead) => some (mkB true, .dead)
 | some (g, b), some (_, .dead) => if g.kind = .b then some (mkAnd c g, b) else some (mkB true, .dead)
 | some (_, .dead), some (g, b) => if g.kind = .b then some (mkAnd (Ak c) g, b) else some (mkB true, .dead)
 | some _, some _ => some (mkB true, .dead)
section
variable {P : Program} {F : Fam} {ρ : Nat -> Int} {G : Glob} {w0 w : World} {M0 Im0 Im : Nat -> Prop} {ad : Nat -> Hd} {m m1 m2 : Mem} {tm : Tm} {en : Env} {a : Act}
theorem MI (c : E) (x y : Option (E × Blk)) : (AA c x y).isSome = (x.isSome || y.isSome) := by
 rcases x with _ | ⟨g, b⟩ <;> rcases y with _ | ⟨g', b'⟩
 ·rfl
 ·grind [AA]
 ·grind [AA]
 ·cases b <;> cases b' <;> simp only [AA] <;> (try split) <;> rfl
theorem Hz {c : E} (hc : c.kind = .b) {x y : Option (E × Blk)} {g : E} {b : Blk} (h : AA c x y = some (g, b)) (hg : g.tt F ρ = true) :
 b = .dead \/ ∃ g' b', (bif c.tt F ρ then x else y) = some (g', b') /\ g'.tt F ρ = true /\ (∀ (Im : Nat -> Prop) (ad : Nat -> Hd) (n : Nat) (w : World), BlkOK F ρ Im ad n w b' -> BlkOK F ρ Im ad n w b) /\
   (∀ (ad : Nat -> Hd) (n : Nat), mutB F ρ ad n b = mutB F ρ ad n b') := by
 have one : ∀ {g1 : E} {b1 : Blk} {z : Option (E × Blk)} {q : E}, z = some (g1, b1) -> g1.kind = .b -> q.kind = .b -> (mkAnd q g1).tt F ρ = true -> q.tt F ρ = true /\ g1.tt F ρ = true := fun {g1 b1 z q} _ hk hq ht => by
  grind [Aa]
 rcases x with _ | ⟨g1, b1⟩ <;> rcases y with _ | ⟨g2, b2⟩
 ·simp [AA] at h
 ·simp only [AA] at h
  split at h
  ·rename_i hk
   simp only [oJ, pJ] at h
   obtain ⟨rfl, rfl⟩ := h
   obtain ⟨h1, h2⟩ := one (z := some (g2, b2)) rfl hk (Ad c F ρ).2 hg
   rw [(Ad c F ρ).1] at h1
   have hcf : c.tt F ρ = false := by simpa using h1
   exact Or.inr ⟨g2, b2, by rw [hcf]; rfl, h2, fun _ _ _ _ h => h, fun _ _ => rfl⟩
  simp_all
 ·have h' : (if g1.kind = .b then some (mkAnd c g1, b1) else some (mkB true, Blk.dead)) = some (g, b) := by cases b1 <;> simpa only [AA] using h
  split at h'
  ·rename_i hk
   simp only [oJ, pJ] at h'
   obtain ⟨rfl, rfl⟩ := h'
   obtain ⟨h1, h2⟩ := one (z := some (g1, b1)) rfl hk hc hg
   grind
  simp_all
 ·have gite : ∀ {p q : E}, p.kind = .b -> q.kind = .b -> (mkIte c p q).tt F ρ = true -> (bif c.tt F ρ then p.tt F ρ else q.tt F ρ) = true := fun {p q} h1 h2 h3 => by grind [E6]
  cases b1 <;> cases b2 <;> simp only [AA] at h
  case cells.cells ty cs ty' cs' =>
   split at h
   ·rename_i hh
    obtain ⟨rfl, hl, k1, k2⟩ := hh
    simp only [oJ, pJ] at h
    obtain ⟨rfl, rfl⟩ := h
    have ht := gite k1 k2 hg
    right
    cases hct : c.tt F ρ
    ·rw [hct] at ht
     exact ⟨g2, _, rfl, ht, fun Im ad n w hb => by grind [BlkOK, BO], fun _ _ => rfl⟩
    ·rw [hct] at ht
     exact ⟨g1, _, rfl, ht, fun Im ad n w hb => by grind [BlkOK, BO], fun _ _ => rfl⟩
   simp_all
  case lst.lst ty row own le k ty' row' own' le' k' =>
   split at h
   ·rename_i hh
    obtain ⟨rfl, rfl, rfl, hle, x1, x2, k1, k2⟩ := hh
    have := E.same_eq _ _ hle
    subst this
    simp only [oJ, pJ] at h
    obtain ⟨rfl, rfl⟩ := h
    have ht := gite k1 k2 hg
    have hx := (Dw (F := F) (ρ := ρ) hc x1 x2).2
    right
    cases hct : c.tt F ρ
    ·rw [hct] at ht hx
     exact ⟨g2, _, rfl, ht, fun Im ad n w hb => by grind [BlkOK], fun ad n => by cases own <;> rfl⟩
    ·rw [hct] at ht hx
     exact ⟨g1, _, rfl, ht, fun Im ad n w hb => by grind [BlkOK], fun ad n => by cases own <;> rfl⟩
   simp_all
  case mp.mp ks vs ka va k ks' vs' ka' va' k' =>
   split at h
   ·rename_i hh
    obtain ⟨rfl, rfl, rfl, rfl, x1, x2, k1, k2⟩ := hh
    simp only [oJ, pJ] at h
    obtain ⟨rfl, rfl⟩ := h
    have ht := gite k1 k2 hg
    have hx := (Dw (F := F) (ρ := ρ) hc x1 x2).2
    right
    cases hct : c.tt F ρ
    ·rw [hct] at ht hx
     exact ⟨g2, _, rfl, ht, fun Im ad n w hb => by simp_all [BlkOK], fun _ _ => rfl⟩
    ·rw [hct] at ht hx
     exact ⟨g1, _, rfl, ht, fun Im ad n w hb => by simp_all [BlkOK], fun _ _ => rfl⟩
   simp_all
  case seg.seg ty cs ks k ty' cs' ks' k' =>
   split at h
   ·rename_i hh
    obtain ⟨rfl, rfl, hl, x1, x2, k1, k2⟩ := hh
    simp only [oJ, pJ] at h
    obtain ⟨rfl, rfl⟩ := h
    have ht := gite k1 k2 hg
    have hx := (Dw (F := F) (ρ := ρ) hc x1 x2).2
    right
    cases hct : c.tt F ρ
    ·rw [hct] at ht hx
     exact ⟨g2, _, rfl, ht, fun Im ad n w hb => by simp_all [BlkOK, BO], fun _ _ => rfl⟩
    ·rw [hct] at ht hx
     exact ⟨g1, _, rfl, ht, fun Im ad n w hb => by simp_all [BlkOK, BO], fun _ _ => rfl⟩
   simp_all
  all_goals first
   | (simp only [oJ, pJ] at h; exact Or.inl h.2.symm)
   | (split at h
      ·rename_i hk
       simp only [oJ, pJ] at h
       obtain ⟨rfl, rfl⟩ := h
       first
        | (obtain ⟨h1, h2⟩ := one (z := some (g1, Blk.dead)) rfl hk hc hg
           exact Or.inr ⟨g1, _, by rw [h1]; rfl, h2, fun _ _ _ _ h => h, fun _ _ => rfl⟩)
        | (obtain ⟨h1, h2⟩ := one (z := some (g2, Blk.dead)) rfl hk (Ad c F ρ).2 hg
           rw [(Ad c F ρ).1] at h1
           have hcf : c.tt F ρ = false := by simpa using h1
           exact Or.inr ⟨g2, _, by rw [hcf]; rfl, h2, fun _ _ _ _ h => h, fun _ _ => rfl⟩)
      simp_all)
theorem Gm {c : E} {x y : Option (E × Blk)} {g : E} {b : Blk} (h : AA c x y = some (g, b)) {p : Nat -> Prop} (hx : ∀ g b, x = some (g, b) -> SV.okL p b.cs) (hy : ∀ g b, y = some (g, b) -> SV.okL p b.cs) : SV.okL p b.cs := by
 rcases x with _ | ⟨g1, b1⟩ <;> rcases y with _ | ⟨g2, b2⟩
 ·simp [AA] at h
 ·simp only [AA] at h
  split at h <;> simp only [oJ, pJ] at h <;> obtain ⟨_, rfl⟩ := h
  ·exact hy _ _ rfl
  ·trivial
 ·have h' : (if g1.kind = .b then some (mkAnd c g1, b1) else some (mkB true, Blk.dead)) = some (g, b) := by cases b1 <;> simpa only [AA] using h
  split at h' <;> simp only [oJ, pJ] at h' <;> obtain ⟨_, rfl⟩ := h'
  ·exact hx _ _ rfl
  ·trivial
 ·have h1 := hx _ _ rfl
  have h2 := hy _ _ rfl
  cases b1 <;> cases b2 <;> simp only [AA] at h <;> (try split at h) <;> simp only [oJ, pJ] at h <;> obtain ⟨_, rfl⟩ := h <;>
   first | trivial | exact h1 | exact h2 | exact FE _ _ h1 h2
def PM (c : E) (m1 m2 m : Mem) : Prop := ∀ n, (m.at n = m1.at n /\ m.at n = m2.at n) \/ m.at n = AA c (m1.at n) (m2.at n)
theorem PM.al {c : E} (h : PM c m1 m2 m) (n : Nat) : al m n ↔ al m1 n \/ al m2 n := by
 unfold Ew.al
 rcases h n with ⟨h1, h2⟩ | h1
 ·simp_all
 ·rw [h1, MI]; simp
theorem PM.rel {c : E} (hc : c.kind = .b) (h : PM c m1 m2 m) {t : Bool} (ht : c.tt F ρ = t) (hR : Rel F ρ w0 M0 Im0 ad (bif t then m1 else m2) w)
 (hok : ∀ n g x, (bif t then m2 else m1).at n = some (g, x) -> SV.okL (Ew.al (bif t then m2 else m1)) x.cs) : Rel F ρ w0 M0 Im0 ad m w := by
 obtain ⟨hM, Im, h1, h2, hI⟩ := hR
 have key : ∀ n g x, m.at n = some (g, x) -> g.tt F ρ = true -> x = .dead \/ ∃ g' x', (bif t then m1 else m2).at n = some (g', x') /\ g'.tt F ρ = true /\ (∀ w, BlkOK F ρ Im ad n w x' -> BlkOK F ρ Im ad n w x) /\ mutB F ρ ad n x = mutB F ρ ad n x' := fun n g x hn hg => by
  rcases h n with ⟨e1, e2⟩ | e1
  ·grind
  grind [Hz]
 have hal1 : ∀ k, Ew.al (bif t then m1 else m2) k -> Ew.al m k := fun k hk => by
  rw [h.al]; grind
 have hal2 : ∀ k, Ew.al (bif t then m2 else m1) k -> Ew.al m k := fun k hk => by
  grind [al]
 refine ⟨hM, Im, h1, h2, fun n g x hn hg => ?_, fun n g x hn => ?_, fun n k g x g' y b a1 a2 a3 a4 a5 a6 => ?_, hI.im, hI.fr⟩
 ·rcases key n g x hn hg with rfl | ⟨g', x', f1, f2, f3, f4⟩
  ·exact ⟨trivial, fun b hb => by simp [mutB] at hb⟩
  grind [RelI.ent]
 ·have ok1 : ∀ g x, (bif t then m1 else m2).at n = some (g, x) -> SV.okL (Ew.al m) x.cs := fun g x hh => SV.okL_mono hal1 _ (hI.ok n g x hh)
  have ok2 : ∀ g x, (bif t then m2 else m1).at n = some (g, x) -> SV.okL (Ew.al m) x.cs := fun g x hh => SV.okL_mono hal2 _ (hok n g x hh)
  rcases h n with ⟨e1, e2⟩ | e1
  ·grind
  grind [Gm]
 grind [mutB, RelI.inj]
theorem PM.rel' {c : E} (hc : c.kind = .b) (h : PM c m1 m2 m) (ht : c.tt F ρ = false) (hR : Rel F ρ w0 M0 Im0 ad m2 w)
 (hok : ∀ n g x, m1.at n = some (g, x) -> SV.okL (Ew.al m) x.cs) : Rel F ρ w0 M0 Im0 ad m w := by
 obtain ⟨hM, Im, h1, h2, hI⟩ := hR
 have key : ∀ n g x, m.at n = some (g, x) -> g.tt F ρ = true -> x = .dead \/ ∃ g' x', m2.at n = some (g', x') /\ g'.tt F ρ = true /\ (∀ w, BlkOK F ρ Im ad n w x' -> BlkOK F ρ Im ad n w x) /\ mutB F ρ ad n x = mutB F ρ ad n x' := fun n g x hn hg => by
  rcases h n with ⟨e1, e2⟩ | e1
  ·grind
  grind [Hz]
 refine ⟨hM, Im, h1, h2, fun n g x hn hg => ?_, fun n g x hn => ?_, fun n k g x g' y b a1 a2 a3 a4 a5 a6 => ?_, hI.im, hI.fr⟩
 ·rcases key n g x hn hg with rfl | ⟨g', x', f1, f2, f3, f4⟩
  ·exact ⟨trivial, fun b hb => by simp [mutB] at hb⟩
  grind [RelI.ent]
 ·have ok2 : ∀ g x, m2.at n = some (g, x) -> SV.okL (Ew.al m) x.cs := fun g x hh => SV.okL_mono (fun k hk => (h.al k).2 (Or.inr hk)) _ (hI.ok n g x hh)
  rcases h n with ⟨e1, e2⟩ | e1
  ·simp_all
  ·rw [hn] at e1
   exact Gm e1.symm (hok n) ok2
 grind [mutB, RelI.inj]
end
def tailG (f : Nat -> Option (E × Blk) -> Option (E × Blk) -> Option (E × Blk)) : Nat -> Mem -> Mem
 | _, [] => []
 | n, y :: b => f n none y :: tailG f (n + 1) b
def zipG (f : Nat -> Option (E × Blk) -> Option (E × Blk) -> Option (E × Blk)) : Nat -> Mem -> Mem -> Mem
 | n, [], b => tailG f n b
 | n, x :: a, [] => f n x none :: zipG f (n + 1) a []
 | n, x :: a, y :: b => f n x y :: zipG f (n + 1) a b
theorem Mem.at_nil (n : Nat) : Mem.at [] n = none := by simp [Mem.at, List.getD]
theorem Mem.at_zero (x : Option (E × Blk)) (a : Mem) : Mem.at (x :: a) 0 = x := by simp [Mem.at, List.getD]
theorem Mem.at_succ (x : Option (E × Blk)) (a : Mem) (n : Nat) : Mem.at (x :: a) (n + 1) = Mem.at a n := by simp [Mem.at, List.getD]
theorem NJ {f : Nat -> Option (E × Blk) -> Option (E × Blk) -> Option (E × Blk)} (hf : ∀ n, f n none none = none) : ∀ (b : Mem) (k n : Nat), (tailG f k b).at n = f (k + n) none (b.at n)
 | [], k, n => by simp only [tailG, Mem.at_nil, hf]
 | y :: b, k, 0 => by grind [tailG, Mem.at_zero]
 | y :: b, k, n + 1 => by
   simp only [tailG, Mem.at_succ, NJ hf b (k + 1) n]
   grind
theorem LK {f : Nat -> Option (E × Blk) -> Option (E × Blk) -> Option (E × Blk)} (hf : ∀ n, f n none none = none) : ∀ (a b : Mem) (k n : Nat), (zipG f k a b).at n = f (k + n) (a.at n) (b.at n)
 | [], b, k, n => by simp only [zipG, Mem.at_nil, NJ hf]
 | x :: a, [], k, 0 => by grind [zipG, Mem.at_zero, Mem.at_nil]
 | x :: a, [], k, n + 1 => by
   simp only [zipG, Mem.at_succ, Mem.at_nil, LK hf a [] (k + 1) n]
   grind
 | x :: a, y :: b, k, 0 => by grind [zipG, Mem.at_zero]
 | x :: a, y :: b, k, n + 1 => by
   simp only [zipG, Mem.at_succ, LK hf a b (k + 1) n]
   grind
def zipR (f : Nat -> Option (E × Blk) -> Option (E × Blk) -> Option (E × Blk)) : Nat -> Mem -> Mem -> Mem
 | _, _, [] => []
 | n, [], y :: b => f n none y :: zipR f (n + 1) [] b
 | n, x :: a, y :: b => f n x y :: zipR f (n + 1) a b
theorem Hc {f : Nat -> Option (E × Blk) -> Option (E × Blk) -> Option (E × Blk)} : ∀ (a b : Mem) (k : Nat), (zipR f k a b).length = b.length
 | [], [], k => rfl
 | _ :: _, [], k => rfl
 | [], y :: b, k => by simp only [zipR, List.length_cons, Hc [] b (k + 1)]
 | x :: a, y :: b, k => by simp only [zipR, List.length_cons, Hc a b (k + 1)]
theorem IZ {f : Nat -> Option (E × Blk) -> Option (E × Blk) -> Option (E × Blk)} : ∀ (a b : Mem) (k n : Nat), n < b.length -> (zipR f k a b).at n = f (k + n) (a.at n) (b.at n)
 | a, [], k, n, h => by simp at h
 | [], y :: b, k, 0, _ => by grind [zipR, Mem.at_zero, Mem.at_nil]
 | [], y :: b, k, n + 1, h => by
   simp only [zipR, Mem.at_succ, Mem.at_nil, IZ [] b (k + 1) n (by simpa using h)]
   grind
 | x :: a, y :: b, k, 0, _ => by grind [zipR, Mem.at_zero]
 | x :: a, y :: b, k, n + 1, h => by
   simp only [zipR, Mem.at_succ, IZ a b (k + 1) n (by simpa using h)]
   grind
def Gn (c : E) (m1 m2 : Mem) : Mem := zipG (fun _ => AA c) 0 m1 m2
theorem SK (c : E) (m1 m2 : Mem) (n : Nat) : (Gn c m1 m2).at n = AA c (m1.at n) (m2.at n) := by
 unfold Gn
 rw [LK (fun _ => rfl)]
theorem SL (c : E) (m1 m2 : Mem) : PM c m1 m2 (Gn c m1 m2) := fun n => Or.inr (SK c m1 m2 n)
def ownD : Nat -> Mem -> Mem -> List Nat
 | n, x :: a, y :: b => match x, y with
   | some (_, .lst _ _ o _ _), some (_, .lst _ _ o' _ _) => bif o != o' then n :: ownD (n + 1) a b else ownD (n + 1) a b
   | _, _ => ownD (n + 1) a b
 | _, _, _ => []
def Ec (m1 m2 : Mem) : List Nat := ownD 0 m1 m2
mutual
def SV.okB (m : Mem) : SV -> Bool
 | .ptr n _ | .pi n _ _ _ | .sl n _ _ _ | .ls n _ | .sv n _ _ _ _ | .pe n _ _ _ | .mp n | .oq n => (m.at n).isSome
 | .fn _ cs | .agg cs | .tup cs => SV.okLB m cs
 | .gd _ v => SV.okB m v
 | .ite _ a b => SV.okB m a && SV.okB m b
 | _ => true
def SV.okLB (m : Mem) : List SV -> Bool
 | [] => true
 | v :: r => SV.okB m v && SV.okLB m r
end
mutual
theorem SV.okB_spec {m : Mem} : ∀ v : SV, SV.okB m v = true -> v.ok (al m)
 | .ptr n _, h | .pi n _ _ _, h | .sl n _ _ _, h | .ls n _, h | .sv n _ _ _ _, h | .pe n _ _ _, h | .mp n, h | .oq n, h => by simp only [SV.okB] at h; exact h
 | .fn _ cs, h | .agg cs, h | .tup cs, h => by simp only [SV.okB] at h; simp only [SV.ok]; exact SV.okLB_spec cs h
 | .gd _ v, h => by simp only [SV.okB] at h; simp only [SV.ok]; exact SV.okB_spec v h
 | .ite _ a b, h => by simp only [SV.okB, Bool.and_eq_true] at h; simp only [SV.ok]; exact ⟨SV.okB_spec a h.1, SV.okB_spec b h.2⟩
 | .sc _, _ | .und, _ | .nilp _, _ | .gl _ _, _ => by simp [SV.ok]
theorem SV.okLB_spec {m : Mem} : ∀ l : List SV, SV.okLB m l = true -> SV.okL (al m) l
 | [], _ => trivial
 | v :: r, h => by simp only [SV.okLB, Bool.and_eq_true] at h; exact ⟨SV.okB_spec v h.1, SV.okLB_spec r h.2⟩
end
def MN (m : Mem) : Bool := m.all fun
 | some (_, b) => SV.okLB m b.cs
 | _ => true
theorem Kw {m : Mem} (h : MN m = true) {k : Nat} {g : E} {b : Blk} (hk : m.at k = some (g, b)) : SV.okL (al m) b.cs := by
 unfold MN at h
 have hlt := Mem.at_lt hk
 have hm : some (g, b) ∈ m := by
  unfold Mem.at at hk
  simp only [List.getD, List.getElem?_eq_getElem hlt, Option.getD_some] at hk
  rw [<- hk]
  exact List.getElem_mem hlt
 grind [SV.okLB_spec, Blk.cs]
def H2 (c : E) : Option SV -> Option SV -> Option SV
 | some x, some y => some (A5 c x y)
 | _, _ => none
def okTm (m : Mem) (tm : Tm) : Bool := tm.all fun
 | some v => SV.okB m v
 | none => true
def E7 (c : E) (s1 s2 : St) : Option St :=
 let ns := Ec s1.2 s2.2
 let m1 := shareL s1.2 ns
 let m2 := shareL s2.2 ns
 if c.kind = .b /\ s1.1.length = s2.1.length /\ MN m1 = true /\ MN m2 = true /\ okTm s1.2 s1.1 = true /\ okTm s2.2 s2.1 = true then some (List.zipWith (H2 c) s1.1 s2.1, Gn c m1 m2) else none
section
variable {P : Program} {F : Fam} {ρ : Nat -> Int} {G : Glob} {w0 w : World} {M0 Im0 Im : Nat -> Prop} {ad : Nat -> Hd} {m : Mem} {tm : Tm} {en : Env} {a : Act}
theorem Mt {m : Mem} {tm : Tm} (h : okTm m tm = true) {i : Nat} {v : SV} (hv : tm.at i = some v) : v.ok (al m) := by
 unfold okTm at h
 have hm : some v ∈ tm := by
  unfold Tm.at at hv
  simp only [List.getD] at hv
  cases hi : tm[i]? with
  | none => rw [hi] at hv; cases hv
  | some x => grind
 grind [SV.okB_spec]
theorem BU {c : E} {s1 s2 s : St} (h : E7 c s1 s2 = some s) :
 (∀ k, al s1.2 k \/ al s2.2 k -> al s.2 k) /\ (∀ ad a w, c.tt F ρ = true -> RelS F ρ w0 M0 Im0 ad s1 a w -> RelS F ρ w0 M0 Im0 ad s a w) /\ (∀ ad a w, c.tt F ρ = false -> RelS F ρ w0 M0 Im0 ad s2 a w -> RelS F ρ w0 M0 Im0 ad s a w) := by
 unfold E7 at h
 simp only at h
 split at h
 ·rename_i hc
  obtain ⟨hk, hl, ok1, ok2, t1, t2⟩ := hc
  simp only [oJ] at h
  subst h
  have hPM := SL c (shareL s1.2 (Ec s1.2 s2.2)) (shareL s2.2 (Ec s1.2 s2.2))
  have hal : ∀ k, al s1.2 k \/ al s2.2 k -> al (Gn c (shareL s1.2 (Ec s1.2 s2.2)) (shareL s2.2 (Ec s1.2 s2.2))) k := fun k hk => by
   rw [hPM.al, BG, BG]; exact hk
  have hsl : ∀ i v, Tm.at (List.zipWith (H2 c) s1.1 s2.1) i = some v -> ∃ x y, s1.1.at i = some x /\ s2.1.at i = some y /\ v = A5 c x y := by
   intro i v hv
   unfold Tm.at at hv
   simp only [List.getD, List.getElem?_zipWith] at hv
   cases h1 : s1.1[i]? with
   | none => simp [h1] at hv
   | some x =>
     cases h2 : s2.1[i]? with
     | none => simp [h1, h2] at hv
     | some y =>
       simp only [h1, h2, Option.getD_some] at hv
       unfold H2 at hv
       grind [Tm.at]
  have hvok : ∀ i x y, s1.1.at i = some x -> s2.1.at i = some y -> (A5 c x y).ok (al (Gn c (shareL s1.2 (Ec s1.2 s2.2)) (shareL s2.2 (Ec s1.2 s2.2)))) := fun i x y h1 h2 =>
   GW x y (SV.ok_mono (fun k hk => hal k (Or.inl hk)) x (Mt t1 h1)) (SV.ok_mono (fun k hk => hal k (Or.inr hk)) y (Mt t2 h2))
  refine ⟨hal, fun ad a w ht hR => ?_, fun ad a w ht hR => ?_⟩
  ·obtain ⟨hT, hM⟩ := hR
   refine ⟨⟨hT.defers, by simp [hT.size, hl], fun i v hv => ?_⟩, ?_⟩
   ·obtain ⟨x, y, h1, h2, rfl⟩ := hsl i v hv
    exact ⟨by rw [DM hk, ht]; exact (hT.slot i x h1).1, hvok i x y h1 h2⟩
   ·exact hPM.rel hk ht (Rel.shareL _ hM) fun n g x hn => Kw ok2 hn
  ·obtain ⟨hT, hM⟩ := hR
   refine ⟨⟨hT.defers, by simp [hT.size, hl], fun i v hv => ?_⟩, ?_⟩
   ·obtain ⟨x, y, h1, h2, rfl⟩ := hsl i v hv
    exact ⟨by rw [DM hk, ht]; exact (hT.slot i y h2).1, hvok i x y h1 h2⟩
   ·exact hPM.rel hk ht (Rel.shareL _ hM) fun n g x hn => Kw ok1 hn
 ·cases h
end
inductive Lab where
 | nrm
 | ret
 | ex (id : Nat)
 deriving DecidableEq, Repr, Inhabited
def Lab.exit : Lab -> Exit
 | .nrm => .normal
 | .ret => .ret
 | .ex id => .exit id
inductive DT where
 | leaf (l : Lab)
 | br (c : E) (a b : DT)
 | join (a b : DT)
 | rel (id : Nat) (a : DT)
 deriving Repr, Inhabited
def DT.eval (F : Fam) (ρ : Nat -> Int) : DT -> Lab
 | .leaf l => l
 | .br c a b => bif c.tt F ρ then a.eval F ρ else b.eval F ρ
 | .join a b => if a.eval F ρ = .nrm then b.eval F ρ else a.eval F ρ
 | .rel id a => if a.eval F ρ = .ex id then .nrm else a.eval F ρ
def DT.is (l : Lab) : DT -> E
 | .leaf l' => mkB (decide (l' = l))
 | .br c a b => if c.kind = .b then mkIte c (a.is l) (b.is l) else .ite c (a.is l) (b.is l)
 | .join a b => if l = .nrm then mkAnd (a.is .nrm) (b.is .nrm) else mkOr (a.is l) (mkAnd (a.is .nrm) (b.is l))
 | .rel id a => if l = .nrm then mkOr (a.is .nrm) (a.is (.ex id)) else if l = .ex id then mkB false else a.is l
theorem DT.is_spec (F : Fam) (ρ : Nat -> Int) : ∀ (d : DT) (l : Lab), (d.is l).kind = .b /\ ((d.is l).tt F ρ = true ↔ d.eval F ρ = l)
 | .leaf l', l => ⟨rfl, by simp only [DT.is, HA, DT.eval, decide_eq_true_eq]⟩
 | .br c a b, l => by
   obtain ⟨a1, a2⟩ := DT.is_spec F ρ a l
   obtain ⟨b1, b2⟩ := DT.is_spec F ρ b l
   simp only [DT.is, DT.eval]
   split
   ·rename_i hc
    obtain ⟨i1, i2⟩ := A9 c (a.is l) (b.is l) hc (by rw [a1, b1]) F ρ
    grind [E.val_b, E.tt]
   ·refine ⟨a1, ?_⟩
    grind [E.tt, is, E.den, i2b]
 | .join a b, l => by
   obtain ⟨n1, n2⟩ := DT.is_spec F ρ a .nrm
   obtain ⟨a1, a2⟩ := DT.is_spec F ρ a l
   obtain ⟨b1, b2⟩ := DT.is_spec F ρ b l
   grind [is, eval, Aa, Cw]
 | .rel id a, l => by
   obtain ⟨n1, n2⟩ := DT.is_spec F ρ a .nrm
   obtain ⟨a1, a2⟩ := DT.is_spec F ρ a l
   obtain ⟨e1, e2⟩ := DT.is_spec F ρ a (.ex id)
   simp only [DT.is, DT.eval]
   by_cases hl : l = .nrm
   ·grind [Cw, is, eval]
   ·rw [if_neg hl]
    by_cases hl2 : l = .ex id
    ·rw [if_pos hl2]
     subst hl2
     refine ⟨rfl, ?_⟩
     grind [HA, eval]
    grind
theorem DT.is_true {F : Fam} {ρ : Nat -> Int} {d : DT} {l : Lab} (h : d.eval F ρ = l) : (d.is l).tt F ρ = true := (DT.is_spec F ρ d l).2.2 h
theorem DT.is_false {F : Fam} {ρ : Nat -> Int} {d : DT} {l : Lab} (h : d.eval F ρ ≠ l) : (d.is l).tt F ρ = false := Bool.eq_false_iff.2 fun x => h ((DT.is_spec F ρ d l).2.1 x)
def NK (a b : DT) : DT :=
 match a with
 | .leaf .nrm => b
 | .leaf l => .leaf l
 | a => .join a b
theorem O4 (F : Fam) (ρ : Nat -> Int) (a b : DT) : (NK a b).eval F ρ = if a.eval F ρ = .nrm then b.eval F ρ else a.eval F ρ := by
 unfold NK
 grind [DT.eval]
def Kx (id : Nat) (a : DT) : DT :=
 match a with
 | .leaf l => .leaf (if l = .ex id then .nrm else l)
 | a => .rel id a
theorem He (F : Fam) (ρ : Nat -> Int) (id : Nat) (a : DT) : (Kx id a).eval F ρ = if a.eval F ρ = .ex id then .nrm else a.eval F ρ := by
 unfold Kx
 split <;> rfl
section
variable {P : Program} {F : Fam} {ρ : Nat -> Int} {G : Glob} {w0 w : World} {M0 Im0 Im : Nat -> Prop} {ad : Nat -> Hd} {m : Mem} {tm : Tm} {en : Env} {a : Act}
def lk (l : Lab) : List (Lab × St) -> Option St
 | [] => none
 | (l', s) :: r => if l' = l then some s else lk l r
def drop (l : Lab) : List (Lab × St) -> List (Lab × St)
 | [] => []
 | (k, s) :: r => if k = l then drop l r else (k, s) :: drop l r
theorem Co {l l' : Lab} (h : l ≠ l') : ∀ xs, lk l' (drop l xs) = lk l' xs
 | [] => rfl
 | (k, s) :: r => by
   have ih := Co h r
   grind [drop, lk]
theorem H3 (l : Lab) : ∀ xs, lk l (drop l xs) = none
 | [] => rfl
 | (k, s) :: r => by
   have ih := H3 l r
   grind [drop, lk]
def Dp (c : Lab -> E) : List (Lab × St) -> List (Lab × St) -> Option (List (Lab × St))
 | [], ys => some ys
 | (l, s) :: r, ys => match lk l ys with
   | some s' => match E7 (c l) s s', Dp c r (drop l ys) with
     | some q, some t => some ((l, q) :: t)
     | _, _ => none
   | none => (Dp c r ys).map ((l, s) :: ·)
theorem BB {c : Lab -> E} : ∀ {xs ys zs : List (Lab × St)}, Dp c xs ys = some zs -> ∀ l,
 (∀ s, lk l xs = some s -> ∃ q, lk l zs = some q /\ ((lk l ys = none /\ q = s) \/ ∃ s', lk l ys = some s' /\ E7 (c l) s s' = some q)) /\
 (lk l xs = none -> lk l zs = lk l ys)
 | [], ys, zs, h, l => by
   grind [Dp, lk]
 | (l0, s0) :: r, ys, zs, h, l => by
   simp only [Dp] at h
   split at h
   ·rename_i s' hs'
    split at h
    ·rename_i q t hq ht
     simp only [oJ] at h; subst h
     by_cases hl : l0 = l
     ·grind [lk]
     ·obtain ⟨i1, i2⟩ := BB ht l
      grind [Co, lk]
    ·cases h
   ·rename_i hs'
    obtain ⟨t, ht, rfl⟩ := Option.map_eq_some_iff.1 h
    obtain ⟨i1, i2⟩ := BB ht l
    grind [lk]
abbrev Out := DT × List (Lab × St)
def Pr (ox oy : Out) : Option Out :=
 (Dp (fun l => ox.1.is l) (drop .nrm ox.2) oy.2).map fun z => (NK ox.1 oy.1, z)
def Qt (c : E) (ox oy : Out) : Option Out :=
 if c.kind = .b then (Dp (fun _ => c) ox.2 oy.2).map fun z => (.br c ox.1 oy.1, z) else none
def NL (id : Nat) (o : Out) : Option Out :=
 match lk (.ex id) o.2, lk .nrm o.2 with
 | none, _ => some (Kx id o.1, o.2)
 | some s, none => some (Kx id o.1, (.nrm, s) :: drop (.ex id) o.2)
 | some s, some s' => match E7 (o.1.is (.ex id)) s s' with
   | some q => some (Kx id o.1, (.nrm, q) :: drop (.ex id) (drop .nrm o.2))
   | none => none
def After (F : Fam) (ρ : Nat -> Int) (w0 : World) (M0 Im0 : Nat -> Prop) (ad : Nat -> Hd) (m : Mem) (o : Out) (Q : Exit -> Act -> World -> Prop) : Prop :=
 ∀ q ad' a' w', lk (o.1.eval F ρ) o.2 = some q -> RelS F ρ w0 M0 Im0 ad' q a' w' -> Ext ad ad' m q.2 -> Q (o.1.eval F ρ).exit a' w'
theorem After.join {m0 : Mem} {ox oy o : Out} (h : Pr ox oy = some o) {Q : Exit -> Act -> World -> Prop} (hA : After F ρ w0 M0 Im0 ad m0 o Q) :
 (ox.1.eval F ρ ≠ .nrm -> After F ρ w0 M0 Im0 ad m0 ox Q) /\ (ox.1.eval F ρ = .nrm -> After F ρ w0 M0 Im0 ad m0 oy Q) := by
 obtain ⟨z, hz, rfl⟩ := Option.map_eq_some_iff.1 h
 unfold After at *
 simp only [O4] at hA
 constructor
 ·intro hne q ad' a' w' hq hR hx
  simp only [if_neg hne] at hA
  obtain ⟨i1, _⟩ := BB hz (ox.1.eval F ρ)
  obtain ⟨q', h1, h2⟩ := i1 q (by rw [Co (Ne.symm hne)]; exact hq)
  rcases h2 with ⟨_, rfl⟩ | ⟨s', _, h3⟩
  ·grind
  ·obtain ⟨k1, k2, _⟩ := BU (F := F) (ρ := ρ) (w0 := w0) (M0 := M0) (Im0 := Im0) h3
   exact hA q' ad' a' w' h1 (k2 ad' a' w' (DT.is_true rfl) hR) ⟨hx.same, fun k hk => k1 k (Or.inl (hx.keep k hk))⟩
 ·intro he q ad' a' w' hq hR hx
  simp only [if_pos he] at hA
  obtain ⟨i1, i2⟩ := BB hz (oy.1.eval F ρ)
  cases hlx : lk (oy.1.eval F ρ) (drop .nrm ox.2) with
  | none => grind
  | some s =>
    obtain ⟨q', h1, h2⟩ := i1 s hlx
    rcases h2 with ⟨h2, _⟩ | ⟨s', h2, h3⟩
    ·rw [h2] at hq; cases hq
    ·rw [h2] at hq
     simp only [oJ] at hq
     subst hq
     obtain ⟨k1, _, k3⟩ := BU (F := F) (ρ := ρ) (w0 := w0) (M0 := M0) (Im0 := Im0) h3
     refine hA q' ad' a' w' h1 (k3 ad' a' w' (DT.is_false ?_) hR) ⟨hx.same, fun k hk => k1 k (Or.inr (hx.keep k hk))⟩
     grind [H3]
theorem After.br {m0 : Mem} {c : E} {ox oy o : Out} (h : Qt c ox oy = some o) {Q : Exit -> Act -> World -> Prop} (hA : After F ρ w0 M0 Im0 ad m0 o Q) :
 (c.tt F ρ = true -> After F ρ w0 M0 Im0 ad m0 ox Q) /\ (c.tt F ρ = false -> After F ρ w0 M0 Im0 ad m0 oy Q) := by
 unfold Qt at h
 split at h
 ·obtain ⟨z, hz, rfl⟩ := Option.map_eq_some_iff.1 h
  unfold After at *
  simp only [DT.eval] at hA
  constructor
  ·intro ht q ad' a' w' hq hR hx
   simp only [ht, cond_true] at hA
   obtain ⟨i1, _⟩ := BB hz (ox.1.eval F ρ)
   obtain ⟨q', h1, h2⟩ := i1 q hq
   rcases h2 with ⟨_, rfl⟩ | ⟨s', _, h3⟩
   ·grind
   ·obtain ⟨k1, k2, _⟩ := BU (F := F) (ρ := ρ) (w0 := w0) (M0 := M0) (Im0 := Im0) h3
    exact hA q' ad' a' w' h1 (k2 ad' a' w' ht hR) ⟨hx.same, fun k hk => k1 k (Or.inl (hx.keep k hk))⟩
  ·intro ht q ad' a' w' hq hR hx
   simp only [ht, cond_false] at hA
   obtain ⟨i1, i2⟩ := BB hz (oy.1.eval F ρ)
   cases hlx : lk (oy.1.eval F ρ) ox.2 with
   | none => grind
   | some s =>
     obtain ⟨q', h1, h2⟩ := i1 s hlx
     rcases h2 with ⟨h2, _⟩ | ⟨s', h2, h3⟩
     ·rw [h2] at hq; cases hq
     ·rw [h2] at hq
      simp only [oJ] at hq
      subst hq
      obtain ⟨k1, _, k3⟩ := BU (F := F) (ρ := ρ) (w0 := w0) (M0 := M0) (Im0 := Im0) h3
      exact hA q' ad' a' w' h1 (k3 ad' a' w' ht hR) ⟨hx.same, fun k hk => k1 k (Or.inr (hx.keep k hk))⟩
 ·cases h
theorem Hf {id : Nat} {l : Lab} (h : l ≠ .ex id) {Q : Exit -> Act -> World -> Prop} {a : Act} {w : World} (hq : Q l.exit a w) : Exit.inBlock id Q l.exit a w := by
 cases l with
 | nrm => exact hq
 | ret => exact hq
 | ex k =>
   have : k ≠ id := fun e => h (by rw [e])
   simp only [Lab.exit, Exit.inBlock, if_neg this]
   exact hq
theorem After.rel {m0 : Mem} {id : Nat} {o' o : Out} (h : NL id o' = some o) {Q : Exit -> Act -> World -> Prop} (hA : After F ρ w0 M0 Im0 ad m0 o Q) : After F ρ w0 M0 Im0 ad m0 o' (Exit.inBlock id Q) := by
 unfold NL at h
 intro q ad' a' w' hq hR hx
 unfold After at hA
 split at h
 ·grind [He, DT.eval, Hf]
 ·rename_i s h1 h2
  simp only [oJ] at h; subst h
  simp only [He] at hA
  by_cases he : o'.1.eval F ρ = .ex id
  ·simp only [if_pos he] at hA
   rw [he] at hq ⊢
   rw [h1] at hq
   simp only [oJ] at hq
   subst hq
   simp only [Lab.exit, Exit.inBlock, if_true]
   exact hA s ad' a' w' (by simp [lk]) hR hx
  grind [DT.eval, Hf, lk, Co]
 ·rename_i s s' h1 h2
  split at h
  ·rename_i q0 h3
   simp only [oJ] at h; subst h
   simp only [He] at hA
   obtain ⟨k1, k2, k3⟩ := BU (F := F) (ρ := ρ) (w0 := w0) (M0 := M0) (Im0 := Im0) h3
   by_cases he : o'.1.eval F ρ = .ex id
   ·simp only [if_pos he] at hA
    rw [he] at hq ⊢
    rw [h1] at hq
    simp only [oJ] at hq
    subst hq
    simp only [Lab.exit, Exit.inBlock, if_true]
    exact hA q0 ad' a' w' (by simp [lk]) (k2 ad' a' w' (DT.is_true he) hR) ⟨hx.same, fun k hk => k1 k (Or.inl (hx.keep k hk))⟩
   ·simp only [if_neg he] at hA
    by_cases hn : o'.1.eval F ρ = .nrm
    ·rw [hn] at hq hA ⊢
     rw [h2] at hq
     simp only [oJ] at hq
     subst hq
     exact hA q0 ad' a' w' (by simp [lk]) (k3 ad' a' w' (DT.is_false (by omega)) hR) ⟨hx.same, fun k hk => k1 k (Or.inr (hx.keep k hk))⟩
    grind [Hf, lk, Co]
  ·cases h
end
def namesV : SV -> List Nat
 | .ls n _ => [n]
 | .sv n _ _ _ _ => [n]
 | .sl n _ _ _ => [n]
 | .ite _ a b => namesV a ++ namesV b
 | _ => []
def fpX (nm : Nat) : X -> List Nat × List Nat
 | .old (.ld n ..) | .old (.ldi n ..) => ([n], [])
 | .old (.st n ..) | .old (.sti n ..) => ([n], [n])
 | .old (.new ..) => ([], [nm])
 | .old _ => ([], [])
 | .len x => (namesV x, [])
 | .lde n .. => ([n], [])
 | .ste n .. => ([n], [n])
 | .app _ _ _ x y => (namesV x ++ namesV y, namesV x ++ [nm])
 | .sub _ _ x _ _ => (namesV x, namesV x ++ [nm])
 | .mk .. => ([], [nm])
 | .bl .. => ([], [nm])
 | .mnew _ => ([], [nm])
 | .mlk _ n _ _ => ([n], [])
 | .mup _ n _ _ => ([n], [n])
 | .mdl _ _ _ n _ => ([n], [n])
 | .mln _ _ n => ([n], [])
 | .vix _ n .. => ([n], [])
 | .clr _ _ _ n _ => ([n], [n])
 | .lds n .. => ([n], [])
 | .sts n .. => ([n], [n])
 | .ldl n .. => ([n], [nm])
 | .stl n _ _ _ x => (n :: namesV x, n :: namesV x)
 | .mkl .. => ([], [nm])
 | .gsl .. => ([], [nm])
def fpC (e : Ent) (m : Mem) (nm : Nat) (args : List SV) : List Nat × List Nat :=
 match Sh.getL m e.ps [] args with
 | some (_, srcs, _) => (srcs.flatMap Src.ns, ((mutJ e.pgen.2).filter fun j => !e.kp.contains j).flatMap (srcOf srcs) ++ (List.range (Sh.nnL e.outL)).map fun i => nm + i)
 | none => ([], [])
def Agree (l : List Nat) (m m2 : Mem) : Prop := ∀ n ∈ l, m2.at n = m.at n
section
variable {P : Program} {G : Glob} {m m2 m' : Mem}
theorem Agree.left {a b : List Nat} (h : Agree (a ++ b) m m2) : Agree a m m2 := fun n hn => h n (List.mem_append_left _ hn)
theorem Agree.right {a b : List Nat} (h : Agree (a ++ b) m m2) : Agree b m m2 := fun n hn => h n (List.mem_append_right _ hn)
theorem AQ {ty : Nat} {row : Row} : ∀ {v : SV} {V : LV}, Ag m ty row v = some V -> Agree (namesV v) m m2 -> Ag m2 ty row v = some V /\ ∀ n ∈ V.ns, n ∈ namesV v
 | .ls n le, V, h, ha => by
   have := ha n (by simp [namesV])
   grind [Ag, namesV]
 | .sv n str l0 lo hi, V, h, ha => by
   have := ha n (by simp [namesV])
   grind [Ag, namesV]
 | .nilp c, V, h, ha => by
   grind [Ag]
 | .ite p a b, V, h, ha => by
   simp only [Ag] at h ⊢
   split at h
   ·rename_i x y hx hy
    obtain ⟨i1, i2⟩ := AQ hx (Agree.left (b := namesV b) ha)
    obtain ⟨j1, j2⟩ := AQ hy (Agree.right (a := namesV a) ha)
    grind [namesV]
   ·cases h
 | .sc _, V, h, _ | .ptr .., V, h, _ | .pi .., V, h, _ | .sl .., V, h, _ | .pe .., V, h, _ | .mp .., V, h, _ | .oq .., V, h, _ | .fn .., V, h, _ | .agg .., V, h, _ | .tup .., V, h, _ | .gd .., V, h, _ | .und, V, h, _ | .gl .., V, h, _ => by simp [Ag] at h
theorem E8 : ∀ {v : SV}, Agree (namesV v) m m2 -> tyL m2 v = tyL m v
 | .ls n le, ha => by simp only [tyL, ha n (by simp [namesV])]
 | .sv n str l0 lo hi, ha => by simp only [tyL, ha n (by simp [namesV])]
 | .nilp c, ha => by cases c <;> rfl
 | .ite p a b, ha => by simp only [tyL, E8 (v := a) (Agree.left (b := namesV b) ha), E8 (v := b) (Agree.right (a := namesV a) ha)]
 | .sc _, _ | .ptr .., _ | .pi .., _ | .sl .., _ | .pe .., _ | .mp .., _ | .oq .., _ | .fn .., _ | .agg .., _ | .tup .., _ | .gd .., _ | .und, _ | .gl .., _ => rfl
theorem VR (m : Mem) (n k : Nat) (x : Option (E × Blk)) (hl : k < m.length) : Mem.at (List.set m k x) n = if n = k then x else m.at n := by
 grind [Mem.at_set_same, Mem.at_set_other]
theorem Ap (k : Nat) (x : Option (E × Blk)) (hl : m2.length = m.length) {n : Nat} (h : m2.at n = m.at n) : Mem.at (List.set m2 k x) n = Mem.at (List.set m k x) n := by
 by_cases hk : k < m.length
 ·grind [VR]
 ·rw [List.set_eq_of_length_le (by omega), List.set_eq_of_length_le (by omega), h]
theorem Jv (k : Nat) (hl : m2.length = m.length) (hk : m2.at k = m.at k) {n : Nat} (h : m2.at n = m.at n) : (Ct m2 k).at n = (Ct m k).at n := by
 grind [Ct, Mem.at, Ap]
theorem F7 : ∀ (ks : List Nat) {m m2 : Mem}, m2.length = m.length -> Agree ks m m2 -> ∀ n, m2.at n = m.at n -> (AJ m2 ks).at n = (AJ m ks).at n
 | [], m, m2, _, _, n, h => h
 | k :: r, m, m2, hl, ha, n, h => by
   have hk := ha k (List.mem_cons_self ..)
   exact F7 r (by grind [Mc]) (fun q hq => Jv k hl hk (ha q (List.mem_cons_of_mem _ hq))) n (Jv k hl hk h)
theorem O5 {k n : Nat} (h : n ≠ k) : (Ct m k).at n = m.at n := by
 grind [Ct, Mem.at_set_other]
theorem F8 : ∀ (ks : List Nat) {m : Mem} {n : Nat}, n ∉ ks -> (AJ m ks).at n = m.at n
 | [], _, _, _ => rfl
 | k :: r, m, n, h => by
   simp only [List.mem_cons, not_or] at h
   exact (F8 r h.2).trans (O5 h.1)
theorem H4 (k : Nat) (hl : m2.length = m.length) (hk : m2.at k = m.at k) {n : Nat} (h : m2.at n = m.at n) : (Bv m2 k).at n = (Bv m k).at n := by
 grind [Bv, Ap]
theorem Ky (m : Mem) (n : Nat) : (Bv m n).length = m.length := by grind [Bv]
theorem Cj : ∀ (ns : List Nat) (m : Mem), (shareL m ns).length = m.length
 | [], _ => rfl
 | n :: r, m => (Cj r (Bv m n)).trans (Ky m n)
theorem Ft : ∀ (ks : List Nat) {m m2 : Mem}, m2.length = m.length -> Agree ks m m2 -> ∀ n, m2.at n = m.at n -> (shareL m2 ks).at n = (shareL m ks).at n
 | [], m, m2, _, _, n, h => h
 | k :: r, m, m2, hl, ha, n, h => by
   have hk := ha k (List.mem_cons_self ..)
   exact Ft r (by grind [Ky]) (fun q hq => H4 k hl hk (ha q (List.mem_cons_of_mem _ hq))) n (H4 k hl hk h)
theorem NM {k n : Nat} (h : n ≠ k) : (Bv m k).at n = m.at n := by
 grind [Bv, Mem.at_set_other]
theorem CE : ∀ (ks : List Nat) {m : Mem} {n : Nat}, n ∉ ks -> (shareL m ks).at n = m.at n
 | [], _, _, _ => rfl
 | k :: r, m, n, h => by
   simp only [List.mem_cons, not_or] at h
   exact (CE r h.2).trans (NM h.1)
theorem F9 : ∀ (l : List (Nat × E × Blk)) {m m2 : Mem}, m2.length = m.length -> ∀ n, m2.at n = m.at n -> (AX m2 l).at n = (AX m l).at n
 | [], m, m2, _, n, h => h
 | (k, g, b) :: r, m, m2, hl, n, h => F9 r (by simpa using hl) n (Ap k _ hl h)
theorem Ga : ∀ (l : List (Nat × E × Blk)) {m : Mem} {n : Nat}, (∀ y ∈ l, y.1 ≠ n) -> (AX m l).at n = m.at n
 | [], _, _, _ => rfl
 | (k, g, b) :: r, m, n, h => by
   have h0 := h _ (List.mem_cons_self ..)
   exact (Ga r fun y hy => h y (List.mem_cons_of_mem _ hy)).trans (Mem.at_set_other h0 _)
structure Loc (f : Mem -> Option (E × SV × Mem)) (m : Mem) (fp : List Nat × List Nat) (g : E) (v : SV) (m' : Mem) : Prop where
 len : m'.length = m.length
 frame : ∀ n, n ∉ fp.2 -> m'.at n = m.at n
 loc : ∀ m2, m2.length = m.length -> Agree (fp.1 ++ fp.2) m m2 -> ∃ m2', f m2 = some (g, v, m2') /\ m2'.length = m2.length /\ (∀ n ∈ fp.2, m2'.at n = m'.at n) /\ ∀ n, n ∉ fp.2 -> m2'.at n = m2.at n
theorem Loc.read {f : Mem -> Option (E × SV × Mem)} {g : E} {v : SV} {R : List Nat} (h : ∀ m2, m2.length = m.length -> Agree R m m2 -> f m2 = some (g, v, m2)) : Loc f m (R, []) g v m :=
 ⟨rfl, fun _ _ => rfl, fun m2 hl ha => ⟨m2, h m2 hl (by simpa using ha), rfl, fun n hn => by simp at hn, fun _ _ => rfl⟩⟩
theorem BQ {n : Nat} (h : m2.at n = m.at n) : blkC m2 n = blkC m n := by simp only [blkC, h]
theorem SM {d : D} {nm : Nat} {g : E} {v : SV} (h : apply G m nm d = some (g, v, m')) : Loc (fun m => apply G m nm d) m (fpX nm (.old d)) g v m' := by
 cases d with
 | val u =>
   simp only [apply, oJ, pJ] at h
   obtain ⟨rfl, rfl, rfl⟩ := h
   exact Loc.read fun m2 _ _ => rfl
 | ld n off sz ag =>
   simp only [apply] at h
   have hm : m' = m := by
    split at h
    ·obtain ⟨u, _, h2⟩ := Option.map_eq_some_iff.1 h; simp_all
    ·cases h
   subst hm
   refine Loc.read fun m2 _ ha => ?_
   simp only [apply, BQ (ha n (by simp))]
   split at h
   ·simp_all
   ·cases h
 | ldi n off str cnt e sz ag =>
   simp only [apply] at h
   have hm : m' = m := by
    split at h
    ·split at h
     ·obtain ⟨u, _, h2⟩ := Option.map_eq_some_iff.1 h; simp_all
     ·cases h
    ·cases h
   subst hm
   refine Loc.read fun m2 _ ha => ?_
   simp only [apply, BQ (ha n (by simp))]
   split at h
   ·simp_all
   ·cases h
 | ldg b off sz ag =>
   cases ag <;> simp only [apply, cond_true, cond_false] at h <;> obtain ⟨u, h1, h2⟩ := Option.map_eq_some_iff.1 h <;> simp only [pJ] at h2 <;> obtain ⟨rfl, rfl, rfl⟩ := h2 <;>
    exact Loc.read fun m2 _ _ => by simp [apply, h1]
 | st n off vs =>
   simp only [apply] at h
   split at h
   ·rename_i g' ty cs hb
    obtain ⟨u, h1, h2⟩ := Option.map_eq_some_iff.1 h
    simp only [pJ] at h2
    obtain ⟨rfl, rfl, rfl⟩ := h2
    have hl := Mem.at_lt (Br hb).1
    refine ⟨by simp, fun k hk => Mem.at_set_other (fun e => hk (by simp [fpX, e])) _, fun m2 hl2 ha => ⟨m2.set n (some (g', .cells ty u)), ?_, by simp, fun k hk => ?_, fun k hk => Mem.at_set_other (fun e => hk (by simp [fpX, e])) _⟩⟩
    ·simp only [apply, BQ (ha n (by simp [fpX])), hb, h1, Option.map_some]
    ·exact Ap n _ hl2 (ha k (by simp_all))
   ·cases h
 | sti n off str cnt e vs =>
   simp only [apply] at h
   split at h
   ·rename_i g' ty cs hb
    split at h
    ·rename_i hc
     obtain ⟨u, h1, h2⟩ := Option.map_eq_some_iff.1 h
     simp only [pJ] at h2
     obtain ⟨rfl, rfl, rfl⟩ := h2
     refine ⟨by simp, fun k hk => Mem.at_set_other (fun e => hk (by simp [fpX, e])) _, fun m2 hl2 ha => ⟨m2.set n (some (g', .cells ty u)), ?_, by simp, fun k hk => ?_, fun k hk => Mem.at_set_other (fun e => hk (by simp [fpX, e])) _⟩⟩
     ·simp only [apply, BQ (ha n (by simp [fpX])), hb, h1, Option.map_some, if_pos hc]
     ·exact Ap n _ hl2 (ha k (by simp_all))
    ·cases h
   ·cases h
 | new ty cs sl =>
   simp only [apply] at h
   split at h
   ·rename_i hc
    simp only [oJ, pJ] at h
    obtain ⟨rfl, rfl, rfl⟩ := h
    refine ⟨by simp, fun k hk => Mem.at_set_other (fun e => hk (by simp [fpX, e])) _, fun m2 hl2 ha => ⟨m2.set nm (some (mkB true, .cells ty cs)), ?_, by simp, fun k hk => ?_, fun k hk => Mem.at_set_other (fun e => hk (by simp [fpX, e])) _⟩⟩
    ·have hn := ha nm (by simp [fpX])
     grind [apply]
    ·exact Ap nm _ hl2 (ha k (by simp_all))
   ·cases h
 | call f args => simp [apply] at h
theorem Dy {n : Nat} (h : m2.at n = m.at n) : EM m2 n = EM m n := by simp only [EM, h]
theorem H5 {n off str sz : Nat} {e : E} {ag : Bool} {g : E} {v : SV} (h : EN m n off str e sz ag = some (g, v, m')) : m' = m /\ ∀ m2 : Mem, m2.at n = m.at n -> EN m2 n off str e sz ag = some (g, v, m2) := by
 unfold EN at h
 split at h
 ·rename_i g' ty cs ks c hs
  split at h
  ·rename_i hc
   obtain ⟨u, h1, h2⟩ := Option.map_eq_some_iff.1 h
   grind [EN, Dy]
  ·cases h
 ·cases h
theorem H6 {n off str : Nat} {e : E} {vs : List SV} {g : E} {v : SV} (h : EO m n off str e vs = some (g, v, m')) : ∃ z, m' = m.set n (some z) /\ ∀ m2 : Mem, m2.at n = m.at n -> EO m2 n off str e vs = some (g, v, m2.set n (some z)) := by
 unfold EO at h
 grind [EO, Dy]
theorem Loc.turn {f : Mem -> Option (E × SV × Mem)} {n : Nat} {g : E} {v : SV} {z : E × Blk} (h : ∀ m2 : Mem, m2.at n = m.at n -> f m2 = some (g, v, m2.set n (some z))) : Loc f m ([n], [n]) g v (m.set n (some z)) :=
 ⟨by simp, fun k hk => Mem.at_set_other (fun e => hk (by simp [e])) _, fun m2 hl2 ha => ⟨m2.set n (some z), h m2 (ha n (by simp)), by simp, fun k hk => Ap n _ hl2 (ha k (by simp_all)), fun k hk => Mem.at_set_other (fun e => hk (by simp [e])) _⟩⟩
theorem Qu {d : D} {nm : Nat} {g : E} {v : SV} (h : Bq m d = some (g, v, m')) : Loc (fun m => Bq m d) m (fpX nm (.old d)) g v m' := by
 cases d with
 | ld n off sz ag =>
   simp only [Bq] at h
   split at h
   ·rename_i g' ty cs ks c hs
    split at h
    ·rename_i hc
     obtain ⟨u, h1, h2⟩ := Option.map_eq_some_iff.1 h
     simp only [pJ] at h2
     obtain ⟨rfl, rfl, rfl⟩ := h2
     exact Loc.read fun m2 _ ha => by simp only [Bq, Dy (ha n (by simp)), hs, if_pos hc, h1, Option.map_some]
    ·rename_i hc
     obtain ⟨rfl, h2⟩ := H5 h
     exact Loc.read fun m2 _ ha => by simp only [Bq, Dy (ha n (by simp)), hs, if_neg hc]; exact h2 m2 (ha n (by simp))
   ·cases h
 | ldi n off str cnt e sz ag =>
   obtain ⟨rfl, h2⟩ := H5 h
   exact Loc.read fun m2 _ ha => h2 m2 (ha n (by simp))
 | st n off vs =>
   simp only [Bq] at h
   split at h
   ·rename_i g' ty cs ks c hs
    split at h
    ·rename_i hc
     obtain ⟨u, h1, h2⟩ := Option.map_eq_some_iff.1 h
     simp only [pJ] at h2
     obtain ⟨rfl, rfl, rfl⟩ := h2
     exact Loc.turn fun m2 ha => by grind [Bq, Dy]
    ·rename_i hc
     obtain ⟨z, rfl, h2⟩ := H6 h
     exact Loc.turn fun m2 ha => by grind [Bq, Dy]
   ·cases h
 | sti n off str cnt e vs =>
   obtain ⟨z, rfl, h2⟩ := H6 h
   exact Loc.turn fun m2 ha => h2 m2 ha
 | _ => simp [Bq] at h
theorem Qv {d : D} {nm : Nat} (h : apply G m nm d = none) (hg : (Bq m d).isSome = true) {m2 : Mem} (hl : m2.length = m.length) (ha : Agree ((fpX nm (.old d)).1 ++ (fpX nm (.old d)).2) m m2) : apply G m2 nm d = none := by
 cases d with
 | ld n off sz ag => simp only [apply, BQ (ha n (by simp [fpX]))] at h ⊢; split at h <;> simp_all
 | ldi n off str cnt e sz ag => simp only [apply, BQ (ha n (by simp [fpX]))] at h ⊢; split at h <;> simp_all
 | st n off vs =>
   simp only [apply, BQ (ha n (by simp [fpX]))] at h ⊢
   grind [wrC]
 | sti n off str cnt e vs =>
   simp only [apply, BQ (ha n (by simp [fpX]))] at h ⊢
   split at h
   ·simp_all
   ·rfl
 | _ => simp [Bq] at hg
theorem H7 {t n : Nat} {key : SV} (h : m2.at n = m.at n) : DS P m2 t n key = DS P m t n key := by simp only [DS, h]
theorem AY {x : X} {nm : Nat} {g : E} {v : SV} (h : Ao P m nm x = some (g, v, m')) : Loc (fun m => Ao P m nm x) m (fpX nm x) g v m' := by
 cases x with
 | mnew t =>
   simp only [Ao] at h
   split at h
   ·rename_i k vs ag hm
    split at h
    ·rename_i hc
     simp only [oJ, pJ] at h
     obtain ⟨rfl, rfl, rfl⟩ := h
     refine ⟨by simp, fun k hk => Mem.at_set_other (fun e => hk (by simp [fpX, e])) _, fun m2 hl2 ha => ⟨m2.set nm (some (mkB true, .mp [.i k] vs false ag NILL)), ?_, by simp, fun k hk => Ap (m2 := m2) nm _ hl2 (ha k (by simp_all)), fun k hk => Mem.at_set_other (fun e => hk (by simp [fpX, e])) _⟩⟩
     simp only [Ao, hm]
     rw [if_pos ⟨by rw [hl2]; exact hc.1, by rw [ha nm (by simp [fpX])]; exact hc.2⟩]
    ·cases h
   ·cases h
 | mlk t n key ok =>
   simp only [Ao] at h
   split at h
   ·rename_i g' k vs ag c e hm
    simp only [oJ, pJ] at h
    obtain ⟨rfl, rfl, rfl⟩ := h
    exact Loc.read fun m2 _ ha => by simp only [Ao, H7 (ha n (by simp)), hm]
   ·cases h
 | mup t n key val =>
   simp only [Ao] at h
   split at h
   ·rename_i g' k vs ag c e hm
    split at h
    ·rename_i es hs
     split at h
     ·rename_i hc
      simp only [oJ, pJ] at h
      obtain ⟨rfl, rfl, rfl⟩ := h
      exact Loc.turn fun m2 ha => by grind [Ao, H7]
     ·cases h
    ·cases h
   ·cases h
 | mdl t kt ty n key =>
   simp only [Ao] at h
   split at h
   ·rename_i g' k vs ag c e hm
    simp only [oJ, pJ] at h
    obtain ⟨rfl, rfl, rfl⟩ := h
    exact Loc.turn fun m2 ha => by grind [Ao, H7]
   ·cases h
 | mln t ty n =>
   simp only [Ao] at h
   split at h
   ·rename_i g' ks vs kag vag c hn
    split at h
    ·rename_i hc
     simp only [oJ, pJ] at h
     obtain ⟨rfl, rfl, rfl⟩ := h
     exact Loc.read fun m2 _ ha => by simp only [Ao, ha n (by simp), hn, if_pos hc]
    ·cases h
   ·cases h
 | vix t n str l0 lo hi i =>
   simp only [Ao] at h
   split at h
   ·rename_i g' ty row own le c hn
    split at h
    ·rename_i V hV
     split at h
     ·rename_i hc
      simp only [oJ, pJ] at h
      obtain ⟨rfl, rfl, rfl⟩ := h
      exact Loc.read fun m2 _ ha => by
       have hv := (AQ (m2 := m2) hV fun k hk => ha k (by grind [namesV])).1
       simp only [Ao, ha n (by simp), hn, hv, if_pos hc]
     ·cases h
    ·cases h
   ·cases h
 | clr t ty e n le =>
   simp only [Ao] at h
   split at h
   ·rename_i g' e' row le' c hn
    split at h
    ·rename_i ks hr
     split at h
     ·rename_i hc
      simp only [oJ, pJ] at h
      obtain ⟨rfl, rfl, rfl⟩ := h
      exact Loc.turn fun m2 ha => by grind [Ao]
     ·cases h
    ·cases h
   ·cases h
 | lds n off str e sz ag =>
   obtain ⟨rfl, h2⟩ := H5 h
   exact Loc.read fun m2 _ ha => h2 m2 (ha n (by simp))
 | sts n off str e vs =>
   obtain ⟨z, rfl, h2⟩ := H6 h
   exact Loc.turn fun m2 ha => h2 m2 ha
 | ldl n str i o =>
   simp only [Ao] at h
   split at h
   ·rename_i g' ty0 ty q own le c hn
    split at h
    ·rename_i hc
     simp only [oJ, pJ] at h
     obtain ⟨rfl, rfl, rfl⟩ := h
     refine ⟨by simp, fun k hk => Mem.at_set_other (fun e => hk (by simp [fpX, e])) _, fun m2 hl2 ha => ⟨m2.set nm (some (mkB true, .lst ty q false (LEN (CEL .x c i 0)) (CEL .x c i 0))), ?_, by simp, fun k hk => Ap (m2 := m2) nm _ hl2 (ha k (by simp_all)), fun k hk => Mem.at_set_other (fun e => hk (by simp [fpX, e])) _⟩⟩
     simp only [Ao, ha n (by simp [fpX]), hn]
     rw [if_pos ⟨hc.1, hc.2.1, hc.2.2.1, by omega, by rw [ha nm (by simp [fpX])]; exact hc.2.2.2.2⟩]
    ·cases h
   ·cases h
 | stl n str i o y =>
   simp only [Ao] at h
   split at h
   ·rename_i g0 ty0 ty' q own0 le0 c0 hn0
    split at h
    ·rename_i V0 hV0
     split at h
     ·rename_i g' ty ty2 q2 le c V hn hV
      split at h
      ·rename_i hc
       simp only [oJ, pJ] at h
       obtain ⟨rfl, rfl, rfl⟩ := h
       have hV0n := (AQ (m2 := m) hV0 fun _ _ => rfl).2
       refine ⟨by simp [Cj], fun k hk => ?_, fun m2 hl2 ha => ?_⟩
       ·grind [fpX, Mem.at_set_other, CE]
       ·have hAg : ∀ k, k ∈ n :: namesV y -> (shareL m2 V0.ns).at k = (shareL m V0.ns).at k := fun k hk => Ft V0.ns hl2 (fun j hj => ha j (by simp [fpX, hV0n j hj])) k (ha k (by grind [fpX]))
        have v0 := (AQ (m2 := m2) hV0 fun k hk => ha k (by simp [fpX, hk])).1
        have v1 := (AQ (m2 := shareL m2 V0.ns) hV fun k hk => hAg k (by simp [hk])).1
        refine ⟨(shareL m2 V0.ns).set n (some (g', .lst ty (.ls ty' q .nil) true le (.app .x 0 6 [c, i, .lit .x (0 : Nat), V.c]))), ?_, by simp [Cj], fun k hk => ?_, fun k hk => ?_⟩
        ·simp only [Ao, ha n (by simp [fpX]), hn0, v0, v1, hAg n (by simp), hn]
         rw [if_pos hc]
        ·exact Ap n _ (by grind [Cj]) (hAg k hk)
        grind [fpX, Mem.at_set_other, CE]
      ·cases h
     ·cases h
    ·cases h
   ·cases h
 | mkl t e n c =>
   simp only [Ao] at h
   split at h
   ·rename_i ty' size bytes he hi
    split at h
    ·rename_i ks hks
     split at h
     ·rename_i hc
      simp only [oJ, pJ] at h
      obtain ⟨rfl, rfl, rfl⟩ := h
      refine ⟨by simp, fun k hk => Mem.at_set_other (fun e => hk (by simp [fpX, e])) _, fun m2 hl2 ha => ⟨m2.set nm (some (mkB true, .lst e (.ls ty' (Row.ofKs ks) .nil) true (LEN (.app .x 0 7 [n, NILL])) (.app .x 0 7 [n, NILL]))), ?_, by simp, fun k hk => Ap (m2 := m2) nm _ hl2 (ha k (by simp_all)), fun k hk => Mem.at_set_other (fun e => hk (by simp [fpX, e])) _⟩⟩
      simp only [Ao, he, hi, hks]
      rw [if_pos ⟨hc.1, hc.2.1, hc.2.2.1, hc.2.2.2.1, hc.2.2.2.2.1, by omega, by rw [ha nm (by simp [fpX])]; exact hc.2.2.2.2.2.2⟩]
     ·cases h
    ·cases h
   ·cases h
 | _ => simp [Ao] at h
theorem NO {t e : Nat} {x : SV} {lo hi : Option E} {g : E} {v : SV} (h : subV P m t e x lo hi = some (g, v, m')) : m' = m /\ ∀ m2 : Mem, Agree (namesV x) m m2 -> subV P m2 t e x lo hi = some (g, v, m2) := by
 unfold subV at h
 split at h
 ·rename_i n le
  split at h
  ·rename_i g' ty row le' c hn
   simp only at h
   split at h
   ·rename_i hc
    simp only [oJ, pJ] at h
    obtain ⟨rfl, rfl, rfl⟩ := h
    exact ⟨rfl, fun m2 ha => by simp only [subV, ha n (by simp [namesV]), hn, if_pos hc]⟩
   ·cases h
  ·cases h
 ·cases h
theorem SN {t e : Nat} {x : SV} {lo hi : Option E} (h : subV P m t e x lo hi = none) {m2 : Mem} (ha : Agree (namesV x) m m2) : subV P m2 t e x lo hi = none := by
 cases x with
 | ls n le => unfold subV at h ⊢; simp only [ha n (by simp [namesV])] at h ⊢; split at h <;> simp_all
 | _ => rfl
theorem Qw {x : X} {nm : Nat} {g : E} {v : SV} (h : applyX P G m nm x = some (g, v, m')) : Loc (fun m => applyX P G m nm x) m (fpX nm x) g v m' := by
 cases x with
 | old d =>
   simp only [applyX] at h
   cases ha : apply G m nm d with
   | some r =>
     rw [ha] at h
     simp only [oJ] at h; subst h
     have hL := SM ha
     refine ⟨hL.len, hL.frame, fun m2 hl hag => ?_⟩
     grind [Loc.loc, applyX]
   | none =>
     rw [ha] at h
     simp only at h
     have hL := Qu (nm := nm) h
     refine ⟨hL.len, hL.frame, fun m2 hl hag => ?_⟩
     grind [Loc.loc, applyX, Qv]
 | len x =>
   have key : ∀ {ty row}, (Ag m ty row x).map (fun V => (V.g, SV.sc V.le, m)) = some (g, v, m') -> m' = m /\ ∀ m2, Agree (namesV x) m m2 -> (Ag m2 ty row x).map (fun V => (V.g, SV.sc V.le, m2)) = some (g, v, m2) := fun {ty row} h => by
    obtain ⟨V, hV, he⟩ := Option.map_eq_some_iff.1 h
    grind [AQ]
   simp only [applyX] at h
   split at h
   ·rename_i ty row ht
    obtain ⟨rfl, k⟩ := key h
    exact Loc.read fun m2 _ ha => by grind [applyX, E8]
   ·rename_i ht
    obtain ⟨rfl, k⟩ := key h
    exact Loc.read fun m2 _ ha => by grind [applyX, E8]
 | lde n str i o sz ag =>
   simp only [applyX] at h
   have hm : m' = m := by
    split at h
    ·split at h
     ·split at h
      ·obtain ⟨u, _, h2⟩ := Option.map_eq_some_iff.1 h; simp_all
      grind
     ·cases h
    ·cases h
   subst hm
   refine Loc.read fun m2 _ ha => ?_
   split at h
   ·rename_i g' ty row own le c hn
    split at h
    ·rename_i ks hr
     split at h
     ·rename_i hc
      obtain ⟨u, h1, h2⟩ := Option.map_eq_some_iff.1 h
      simp only [pJ] at h2
      obtain ⟨rfl, rfl, _⟩ := h2
      simp only [applyX, ha n (by simp), hn, hr]
      simp_all
     ·rename_i hc0
      split at h
      ·rename_i q e hs
       split at h
       ·rename_i hc
        simp only [oJ, pJ] at h
        obtain ⟨rfl, rfl, _⟩ := h
        simp only [applyX, ha n (by simp), hn, hr]
        simp_all
       ·cases h
      ·cases h
    ·cases h
   ·cases h
 | ste n str i o cs =>
   simp only [applyX] at h
   split at h
   ·rename_i g' ty row le c hn
    split at h
    ·rename_i ks hr
     split at h
     ·rename_i es he
      split at h
      ·rename_i hc
       simp only [oJ, pJ] at h
       obtain ⟨rfl, rfl, rfl⟩ := h
       refine ⟨by simp, fun k hk => Mem.at_set_other (fun e => hk (by simp [fpX, e])) _, fun m2 hl2 ha => ⟨m2.set n (some (g', .lst ty row true le (.app .x 0 6 (c :: i :: .lit .x o :: es)))), ?_, by simp, fun k hk => ?_, fun k hk => Mem.at_set_other (fun e => hk (by simp [fpX, e])) _⟩⟩
       ·simp only [applyX, ha n (by simp [fpX]), hn, hr, he, if_pos hc]
       ·exact Ap n _ hl2 (ha k (by simp_all))
      ·cases h
     ·cases h
    ·cases h
   ·cases h
 | app t e rt x y =>
   simp only [applyX] at h
   split at h
   ·rename_i ks hks
    split at h
    ·rename_i V size bytes hV hi
     split at h
     ·rename_i hc
      have hc' := hc
      obtain ⟨rfl, ho, ht, hn1, hn2⟩ := hc
      have put : ∀ (z : E × Blk) (m2 : Mem), m2.length = m.length -> Agree (namesV x ++ namesV y ++ (namesV x ++ [nm])) m m2 -> ((AJ m2 V.ns).set nm (some z)).length = m2.length /\ (∀ n ∈ namesV x ++ [nm], Mem.at ((AJ m2 V.ns).set nm (some z)) n = Mem.at ((AJ m V.ns).set nm (some z)) n) := fun z m2 hl ha => by
       refine ⟨by simp [AD], fun n hn => ?_⟩
       have hVn := (AQ (m2 := m) hV fun _ _ => rfl).2
       exact Ap nm _ (by grind [AD]) (F7 V.ns hl (fun k hk => ha k (by simp [hVn k hk])) n (ha n (by simp_all)))
      have frm : ∀ (z : E × Blk) (m2 : Mem) n, n ∉ namesV x ++ [nm] -> Mem.at ((AJ m2 V.ns).set nm (some z)) n = m2.at n := fun z m2 n hn => by
       simp only [List.mem_append, List.mem_singleton, not_or] at hn
       have hVn := (AQ (m2 := m) hV fun _ _ => rfl).2
       grind [Mem.at_set_other, F8]
      have pre : ∀ m2 : Mem, m2.length = m.length -> Agree (namesV x ++ namesV y ++ (namesV x ++ [nm])) m m2 -> tyL m2 x = tyL m x /\ Ag m2 e (Row.ofKs ks) x = some V /\ m2.at nm = m.at nm := fun m2 hl ha =>
       ⟨E8 fun n hn => ha n (by simp [hn]), (AQ hV fun n hn => ha n (by simp [hn])).1, ha nm (by simp)⟩
      split at h
      ·rename_i n2 len cp
       split at h
       ·rename_i g2 ty2 cs hb
        split at h
        ·rename_i hl
         obtain ⟨c', hs, he⟩ := Option.map_eq_some_iff.1 h
         simp only [pJ] at he
         obtain ⟨rfl, rfl, rfl⟩ := he
         refine ⟨by simp [AD], fun n hn => frm _ m n hn, fun m2 hl2 ha => ?_⟩
         obtain ⟨p1, p2, p3⟩ := pre m2 hl2 ha
         obtain ⟨q1, q2⟩ := put (mkB true, .lst e (Row.ofKs ks) true (LEN c') c') m2 hl2 ha
         refine ⟨_, ?_, q1, q2, fun n hn => frm _ m2 n hn⟩
         simp only [applyX, p1]
         simp only [hks, p2, hi]
         rw [if_pos ⟨trivial, ho, ht, by omega, by rw [p3]; exact hn2⟩]
         simp only [BQ (ha n2 (by simp [fpX, namesV])), hb, if_pos hl, hs, Option.map_some]
        ·cases h
       ·cases h
      ·rename_i hy
       split at h
       ·rename_i V2 hV2
        simp only [oJ, pJ] at h
        obtain ⟨rfl, rfl, rfl⟩ := h
        refine ⟨by simp [AD], fun n hn => frm _ m n hn, fun m2 hl2 ha => ?_⟩
        obtain ⟨p1, p2, p3⟩ := pre m2 hl2 ha
        obtain ⟨q1, q2⟩ := put (mkB true, .lst e (Row.ofKs ks) true (LEN (.app .x 0 4 [V.c, V2.c])) (.app .x 0 4 [V.c, V2.c])) m2 hl2 ha
        refine ⟨_, ?_, q1, q2, fun n hn => frm _ m2 n hn⟩
        have hv2 := (AQ (m2 := m2) hV2 fun n hn => ha n (by simp [fpX, hn])).1
        grind [applyX, Ag]
       ·cases h
     ·cases h
    ·cases h
   ·cases h
 | sub t e x lo hi =>
   simp only [applyX] at h
   cases hsv : subV P m t e x lo hi with
   | some r =>
     rw [hsv] at h
     simp only [oJ] at h; subst h
     obtain ⟨rfl, h2⟩ := NO hsv
     refine ⟨rfl, fun _ _ => rfl, fun m2 hl ha => ⟨m2, by simp only [applyX]; rw [h2 m2 fun n hn => ha n (by simp [fpX, hn])], rfl, fun n hn => ha n (by simp_all), fun _ _ => rfl⟩⟩
   | none =>
   rw [hsv] at h
   simp only at h
   split at h
   ·rename_i ty row hrow
    split at h
    ·rename_i V0 hV0
     split at h
     ·rename_i V hV
      split at h
      ·rename_i hc
       simp only [oJ, pJ] at h
       obtain ⟨rfl, rfl, rfl⟩ := h
       have hV0n := (AQ (m2 := m) hV0 fun _ _ => rfl).2
       refine ⟨by simp [Cj], fun n hn => ?_, fun m2 hl2 ha => ?_⟩
       ·grind [fpX, Mem.at_set_other, CE]
       ·have hAg : ∀ n, n ∈ namesV x ++ [nm] -> (shareL m2 V0.ns).at n = (shareL m V0.ns).at n := fun n hn => Ft V0.ns hl2 (fun k hk => ha k (by simp [fpX, hV0n k hk])) n (ha n (by grind [fpX]))
        refine ⟨(shareL m2 V0.ns).set nm (some (mkB true, .lst e row false (LEN (.app .x 0 5 [V.c, lo.getD (.lit (.i .i64) 0), hi.getD V.le])) (.app .x 0 5 [V.c, lo.getD (.lit (.i .i64) 0), hi.getD V.le]))), ?_, by simp [Cj], fun n hn => ?_, fun n hn => ?_⟩
        ·have v0 := (AQ (m2 := m2) hV0 fun n hn => ha n (by simp [fpX, hn])).1
         have v1 := (AQ (m2 := shareL m2 V0.ns) hV fun n hn => hAg n (by simp [hn])).1
         simp only [applyX, SN hsv (m2 := m2) fun n hn => ha n (by simp [fpX, hn]), E8 (v := x) (m := m) (m2 := m2) fun n hn => ha n (by simp [fpX, hn]), hrow, v0, v1]
         simp_all
        ·exact Ap nm _ (by grind [Cj]) (hAg n hn)
        grind [fpX, Mem.at_set_other, CE]
      ·cases h
     ·cases h
    ·cases h
   ·cases h
 | mk t e n c =>
   simp only [applyX] at h
   split at h
   ·rename_i ks size bytes hks hi
    split at h
    ·rename_i hc
     simp only [oJ, pJ] at h
     obtain ⟨rfl, rfl, rfl⟩ := h
     refine ⟨by simp, fun k hk => Mem.at_set_other (fun e => hk (by simp [fpX, e])) _, fun m2 hl2 ha => ⟨m2.set nm (some (mkB true, .lst e (Row.ofKs ks) true (LEN (.app .x 0 7 (n :: ks.map fun k => .lit k 0))) (.app .x 0 7 (n :: ks.map fun k => .lit k 0)))), ?_, ?_, fun k hk => Ap (m2 := m2) nm _ hl2 (ha k (by simp_all)), fun k hk => Mem.at_set_other (fun e => hk (by simp [fpX, e])) _⟩⟩
     ·simp only [applyX, hks, hi]
      rw [if_pos ⟨hc.1, hc.2.1, hc.2.2.1, hc.2.2.2.1, hc.2.2.2.2.1, by omega, by rw [ha nm (by simp [fpX])]; exact hc.2.2.2.2.2.2⟩]
     ·simp
    ·cases h
   ·cases h
 | bl e ks cs len =>
   simp only [applyX] at h
   split at h
   ·rename_i c' size bytes hks hi
    split at h
    ·rename_i hc
     simp only [oJ, pJ] at h
     obtain ⟨rfl, rfl, rfl⟩ := h
     refine ⟨by simp, fun k hk => Mem.at_set_other (fun e => hk (by simp [fpX, e])) _, fun m2 hl2 ha => ⟨m2.set nm (some (mkB true, .lst e (Row.ofKs ks) true (.lit (.i .i64) len) c')), ?_, ?_, fun k hk => Ap (m2 := m2) nm _ hl2 (ha k (by simp_all)), fun k hk => Mem.at_set_other (fun e => hk (by simp [fpX, e])) _⟩⟩
     ·simp only [applyX, hks, hi]
      rw [if_pos ⟨hc.1, hc.2.1, by omega, by rw [ha nm (by simp [fpX])]; exact hc.2.2.2⟩]
     ·simp
    ·cases h
   ·cases h
 | gsl e b off n =>
   simp only [applyX] at h
   split at h
   ·rename_i ks hks
    split at h
    ·rename_i cs hr
     split at h
     ·rename_i c' hs
      split at h
      ·rename_i hc
       simp only [oJ, pJ] at h
       obtain ⟨rfl, rfl, rfl⟩ := h
       refine ⟨by simp, fun k hk => Mem.at_set_other (fun e => hk (by simp [fpX, e])) _, fun m2 hl2 ha => ⟨m2.set nm (some (mkB true, .lst e (Row.ofKs ks) false (.lit (.i .i64) n) c')), ?_, by simp, fun k hk => Ap (m2 := m2) nm _ hl2 (ha k (by simp_all)), fun k hk => Mem.at_set_other (fun e => hk (by simp [fpX, e])) _⟩⟩
       simp only [applyX, hks, hr, hs]
       rw [if_pos ⟨hc.1, hc.2.1, hc.2.2.1, by omega, by rw [ha nm (by simp [fpX])]; exact hc.2.2.2.2⟩]
      ·cases h
     ·cases h
    ·cases h
   ·cases h
 | mnew t => exact AY (P := P) (nm := nm) (x := .mnew t) h
 | mlk t n k ok => exact AY (P := P) (nm := nm) (x := .mlk t n k ok) h
 | mup t n k w1 => exact AY (P := P) (nm := nm) (x := .mup t n k w1) h
 | mdl t kt ty n k => exact AY (P := P) (nm := nm) (x := .mdl t kt ty n k) h
 | mln t ty n => exact AY (P := P) (nm := nm) (x := .mln t ty n) h
 | vix t n str l0 lo hi i => exact AY (P := P) (nm := nm) (x := .vix t n str l0 lo hi i) h
 | clr t ty e n le => exact AY (P := P) (nm := nm) (x := .clr t ty e n le) h
 | lds n off str e sz ag => exact AY (P := P) (nm := nm) (x := .lds n off str e sz ag) h
 | sts n off str e cs => exact AY (P := P) (nm := nm) (x := .sts n off str e cs) h
 | ldl n str i o => exact AY (P := P) (nm := nm) (x := .ldl n str i o) h
 | stl n str i o y => exact AY (P := P) (nm := nm) (x := .stl n str i o y) h
 | mkl t e n c => exact AY (P := P) (nm := nm) (x := .mkl t e n c) h
end
abbrev FP := List Nat × List Nat
abbrev Tab := Nat -> List Ent
def Ck (P : Program) (G : Glob) (l : Tabs) (T : Tab) : Prop := ∀ f e, e ∈ T f -> e.f = f /\ l.get e.key = some e /\ EntryOK P G e
section
variable {m m2 m' : Mem}
theorem JS {ty : Nat} {row : Row} : ∀ {v : SV} {V : LV}, Ag m ty row v = some V -> V.ns = namesV v
 | .ls n le, V, h => by
   simp only [Ag] at h
   split at h
   ·split at h
    ·simp only [oJ] at h; subst h; rfl
    ·cases h
   ·cases h
 | .sv n str l0 lo hi, V, h => by
   simp only [Ag] at h
   split at h
   ·split at h
    ·simp only [oJ] at h; subst h; rfl
    ·cases h
   ·cases h
 | .nilp c, V, h => by
   cases c <;> simp only [Ag, oJ, reduceCtorEq] at h
   subst h; rfl
 | .ite p a b, V, h => by
   simp only [Ag] at h
   split at h
   ·rename_i x y hx hy
    split at h
    ·simp only [oJ] at h; subst h
     simp only [namesV, JS hx, JS hy]
    ·cases h
   ·cases h
 | .sc _, V, h | .ptr .., V, h | .pi .., V, h | .sl .., V, h | .pe .., V, h | .mp .., V, h | .oq .., V, h | .fn .., V, h | .agg .., V, h | .tup .., V, h | .gd .., V, h | .und, V, h | .gl .., V, h => by simp [Ag] at h
mutual
theorem Ps : ∀ (s : Sh) (acc : List Src) (v : SV) (r : List E × List Src × E), s.get m acc v = some r -> Agree (r.2.1.flatMap Src.ns) m m2 -> s.get m2 acc v = some r
 | .sc k, acc, v, r, h, ha => by cases v <;> simp only [Sh.get, reduceCtorEq] at h ⊢; exact h
 | .lt k n, acc, v, r, h, ha => by
   cases v with
   | sc e => cases e <;> simp only [Sh.get, reduceCtorEq] at h ⊢; exact h
   | _ => simp [Sh.get] at h
 | .agg l, acc, v, r, h, ha => by cases v <;> simp only [Sh.get, reduceCtorEq] at h ⊢; exact CF l acc _ r h ha
 | .lst ty row own, acc, v, r, h, ha => by
   have h' : CD m ty row own v = some r := by cases v <;> simpa only [Sh.get] using h
   have : CD m2 ty row own v = some r := by
    unfold CD at h' ⊢
    split at h'
    ·rename_i V hV
     split at h'
     ·rename_i ho
      simp only [oJ] at h'; subst h'
      have := (AQ (m2 := m2) hV (by rw [<- JS hV]; exact fun n hn => ha n (by grind [Src.ns, Gl]))).1
      simp_all
     ·cases h'
    ·cases h'
   grind [Sh.get]
 | .lsn ty row, acc, v, r, h, ha => by
   have h' : getLsn m ty row v = some r := by cases v <;> simpa only [Sh.get] using h
   have h0 := h'
   obtain ⟨n, le, g, c, rfl, hn, rfl, h3, h4, h5⟩ := Es h'
   have hx := ha n (by simp [Src.ns])
   grind [getLsn, Sh.get]
 | .obj ty cs, acc, v, r, h, ha => by
   cases v with
   | ptr n o =>
     cases o with
     | zero =>
       simp only [Sh.get] at h ⊢
       split at h
       ·rename_i g ty' vs hb
        split at h
        ·rename_i hty
         obtain ⟨q, hq, rfl⟩ := Option.map_eq_some_iff.1 h
         have hn := ha n (by simp [Src.ns])
         have := CF cs _ vs q hq fun k hk => ha k (by simp_all)
         grind [BQ]
        ·cases h
       ·cases h
     | succ o => simp [Sh.get] at h
   | _ => simp [Sh.get] at h
 | .pin j off str, acc, v, r, h, ha => by
   cases v <;> simp only [Sh.get, reduceCtorEq] at h ⊢
   exact h
 | .ref j, acc, v, r, h, ha => by
   cases v with
   | ptr n o =>
     cases o with
     | zero => grind [Sh.get]
     | succ o => simp [Sh.get] at h
   | _ => simp [Sh.get] at h
 | .fnc f l, acc, v, r, h, ha => by
   cases v <;> simp only [Sh.get, reduceCtorEq] at h ⊢
   split at h
   ·rename_i hf; rw [if_pos hf]; exact CF l acc _ r h ha
   ·cases h
 | .nul c, acc, v, r, h, ha => by cases v <;> simp only [Sh.get, reduceCtorEq] at h ⊢; exact h
 | .tup l, acc, v, r, h, ha => by cases v <;> simp only [Sh.get, reduceCtorEq] at h ⊢; exact CF l acc _ r h ha
 | .opt s, acc, v, r, h, ha => by
   have h' : Cn (mkB true :: s.ks.map fun k => E.lit k 0, List.replicate s.nn Src.dm, mkB true) v (fun u => s.get m acc u) = some r := by cases v <;> simpa only [Sh.get] using h
   have : Cn (mkB true :: s.ks.map fun k => E.lit k 0, List.replicate s.nn Src.dm, mkB true) v (fun u => s.get m2 acc u) = some r := by
    unfold Cn at h' ⊢
    split at h'
    ·exact h'
    ·split at h'
     ·rename_i hc
      obtain ⟨q, hq, rfl⟩ := Option.map_eq_some_iff.1 h'
      have hx := Ps s acc _ q hq ha
      simp_all
     ·cases h'
    ·cases h'
   grind [Sh.get]
 | .und, acc, v, r, h, ha => by grind [Sh.get]
 | .mp ks vs kag vag, acc, v, r, h, ha => by
   cases v <;> simp only [Sh.get, reduceCtorEq] at h ⊢
   case mp k =>
    obtain ⟨g, c, h1, rfl, h3, h4⟩ := ET h
    have hn := ha _ (by simp only [List.flatMap_cons, Src.ns]; exact List.mem_append_left _ (List.mem_singleton.2 rfl))
    grind [ML]
   case ite p a b =>
    obtain ⟨q, h1, rfl⟩ := Option.map_eq_some_iff.1 h
    have := G7 h1 fun n hn => ha n (by grind [Src.ns, Gl])
    grind [SF]
 | .seg ty ks cs, acc, v, r, h, ha => by
   cases v with
   | ptr n o =>
     cases o with
     | zero =>
       simp only [Sh.get] at h ⊢
       split at h
       ·rename_i g ty' vs ks' c hb
        split at h
        ·rename_i hty
         obtain ⟨q, hq, rfl⟩ := Option.map_eq_some_iff.1 h
         have hn := ha n (by simp [Src.ns])
         have := CF cs _ vs q hq fun k hk => ha k (by simp_all)
         grind [blkS]
        ·cases h
       ·cases h
     | succ o => simp [Sh.get] at h
   | _ => simp [Sh.get] at h
theorem CF : ∀ (l : List Sh) (acc : List Src) (vs : List SV) (r : List E × List Src × E), Sh.getL m l acc vs = some r -> Agree (r.2.1.flatMap Src.ns) m m2 -> Sh.getL m2 l acc vs = some r
 | [], acc, [], r, h, ha => by grind [Sh.getL]
 | [], acc, _ :: _, r, h, ha => by simp [Sh.getL] at h
 | _ :: _, acc, [], r, h, ha => by simp [Sh.getL] at h
 | s :: l, acc, v :: vs, r, h, ha => by
   simp only [Sh.getL] at h ⊢
   split at h
   ·rename_i es ns g hs
    obtain ⟨q, hq, rfl⟩ := Option.map_eq_some_iff.1 h
    simp only [List.flatMap_append] at ha
    have h1 := Ps s acc v _ hs ha.left
    have h2 := CF l _ vs q hq ha.right
    simp_all
   ·cases h
end
theorem Kz {srcs : List Src} : ∀ {os : List Ob} {vs : List SV} {l : List (Nat × E × Blk)}, C9 srcs m os vs = some l -> Agree (srcs.flatMap Src.ns) m m2 -> C9 srcs m2 os vs = some l
 | [], vs, l, h, ha => h
 | o :: r, vs, l, h, ha => by
   simp only [C9] at h ⊢
   split at h
   ·rename_i n hn
    have hx := ha n (List.mem_flatMap.2 ⟨_, List.mem_of_getElem? hn, by simp [Src.ns]⟩)
    split at h
    ·rename_i g b0 hm
     split at h
     ·rename_i hty
      obtain ⟨l', hl, rfl⟩ := Option.map_eq_some_iff.1 h
      simp only [hn, hx, hm, if_pos hty, Kz hl ha, Option.map_some]
     ·cases h
    ·cases h
   ·cases h
theorem H8 {e : Ent} {nm : Nat} {args : List SV} {g : E} {v : SV} (h : Dm e m nm args = some (g, v, m')) :
 Loc (fun m => Dm e m nm args) m (fpC e m nm args) g v m' /\ ∀ m2, Agree ((fpC e m nm args).1 ++ (fpC e m nm args).2) m m2 -> fpC e m2 nm args = fpC e m nm args := by
 have h0 := h
 unfold Dm at h
 split at h
 ·rename_i es srcs g0 hget
  simp only at h
  split at h
  ·rename_i sets hsets
   split at h
   ·rename_i hc
    simp only [oJ, pJ] at h
    obtain ⟨rfl, rfl, rfl⟩ := h
    have hfp : fpC e m nm args = (srcs.flatMap Src.ns, ((mutJ e.pgen.2).filter fun j => !e.kp.contains j).flatMap (srcOf srcs) ++ (List.range (Sh.nnL e.outL)).map fun i => nm + i) := by simp only [fpC, hget]
    have hfp2 : ∀ m2, Agree ((fpC e m nm args).1 ++ (fpC e m nm args).2) m m2 -> fpC e m2 nm args = fpC e m nm args := fun m2 ha => by
     grind [fpC, CF, Agree.left]
    refine ⟨?_, hfp2⟩
    rw [hfp]
    have hdeadW : ∀ n ∈ ((mutJ e.pgen.2).filter fun j => !e.kp.contains j && !(e.os.any fun o => o.j == j)).flatMap (srcOf srcs), n ∈ ((mutJ e.pgen.2).filter fun j => !e.kp.contains j).flatMap (srcOf srcs) := fun n hn => by
     grind
    have hsetW : ∀ y ∈ sets, y.1 ∈ ((mutJ e.pgen.2).filter fun j => !e.kp.contains j).flatMap (srcOf srcs) := fun y hy => by
     obtain ⟨j, b0, X, s1, s2, s4, s5⟩ := Cs hsets y hy
     obtain ⟨o, ho1, ho2⟩ := List.mem_map.1 s2
     have := List.all_eq_true.1 hc.2.2.2.2.2.1 o ho1
     simp only [Bool.and_eq_true, List.contains_iff_mem] at this
     rw [ho2] at this
     exact List.mem_flatMap.2 ⟨j, List.mem_filter.2 ⟨this.1, this.2⟩, by simp [srcOf, s1, Src.ns]⟩
    have hnewW : ∀ y ∈ ((Sh.genL (Ew.evC es (outV e.key nm es e.oks)) (nvC srcs e.nn nm (Sh.nnL e.outL)) e.outL (mkB true) e.np e.nn).2.map fun x => (nvC srcs e.nn nm (Sh.nnL e.outL) x.1, x.2.1, x.2.2)), y.1 ∈ (List.range (Sh.nnL e.outL)).map fun i => nm + i := fun y hy => by
     obtain ⟨x, hx, rfl⟩ := List.mem_map.1 hy
     obtain ⟨⟨a, b⟩, _⟩ := (BT (p := fun _ => True) e.outL (mkB true) e.np e.nn (fun _ _ _ => trivial) (fun _ _ => trivial)).2 x hx
     refine List.mem_map.2 ⟨x.1 - e.nn, List.mem_range.2 (by omega), ?_⟩
     grind [nvC]
    have frm : ∀ (m2 : Mem) n, n ∉ ((mutJ e.pgen.2).filter fun j => !e.kp.contains j).flatMap (srcOf srcs) ++ ((List.range (Sh.nnL e.outL)).map fun i => nm + i) ->
     (AX (AX (AJ m2 (((mutJ e.pgen.2).filter fun j => !e.kp.contains j && !(e.os.any fun o => o.j == j)).flatMap (srcOf srcs))) sets) ((Sh.genL (Ew.evC es (outV e.key nm es e.oks)) (nvC srcs e.nn nm (Sh.nnL e.outL)) e.outL (mkB true) e.np e.nn).2.map fun x => (nvC srcs e.nn nm (Sh.nnL e.outL) x.1, x.2.1, x.2.2))).at n = m2.at n := fun m2 n hn => by
     simp only [List.mem_append, not_or] at hn
     exact (Ga _ fun y hy e' => hn.2 (by grind)).trans ((Ga _ fun y hy e' => hn.1 (by grind)).trans (F8 _ fun hk => hn.1 (hdeadW n hk)))
    refine ⟨by rw [BL, BL, AD], fun n hn => frm m n hn, fun m2 hl ha => ⟨_, ?_, ?_, fun n hn => ?_, fun n hn => frm m2 n hn⟩⟩
    ·have hg2 := CF e.ps [] args _ hget ha.left
     have hs2 := Kz hsets ha.left
     have hfree : IY m2 nm (Sh.nnL e.outL) = true := by
      unfold IY
      rw [List.all_eq_true]
      intro i hi
      obtain ⟨r1, r2⟩ := EU hc.2.2.1 (List.mem_range.1 hi)
      have := ha (nm + i) (by simp_all)
      rw [this]
      simp only [hl, r1, r2, decide_true, Bool.and_self]
     grind [Dm]
    ·rw [BL, BL, AD]
    ·refine F9 _ (by grind [BL, AD]) n (F9 _ (by grind [AD]) n (F7 _ hl (fun k hk => ha k ?_) n (ha n (List.mem_append_right _ hn))))
     grind
   ·cases h
  ·cases h
 ·cases h
end
mutual
def allN : SV -> List Nat
 | .ptr n _ | .pi n _ _ _ | .sl n _ _ _ | .ls n _ | .sv n _ _ _ _ | .pe n _ _ _ | .mp n | .oq n => [n]
 | .fn _ cs | .agg cs | .tup cs => allNL cs
 | .gd _ v => allN v
 | .ite _ a b => allN a ++ allN b
 | _ => []
def allNL : List SV -> List Nat
 | [] => []
 | v :: r => allN v ++ allNL r
end
mutual
theorem E9 {p : Nat -> Prop} : ∀ v : SV, (∀ n ∈ allN v, p n) -> v.ok p
 | .ptr n _, h | .pi n _ _ _, h | .sl n _ _ _, h | .ls n _, h | .sv n _ _ _ _, h | .pe n _ _ _, h | .mp n, h | .oq n, h => h n (by simp [allN])
 | .fn _ cs, h | .agg cs, h | .tup cs, h => JT cs h
 | .gd _ v, h => E9 v h
 | .ite _ a b, h => ⟨E9 a fun n hn => h n (by grind [allN]), E9 b fun n hn => h n (by grind [allN])⟩
 | .sc _, _ | .und, _ | .nilp _, _ | .gl _ _, _ => by simp [SV.ok]
theorem JT {p : Nat -> Prop} : ∀ l : List SV, (∀ n ∈ allNL l, p n) -> SV.okL p l
 | [], _ => trivial
 | v :: r, h => ⟨E9 v fun n hn => h n (by grind [allNL]), JT r fun n hn => h n (by grind [allNL])⟩
end
def virtB : Blk -> Blk
 | .lst ty row _ le c => .lst ty row false le c
 | _ => .dead
def virt (m : Mem) : Mem := m.map fun x => x.map fun y => (y.1, virtB y.2)
theorem Ed (m : Mem) (n : Nat) : (virt m).at n = (m.at n).map fun y => (y.1, virtB y.2) := by
 grind [virt, Mem.at]
theorem Hg (m : Mem) : (virt m).length = m.length := by simp [virt]
theorem Vo (m : Mem) (n : Nat) : al (virt m) n ↔ al m n := by grind [al, Ed]
def Bh (nm k n : Nat) : Bool := decide (nm <= n) && decide (n < nm + k)
def copyN (m m1 : Mem) (nm k : Nat) : Mem := zipR (fun n x y => bif Bh nm k n then x else y) 0 m1 m
theorem H9 (m m1 : Mem) (nm k : Nat) : (copyN m m1 nm k).length = m.length := Hc _ _ _
theorem JU (m m1 : Mem) (nm k n : Nat) (h : n < m.length) : (copyN m m1 nm k).at n = bif Bh nm k n then m1.at n else m.at n := by
 grind [copyN, IZ]
theorem Da (m m1 : Mem) {nm k n : Nat} (h : Bh nm k n = false) : (copyN m m1 nm k).at n = m.at n := by
 grind [JU, Mem.at, copyN, H9]
def newB (x : Option (E × Blk)) : Bool :=
 match x with
 | some (_, .lst _ row true _ _) => (Cu row).isSome
 | _ => false
def MO (m1 : Mem) (nm k : Nat) : Bool := (List.range k).all fun i => decide (nm + i < m1.length) && newB (m1.at (nm + i))
def Hh (e : Ent) (m : Mem) (nm : Nat) (args : List SV) : Option (E × SV × Mem) :=
 match Dm e (virt m) nm args with
 | some (g, v, m1) => if MO m1 nm (Sh.nnL e.outL) = true /\ ((allN v).all fun n => Bh nm (Sh.nnL e.outL) n) = true then some (g, v, copyN m m1 nm (Sh.nnL e.outL)) else none
 | none => none
def MP (lent : Bool) (e : Ent) (m : Mem) (nm : Nat) (args : List SV) : Option (E × SV × Mem) := bif lent then Hh e m nm args else Dm e m nm args
def fpCX (lent : Bool) (e : Ent) (m : Mem) (nm : Nat) (args : List SV) : List Nat × List Nat := fpC e (bif lent then virt m else m) nm args
section
variable {P : Program} {ρ : Nat -> Int} {G : Glob} {w0 w : World} {M0 Im0 Im : Nat -> Prop} {ad : Nat -> Hd} {m m2 m' : Mem}
theorem FM {nm k n : Nat} : Bh nm k n = true ↔ nm <= n /\ n < nm + k := by simp [Bh]
theorem C3 {m1 : Mem} {nm k n : Nat} (h : MO m1 nm k = true) (hn : Bh nm k n = true) : n < m1.length /\ newB (m1.at n) = true := by
 obtain ⟨a, b⟩ := FM.1 hn
 have := List.all_eq_true.1 h (n - nm) (List.mem_range.2 (by omega))
 simp_all
theorem Ia {x : Option (E × Blk)} (h : newB x = true) : ∃ g ty ks le c, x = some (g, .lst ty (Row.ofKs ks) true le c) := by
 unfold newB at h
 split at h
 ·rename_i g ty row le c
  obtain ⟨ks, hk⟩ := Option.isSome_iff_exists.1 h
  exact ⟨g, ty, ks, le, c, by rw [Fo hk]⟩
 ·cases h
theorem Un {F : Fam} (hR : Rel F ρ w0 M0 Im0 ad m w) : Rel F ρ w (fun _ => False) (fun b => b < w.heap.size) ad (virt m) w := by
 obtain ⟨hM, Im, h1, h2, hI⟩ := hR
 refine ⟨fun b hb => hb.elim, fun b => b < w.heap.size, fun b hb => hb, fun b hb => Or.inl hb, ⟨fun n g x hn hg => ?_, fun n g x hn => ?_, fun n k g x g' y b a1 a2 a3 a4 a5 a6 => ?_, fun b hb => hb, Fr.refl _ _⟩⟩
 ·rw [Ed] at hn
  obtain ⟨⟨g0, x0⟩, h0, he⟩ := Option.map_eq_some_iff.1 hn
  simp only [pJ] at he
  obtain ⟨rfl, rfl⟩ := he
  obtain ⟨i1, i2⟩ := hI.ent n g0 x0 h0 hg
  cases x0 with
  | lst ty row own le c =>
    obtain ⟨j1, j2, j3⟩ := i1
    refine ⟨⟨j1, j2, ?_⟩, fun b hb => by simp [virtB, mutB] at hb⟩
    grind [ShL.fr, RelI.im, E.den, dc, OwL.share, mutB]
  | _ => exact ⟨trivial, fun b hb => by simp [virtB, mutB] at hb⟩
 ·rw [Ed] at hn
  obtain ⟨⟨g0, x0⟩, h0, he⟩ := Option.map_eq_some_iff.1 hn
  simp only [pJ] at he
  obtain ⟨rfl, rfl⟩ := he
  cases x0 <;> trivial
 ·exfalso
  rw [Ed] at a1
  obtain ⟨⟨g0, x0⟩, h0, he⟩ := Option.map_eq_some_iff.1 a1
  simp only [pJ] at he
  obtain ⟨rfl, rfl⟩ := he
  cases x0 <;> simp [virtB, mutB] at a5
theorem O6 {l : Tabs} {e : Ent} (he : l.get e.key = some e) (hE : EntryOK P G e) (hG : GOK G Im0 w0) (hR : Rel l.F ρ w0 M0 Im0 ad m w) {nm : Nat} {args : List SV} {g : E} {v : SV}
 (h : Hh e m nm args = some (g, v, m')) : g.kind = .b /\ (g.tt l.F ρ = true -> Calls P e.f (SV.concL l.F ρ ad args).toArray w fun en w' => ∃ ad', en = .returned (v.conc l.F ρ ad') /\ Rel l.F ρ w0 M0 Im0 ad' m' w' /\ Ext ad ad' m m' /\ v.ok (al m')) := by
 unfold Hh at h
 split at h
 ·rename_i g1 v1 m1 hc
  split at h
  ·rename_i hok
   simp only [oJ, pJ] at h
   obtain ⟨rfl, rfl, rfl⟩ := h
   have hGw := hG.now hR
   have hGV : GOK G (fun b => b < w.heap.size) w := fun F ρ b off v hv => by
    obtain ⟨a, b', c, d⟩ := hGw F ρ b off v hv
    simp_all
   obtain ⟨k1, k2⟩ := Ju he hE hGV (Un hR) hc
   refine ⟨k1, fun hg => (k2 hg).mono ?_⟩
   rintro en w' ⟨ad', rfl, r2, r3, r4⟩
   obtain ⟨hM, Im, h1, h2, hI⟩ := hR
   obtain ⟨_, Im1, q1, q2, qI⟩ := r2
   let k := Sh.nnL e.outL
   have hnl : ∀ n, Bh nm k n = true -> n < m.length := fun n hn => by
    have hl : m1.length = (virt m).length := (H8 hc).1.len
    have := (C3 hok.1 hn).1
    grind [Hg]
   have hfree : ∀ n, Bh nm k n = true -> m.at n = none := fun n hn => by
    have hf : IY (virt m) nm k = true := by
     have hc' := hc
     unfold Dm at hc'
     split at hc'
     ·grind
     ·cases hc'
    obtain ⟨a, b⟩ := FM.1 hn
    have := (EU hf (i := n - nm) (by omega)).2
    simp_all [Ed]
   have hAt : ∀ n, (copyN m m1 nm k).at n = bif Bh nm k n then m1.at n else m.at n := fun n => by
    grind [Bh, Da, JU]
   have hkeep : ∀ n, al m n -> al (copyN m m1 nm k) n := fun n hn => by
    grind [al, Bh]
   have hsame : ∀ n, al m n -> ad n = ad' n := fun n hn => r3.same n ((Vo m n).2 hn)
   have hnewal : ∀ n, Bh nm k n = true -> al (copyN m m1 nm k) n := fun n hn => by
    unfold al
    rw [hAt, hn]
    obtain ⟨g', ty, ks, le, c, e'⟩ := Ia (C3 hok.1 hn).2
    simp_all
   refine ⟨ad', rfl, ⟨hM, Im, h1, h2, ?_⟩, ⟨hsame, hkeep⟩, E9 _ fun n hn => hnewal n (List.all_eq_true.1 hok.2 n hn)⟩
   have hnewE : ∀ n g x, (copyN m m1 nm k).at n = some (g, x) -> Bh nm k n = true -> g.tt l.F ρ = true -> BlkOK l.F ρ Im ad' n w' x /\ ∀ b, mutB l.F ρ ad' n x = some b -> w.heap.size <= b /\ b < w'.heap.size := fun n g x hn hnew hg' => by
    rw [hAt, hnew] at hn
    obtain ⟨i1, i2⟩ := qI.ent n g x hn hg'
    obtain ⟨g0, ty, ks, le, c, e'⟩ := Ia (C3 hok.1 hnew).2
    simp only [cond_true] at hn
    rw [hn] at e'
    simp only [oJ, pJ] at e'
    obtain ⟨rfl, rfl⟩ := e'
    obtain ⟨j1, j2, j3⟩ := i1
    simp only [cond_true] at j3
    obtain ⟨o1, xs, o2, o3⟩ := j3
    refine ⟨⟨j1, j2, o1, xs, o2, FI o3⟩, fun b hb => ?_⟩
    simp_all
   have hw0 := hI.fr.size
   refine hI.step (T := fun _ => False) qI.fr (fun b _ hb => hb.elim) (fun b hb => hb) (fun b hb => Nat.lt_of_lt_of_le (hI.im b hb) qI.fr.size) hsame hkeep (fun n g x hn hg' => ?_) (fun n g x hn => ?_) (fun n k' g x g' y b a1 a2 a3 a4 a5 a6 a7 => ?_)
   ·cases hnew : Bh nm k n
    ·left
     rw [hAt, hnew] at hn
     refine ⟨⟨g, hn, hg'⟩, fun b hb => ⟨fun x => x, ?_⟩⟩
     exact ((hI.ent n g x hn hg').2 b hb).2.1
    grind [RelI.im]
   ·cases hnew : Bh nm k n
    ·rw [hAt, hnew] at hn
     exact SV.okL_mono hkeep _ (hI.ok n g x hn)
    ·rw [hAt, hnew] at hn
     obtain ⟨g0, ty, ks, le, c, e'⟩ := Ia (C3 hok.1 hnew).2
     simp only [cond_true] at hn
     rw [hn] at e'
     simp only [oJ, pJ] at e'
     obtain ⟨rfl, rfl⟩ := e'
     trivial
   ·have hbig : w.heap.size <= b := by
     rcases a7 with a7 | a7
     ·exact a7.elim
     ·exact a7
    have side : ∀ n g x, (copyN m m1 nm k).at n = some (g, x) -> g.tt l.F ρ = true -> mutB l.F ρ ad' n x = some b -> m1.at n = some (g, x) := fun n g x hn hg' hb => by
     cases hnew : Bh nm k n
     ·exfalso
      rw [hAt, hnew] at hn
      simp only [cond_false] at hn
      rw [AW (hsame n (Mem.at_al hn)).symm] at hb
      have := ((hI.ent n g x hn hg').2 b hb).2.2
      omega
     simp_all
    grind [RelI.inj]
  ·cases h
 ·cases h
theorem SO {e : Ent} {nm : Nat} {args : List SV} {g : E} {v : SV} (h : Hh e m nm args = some (g, v, m')) :
 Loc (fun m => Hh e m nm args) m (fpC e (virt m) nm args) g v m' /\ ∀ m2, Agree ((fpC e (virt m) nm args).1 ++ (fpC e (virt m) nm args).2) m m2 -> fpC e (virt m2) nm args = fpC e (virt m) nm args := by
 unfold Hh at h
 split at h
 ·rename_i g1 v1 m1 hc
  split at h
  ·rename_i hok
   simp only [oJ, pJ] at h
   obtain ⟨rfl, rfl, rfl⟩ := h
   obtain ⟨c1, c2⟩ := H8 hc
   have hvA : ∀ {L : List Nat} {m2 : Mem}, Agree L m m2 -> Agree L (virt m) (virt m2) := fun {L m2} ha n hn => by rw [Ed, Ed, ha n hn]
   have hnewfp : ∀ n, Bh nm (Sh.nnL e.outL) n = true -> n ∈ (fpC e (virt m) nm args).2 := fun n hn => by
    have hc' := hc
    unfold Dm at hc'
    split at hc'
    ·rename_i es srcs g0 hget
     simp only [fpC, hget]
     obtain ⟨a, b⟩ := FM.1 hn
     exact List.mem_append_right _ (List.mem_map.2 ⟨n - nm, List.mem_range.2 (by omega), by omega⟩)
    ·cases hc'
   have hnl : ∀ n, Bh nm (Sh.nnL e.outL) n = true -> n < m.length := fun n hn => by
    have := (C3 hok.1 hn).1
    grind [Loc.len, Hg]
   refine ⟨⟨H9 _ _ _ _, fun n hn => Da _ _ ?_, fun m2 hl ha => ?_⟩, fun m2 ha => c2 _ (hvA ha)⟩
   ·grind
   ·obtain ⟨m1', r1, r2, r3, r4⟩ := c1.loc (virt m2) (by grind [Hg]) (hvA ha)
    have hsame : ∀ n, Bh nm (Sh.nnL e.outL) n = true -> m1'.at n = m1.at n := fun n hn => r3 n (hnewfp n hn)
    have hok' : MO m1' nm (Sh.nnL e.outL) = true := by
     unfold MO
     rw [List.all_eq_true]
     intro i hi
     have hn : Bh nm (Sh.nnL e.outL) (nm + i) = true := FM.2 ⟨by omega, by simp_all⟩
     obtain ⟨a, b⟩ := C3 hok.1 hn
     rw [hsame _ hn, b]
     have : nm + i < m1'.length := by rw [r2, Hg, hl]; exact hnl _ hn
     simp [this]
    refine ⟨copyN m2 m1' nm (Sh.nnL e.outL), ?_, H9 _ _ _ _, fun n hn => ?_, fun n hn => Da _ _ ?_⟩
    ·grind [Hh]
    ·cases hnew : Bh nm (Sh.nnL e.outL) n
     ·rw [Da _ _ hnew, Da _ _ hnew]
      exact ha n (List.mem_append_right _ hn)
     grind [JU]
    grind
  ·cases h
 ·cases h
theorem O7 {l : Tabs} {lent : Bool} {e : Ent} (he : l.get e.key = some e) (hE : EntryOK P G e) (hG : GOK G Im0 w0) (hR : Rel l.F ρ w0 M0 Im0 ad m w) {nm : Nat} {args : List SV} {g : E} {v : SV}
 (h : MP lent e m nm args = some (g, v, m')) : g.kind = .b /\ (g.tt l.F ρ = true -> Calls P e.f (SV.concL l.F ρ ad args).toArray w fun en w' => ∃ ad', en = .returned (v.conc l.F ρ ad') /\ Rel l.F ρ w0 M0 Im0 ad' m' w' /\ Ext ad ad' m m' /\ v.ok (al m')) := by
 cases lent
 ·exact Ju he hE hG hR h
 ·exact O6 he hE hG hR h
theorem SP {lent : Bool} {e : Ent} {nm : Nat} {args : List SV} {g : E} {v : SV} (h : MP lent e m nm args = some (g, v, m')) :
 Loc (fun m => MP lent e m nm args) m (fpCX lent e m nm args) g v m' /\ ∀ m2, Agree ((fpCX lent e m nm args).1 ++ (fpCX lent e m nm args).2) m m2 -> fpCX lent e m2 nm args = fpCX lent e m nm args := by
 cases lent
 ·exact H8 h
 ·exact SO h
end
end Go.Proofs.Ytnockichpnaoeaa.Ew

/- Texts that the claim needs, set narrow. -/
import Derived.Test.Ytnockichpnaoeaat2
import Derived.Handy
import Derived.ProofKit
import Derived.OpenShut
import Derived.Deep.Slices
import Derived.Below
import Derived.DataShut
import Derived.ChangeSame
set_option linter.unusedVariables false
set_option linter.unusedSimpArgs false
set_option maxHeartbeats 8000000
namespace Go.Proofs.Ytnockichpnaoeaa.Ew
open Go Go.RowKit
inductive W where
 | val (v : SV)
 | dx (g : E) (x : X)
 | call (g : E) (f : Nat) (args : List SV)
 deriving Repr, Inhabited
def Ib (P : Program) (cs : List E) (en : Env) (o : Oper) : Option W :=
 match pick? o.op with
 | some (c, a, b) => (Kv cs en c a b).map .val
 | none => match Qh P (getC cs en) o with
   | some (g, .old (.call f args)) => some (.call g f args)
   | some (g, x) => some (.dx g x)
   | none => none
def CG : List SV -> E
 | [] => mkB true
 | v :: r => mkAnd (Bg v).1 (CG r)
def EV (fo : Bool) (args : List SV) : List SV := bif fo then args.map fun v => (Bg v).2 else args
def KA (T : Tab) (m : Mem) (nm f : Nat) (args : List SV) (k : Nat) (fo : Bool) : Option (E × SV × Mem) :=
 match (T f)[k % 1000]? with
 | some e => (MP (decide (1000 <= k)) e m nm (EV fo args)).map fun r => (mkAnd (bif fo then CG args else mkB true) r.1, r.2.1, r.2.2)
 | none => none
def fpK (T : Tab) (m : Mem) (nm f : Nat) (args : List SV) (k : Nat) (fo : Bool) : FP :=
 match (T f)[k % 1000]? with
 | some e => fpCX (decide (1000 <= k)) e m nm (EV fo args)
 | none => ([], [])
def UF (T : Tab) (m : Mem) (nm f : Nat) (args : List SV) : Option (Nat × Bool) :=
 (((List.range (T f).length).map fun k => (k, false)) ++ ((List.range (T f).length).map fun k => (k + 1000, false)) ++ ((List.range (T f).length).map fun k => (k, true)) ++ ((List.range (T f).length).map fun k => (k + 1000, true))).find? fun c => (KA T m nm f args c.1 c.2).isSome
abbrev Ch := Option (Nat × Bool)
def runW (P : Program) (G : Glob) (T : Tab) (m : Mem) (nm : Nat) (ch : Ch) : W -> Option (E × SV × Mem)
 | .val v => some (mkB true, v, m)
 | .dx g x => (applyX P G m nm x).bind fun r => if r.1.kind = .b then some (mkAnd g r.1, r.2.1, r.2.2) else none
 | .call g f args => match ch with
   | some (k, fo) => (KA T m nm f args k fo).map fun r => (mkAnd g r.1, r.2.1, r.2.2)
   | none => none
def fpW (T : Tab) (m : Mem) (nm : Nat) (ch : Ch) : W -> FP
 | .val _ => ([], [])
 | .dx _ x => fpX nm x
 | .call _ f args => match ch with
   | some (k, fo) => fpK T m nm f args k fo
   | none => ([], [])
section
variable {P : Program} {ρ : Nat -> Int} {G : Glob} {T : Tab} {l : Tabs} {w0 w : World} {M0 Im0 : Nat -> Prop} {ad : Nat -> Hd} {m m2 m' : Mem} {tm : Tm} {en : Env} {a : Act}
theorem Gb {F : Fam} : ∀ (args : List SV), (CG args).kind = .b /\ ((CG args).tt F ρ = true -> SV.concL F ρ ad (args.map fun v => (Bg v).2) = SV.concL F ρ ad args)
 | [] => ⟨rfl, fun _ => rfl⟩
 | v :: r => by
   obtain ⟨i1, i2⟩ := Gb (F := F) r
   have h := Aa (Bg v).1 (CG r) (Bl v) i1 F ρ
   refine ⟨h.2, fun ht => ?_⟩
   simp only [CG] at ht
   rw [h.1, Bool.and_eq_true] at ht
   simp only [List.map_cons, SV.concL, i2 ht.2]
   rw [(BJ (F := F) (ρ := ρ) (ad := ad) (p := fun _ => True) v).1 ht.1]
theorem Hi {F : Fam} {fo : Bool} {args : List SV} (h : (bif fo then CG args else mkB true).tt F ρ = true) : SV.concL F ρ ad (EV fo args) = SV.concL F ρ ad args := by
 cases fo
 ·rfl
 ·exact (Gb args).2 h
theorem JV {nm : Nat} {ch : Ch} {W : W} {g : E} {v : SV} (h : runW P G T m nm ch W = some (g, v, m')) :
 Loc (fun m => runW P G T m nm ch W) m (fpW T m nm ch W) g v m' /\ ∀ m2, Agree ((fpW T m nm ch W).1 ++ (fpW T m nm ch W).2) m m2 -> fpW T m2 nm ch W = fpW T m nm ch W := by
 have wrap : ∀ {f : Mem -> Option (E × SV × Mem)} {q : E -> E} {g0 : E} {v : SV} {m' : Mem} {fp : FP}, Loc f m fp g0 v m' -> Loc (fun m => (f m).map fun r => (q r.1, r.2.1, r.2.2)) m fp (q g0) v m' := fun {f q g0 v m' fp} hL =>
  ⟨hL.len, hL.frame, fun m2 hl ha => by
   grind [Loc.loc]⟩
 cases W with
 | val u =>
   simp only [runW, oJ, pJ] at h
   obtain ⟨rfl, rfl, rfl⟩ := h
   exact ⟨Loc.read fun _ _ _ => rfl, fun _ _ => rfl⟩
 | dx g0 x =>
   simp only [runW] at h
   obtain ⟨⟨g1, v1, m1⟩, h1, h2⟩ := Option.bind_eq_some_iff.1 h
   split at h2
   ·rename_i hk
    simp only [oJ, pJ] at h2
    obtain ⟨rfl, rfl, rfl⟩ := h2
    have hL := Qw h1
    refine ⟨⟨hL.len, hL.frame, fun m2 hl ha => ?_⟩, fun _ _ => rfl⟩
    obtain ⟨m2', r1, r2, r3, r4⟩ := hL.loc m2 hl ha
    refine ⟨m2', ?_, r2, r3, r4⟩
    grind [runW]
   ·cases h2
 | call g0 f args =>
   simp only [runW] at h
   split at h
   ·rename_i k fo
    obtain ⟨⟨g1, v1, m1⟩, h1, h2⟩ := Option.map_eq_some_iff.1 h
    simp only [pJ] at h2
    obtain ⟨rfl, rfl, rfl⟩ := h2
    unfold KA at h1
    split at h1
    ·rename_i e he
     obtain ⟨⟨g3, v3, m3⟩, h3, h4⟩ := Option.map_eq_some_iff.1 h1
     simp only [pJ] at h4
     obtain ⟨rfl, rfl, rfl⟩ := h4
     obtain ⟨c1, c2⟩ := SP h3
     have hf : ∀ m, fpW T m nm (some (k, fo)) (.call g0 f args) = fpCX (decide (1000 <= k)) e m nm (EV fo args) := fun m => by simp only [fpW, fpK, he]
     rw [hf]
     refine ⟨?_, fun m2 ha => by rw [hf]; exact c2 m2 ha⟩
     have := wrap (q := fun g => mkAnd g0 g) (wrap (q := fun g => mkAnd (bif fo then CG args else mkB true) g) c1)
     grind [Loc.len, Loc.frame, Loc.loc, runW, KA]
    ·cases h1
   ·cases h
theorem KB (hS : Ck P G l T) (hG : GOK G Im0 w0) (hT : RelV l.F ρ ad m en a) (hR : Rel l.F ρ w0 M0 Im0 ad m w) {cs : List E} (hc : holds l.F ρ cs = true) {nm : Nat} {ch : Ch} {o : Oper} {W : W} (hp : Ib P cs en o = some W) {g : E} {v : SV}
 (h : runW P G T m nm ch W = some (g, v, m')) : g.kind = .b /\ (g.tt l.F ρ = true -> ∀ (K : Act -> World -> Prop) (Q : Exit -> Act -> World -> Prop),
  (∀ ad' w', Rel l.F ρ w0 M0 Im0 ad' m' w' -> Ext ad ad' m m' -> v.ok (al m') -> K (a.put o.dst (v.conc l.F ρ ad')) w') -> o.wp P a w K Q) := by
 have hB := l.BI
 unfold Ib at hp
 split at hp
 ·rename_i x y z hpk
  obtain ⟨u, h1, rfl⟩ := Option.map_eq_some_iff.1 hp
  simp only [runW, oJ, pJ] at h
  obtain ⟨rfl, rfl, rfl⟩ := h
  refine ⟨rfl, fun _ K Q hK => ?_⟩
  have ho : o.op = .pick x y z := by
   unfold pick? at hpk
   split at hpk
   ·simp_all
   ·cases hpk
  obtain ⟨hrun, i3⟩ := Qs (P := P) (w := w) hT hc h1 ho
  unfold Oper.wp
  rw [hrun]
  exact hK ad w hR (Ext.refl _ _) i3
 ·split at hp
  ·rename_i g0 f args hds
   simp only [oJ] at hp
   subst hp
   obtain ⟨j1, j2⟩ := HP l.BI (P := P) (w := w) (F := l.F) (ρ := ρ) (ad := ad) (p := al m) (ev := a.eval) (fun x s hx => Bt hT hc hx) hds
   simp only [runW] at h
   split at h
   ·rename_i k fo
    obtain ⟨⟨g1, v1, m1⟩, h1, h2⟩ := Option.map_eq_some_iff.1 h
    simp only [pJ] at h2
    obtain ⟨rfl, rfl, rfl⟩ := h2
    unfold KA at h1
    split at h1
    ·rename_i e he
     obtain ⟨⟨g3, v3, m3⟩, h3, h4⟩ := Option.map_eq_some_iff.1 h1
     simp only [pJ] at h4
     obtain ⟨rfl, rfl, rfl⟩ := h4
     obtain ⟨t1, t2, t3⟩ := hS f e (List.mem_of_getElem? he)
     obtain ⟨c1, c2⟩ := O7 t2 t3 hG hR h3
     have fk : (bif fo then CG args else mkB true).kind = .b := by
      cases fo
      ·rfl
      ·exact (Gb (F := l.F) (ρ := ρ) (ad := ad) args).1
     have a1 := Aa _ g3 fk c1 l.F ρ
     have a2 := Aa g0 _ j1 a1.2 l.F ρ
     refine ⟨a2.2, fun ht K Q hK => ?_⟩
     rw [a2.1, a1.1, Bool.and_eq_true, Bool.and_eq_true] at ht
     obtain ⟨d1, d2⟩ := j2 ht.1
     have hcall := c2 ht.2.2
     rw [Hi ht.2.1, t1] at hcall
     unfold Oper.wp
     rw [d1]
     simp only [X.run, D.run, Oper.upon]
     refine hcall.mono ?_
     simp_all
    ·cases h1
   ·cases h
  ·rename_i g0 x hnc hds
   simp only [oJ] at hp
   subst hp
   obtain ⟨j1, j2⟩ := HP l.BI (P := P) (w := w) (F := l.F) (ρ := ρ) (ad := ad) (p := al m) (ev := a.eval) (fun x s hx => Bt hT hc hx) hds
   simp only [runW] at h
   obtain ⟨⟨g1, v1, m1⟩, h1, h2⟩ := Option.bind_eq_some_iff.1 h
   split at h2
   ·rename_i hk
    simp only [oJ, pJ] at h2
    obtain ⟨rfl, rfl, rfl⟩ := h2
    simp only at hk
    have a2 := Aa g0 g1 j1 hk l.F ρ
    refine ⟨a2.2, fun ht K Q hK => ?_⟩
    rw [a2.1, Bool.and_eq_true] at ht
    obtain ⟨d1, d2⟩ := j2 ht.1
    obtain ⟨e1, e2⟩ := NB (P := P) hB hG hR d2 h1
    obtain ⟨ad', w', c1, c2, c3, c4⟩ := e2 ht.2
    unfold Oper.wp
    rw [d1]
    rcases c1 with c1 | ⟨c1, cu⟩
    ·rw [c1]; exact hK ad' w' c2 c3 c4
    ·rw [c1]
     have := hK ad' w' c2 c3 c4
     rw [cu] at this
     exact this
   ·cases h2
  ·cases hp
end
def conjE : List E -> E
 | [] => mkB true
 | c :: r => mkAnd c (conjE r)
def bAll (cs : List E) : Bool := cs.all fun c => decide (c.kind = .b)
theorem KC {F : Fam} {ρ : Nat -> Int} : ∀ {cs : List E}, bAll cs = true -> (conjE cs).kind = .b /\ (conjE cs).tt F ρ = holds F ρ cs
 | [], _ => ⟨rfl, by simp [conjE, holds]⟩
 | c :: r, h => by
   simp only [bAll, List.all_cons, Bool.and_eq_true, decide_eq_true_eq] at h
   obtain ⟨i1, i2⟩ := KC (F := F) (ρ := ρ) (cs := r) h.2
   grind [Aa, conjE, holds]
inductive PL where
 | put (v : SV)
 | run (cs : Option (List E)) (w : W)
 deriving Repr, Inhabited
def EW (P : Program) (ops : Array Oper) (o : Oper) (en : Env) : Option PL :=
 match NI ops en o with
 | some .no => some (.put .und)
 | some .yes => (Ib P [] en o).map (.run none)
 | some (.cond cs) => (Ib P cs en o).map (.run (some cs))
 | none => none
def mergeOn (c : E) (m' : Mem) (W : List Nat) (m : Mem) : Mem := zipR (fun n x y => bif W.contains n then AA c x y else y) 0 m' m
theorem Gc (c : E) (m' : Mem) (W : List Nat) (m : Mem) : (mergeOn c m' W m).length = m.length := Hc _ _ _
theorem DU (c : E) (m' : Mem) (W : List Nat) (m : Mem) (hl : m'.length = m.length) (n : Nat) : (mergeOn c m' W m).at n = if n ∈ W then AA c (m'.at n) (m.at n) else m.at n := by
 grind [mergeOn, IZ, Mem.at, Gc, AA]
def refsW (m' : Mem) (v : SV) (W : List Nat) : List Nat := allN v ++ W.flatMap fun n => match m'.at n with
 | some (_, b) => allNL b.cs
 | _ => []
def BS (P : Program) (G : Glob) (T : Tab) (m : Mem) (nm : Nat) (ch : Ch) : PL -> Option (E × SV × Mem)
 | .put v => some (mkB true, v, m)
 | .run none w => runW P G T m nm ch w
 | .run (some cs) w => match runW P G T m nm ch w with
   | some (g, v, m') => if bAll cs = true /\ g.kind = .b /\ ((refsW m' v (fpW T m nm ch w).2).all fun n => (m'.at n).isSome) = true then
    some (mkOr (Ak (conjE cs)) g, .gd cs v, mergeOn (conjE cs) m' (fpW T m nm ch w).2 m) else none
   | none => none
def fpPL (P : Program) (G : Glob) (T : Tab) (m : Mem) (nm : Nat) (ch : Ch) : PL -> FP
 | .put _ => ([], [])
 | .run none w => fpW T m nm ch w
 | .run (some _) w => match runW P G T m nm ch w with
   | some (_, v, m') => ((fpW T m nm ch w).1 ++ refsW m' v (fpW T m nm ch w).2, (fpW T m nm ch w).2)
   | none => ([], [])
section
variable {P : Program} {ρ : Nat -> Int} {G : Glob} {T : Tab} {l : Tabs} {w0 w : World} {M0 Im0 : Nat -> Prop} {ad : Nat -> Hd} {m m2 m' : Mem} {tm : Tm} {en : Env} {a : Act}
theorem O8 {m' m2' : Mem} (v : SV) {W : List Nat} (h : ∀ n ∈ W, m2'.at n = m'.at n) : refsW m2' v W = refsW m' v W := by
 unfold refsW
 congr 1
 have : ∀ (W : List Nat), (∀ n ∈ W, m2'.at n = m'.at n) -> (W.flatMap fun n => match m2'.at n with | some (_, b) => allNL b.cs | _ => []) = W.flatMap fun n => match m'.at n with | some (_, b) => allNL b.cs | _ => [] := by
  intro W
  induction W with
  | nil => intro _; rfl
  | cons n W ih =>
    simp_all
 exact this W h
theorem SQ {nm : Nat} {ch : Ch} {pl : PL} {g : E} {v : SV} (h : BS P G T m nm ch pl = some (g, v, m')) :
 Loc (fun m => BS P G T m nm ch pl) m (fpPL P G T m nm ch pl) g v m' /\ ∀ m2, m2.length = m.length -> Agree ((fpPL P G T m nm ch pl).1 ++ (fpPL P G T m nm ch pl).2) m m2 -> fpPL P G T m2 nm ch pl = fpPL P G T m nm ch pl := by
 cases pl with
 | put u =>
   simp only [BS, oJ, pJ] at h
   obtain ⟨rfl, rfl, rfl⟩ := h
   exact ⟨Loc.read fun _ _ _ => rfl, fun _ _ _ => rfl⟩
 | run cs w =>
   cases cs with
   | none =>
     obtain ⟨h1, h2⟩ := JV h
     exact ⟨h1, fun m2 _ ha => h2 m2 ha⟩
   | some cs =>
     simp only [BS] at h
     split at h
     ·rename_i g1 v1 m1 hr
      split at h
      ·rename_i hc
       simp only [oJ, pJ] at h
       obtain ⟨rfl, rfl, rfl⟩ := h
       obtain ⟨hL, hF⟩ := JV hr
       have hfp : fpPL P G T m nm ch (.run (some cs) w) = ((fpW T m nm ch w).1 ++ refsW m1 v1 (fpW T m nm ch w).2, (fpW T m nm ch w).2) := by simp only [fpPL, hr]
       rw [hfp]
       have step : ∀ m2, m2.length = m.length -> Agree (((fpW T m nm ch w).1 ++ refsW m1 v1 (fpW T m nm ch w).2) ++ (fpW T m nm ch w).2) m m2 -> fpW T m2 nm ch w = fpW T m nm ch w /\ ∃ m2', runW P G T m2 nm ch w = some (g1, v1, m2') /\ m2'.length = m2.length /\ (∀ n ∈ (fpW T m nm ch w).2, m2'.at n = m1.at n) /\ (∀ n, n ∉ (fpW T m nm ch w).2 -> m2'.at n = m2.at n) /\ refsW m2' v1 (fpW T m nm ch w).2 = refsW m1 v1 (fpW T m nm ch w).2 := fun m2 hl ha => by
        grind [Agree, fpW, Loc.loc, O8]
       refine ⟨⟨Gc _ _ _ _, fun n hn => by grind [DU, Loc.len], fun m2 hl ha => ?_⟩, fun m2 hl ha => ?_⟩
       ·obtain ⟨f1, m2', r1, r2, r3, r4, r5⟩ := step m2 hl ha
        refine ⟨mergeOn (conjE cs) m2' (fpW T m nm ch w).2 m2, ?_, Gc _ _ _ _, fun n hn => ?_, fun n hn => by grind [DU]⟩
        ·simp only [BS, r1, f1]
         rw [r5, if_pos]
         refine ⟨hc.1, hc.2.1, ?_⟩
         rw [List.all_eq_true]
         intro k hk
         have h0 := List.all_eq_true.1 hc.2.2 k hk
         by_cases hw : k ∈ (fpW T m nm ch w).2
         ·rw [r3 k hw]; exact h0
         ·rw [r4 k hw, ha k (by simp [hk]), <- hL.frame k hw]; exact h0
        ·rw [DU _ _ _ _ r2, DU _ _ _ _ hL.len, if_pos hn, if_pos hn, r3 n hn, ha n (by simp [hn])]
       grind [fpPL]
      ·cases h
     ·cases h
theorem Ge (hS : Ck P G l T) (hG : GOK G Im0 w0) {s : St} (hR : RelS l.F ρ w0 M0 Im0 ad s a w) (hE : RelV l.F ρ ad s.2 en a) {ops : Array Oper} {nm : Nat} {ch : Ch} {o : Oper} {pl : PL} (hp : EW P ops o en = some pl) {g : E} {v : SV}
 (h : BS P G T s.2 nm ch pl = some (g, v, m')) : g.kind = .b /\ (g.tt l.F ρ = true -> ∀ (K : Act -> World -> Prop) (Q : Exit -> Act -> World -> Prop),
  (∀ ad' a' w', RelS l.F ρ w0 M0 Im0 ad' (setT s.1 o.dst v, m') a' w' -> Ext ad ad' s.2 m' -> K a' w') ->
  if Region.wanted o (yielded ops a.tmps) = true then o.wp P a w K Q else K (a.put o.dst undef) w) := by
 obtain ⟨hT, hM⟩ := hR
 unfold EW at hp
 split at hp
 ·rename_i hg
  simp only [oJ] at hp
  subst hp
  simp only [BS, oJ, pJ] at h
  obtain ⟨rfl, rfl, rfl⟩ := h
  refine ⟨rfl, fun _ K Q hK => ?_⟩
  rw [Eu hE hg]
  simp only [Gd.tt, Bool.false_eq_true, if_false]
  exact hK ad _ w ⟨hT.put o.dst (v := .und) trivial, hM⟩ (Ext.refl _ _)
 ·rename_i hg
  obtain ⟨W, hW, rfl⟩ := Option.map_eq_some_iff.1 hp
  simp only [BS] at h
  obtain ⟨r1, r2⟩ := KB hS hG hE hM (cs := []) rfl hW h
  refine ⟨r1, fun ht K Q hK => ?_⟩
  rw [Eu hE hg]
  simp only [Gd.tt, if_true]
  exact r2 ht K Q fun ad' w' hr x hv => hK ad' _ w' ⟨(hT.ext x).put o.dst hv, hr⟩ x
 ·rename_i cs hg
  obtain ⟨W, hW, rfl⟩ := Option.map_eq_some_iff.1 hp
  have hwant := Eu hE hg
  simp only [BS] at h
  split at h
  ·rename_i g1 v1 m1 hr
   split at h
   ·rename_i hc
    simp only [oJ, pJ] at h
    obtain ⟨rfl, rfl, rfl⟩ := h
    obtain ⟨hb, hgk, hrefs⟩ := hc
    obtain ⟨c1, c2⟩ := KC (F := l.F) (ρ := ρ) hb
    have hor := Cw (Ak (conjE cs)) g1 (Ad _ l.F ρ).2 hgk l.F ρ
    obtain ⟨hL, _⟩ := JV hr
    have hPM : PM (conjE cs) m1 s.2 (mergeOn (conjE cs) m1 (fpW T s.2 nm ch W).2 s.2) := fun n => by
     grind [DU, Loc.len, fpW, Loc.frame]
    have hal : ∀ k, al s.2 k \/ al m1 k -> al (mergeOn (conjE cs) m1 (fpW T s.2 nm ch W).2 s.2) k := fun k hk => by grind [PM.al]
    have hal1 : ∀ k ∈ refsW m1 v1 (fpW T s.2 nm ch W).2, al m1 k := fun k hk => List.all_eq_true.1 hrefs k hk
    have hvok : v1.ok (al m1) := E9 v1 fun n hn => hal1 n (by simp [refsW, hn])
    have hok1 : ∀ n g x, m1.at n = some (g, x) -> SV.okL (al m1) x.cs \/ s.2.at n = some (g, x) := fun n g x hn => by
     grind [fpW, JT, Blk.cs, refsW, Loc.frame]
    have keep1 : ∀ k, al s.2 k -> k ∉ (fpW T s.2 nm ch W).2 -> al m1 k := fun k hk hw => by grind [al, Loc.frame]
    refine ⟨hor.2, fun ht K Q hK => ?_⟩
    rw [hor.1, Bool.or_eq_true, (Ad (conjE cs) l.F ρ).1, c2] at ht
    rcases Bool.eq_false_or_eq_true (holds l.F ρ cs) with hh | hh
    ·rw [if_pos (by rw [hwant]; exact hh)]
     have hgt : g1.tt l.F ρ = true := by
      rcases ht with ht | ht
      ·rw [hh] at ht; cases ht
      ·exact ht
     refine (KB hS hG hE hM hh hW hr).2 hgt K Q fun ad' w' hr' x hv => ?_
     have x' : Ext ad ad' s.2 (mergeOn (conjE cs) m1 (fpW T s.2 nm ch W).2 s.2) := ⟨x.same, fun k hk => hal k (Or.inl hk)⟩
     have hp' := (hT.ext x').put o.dst (v := .gd cs v1) (by grind [SV.ok, SV.ok_mono])
     simp only [SV.conc] at hp'
     unfold holds at hh
     rw [hh] at hp'
     refine hK ad' _ w' ⟨hp', hPM.rel c1 (t := true) (by rw [c2]; exact hh) hr' fun n g x hn => ?_⟩ x'
     obtain ⟨_, Im, _, _, hI⟩ := hM
     exact hI.ok n g x hn
    ·rw [if_neg (by rw [hwant]; show ¬ holds l.F ρ cs = true; simp_all)]
     have x' : Ext ad ad s.2 (mergeOn (conjE cs) m1 (fpW T s.2 nm ch W).2 s.2) := ⟨fun _ _ => rfl, fun k hk => hal k (Or.inl hk)⟩
     have hp' := (hT.ext x').put o.dst (v := .gd cs v1) (by grind [SV.ok, SV.ok_mono])
     have hh' := hh
     simp only [SV.conc] at hp'
     unfold holds at hh
     rw [hh] at hp'
     obtain ⟨_, Im, _, _, hI⟩ := id hM
     refine hK ad _ w ⟨hp', ?_⟩ x'
     refine (PM.rel' c1 hPM (by rw [c2]; exact hh') hM fun n g x hn => ?_)
     rcases hok1 n g x hn with h | h
     ·grind [SV.okL_mono]
     ·exact SV.okL_mono (fun k hk => hal k (Or.inl hk)) _ (hI.ok n g x h)
   ·cases h
  ·cases h
 ·cases hp
end
def C4 (ops : Array Oper) (o : Oper) (tm : Tm) : Env := fun t => bif (o.looksAt ops).contains t then tm.at t else none
def EX (P : Program) (ops : Array Oper) (i : Nat) (tm : Tm) : Option (PL × Option Nat) :=
 match ops[i]? with
 | some o => (EW P ops o (C4 ops o tm)).map fun p => (p, o.dst)
 | none => none
structure Rec where
 fp : FP
 ob : E
 ch : Ch
 tg : Nat
def tgPL : PL -> Nat
 | .run none (.dx _ (.len (.ls ..))) => 1
 | .run none (.dx _ (.ste ..)) => 2
 | _ => 0
def svPL : PL -> SV -> Bool
 | .run none (.dx _ (.sub ..)), .sv .. => true
 | _, _ => false
def fpV (P : Program) (G : Glob) (T : Tab) (m : Mem) (nm : Nat) (ch : Ch) (p : PL) (v : SV) : FP := bif svPL p v then ((fpPL P G T m nm ch p).1, []) else fpPL P G T m nm ch p
def WD : Nat := 8
def NP (a b : FP) : Bool := (a.2.all fun n => !b.1.contains n && !b.2.contains n) && b.2.all fun n => !a.1.contains n && !a.2.contains n
def stI (P : Program) (G : Glob) (T : Tab) (ops : Array Oper) (base : Nat) (rs : List Rec) (i : Nat) (s : St) : Option St :=
 match EX P ops i s.1, rs[i]? with
 | some (p, dst), some r => match BS P G T s.2 (base + WD * i) r.ch p with
   | some (g, v, m') => if (fpV P G T s.2 (base + WD * i) r.ch p v = r.fp /\ tgPL p = r.tg) /\ g.same r.ob = true then some (setT s.1 dst v, m') else none
   | none => none
 | _, _ => none
def EY (P : Program) (G : Glob) (T : Tab) (ops : Array Oper) (base : Nat) (rs : List Rec) : List Nat -> St -> Option St
 | [], s => some s
 | i :: r, s => match stI P G T ops base rs i s with
   | some s' => EY P G T ops base rs r s'
   | none => none
def SR (ops : Array Oper) (x y : Oper) : Bool :=
 (match x.dst with
  | some d => !(y.looksAt ops).contains d && decide (y.dst ≠ some d)
  | none => true) &&
 (match y.dst with
  | some d => !(x.looksAt ops).contains d
  | none => true)
def indep (ops : Array Oper) (rs : List Rec) (j i : Nat) : Bool :=
 match ops[j]?, ops[i]?, rs[j]?, rs[i]? with
 | some oj, some oi, some fj, some fi => (NP fj.fp fi.fp || (decide (fj.tg = 1) && decide (fi.tg = 2))) && SR ops oj oi
 | _, _, _, _ => false
section
variable {P : Program} {ρ : Nat -> Int} {G : Glob} {T : Tab} {l : Tabs} {w0 w : World} {M0 Im0 : Nat -> Prop} {ad : Nat -> Hd} {m m2 m' : Mem} {tm : Tm} {en : Env} {a : Act}
theorem Mu {ops : Array Oper} {o : Oper} {tm : Tm} {d : Option Nat} {v : SV} (h : ∀ k, d = some k -> (o.looksAt ops).contains k = false) : C4 ops o (setT tm d v) = C4 ops o tm := by
 funext t
 unfold C4
 cases ht : (o.looksAt ops).contains t
 ·rfl
 ·simp only [cond_true]
  cases d with
  | none => rfl
  | some k =>
    grind [setT, Tm.at]
theorem Mv {tm : Tm} {d d' : Option Nat} {v v' : SV} (h : d = none \/ d' = none \/ d ≠ d') : setT (setT tm d v) d' v' = setT (setT tm d' v') d v := by
 cases d <;> cases d' <;> simp only [setT]
 rename_i x y
 exact List.set_comm _ _ (by simp_all)
theorem Mem.ext' (hl : m.length = m2.length) (h : ∀ n, m.at n = m2.at n) : m = m2 := by
 apply List.ext_getElem hl
 intro n h1 h2
 have := h n
 simpa [Mem.at, List.getD, h1, h2] using this
theorem O9 {a b : FP} (h : NP a b = true) : (∀ n ∈ a.2, n ∉ b.1 /\ n ∉ b.2) /\ ∀ n ∈ b.2, n ∉ a.1 /\ n ∉ a.2 := by
 grind [NP]
theorem Vp {nm nm' n n' str o : Nat} {le i : E} {cs : List SV} {g gi : E} {v vi : SV} {m0 m1 : Mem} (h1 : applyX P G m nm (.len (.ls n le)) = some (g, v, m0)) (h2 : applyX P G m nm' (.ste n' str i o cs) = some (gi, vi, m1)) :
 m0 = m /\ applyX P G m1 nm (.len (.ls n le)) = some (g, v, m1) := by
 have hm0 : m0 = m := by
  simp only [applyX] at h1
  split at h1
  ·obtain ⟨V, _, e⟩ := Option.map_eq_some_iff.1 h1
   simp_all
  ·obtain ⟨V, _, e⟩ := Option.map_eq_some_iff.1 h1
   simp_all
 subst hm0
 refine ⟨rfl, ?_⟩
 simp only [applyX] at h2
 split at h2
 ·rename_i g0 ty row le0 c hm
  split at h2
  ·split at h2
   ·split at h2
    ·simp only [oJ, pJ] at h2
     obtain ⟨_, _, rfl⟩ := h2
     have hl : n' < m0.length := by
      rcases Nat.lt_or_ge n' m0.length with h | h
      ·exact h
      ·grind [Mem.at]
     by_cases hn : n' = n
     ·subst hn
      simp only [applyX, tyL, Ag, hm, Mem.at_set_same hl] at h1 ⊢
      split at h1
      ·rename_i hc
       rw [if_pos ⟨hc.1, hc.2.1, hc.2.2.1, rfl, hc.2.2.2.2.1, hc.2.2.2.2.2⟩]
       simp_all
      ·cases h1
     grind [tyL, Mem.at_set_other, Ag, applyX]
    ·cases h2
   ·cases h2
  ·cases h2
 ·cases h2
theorem tg_1 {p : PL} (h : tgPL p = 1) : ∃ g n le, p = .run none (.dx g (.len (.ls n le))) := by
 unfold tgPL at h
 grind
theorem tg_2 {p : PL} (h : tgPL p = 2) : ∃ g n str i o cs, p = .run none (.dx g (.ste n str i o cs)) := by
 unfold tgPL at h
 grind
theorem LO {nm : Nat} {ch : Ch} {g0 g : E} {x : X} {v : SV} (h : runW P G T m nm ch (.dx g0 x) = some (g, v, m')) : ∃ r, applyX P G m nm x = some (r, v, m') /\ r.kind = .b /\ g = mkAnd g0 r := by
 obtain ⟨⟨r1, r2, r3⟩, hr, h⟩ := Option.bind_eq_some_iff.1 h
 simp_all
theorem KD {nm : Nat} {ch : Ch} {p : PL} {g : E} {v : SV} (h : BS P G T m nm ch p = some (g, v, m')) :
 Loc (fun m => BS P G T m nm ch p) m (fpV P G T m nm ch p v) g v m' /\ ∀ m2, m2.length = m.length -> Agree ((fpV P G T m nm ch p v).1 ++ (fpV P G T m nm ch p v).2) m m2 -> fpV P G T m2 nm ch p v = fpV P G T m nm ch p v := by
 cases hs : svPL p v with
 | false =>
   have e : ∀ m, fpV P G T m nm ch p v = fpPL P G T m nm ch p := fun m => by unfold fpV; rw [hs]; rfl
   obtain ⟨h1, h2⟩ := SQ h
   rw [e]
   exact ⟨h1, fun m2 hl ha => by rw [e]; exact h2 m2 hl ha⟩
 | true =>
   have e : ∀ m, fpV P G T m nm ch p v = ((fpPL P G T m nm ch p).1, []) := fun m => by unfold fpV; rw [hs]; rfl
   simp only [e]
   unfold svPL at hs
   split at hs
   ·rename_i g0 t e' x lo hi n str l s h'
    obtain ⟨r, a, hk, hg⟩ := LO (T := T) (ch := ch) h
    have a0 := a
    simp only [applyX] at a
    cases hsv : subV P m t e' x lo hi with
    | some q =>
      rw [hsv] at a
      simp only [oJ] at a; subst a
      obtain ⟨hm, hq⟩ := NO hsv
      subst hm
      refine ⟨Loc.read fun m2 hl ha => ?_, fun m2 _ _ => rfl⟩
      have hq2 := hq m2 ha
      have h2 : applyX P G m2 nm (.sub t e' x lo hi) = some (r, .sv n str l s h', m2) := by
       simp only [applyX]; rw [hq2]
      have hr : applyX P G m' nm (.sub t e' x lo hi) = some (r, .sv n str l s h', m') := a0
      simp only [BS, runW] at h ⊢
      rw [hr] at h
      rw [h2]
      simp_all
    | none =>
      rw [hsv] at a
      grind
   ·cases hs
theorem swap {ops : Array Oper} {base : Nat} {rs : List Rec} {j i : Nat} (hi : indep ops rs j i = true) {s s1 s2 : St}
 (h1 : stI P G T ops base rs j s = some s1) (h2 : stI P G T ops base rs i s1 = some s2) : ∃ s1', stI P G T ops base rs i s = some s1' /\ stI P G T ops base rs j s1' = some s2 := by
 unfold indep at hi
 split at hi
 ·rename_i oj oi rj ri hoj hoi hrj hri
  simp only [Bool.and_eq_true, SR] at hi
  obtain ⟨hdis, hx, hy⟩ := hi
  have hdd : oj.dst = none \/ oi.dst = none \/ oj.dst ≠ oi.dst := by
   cases hd : oj.dst with
   | none => exact Or.inl rfl
   | some d =>
     grind
  have e1 : ∀ (tm : Tm) (v : SV), C4 ops oi (setT tm oj.dst v) = C4 ops oi tm := fun tm v => Mu fun k hk => by
   simp_all
  have e2 : ∀ (tm : Tm) (v : SV), C4 ops oj (setT tm oi.dst v) = C4 ops oj tm := fun tm v => Mu fun k hk => by
   simp_all
  unfold stI EX at h1
  simp only [hoj, hrj] at h1
  cases hpj : EW P ops oj (C4 ops oj s.1) with
  | none => simp_all
  | some p =>
    simp only [hpj, Option.map_some] at h1
    split at h1
    ·rename_i gj vj mj hj
     split at h1
     ·rename_i hcj
      simp only [oJ] at h1; subst h1
      unfold stI EX at h2
      simp only [hoi, hri, e1] at h2
      cases hpi : EW P ops oi (C4 ops oi s.1) with
      | none => simp_all
      | some p' =>
        simp only [hpi, Option.map_some] at h2
        split at h2
        ·rename_i gi vi mi hii
         split at h2
         ·rename_i hci
          simp only [oJ] at h2; subst h2
          rw [Bool.or_eq_true] at hdis
          rcases hdis with hdis | hdis
          rotate_left
          ·simp only [Bool.and_eq_true, decide_eq_true_eq] at hdis
           obtain ⟨g1, n1, le1, rfl⟩ := tg_1 (hcj.1.2.trans hdis.1)
           obtain ⟨g2, n2, str2, i2, o2, cs2, rfl⟩ := tg_2 (hci.1.2.trans hdis.2)
           obtain ⟨q1, a1, k1, rfl⟩ := LO (T := T) (ch := none) hj
           have hmj : mj = s.2 := by
            simp only [applyX] at a1
            split at a1
            ·obtain ⟨V, _, e⟩ := Option.map_eq_some_iff.1 a1
             simp_all
            ·obtain ⟨V, _, e⟩ := Option.map_eq_some_iff.1 a1
             simp_all
           subst hmj
           obtain ⟨q2, a2, k2, rfl⟩ := LO (T := T) (ch := none) hii
           have a3 := (Vp a1 a2).2
           refine ⟨(setT s.1 oi.dst vi, mi), ?_, ?_⟩
           ·grind [stI, EX]
           ·unfold stI EX
            simp only [hoj, hrj, e2, hpj, Option.map_some]
            have hf : fpV P G T mi (base + WD * j) rj.ch (.run none (.dx g1 (.len (.ls n1 le1)))) vj = rj.fp := hcj.1.1
            grind [BS, WD, mkAnd, runW, Mv]
          obtain ⟨dj, di⟩ := O9 hdis
          obtain ⟨Lj, Fj⟩ := KD hj
          obtain ⟨Li, Fi⟩ := KD hii
          rw [hcj.1.1] at Lj Fj
          rw [hci.1.1] at Li Fi
          have ai : Agree (ri.fp.1 ++ ri.fp.2) mj s.2 := fun n hn => by
           grind [Loc.frame]
          obtain ⟨m1, q1, q2, q3, q4⟩ := Li.loc s.2 Lj.len.symm ai
          have aj : Agree (rj.fp.1 ++ rj.fp.2) s.2 m1 := fun n hn => by
           grind
          obtain ⟨m2, t1, t2, t3, t4⟩ := Lj.loc m1 q2 aj
          have hmm : m2 = mi := by
           refine Mem.ext' (by grind [Loc.len]) fun n => ?_
           by_cases hw : n ∈ rj.fp.2
           ·grind [Loc.frame]
           ·grind [Loc.frame]
          subst hmm
          have f1 := Fi s.2 Lj.len.symm ai
          have f2 := Fj m1 q2 aj
          refine ⟨(setT s.1 oi.dst vi, m1), ?_, ?_⟩
          ·grind [stI, EX, Loc.len]
          grind [stI, EX, Mv]
         ·cases h2
        ·cases h2
     ·cases h1
    ·cases h1
 ·cases hi
theorem Pu {ops : Array Oper} {base : Nat} {rs : List Rec} {i : Nat} {post : List Nat} : ∀ (pre : List Nat) {s s' : St}, (∀ j ∈ pre, indep ops rs j i = true) ->
 EY P G T ops base rs (pre ++ i :: post) s = some s' -> ∃ s1, stI P G T ops base rs i s = some s1 /\ EY P G T ops base rs (pre ++ post) s1 = some s'
 | [], s, s', _, h => by
   grind [EY]
 | j :: pre, s, s', hp, h => by
   simp only [List.cons_append, EY] at h
   split at h
   ·rename_i s1 h1
    obtain ⟨s2, i1, i2⟩ := Pu pre (fun k hk => hp k (by simp [hk])) h
    obtain ⟨s1', c1, c2⟩ := swap (hp j (by simp)) h1 i1
    grind [EY]
   ·cases h
def NQ (o : Oper) (l : List Nat) : Nat := o.after.toList.foldl (fun s e => bif Region.binds .any e then s ||| (2 ^ e.on ||| l.getD e.on 0) else s) 0
def I0 (ops : List Oper) : List Nat -> List Nat := fun acc => match ops with
 | [] => acc
 | o :: r => I0 r (acc ++ [NQ o acc])
inductive Anc (ops : Array Oper) : Nat -> Nat -> Prop
 | one {i j : Nat} {o : Oper} {e : Edge} : ops[i]? = some o -> e ∈ o.after -> Region.binds .any e = true -> e.on = j -> Anc ops i j
 | more {i j : Nat} {o : Oper} {e : Edge} : ops[i]? = some o -> e ∈ o.after -> Region.binds .any e = true -> Anc ops e.on j -> Anc ops i j
theorem KE {l : List Nat} {j : Nat} : ∀ (es : List Edge) (s : Nat), (es.foldl (fun s e => bif Region.binds .any e then s ||| (2 ^ e.on ||| l.getD e.on 0) else s) s).testBit j = true ->
 s.testBit j = true \/ ∃ e ∈ es, Region.binds .any e = true /\ (e.on = j \/ (l.getD e.on 0).testBit j = true)
 | [], s, h => Or.inl h
 | e :: es, s, h => by
   simp only [List.foldl_cons] at h
   rcases KE es _ h with h1 | ⟨e', h1, h2, h3⟩
   ·grind
   grind
theorem KF (ops : Array Oper) : ∀ (r : List Oper) (acc : List Nat), (∀ k, r[k]? = ops[acc.length + k]?) -> (∀ i j, (acc.getD i 0).testBit j = true -> Anc ops i j) ->
 ∀ i j, ((I0 r acc).getD i 0).testBit j = true -> Anc ops i j
 | [], acc, _, h => h
 | o :: r, acc, hr, h => by
   unfold I0
   have h0 : ops[acc.length]? = some o := by simpa using (hr 0).symm
   refine KF ops r _ (fun k => by have := hr (k + 1); grind) ?_
   intro i j hij
   by_cases hi : i < acc.length
   ·grind
   ·by_cases hi' : i = acc.length
    ·subst hi'
     rw [show (acc ++ [NQ o acc]).getD acc.length 0 = NQ o acc by simp [List.getD]] at hij
     rcases KE _ _ hij with h1 | ⟨e, h1, h2, h3⟩
     ·simp at h1
     ·rcases h3 with h3 | h3
      ·exact .one h0 (by simpa using h1) h2 h3
      ·exact .more h0 (by simpa using h1) h2 (h e.on j h3)
    grind
def SS (ops : Array Oper) (listed : Array Bool) : Prop := ∀ k o, listed.getD k false = true -> ops[k]? = some o -> ∀ e ∈ o.after, Region.binds .any e = true -> listed.getD e.on false = true
theorem Anc.listed {ops : Array Oper} {listed : Array Bool} (hc : SS ops listed) {i j : Nat} (h : Anc ops i j) : (∀ o, ops[i]? = some o -> ∀ e ∈ o.after, Region.binds .any e = true -> listed.getD e.on false = true) -> listed.getD j false = true := by
 induction h with
 | one h1 h2 h3 h4 => grind
 | more h1 h2 h3 _ ih => intro hx; exact ih fun o ho e he hb => hc _ o (hx _ h1 _ h2 h3) ho e he hb
def I1 (ops : List Oper) (i : Nat) : Bool := match ops with
 | [] => true
 | o :: r => (o.after.toList.all fun e => !Region.binds .any e || decide (e.on < i)) && I1 r (i + 1)
theorem KG {ops : Array Oper} : ∀ (r : List Oper) (i : Nat), (∀ k, r[k]? = ops[i + k]?) -> I1 r i = true -> ∀ k o, i <= k -> ops[k]? = some o -> ∀ e ∈ o.after, Region.binds .any e = true -> e.on < k
 | [], i, hr, _, k, o, hk, ho, _, _, _ => by
   have := hr (k - i)
   simp_all
 | x :: r, i, hr, hb, k, o, hk, ho, e, he, hbe => by
   simp only [I1, Bool.and_eq_true] at hb
   by_cases hki : k = i
   ·subst hki
    have hx : o = x := by have := hr 0; simp only [List.getElem?_cons_zero, Nat.add_zero] at this; rw [ho] at this; exact (Option.some.inj this).symm
    grind
   ·exact KG r (i + 1) (fun k => by have := hr (k + 1); grind) hb.2 k o (by omega) ho e he hbe
def KH (ops : Array Oper) (rs : List Rec) (ms : List Nat) : Bool :=
 (List.range ops.size).all fun i => (List.range i).all fun j => (ms.getD i 0).testBit j || indep ops rs j i
def recsRun (P : Program) (G : Glob) (T : Tab) (ops : Array Oper) (base : Nat) : List Nat -> St -> Option (List Rec)
 | [], _ => some []
 | i :: r, s => match EX P ops i s.1 with
   | some (p, dst) =>
     let ch : Ch := match p with
      | .run _ (.call _ f args) => UF T s.2 (base + WD * i) f args
      | _ => none
     match BS P G T s.2 (base + WD * i) ch p with
     | some (g, v, m') => match recsRun P G T ops base r (setT s.1 dst v, m') with
       | some l => some (⟨fpV P G T s.2 (base + WD * i) ch p v, g, ch, tgPL p⟩ :: l)
       | none => none
     | none => none
   | none => none
def obsE : List Rec -> E
 | [] => mkB true
 | r :: l => mkAnd r.ob (obsE l)
def NR (P : Program) (G : Glob) (T : Tab) (ops : Array Oper) (s : St) : Option (E × St) :=
 let s0 : St := (s.1, s.2 ++ List.replicate (WD * ops.size) none)
 match recsRun P G T ops s.2.length (List.range ops.size) s0 with
 | some rs => bif I1 ops.toList 0 && KH ops rs (I0 ops.toList []) && rs.all fun r => decide (r.ob.kind = .b) then
  (EY P G T ops s.2.length rs (List.range ops.size) s0).map fun s' => (obsE rs, s')
   else none
 | none => none
theorem Mw {F : Fam} : ∀ {rs : List Rec}, (rs.all fun r => decide (r.ob.kind = .b)) = true -> (obsE rs).kind = .b /\ ((obsE rs).tt F ρ = true -> ∀ r ∈ rs, r.ob.tt F ρ = true)
 | [], _ => ⟨rfl, fun _ r hr => by cases hr⟩
 | r :: l, h => by
   simp only [List.all_cons, Bool.and_eq_true, decide_eq_true_eq] at h
   obtain ⟨i1, i2⟩ := Mw (F := F) (rs := l) h.2
   grind [Aa, obsE]
theorem FN (m : Mem) (n k : Nat) : Mem.at (m ++ List.replicate n none) k = m.at k := by
 grind [Mem.at]
theorem Ce (m : Mem) (n : Nat) : al (m ++ List.replicate n none) = al m := by funext k; simp [al, FN]
theorem Rel.extend {F : Fam} (h : Rel F ρ w0 M0 Im0 ad m w) (n : Nat) : Rel F ρ w0 M0 Im0 ad (m ++ List.replicate n none) w := by
 obtain ⟨hM, Im, h1, h2, hI⟩ := h
 refine ⟨hM, Im, h1, h2, fun k g x hk hg => ?_, fun k g x hk => ?_, fun k k' g x g' y b a1 a2 a3 a4 a5 a6 => ?_, hI.im, hI.fr⟩
 ·rw [FN] at hk; exact hI.ent k g x hk hg
 ·rw [FN] at hk; rw [Ce]; exact hI.ok k g x hk
 ·rw [FN] at a1 a3; exact hI.inj k k' g x g' y b a1 a2 a3 a4 a5 a6
theorem RelS.extend {F : Fam} {s : St} (h : RelS F ρ w0 M0 Im0 ad s a w) (n : Nat) : RelS F ρ w0 M0 Im0 ad (s.1, s.2 ++ List.replicate n none) a w :=
 ⟨⟨h.1.defers, h.1.size, fun i v hv => by simp only [Ce]; exact h.1.slot i v hv⟩, h.2.extend n⟩
theorem Rel.drew {F : Fam} (h : Rel F ρ w0 M0 Im0 ad m w) : Rel F ρ w0 M0 Im0 ad m { w with drawn := w.drawn + 1 } := by
 obtain ⟨hM, Im, h1, h2, hI⟩ := h
 exact ⟨hM, Im, h1, h2, hI.refl_w rfl (hI.fr.trans (Fr.drew M0 w) fun b _ hb => hb)⟩
theorem SU {F : Fam} {ops : Array Oper} {o : Oper} (hT : RelT F ρ ad m tm a) : RelV F ρ ad m (C4 ops o tm) a := fun i v hv => by
 grind [C4, RelT.slot]
def rem (ops : Array Oper) (listed : Array Bool) : List Nat := (List.range ops.size).filter fun i => !listed.getD i true
theorem SX (hS : Ck P G l T) (hG : GOK G Im0 w0) {ops : Array Oper} {base : Nat} {rs : List Rec} (hobs : ∀ r ∈ rs, r.ob.tt l.F ρ = true) {Q : Exit -> Act -> World -> Prop} (hback : I1 ops.toList 0 = true) (hpairs : KH ops rs (I0 ops.toList []) = true)
 {s' : St} : ∀ (fuel : Nat) (listed : Array Bool) (s : St) (a : Act) (w : World) (ad : Nat -> Hd), listed.size = ops.size -> SS ops listed -> (rem ops listed).length = fuel ->
 EY P G T ops base rs (rem ops listed) s = some s' -> RelS l.F ρ w0 M0 Im0 ad s a w -> (∀ ad' a' w', RelS l.F ρ w0 M0 Im0 ad' s' a' w' -> Ext ad ad' s.2 s'.2 -> Q .normal a' w') -> wpAny P .any ops Q fuel listed a w := by
 have hanc := KF ops ops.toList [] (fun k => by simp) (fun i j h => by simp at h)
 have hb := KG (ops := ops) ops.toList 0 (fun k => by simp) hback
 have noready : ∀ listed : Array Bool, listed.size = ops.size -> Region.ready .any ops listed = [] -> rem ops listed = [] := by
  intro listed hsz hr
  cases hrem : rem ops listed with
  | nil => rfl
  | cons i r =>
    exfalso
    have hmem : i ∈ rem ops listed := by rw [hrem]; simp
    simp only [rem, List.mem_filter, List.mem_range, Bool.not_eq_true'] at hmem
    have hsorted : (rem ops listed).Pairwise (· < ·) := List.Pairwise.filter _ List.pairwise_lt_range
    rw [hrem] at hsorted
    have hmin : ∀ k, k < i -> k ∉ rem ops listed := fun k hk hkm => by
     rw [hrem] at hkm
     rcases List.mem_cons.1 hkm with rfl | hkm
     ·omega
     ·have := (List.pairwise_cons.1 hsorted).1 k hkm; omega
    have : i ∈ Region.ready .any ops listed := by
     rw [mem_ready]
     refine ⟨hmem.2, ops[i], by simp [hmem.1], fun e he hbe => ?_⟩
     have hlt := hb i ops[i] (Nat.zero_le _) (by simp [hmem.1]) e he hbe
     have := hmin e.on hlt
     simp only [rem, List.mem_filter, List.mem_range, Bool.not_eq_true', not_and, Bool.not_eq_false] at this
     have := this (by omega)
     have hl : e.on < listed.size := by omega
     simpa [hl] using this
    simp_all
 intro fuel
 induction fuel with
 | zero =>
   intro listed s a w ad hsz hcl hlen hfold hR hQ
   have hnil : rem ops listed = [] := List.eq_nil_of_length_eq_zero hlen
   rw [hnil] at hfold
   simp only [EY, oJ] at hfold
   subst hfold
   refine ⟨?_, hQ ad a w hR (Ext.refl _ _)⟩
   cases hr : Region.ready .any ops listed with
   | nil => rfl
   | cons i r =>
     exfalso
     have hi : i ∈ Region.ready .any ops listed := by rw [hr]; simp
     obtain ⟨h1, o, ho, _⟩ := mem_ready.1 hi
     have : i ∈ rem ops listed := by
      simp only [rem, List.mem_filter, List.mem_range, Bool.not_eq_true']
      exact ⟨(Array.getElem?_eq_some_iff.1 ho).1, h1⟩
     simp_all
 | succ fuel ih =>
   intro listed s a w ad hsz hcl hlen hfold hR hQ
   refine ⟨fun hr => ?_, fun i hi => ?_⟩
   ·simp_all
   ·obtain ⟨hun, o, ho, hall⟩ := mem_ready.1 hi
    have hisz : i < ops.size := (Array.getElem?_eq_some_iff.1 ho).1
    have hmem : i ∈ rem ops listed := by
     simp only [rem, List.mem_filter, List.mem_range, Bool.not_eq_true']
     exact ⟨hisz, hun⟩
    have hnd : (rem ops listed).Nodup := List.Pairwise.filter _ List.nodup_range
    have hsorted : (rem ops listed).Pairwise (· < ·) := List.Pairwise.filter _ List.pairwise_lt_range
    obtain ⟨pre, post, hnot, hsplit, herase⟩ := List.exists_erase_eq hmem
    have hrem' : rem ops (listed.setIfInBounds i true) = pre ++ post := by
     rw [<- herase, List.Nodup.erase_eq_filter hnd]
     unfold rem
     rw [List.filter_filter]
     apply List.filter_congr
     intro k hk
     by_cases hki : i = k
     ·simp_all
     ·rw [getD_set_ne true hki]
      grind
    have hindep : ∀ j ∈ pre, indep ops rs j i = true := fun j hj => by
     have hjm : j ∈ rem ops listed := by rw [hsplit]; simp [hj]
     have hjm' := hjm
     simp only [rem, List.mem_filter, List.mem_range, Bool.not_eq_true'] at hjm'
     have hlt : j < i := by
      rw [hsplit] at hsorted
      exact (List.pairwise_append.1 hsorted).2.2 j hj i (by simp)
     unfold KH at hpairs
     have h1 := List.all_eq_true.1 (List.all_eq_true.1 hpairs i (List.mem_range.2 hisz)) j (List.mem_range.2 hlt)
     simp only [Bool.or_eq_true] at h1
     rcases h1 with h1 | h1
     ·exfalso
      have h2 := (hanc i j h1).listed hcl (fun o' ho' e he hbe => hall e (by simp_all) hbe)
      grind
     ·exact h1
    rw [hsplit] at hfold
    obtain ⟨s1, c1, c2⟩ := Pu pre hindep hfold
    rw [<- hrem'] at c2
    unfold stI EX at c1
    rw [ho] at c1
    simp only at c1
    cases hp : EW P ops o (C4 ops o s.1) with
    | none => rw [hp] at c1; cases c1
    | some p =>
      simp only [hp, Option.map_some] at c1
      split at c1
      ·rename_i p' dst' r hpe hr
       simp only [oJ, pJ] at hpe
       obtain ⟨rfl, rfl⟩ := hpe
       split at c1
       ·rename_i g v m' hrun
        split at c1
        ·rename_i hgs
         simp only [oJ] at c1
         subst c1
         have hgt : g.tt l.F ρ = true := by rw [E.same_eq _ _ hgs.2]; exact hobs r (List.mem_of_getElem? hr)
         refine wpOp_step ho fun K' hK' => ?_
         refine (Ge hS hG hR (SU hR.1) hp hrun).2 hgt _ _ fun ad' a' w' hR' hx => hK' a' w' ?_
         refine ih _ (setT s.1 o.dst v, m') a' w' ad' (by simp [hsz]) ?_ ?_ c2 hR' fun ad'' a'' w'' hR'' hx' => hQ ad'' a'' w'' hR'' (hx.trans hx')
         ·intro k o' hk ho' e he hbe
          by_cases hki : i = k
          ·subst hki
           rw [ho] at ho'; cases ho'
           exact getD_set_true (hall e he hbe)
          ·rw [getD_set_ne false hki] at hk
           exact getD_set_true (hcl k o' hk ho' e he hbe)
         grind
        ·cases c1
       ·cases c1
      ·cases c1
theorem Qx (hm : P.follows .mixedOrders = true) (hS : Ck P G l T) (hG : GOK G Im0 w0) {ops : Array Oper} {id : Nat} {s s' : St} {ob : E} (h : NR P G T ops s = some (ob, s')) : ob.kind = .b /\ (ob.tt l.F ρ = true -> ∀ {ad : Nat -> Hd} {a : Act} {w : World}, RelS l.F ρ w0 M0 Im0 ad s a w -> ∀ {Q : Exit -> Act -> World -> Prop},
 (∀ ad' a' w', RelS l.F ρ w0 M0 Im0 ad' s' a' w' -> Ext ad ad' s.2 s'.2 -> Q .normal a' w') -> (Code.region id ops true).wp P Q a w) := by
 unfold NR at h
 simp only at h
 split at h
 ·rename_i rs hrs
  cases hb : I1 ops.toList 0 && KH ops rs (I0 ops.toList []) && rs.all fun r => decide (r.ob.kind = .b)
  ·rw [hb] at h; cases h
  ·rw [hb] at h
   simp only [cond_true] at h
   obtain ⟨s1, hfo, he⟩ := Option.map_eq_some_iff.1 h
   simp only [pJ] at he
   obtain ⟨rfl, rfl⟩ := he
   simp only [Bool.and_eq_true] at hb
   obtain ⟨o1, o2⟩ := Mw (F := l.F) (ρ := ρ) hb.2
   refine ⟨o1, fun ht {ad a w} hR {Q} hQ => ?_⟩
   have hrem : rem ops (Array.replicate ops.size false) = List.range ops.size := by
    unfold rem
    rw [List.filter_eq_self]
    intro i hi
    have := List.mem_range.1 hi
    simp [this]
   have hR0 := hR.extend (WD * ops.size)
   refine wp_region_any hm (SX hS hG (o2 ht) hb.1.1 hb.1.2 ops.size _ (s.1, s.2 ++ List.replicate (WD * ops.size) none) a _ ad (by simp) ?_ (by rw [hrem]; simp) (by rw [hrem]; exact hfo) ⟨hR0.1, hR0.2.drew⟩ ?_)
   ·intro k o hk
    exfalso
    rcases Nat.lt_or_ge k ops.size with h' | h'
    ·simp [h'] at hk
    ·simp [h'] at hk
   ·intro ad' a' w' hR' hx
    refine hQ ad' a' w' hR' ⟨fun k hk => hx.same k ?_, fun k hk => hx.keep k ?_⟩ <;> simpa [Ce] using hk
 ·cases h
end
def andB (a b : E) : E := if a.kind = .b /\ b.kind = .b then mkAnd a b else mkB false
def impB (c b : E) : E := if c.kind = .b /\ b.kind = .b then mkOr (Ak c) b else mkB false
theorem AG {a b : E} {F : Fam} {ρ : Nat -> Int} (h : (andB a b).tt F ρ = true) : a.tt F ρ = true /\ b.tt F ρ = true := by
 unfold andB at h; split at h
 ·grind [Aa]
 ·simp at h
theorem Gp {c b : E} {F : Fam} {ρ : Nat -> Int} (h : (impB c b).tt F ρ = true) (hc : c.tt F ρ = true) : b.tt F ρ = true := by
 unfold impB at h; split at h
 ·grind [Cw, Ak, Ad]
 ·simp at h
abbrev Into := Nat -> List SV -> Mem -> Option (E × SV × Mem)
def chOf (T : Tab) (m : Mem) (nm : Nat) : PL -> Ch
 | .run _ (.call _ f args) => UF T m nm f args
 | _ => none
def UG (P : Program) (G : Glob) (T : Tab) (m : Mem) (nm : Nat) (pl : PL) : Option (E × SV × Mem) := BS P G T m nm (chOf T m nm pl) pl
def Qy (call : Into) (f : Nat) (args : List SV) (m : Mem) : Option (E × SV × Mem) :=
 match call f args m with
 | some r => some r
 | none => bif SV.sameL args (EV true args) then none else (call f (EV true args) m).map fun r => (andB (CG args) r.1, r.2.1, r.2.2)
def NS (P : Program) (G : Glob) (T : Tab) (call : Into) (ops : Array Oper) (o : Oper) (s : St) : Option (E × St) :=
 match EW P ops o s.1.at with
 | some pl => match UG P G T s.2 s.2.length pl with
   | some (g, v, m') => some (g, setT s.1 o.dst v, m')
   | none => match UG P G T (s.2 ++ List.replicate WD none) s.2.length pl with
     | some (g, v, m') => some (g, setT s.1 o.dst v, m')
     | none => match pl with
       | .run none (.call g f args) => match Qy call f args s.2 with
         | some (g2, v, m') => some (andB g g2, setT s.1 o.dst v, m')
         | none => none
       | _ => none
 | none => none
def KI (P : Program) (G : Glob) (T : Tab) (call : Into) (ops : Array Oper) : List Oper -> St -> Option (E × St)
 | [], s => some (mkB true, s)
 | o :: r, s => match NS P G T call ops o s with
   | some (g, s1) => match KI P G T call ops r s1 with
     | some (g2, s2) => some (andB g g2, s2)
     | none => none
   | none => none
def Qz (s : St) (c : Operand) : Option E :=
 match getC [] s.1.at c with
 | some (.sc e) => if e.kind = .b then some e else none
 | _ => none
section
variable {P : Program} {ρ : Nat -> Int} {G : Glob} {T : Tab} {l : Tabs} {w0 w : World} {M0 Im0 : Nat -> Prop} {ad : Nat -> Hd} {m m2 m' : Mem} {tm : Tm} {en : Env} {a : Act}
def Db (P : Program) (l : Tabs) (ρ : Nat -> Int) (w0 : World) (M0 Im0 : Nat -> Prop) (call : Into) : Prop :=
 ∀ f args m ob v m', call f args m = some (ob, v, m') -> ob.tt l.F ρ = true -> ∀ ad w, Rel l.F ρ w0 M0 Im0 ad m w -> SV.okL (al m) args ->
   Calls P f (SV.concL l.F ρ ad args).toArray w fun e w' => ∃ ad', e = .returned (v.conc l.F ρ ad') /\ Rel l.F ρ w0 M0 Im0 ad' m' w' /\ Ext ad ad' m m' /\ v.ok (al m')
theorem NT {p : Nat -> Prop} {F : Fam} {ρ : Nat -> Int} {ad : Nat -> Hd} : ∀ {args : List SV}, SV.okL p args -> SV.okL p (EV true args)
 | [], _ => trivial
 | v :: r, h => ⟨(BJ (F := F) (ρ := ρ) (ad := ad) v).2 h.1, NT (F := F) (ρ := ρ) (ad := ad) (args := r) h.2⟩
theorem Uo {call : Into} (hI : Db P l ρ w0 M0 Im0 call) : Db P l ρ w0 M0 Im0 (Qy call) := by
 intro f args m ob v m' h ht ad w hR hok
 unfold Qy at h
 split at h
 ·rename_i r hr
  simp only [oJ] at h; subst h
  exact hI f args m _ _ _ hr ht ad w hR hok
 ·cases hs : SV.sameL args (EV true args)
  ·rw [hs] at h
   obtain ⟨⟨o2, v2, m2⟩, h2, h3⟩ := Option.map_eq_some_iff.1 h
   simp only [pJ] at h3
   obtain ⟨rfl, rfl, rfl⟩ := h3
   obtain ⟨t1, t2⟩ := AG ht
   have := hI f _ m _ _ _ h2 t2 ad w hR (NT (F := l.F) (ρ := ρ) (ad := ad) hok)
   grind [Hi]
  simp_all
theorem QA {s : St} (hE : RelV l.F ρ ad s.2 en a) {ops : Array Oper} {o : Oper} {g : E} {f : Nat} {args : List SV} (hp : EW P ops o en = some (.run none (.call g f args))) (hg : g.tt l.F ρ = true) :
 Region.wanted o (yielded ops a.tmps) = true /\ (execOp a.eval o).run P w = .ok (.enter f (SV.concL l.F ρ ad args).toArray) w /\ SV.okL (al s.2) args := by
 unfold EW at hp
 split at hp
 ·simp at hp
 ·rename_i hgd
  obtain ⟨W, hW, he⟩ := Option.map_eq_some_iff.1 hp
  simp only [PL.run.injEq, true_and] at he
  subst he
  refine ⟨by rw [Eu hE hgd]; rfl, ?_⟩
  unfold Ib at hW
  split at hW
  ·simp_all
  ·split at hW
   ·rename_i g0 f' args' hds
    simp only [oJ, W.call.injEq] at hW
    obtain ⟨rfl, rfl, rfl⟩ := hW
    obtain ⟨j1, j2⟩ := HP l.BI (P := P) (w := w) (F := l.F) (ρ := ρ) (ad := ad) (p := al s.2) (ev := a.eval) (fun x s hx => Bt hE (cs := []) rfl hx) hds
    obtain ⟨d1, d2⟩ := j2 hg
    exact ⟨by rw [d1]; rfl, d2⟩
   ·simp at hW
   ·cases hW
 ·simp_all
 ·cases hp
theorem NU (hS : Ck P G l T) (hG : GOK G Im0 w0) {call : Into} (hI : Db P l ρ w0 M0 Im0 call) {ops : Array Oper} {o : Oper} {s s' : St} {g : E} (h : NS P G T call ops o s = some (g, s')) (ht : g.tt l.F ρ = true)
 (hR : RelS l.F ρ w0 M0 Im0 ad s a w) {K : Act -> World -> Prop} {Q : Exit -> Act -> World -> Prop} (hK : ∀ ad' a' w', RelS l.F ρ w0 M0 Im0 ad' s' a' w' -> Ext ad ad' s.2 s'.2 -> K a' w') :
 if Region.wanted o (yielded ops a.tmps) = true then o.wp P a w K Q else K (a.put o.dst undef) w := by
 unfold NS at h
 split at h
 ·rename_i pl hp
  split at h
  ·rename_i g1 v m' hr
   simp only [oJ, pJ] at h
   obtain ⟨rfl, rfl⟩ := h
   exact (Ge hS hG hR hR.1.envV hp hr).2 ht K Q hK
  ·split at h
   ·rename_i g1 v m' hr
    simp only [oJ, pJ] at h
    obtain ⟨rfl, rfl⟩ := h
    have hR' := hR.extend WD
    exact (Ge hS hG hR' hR'.1.envV hp hr).2 ht K Q fun ad' a' w' h1 h2 => hK ad' a' w' h1 ⟨fun k hk => h2.same k (by simpa [Ce] using hk), fun k hk => h2.keep k (by simpa [Ce] using hk)⟩
   ·split at h
    ·rename_i g1 f args hn1 hn2
     split at h
     ·rename_i g2 v m' hc
      simp only [oJ, pJ] at h
      obtain ⟨rfl, rfl⟩ := h
      obtain ⟨t1, t2⟩ := AG ht
      obtain ⟨p1, p2, p3⟩ := QA (w := w) hR.1.envV hp t1
      rw [if_pos p1]
      unfold Oper.wp
      rw [p2]
      simp only [Oper.upon]
      refine (Uo hI f args s.2 _ _ _ hc t2 ad w hR.2 p3).mono ?_
      rintro e w' ⟨ad', rfl, r2, r3, r4⟩
      exact hK ad' _ w' ⟨(hR.1.ext r3).put o.dst r4, r2⟩ r3
     ·cases h
    ·cases h
 ·cases h
theorem Jw (hS : Ck P G l T) (hG : GOK G Im0 w0) {call : Into} (hI : Db P l ρ w0 M0 Im0 call) {ops : Array Oper} {Q : Exit -> Act -> World -> Prop} : ∀ (os : List Oper) (s s' : St) (g : E) (ad : Nat -> Hd) (a : Act) (w : World),
 KI P G T call ops os s = some (g, s') -> g.tt l.F ρ = true -> RelS l.F ρ w0 M0 Im0 ad s a w -> (∀ ad' a' w', RelS l.F ρ w0 M0 Im0 ad' s' a' w' -> Ext ad ad' s.2 s'.2 -> Q .normal a' w') -> wpList P ops Q os a w
 | [], s, s', g, ad, a, w, h, ht, hR, hQ => by
   simp only [KI, oJ, pJ] at h
   obtain ⟨rfl, rfl⟩ := h
   exact hQ ad a w hR (Ext.refl _ _)
 | o :: r, s, s', g, ad, a, w, h, ht, hR, hQ => by
   simp only [KI] at h
   split at h
   ·rename_i g1 s1 h1
    split at h
    ·rename_i g2 s2 h2
     simp only [oJ, pJ] at h
     obtain ⟨rfl, rfl⟩ := h
     obtain ⟨t1, t2⟩ := AG ht
     have := NU (K := wpList P ops Q r) (Q := Q) hS hG hI h1 t1 hR fun ad' a' w' hR' hx => Jw hS hG hI r s1 _ g2 ad' a' w' h2 t2 hR' fun ad'' a'' w'' hR'' hx' => hQ ad'' a'' w'' hR'' (hx.trans hx')
     unfold wpList
     grind
    ·cases h
   ·cases h
theorem QB {F : Fam} (hT : RelT F ρ ad m tm a) {c : Operand} {e : E} (h : Qz (tm, m) c = some e) : e.kind = .b /\ a.eval c = .bool (e.tt F ρ) := by
 unfold Qz at h
 split at h
 ·rename_i e' h1
  split at h
  ·rename_i hk
   simp only [oJ] at h; subst h
   obtain ⟨i1, _⟩ := Bt hT.envV (cs := []) rfl h1
   grind [SV.conc, E.val_b]
  ·cases h
 ·cases h
end
structure LEnt where
 ent : Ent
 sl : List Nat
 so : List Nat
 wr : List Nat
 labs : List Lab
 nt : Nat
 shr : List Nat
def dtOf : List Lab -> List SV -> Option (DT × List SV)
 | [], _ => none
 | [l], vs => some (.leaf l, vs)
 | l :: k :: ls, .sc e :: vs => if e.kind = .b then (dtOf (k :: ls) vs).map fun r => (.br e (.leaf l) r.1, r.2) else none
 | _ :: _ :: _, _ => none
def labV : List Lab -> List Value -> Option (Lab × List Value)
 | [], _ => none
 | [l], vs => some (l, vs)
 | l :: k :: ls, .bool b :: vs => (labV (k :: ls) vs).map fun r => (bif b then l else r.1, r.2)
 | _ :: _ :: _, _ => none
def Hj : List Nat -> List SV -> Tm -> Option Tm
 | [], [], tm => some tm
 | t :: ts, v :: vs, tm => if t < tm.length /\ !ts.contains t = true then Hj ts vs (tm.set t (some v)) else none
 | _, _, _ => none
def KJ : List Nat -> Tm -> Tm
 | [], tm => tm
 | t :: ts, tm => KJ ts (tm.set t none)
def Hk (tm : Tm) : List Nat -> Option (List SV)
 | [] => some []
 | t :: ts => match tm.at t, Hk tm ts with
   | some v, some l => some (v :: l)
   | _, _ => none
def KK (e : Ent) (m : Mem) (nm : Nat) (args : List SV) (fo : Bool) : Option (E × SV × Mem) :=
 (Dm e m nm (EV fo args)).map fun r => (andB (bif fo then CG args else mkB true) r.1, r.2.1, r.2.2)
def SY (e : Ent) (m : Mem) (nm : Nat) (args : List SV) : Option (E × SV × Mem) :=
 match KK e m nm args false with
 | some r => some r
 | none => KK e m nm args true
def shrN (tm : Tm) (l : List Nat) : List Nat := l.filterMap fun t => match tm.at t with
 | some (.ls n _) => some n
 | _ => none
def QC : List Sh -> List SV -> List Nat
 | .lst _ _ false :: l, .ls n _ :: vs => n :: QC l vs
 | _ :: l, _ :: vs => QC l vs
 | _, _ => []
def objN (m : Mem) : List Sh -> List SV -> List Nat
 | .obj _ cs :: l, .ptr n 0 :: vs => (match m.at n with
   | some (_, .cells _ us) => QC cs us
   | _ => []) ++ objN m l vs
 | _ :: l, _ :: vs => objN m l vs
 | _, _ => []
def Hl (le : LEnt) (s : St) : Option (E × Out) :=
 match (if s.1.length = le.nt then Hk s.1 le.sl else none) with
 | some args => match SY le.ent (shareL s.2 (shrN s.1 le.shr ++ objN s.2 le.ent.ps args) ++ List.replicate (Sh.nnL le.ent.outL) none) s.2.length args with
   | some (g, .tup vs, m') => match dtOf le.labs vs with
     | some (d, us) => match Hj le.so us (KJ le.wr s.1) with
       | some tm' => some (g, d, le.labs.map fun l => (l, (tm', m')))
       | none => none
     | none => none
   | _ => none
 | none => none
def I2 (G : Glob) (le : LEnt) (C : (Exit -> Act -> World -> Prop) -> Act -> World -> Prop) : Prop :=
 ∀ xs, fits le.ent.pks xs -> le.ent.pre xs -> ∀ (w : World) (M0 Im : Nat -> Prop) (hs : Nat -> Hd), (∀ b, M0 b -> ¬ Im b /\ b < w.heap.size) -> GOK G Im w -> RelE F0 (env xs) w M0 Im hs le.ent.pgen.2 w ->
   ∀ a : Act, a.defers = [] -> a.tmps.size = le.nt -> (∀ (i t : Nat), le.sl[i]? = some t -> a.tmps[t]? = (SV.concL F0 (env xs) hs le.ent.pgen.1)[i]?) -> ∀ Q : Exit -> Act -> World -> Prop,
     (∀ (a' : Act) (w' : World) (hs' : Nat -> Hd) (Im' : Nat -> Prop) (Vs : List Value) (lab : Lab) (us : List Value), (∀ j, j < le.ent.nn -> hs' j = hs j) -> (∀ b, Im b -> Im' b) -> (∀ b, Im' b -> Im b \/ M0 b \/ w.heap.size <= b) ->
      RelE F0 (env (xs ++ Aw le.ent.fn xs 0 le.ent.oks)) w M0 Im' hs' le.ent.oents w' ->
      (BA le.ent.ogen.1).conc F0 (env (xs ++ Aw le.ent.fn xs 0 le.ent.oks)) hs' = .tuple Vs.toArray -> labV le.labs Vs = some (lab, us) ->
      (∀ (i t : Nat), le.so[i]? = some t -> a'.tmps[t]? = us[i]?) -> (∀ k, k ∉ le.so -> k ∉ le.wr -> a'.tmps[k]? = a.tmps[k]?) -> a'.tmps.size = a.tmps.size -> a'.defers = [] -> Q lab.exit a' w') ->
     C Q a w
def CodeOK (P : Program) (G : Glob) (c : Code) (le : LEnt) : Prop := I2 G le fun Q => c.wp P Q
def Ic (P : Program) (G : Glob) (body : Code) (le : LEnt) : Prop := I2 G le fun Q => (Code.loop body).wp P Q
section
variable {P : Program} {ρ : Nat -> Int} {G : Glob} {T : Tab} {l : Tabs} {w0 w : World} {M0 Im0 : Nat -> Prop} {ad : Nat -> Hd} {m m2 m' : Mem} {tm : Tm} {en : Env} {a : Act}
theorem Mx {F : Fam} : ∀ {ls : List Lab} {vs us : List SV} {d : DT}, dtOf ls vs = some (d, us) -> labV ls (SV.concL F ρ ad vs) = some (d.eval F ρ, SV.concL F ρ ad us) /\ (∀ p, SV.okL p vs -> SV.okL p us) /\ d.eval F ρ ∈ ls
 | [], vs, us, d, h => by simp [dtOf] at h
 | [k], vs, us, d, h => by
   simp only [dtOf, oJ, pJ] at h
   obtain ⟨rfl, rfl⟩ := h
   exact ⟨rfl, fun _ h => h, by simp [DT.eval]⟩
 | k :: k' :: ls, [], us, d, h => by simp [dtOf] at h
 | k :: k' :: ls, v :: vs, us, d, h => by
   cases v with
   | sc e =>
     simp only [dtOf] at h
     split at h
     ·rename_i hk
      obtain ⟨⟨d', us'⟩, h1, h2⟩ := Option.map_eq_some_iff.1 h
      simp only [pJ] at h2
      obtain ⟨rfl, rfl⟩ := h2
      obtain ⟨i1, i2, i3⟩ := Mx (F := F) h1
      refine ⟨?_, fun p hp => i2 p hp.2, ?_⟩
      ·grind [SV.concL, SV.conc, labV, DT.eval, E.val_b]
      grind [DT.eval, E.tt]
     ·cases h
   | _ => simp [dtOf] at h
theorem KL : ∀ (ts : List Nat) (tm : Tm), (KJ ts tm).length = tm.length /\ ∀ k v, (KJ ts tm).at k = some v -> tm.at k = some v /\ k ∉ ts
 | [], tm => ⟨rfl, fun k v h => ⟨h, by simp⟩⟩
 | t :: ts, tm => by
   obtain ⟨i1, i2⟩ := KL ts (tm.set t none)
   grind [KJ, Tm.at]
theorem KM : ∀ {ts : List Nat} {vs : List SV} {tm tm' : Tm}, Hj ts vs tm = some tm' -> tm'.length = tm.length /\ vs.length = ts.length /\ (∀ k, k ∉ ts -> tm'.at k = tm.at k) /\ ∀ (i t : Nat), ts[i]? = some t -> tm'.at t = vs[i]?
 | [], [], tm, tm', h => by
   grind [Hj]
 | [], _ :: _, tm, tm', h => by simp [Hj] at h
 | _ :: _, [], tm, tm', h => by simp [Hj] at h
 | t :: ts, v :: vs, tm, tm', h => by
   simp only [Hj] at h
   split at h
   ·rename_i hc
    obtain ⟨i1, i2, i3, i4⟩ := KM h
    grind [Tm.at]
   ·cases h
theorem DV : ∀ {ts : List Nat} {vs : List SV}, Hk tm ts = some vs -> vs.length = ts.length /\ ∀ (i t : Nat), ts[i]? = some t -> tm.at t = vs[i]?
 | [], vs, h => by grind [Hk]
 | t :: ts, vs, h => by
   simp only [Hk] at h
   split at h
   ·rename_i v l h1 h2
    simp only [oJ] at h; subst h
    obtain ⟨i1, i2⟩ := DV h2
    grind
   ·cases h
theorem QD {e : Ent} (he : l.get e.key = some e) (hG : GOK G Im0 w0) (hR : Rel l.F ρ w0 M0 Im0 ad m w) {nm : Nat} {args : List SV} {fo : Bool} {g : E} {v : SV}
 (h : KK e m nm args fo = some (g, v, m')) (ht : g.tt l.F ρ = true) : ∃ (xs : List Int) (hs : Nat -> Hd) (M1 Im : Nat -> Prop), fits e.pks xs /\ e.pre xs /\ SV.concL l.F ρ ad args = SV.concL F0 (env xs) hs e.pgen.1 /\
  (∀ b, M1 b -> ¬ Im b /\ b < w.heap.size) /\ GOK G Im w /\ RelE F0 (env xs) w M1 Im hs e.pgen.2 w /\
  ∀ (w' : World) (hs' : Nat -> Hd) (Im' : Nat -> Prop), (∀ j, j < e.nn -> hs' j = hs j) -> (∀ b, Im b -> Im' b) -> (∀ b, Im' b -> Im b \/ M1 b \/ w.heap.size <= b) -> RelE F0 (env (xs ++ Aw e.fn xs 0 e.oks)) w M1 Im' hs' e.oents w' ->
    ∃ ad', v.conc l.F ρ ad' = (BA e.ogen.1).conc F0 (env (xs ++ Aw e.fn xs 0 e.oks)) hs' /\ Rel l.F ρ w0 M0 Im0 ad' m' w' /\ Ext ad ad' m m' /\ v.ok (al m') := by
 unfold KK at h
 obtain ⟨⟨g1, v1, m1⟩, h1, h2⟩ := Option.map_eq_some_iff.1 h
 simp only [pJ] at h2
 obtain ⟨rfl, rfl, rfl⟩ := h2
 obtain ⟨t1, t2⟩ := AG ht
 have := (Kt he hG hR h1).2 t2
 grind [Hi]
theorem Ev {le : LEnt} {C : (Exit -> Act -> World -> Prop) -> Act -> World -> Prop} (he : l.get le.ent.key = some le.ent) (hL : I2 G le C) (hG : GOK G Im0 w0) {s : St} {g : E} {o : Out} (h : Hl le s = some (g, o)) (ht : g.tt l.F ρ = true) (hR : RelS l.F ρ w0 M0 Im0 ad s a w) {Q : Exit -> Act -> World -> Prop}
 (hA : After l.F ρ w0 M0 Im0 ad s.2 o Q) : C Q a w := by
 unfold Hl at h
 split at h
 ·rename_i args hargs
  have hnt : s.1.length = le.nt /\ Hk s.1 le.sl = some args := by
   split at hargs
   ·simp_all
   ·cases hargs
  obtain ⟨hnt, hargs⟩ := hnt
  split at h
  ·rename_i g1 vs m' hcall
   split at h
   ·rename_i d us hd
    split at h
    ·rename_i tm' hset
     simp only [oJ, pJ] at h
     obtain ⟨rfl, rfl⟩ := h
     have hR1 : RelS l.F ρ w0 M0 Im0 ad (s.1, shareL s.2 (shrN s.1 le.shr ++ objN s.2 le.ent.ps args)) a w := ⟨⟨hR.1.defers, hR.1.size, fun i v hv => ⟨(hR.1.slot i v hv).1, SV.ok_mono (fun k hk => (BG _ _ _).2 hk) v (hR.1.slot i v hv).2⟩⟩, Rel.shareL _ hR.2⟩
     have hR' := hR1.extend (Sh.nnL le.ent.outL)
     have hcore : ∃ fo, KK le.ent (shareL s.2 (shrN s.1 le.shr ++ objN s.2 le.ent.ps args) ++ List.replicate (Sh.nnL le.ent.outL) none) s.2.length args fo = some (g1, .tup vs, m') := by
      unfold SY at hcall
      split at hcall
      ·simp_all
      ·exact ⟨_, hcall⟩
     obtain ⟨fo, hcf⟩ := hcore
     obtain ⟨xs, hs, M1, Im, a1, a2, a3, a4, a5, a6, a7⟩ := QD he hG hR'.2 hcf ht
     obtain ⟨g1, g2⟩ := DV hargs
     refine hL xs a1 a2 w M1 Im hs a4 a5 a6 a hR.1.defers (by rw [<- hnt]; exact hR.1.size) (fun i t hi => ?_) Q ?_
     ·rw [<- a3]
      have hv := g2 i t hi
      have hil : i < args.length := by have := (List.getElem?_eq_some_iff.1 hi).1; omega
      rw [List.getElem?_eq_getElem hil] at hv
      rw [(hR.1.slot t _ hv).1, Ac, List.getElem?_map, List.getElem?_eq_getElem hil, Option.map_some]
     ·intro a' w' hs' Im' Vs lab uv q1 q2 q3 q4 q5 q6 q7 q8 q9 q10
      obtain ⟨ad', r1, r2, r3, r4⟩ := a7 w' hs' Im' q1 q2 q3 q4
      rw [<- r1] at q5
      simp only [SV.conc, Value.tuple.injEq] at q5
      have hVs : Vs = SV.concL l.F ρ ad' vs := by
       have := congrArg Array.toList q5
       simpa using this.symm
      subst hVs
      obtain ⟨l1, l2, l3⟩ := Mx (F := l.F) (ρ := ρ) (ad := ad') hd
      rw [l1] at q6
      simp only [oJ, pJ] at q6
      obtain ⟨rfl, rfl⟩ := q6
      obtain ⟨s1, s2, s3, s4⟩ := KM hset
      obtain ⟨c1, c2⟩ := KL le.wr s.1
      have hx : Ext ad ad' s.2 m' := ⟨fun k hk => r3.same k (by rw [Ce, BG]; exact hk), fun k hk => r3.keep k (by rw [Ce, BG]; exact hk)⟩
      refine hA (tm', m') ad' a' w' ?_ ⟨⟨q10, ?_, fun k v hv => ?_⟩, r2⟩ hx
      ·have : ∀ (ls : List Lab) (x : Lab), x ∈ ls -> lk x (ls.map fun l => (l, (tm', m'))) = some (tm', m') := by
        intro ls x hx
        induction ls with
        | nil => cases hx
        | cons k ls ih =>
          grind [lk]
       exact this le.labs _ l3
      ·show a'.tmps.size = tm'.length
       rw [s1, c1, q9]; exact hR.1.size
      ·have hokus := l2 _ r4
       change tm'.at k = some v at hv
       by_cases hk : k ∈ le.so
       ·obtain ⟨i, hi, hik⟩ := List.getElem_of_mem hk
        have hik' : le.so[i]? = some k := by rw [List.getElem?_eq_getElem hi, hik]
        grind [Ac, CX]
       ·rw [s3 k hk] at hv
        obtain ⟨j1, j2⟩ := c2 k v hv
        obtain ⟨k1, k2⟩ := hR.1.slot k v j1
        grind [SV.conc_congr, Ext.same, SV.ok_mono, Ext.keep]
    ·cases h
   ·cases h
  ·cases h
 ·cases h
end
abbrev Bo := List Bool -> Option LEnt
def AB : Code -> List Bool -> Option Code
 | .seq x y, b :: p => bif b then AB y p else AB x p
 | .cond _ x y, b :: p => bif b then AB y p else AB x p
 | .block _ c, _ :: p => AB c p
 | .loop c, b :: p => bif b then AB (.loop c) p else AB c p
 | c, [] => some c
 | _, _ :: _ => none
def Ie (f : St -> Option (E × Out)) (r : E × Out) : Option (E × Out) :=
 match lk .nrm r.2.2 with
 | none => some r
 | some s1 => match f s1 with
   | some q => match Pr r.2 q.2 with
     | some o => some (andB r.1 (impB (r.2.1.is .nrm) q.1), o)
     | none => none
   | none => none
def tagL (L : Bo) (k : Nat) : Bo := fun p => match L (List.replicate (k + 1) true ++ false :: p) with
 | some le => some le
 | none => L (false :: p)
theorem KN (c : Code) (p : List Bool) : ∀ k : Nat, AB (.loop c) (List.replicate k true ++ false :: p) = AB c p
 | 0 => rfl
 | k + 1 => KN c p k
def Ig (f : Nat -> St -> Option (E × Out)) : Nat -> Nat -> St -> Option (E × Out)
 | 0, _, _ => none
 | n + 1, k, s => match f k s with
   | some r => Ie (Ig f n (k + 1)) r
   | none => none
def padTo (m : Mem) (o : Option (E × Out)) : Nat :=
 match o with
 | some r => r.2.2.foldl (fun k x => max k x.2.2.length) m.length - m.length
 | none => 0
def brE (e : E) (x y : Option (E × Out)) : Option (E × Out) :=
 match x, y with
 | some ox, some oy => match Qt e ox.2 oy.2 with
   | some o => some (andB (impB e ox.1) (impB (Ak e) oy.1), o)
   | none => none
 | some ox, none => some (andB e ox.1, ox.2)
 | none, some oy => some (andB (Ak e) oy.1, oy.2)
 | none, none => none
def AN (P : Program) (G : Glob) (T : Tab) (call : Into) (N : Nat) : Bo -> Code -> St -> Option (E × Out)
 | _, .skip, s => some (mkB true, .leaf .nrm, [(.nrm, s)])
 | _, .label _, s => some (mkB true, .leaf .nrm, [(.nrm, s)])
 | _, .region _ ops true, s => match NR P G T ops s with
   | some (g, s') => some (g, .leaf .nrm, [(.nrm, s')])
   | none => none
 | _, .region _ ops false, s => match KI P G T call ops ops.toList s with
   | some (g, s') => some (g, .leaf .nrm, [(.nrm, s')])
   | none => none
 | L, .seq x y, s => match L [] with
   | some le => Hl le s
   | none => match AN P G T call N (fun p => L (false :: p)) x s with
     | some r => Ie (AN P G T call N (fun p => L (true :: p)) y) r
     | none => none
 | L, .cond c x y, s => match Qz s c with
   | some e => match e.lit? with
     | some n => bif i2b n then AN P G T call N (fun p => L (false :: p)) x s else AN P G T call N (fun p => L (true :: p)) y s
     | none => match AN P G T call N (fun p => L (false :: p)) x s with
       | ox => brE e ox (AN P G T call N (fun p => L (true :: p)) y (s.1, s.2 ++ List.replicate (padTo s.2 ox) none))
   | none => none
 | L, .block id body, s => match AN P G T call N (fun p => L (false :: p)) body s with
   | some r => match NL id r.2 with
     | some o => some (r.1, o)
     | none => none
   | none => none
 | L, .loop body, s => match L [] with
   | some le => Hl le s
   | none => Ig (fun k => AN P G T call N (tagL L k) body) N 0 s
 | _, .exit id, s => some (mkB true, .leaf (.ex id), [(.ex id, s)])
 | _, .ret, s => some (mkB true, .leaf .ret, [(.ret, s)])
 | _, _, _ => none
def resS (P : Program) (s : St) : List ResultVar -> Option (E × List SV)
 | [] => some (mkB true, [])
 | .tmp t :: r => match getC [] s.1.at (.tmp t), resS P s r with
   | some v, some l => some (l.1, v :: l.2)
   | _, _ => none
 | .cell t ty :: r => match getC [] s.1.at (.tmp t), EI P ty, szOf P ty with
   | some (.ptr n off), some ag, some sz => match blkC s.2 n with
     | some (g, _, cs) => match rdC cs off sz ag, resS P s r with
       | some v, some l => some (andB g l.1, v :: l.2)
       | _, _ => none
     | none => none
   | _, _, _ => none
def MQ : List SV -> SV
 | [v] => v
 | l => .tup l
def NV (P : Program) (fn : Func) (s : St) : Option (E × SV × Mem) := (resS P s fn.results.toList).map fun l => (l.1, MQ l.2, s.2)
def Gq : List (Lab × St) -> Bool
 | [] => true
 | (l, _) :: r => (decide (l = .nrm) || decide (l = .ret)) && Gq r
def QE (m : Mem) (o : Out) : Option St :=
 bif Gq o.2 then
  match lk .ret o.2, lk .nrm o.2 with
  | some s, none => some s
  | none, some s => some s
  | some s, some s' => E7 (o.1.is .ret) s s'
  | none, none => none
 else none
def tm0 (n : Nat) (args : List SV) : Tm := args.map some ++ List.replicate (n - args.length) (some .und)
def evFn (P : Program) (G : Glob) (T : Tab) (LT : Nat -> Bo) (N : Nat) : Nat -> Into
 | 0, _, _, _ => none
 | n + 1, f, args, m => match P.funcs[f]? with
   | some fn => match fn.body with
     | some c => match AN P G T (evFn P G T LT N n) N (LT f) c (tm0 fn.ntmps args, m) with
       | some r => match QE m r.2 with
         | some s => match NV P fn s with
           | some q => some (andB r.1 q.1, q.2)
           | none => none
         | none => none
       | none => none
     | none => none
   | none => none
section
variable {P : Program} {ρ : Nat -> Int} {G : Glob} {T : Tab} {l : Tabs} {w0 w : World} {M0 Im0 : Nat -> Prop} {ad : Nat -> Hd} {m m2 m' : Mem} {tm : Tm} {en : Env} {a : Act}
def Fa (P : Program) (G : Glob) (l : Tabs) (L : Bo) (c : Code) : Prop :=
 ∀ p le, L p = some le -> ∀ body, AB c p = some body -> l.get le.ent.key = some le.ent /\ CodeOK P G body le
theorem DW {f : St -> Option (E × Out)} {r : E × Out} {s0 : Mem} {g : E} {o : Out} (h : Ie f r = some (g, o)) (ht : g.tt l.F ρ = true) {Q : Exit -> Act -> World -> Prop} {K : Act -> World -> Prop}
 (hA : After l.F ρ w0 M0 Im0 ad s0 o Q)
 (hK : ∀ s1 g2 o2 ad' a' w', f s1 = some (g2, o2) -> g2.tt l.F ρ = true -> RelS l.F ρ w0 M0 Im0 ad' s1 a' w' -> After l.F ρ w0 M0 Im0 ad' s1.2 o2 Q -> K a' w') :
 r.1.tt l.F ρ = true /\ After l.F ρ w0 M0 Im0 ad s0 r.2 (Exit.then K Q) := by
 unfold Ie at h
 split at h
 ·rename_i hn
  simp only [oJ] at h; subst h
  refine ⟨ht, fun q ad' a' w' hq hR' hx => ?_⟩
  have hne : o.1.eval l.F ρ ≠ .nrm := fun e => by simp_all
  have := hA q ad' a' w' hq hR' hx
  cases hl : o.1.eval l.F ρ with
  | nrm => exact (hne hl).elim
  | ret => rw [hl] at this; exact this
  | ex id => rw [hl] at this; exact this
 ·rename_i s1 hn
  split at h
  ·rename_i q0 hq0
   split at h
   ·rename_i o' ho'
    simp only [oJ, pJ] at h
    obtain ⟨rfl, rfl⟩ := h
    obtain ⟨t1, t2⟩ := AG ht
    obtain ⟨j1, j2⟩ := After.join ho' hA
    refine ⟨t1, fun q ad' a' w' hq hR' hx => ?_⟩
    by_cases he : r.2.1.eval l.F ρ = .nrm
    ·rw [he] at hq ⊢
     rw [hn] at hq
     simp only [oJ] at hq
     subst hq
     refine hK s1 q0.1 q0.2 ad' a' w' hq0 (Gp t2 (DT.is_true he)) hR' fun q' ad'' a'' w'' hq' hR'' hx' => ?_
     exact j2 he q' ad'' a'' w'' hq' hR'' (hx.trans hx')
    ·have := j1 he q ad' a' w' hq hR' hx
     cases hl : r.2.1.eval l.F ρ with
     | nrm => exact (he hl).elim
     | ret => rw [hl] at this; exact this
     | ex id => rw [hl] at this; exact this
   ·cases h
  ·cases h
theorem SZ {e : E} {x y : Option (E × Out)} {s0 : Mem} {g : E} {o : Out} (h : brE e x y = some (g, o)) (ht : g.tt l.F ρ = true) {Q : Exit -> Act -> World -> Prop} (hA : After l.F ρ w0 M0 Im0 ad s0 o Q) :
 (e.tt l.F ρ = true -> ∃ g1 o1, x = some (g1, o1) /\ g1.tt l.F ρ = true /\ After l.F ρ w0 M0 Im0 ad s0 o1 Q) /\ (e.tt l.F ρ = false -> ∃ g1 o1, y = some (g1, o1) /\ g1.tt l.F ρ = true /\ After l.F ρ w0 M0 Im0 ad s0 o1 Q) := by
 have hnot : e.tt l.F ρ = false -> (Ak e).tt l.F ρ = true := fun h => by rw [(Ad e l.F ρ).1, h]; rfl
 unfold brE at h
 split at h
 ·rename_i ox oy
  split at h
  ·rename_i o' ho'
   simp only [oJ, pJ] at h
   obtain ⟨rfl, rfl⟩ := h
   obtain ⟨t1, t2⟩ := AG ht
   grind [After.br, Gp]
  ·cases h
 ·rename_i ox
  simp only [oJ, pJ] at h
  obtain ⟨rfl, rfl⟩ := h
  obtain ⟨t1, t2⟩ := AG ht
  grind
 ·rename_i oy
  simp only [oJ, pJ] at h
  obtain ⟨rfl, rfl⟩ := h
  obtain ⟨t1, t2⟩ := AG ht
  grind [Ad, Tabs.F]
 ·cases h
theorem DX (hm : P.follows .mixedOrders = true) (hS : Ck P G l T) (hG : GOK G Im0 w0) {call : Into} (hI : Db P l ρ w0 M0 Im0 call) {N : Nat} : ∀ (c : Code) (L : Bo) (s : St) (g : E) (o : Out) (ad : Nat -> Hd) (a : Act) (w : World) (Q : Exit -> Act -> World -> Prop),
 Fa P G l L c -> AN P G T call N L c s = some (g, o) -> g.tt l.F ρ = true -> RelS l.F ρ w0 M0 Im0 ad s a w -> After l.F ρ w0 M0 Im0 ad s.2 o Q -> c.wp P Q a w := by
 intro c
 induction c with
 | skip =>
   intro L s g o ad a w Q hL h ht hR hA
   simp only [AN, oJ, pJ] at h
   obtain ⟨rfl, rfl⟩ := h
   exact wp_skip (hA s ad a w (by simp [lk, DT.eval]) hR (Ext.refl _ _))
 | label k =>
   intro L s g o ad a w Q hL h ht hR hA
   simp only [AN, oJ, pJ] at h
   obtain ⟨rfl, rfl⟩ := h
   exact wp_label (hA s ad a w (by simp [lk, DT.eval]) hR (Ext.refl _ _))
 | region id ops draw =>
   intro L s g o ad a w Q hL h ht hR hA
   cases draw with
   | true =>
     simp only [AN] at h
     split at h
     ·rename_i g1 s' h1
      simp only [oJ, pJ] at h
      obtain ⟨rfl, rfl⟩ := h
      exact (Qx hm hS hG h1).2 ht hR fun ad' a' w' hR' hx => hA s' ad' a' w' (by simp [lk, DT.eval]) hR' hx
     ·cases h
   | false =>
     simp only [AN] at h
     split at h
     ·rename_i g1 s' h1
      simp only [oJ, pJ] at h
      obtain ⟨rfl, rfl⟩ := h
      exact wp_region_list (Jw hS hG hI ops.toList s s' g1 ad a w h1 ht hR fun ad' a' w' hR' hx => hA s' ad' a' w' (by simp [lk, DT.eval]) hR' hx)
     ·cases h
 | seq x y ihx ihy =>
   intro L s g o ad a w Q hL h ht hR hA
   simp only [AN] at h
   split at h
   ·rename_i le hle
    obtain ⟨l1, l2⟩ := hL [] le hle (.seq x y) rfl
    exact Ev l1 l2 hG h ht hR hA
   split at h
   ·rename_i r hr
    obtain ⟨t1, t2⟩ := DW (K := y.wp P Q) h ht hA fun s1 g2 o2 ad' a' w' h2 ht2 hR' hA' => ihy _ s1 g2 o2 ad' a' w' Q (fun p le hp body hb => hL (true :: p) le hp body hb) h2 ht2 hR' hA'
    exact wp_seq (ihx _ s r.1 r.2 ad a w _ (fun p le hp body hb => hL (false :: p) le hp body hb) hr t1 hR t2)
   ·cases h
 | cond c x y ihx ihy =>
   intro L s g o ad a w Q hL h ht hR hA
   simp only [AN] at h
   split at h
   ·rename_i e he
    obtain ⟨hk, hev⟩ := QB hR.1 he
    split at h
    ·rename_i n hn
     have htn := lit?_tt hn l.F ρ
     rw [htn] at hev
     cases hi : i2b n
     ·rw [hi] at h hev
      exact wp_cond (t := false) hev (ihy _ s g o ad a w Q (fun p le hp body hb => hL (true :: p) le hp body hb) h ht hR hA)
     ·rw [hi] at h hev
      exact wp_cond (t := true) hev (ihx _ s g o ad a w Q (fun p le hp body hb => hL (false :: p) le hp body hb) h ht hR hA)
    ·obtain ⟨j1, j2⟩ := SZ h ht hA
     rcases Bool.eq_false_or_eq_true (e.tt l.F ρ) with hte | hte
     ·rw [hte] at hev
      obtain ⟨g1, o1, k1, k2, k3⟩ := j1 hte
      exact wp_cond (t := true) hev (ihx _ s g1 o1 ad a w Q (fun p le hp body hb => hL (false :: p) le hp body hb) k1 k2 hR k3)
     ·rw [hte] at hev
      obtain ⟨g1, o1, k1, k2, k3⟩ := j2 hte
      refine wp_cond (t := false) hev (ihy _ _ g1 o1 ad a w Q (fun p le hp body hb => hL (true :: p) le hp body hb) k1 k2 (hR.extend _) fun q ad' a' w' hq hR' hx => k3 q ad' a' w' hq hR' ⟨fun k hk => hx.same k ?_, fun k hk => hx.keep k ?_⟩) <;> simpa [Ce] using hk
   ·cases h
 | block id body ih =>
   intro L s g o ad a w Q hL h ht hR hA
   simp only [AN] at h
   split at h
   ·rename_i r hr
    split at h
    ·rename_i o' ho'
     simp only [oJ, pJ] at h
     obtain ⟨rfl, rfl⟩ := h
     exact wp_block (ih _ s r.1 r.2 ad a w _ (fun p le hp body hb => hL (false :: p) le hp body hb) hr ht hR (After.rel ho' hA))
    ·cases h
   ·cases h
 | loop body ih =>
   intro L s g o ad a w Q hL h ht hR hA
   simp only [AN] at h
   split at h
   ·rename_i le hle
    obtain ⟨l1, l2⟩ := hL [] le hle (.loop body) rfl
    exact Ev l1 l2 hG h ht hR hA
   ·refine wp_loop_rounds N ?_
    have key : ∀ (n k : Nat) (s : St) (g : E) (o : Out) (ad : Nat -> Hd) (a : Act) (w : World), Ig (fun k => AN P G T call N (tagL L k) body) n k s = some (g, o) -> g.tt l.F ρ = true -> RelS l.F ρ w0 M0 Im0 ad s a w -> After l.F ρ w0 M0 Im0 ad s.2 o Q -> Code.rounds P body Q n a w := by
     intro n
     induction n with
     | zero => grind [Ig]
     | succ n ihn =>
       intro k s g o ad a w h ht hR hA
       simp only [Ig] at h
       split at h
       ·rename_i r hr
        rw [rounds_succ]
        obtain ⟨t1, t2⟩ := DW (K := Code.rounds P body Q n) h ht hA fun s1 g2 o2 ad' a' w' h2 ht2 hR' hA' => ihn (k + 1) s1 g2 o2 ad' a' w' h2 ht2 hR' hA'
        refine ih _ s r.1 r.2 ad a w _ (fun p le hp body' hb => ?_) hr t1 hR t2
        unfold tagL at hp
        split at hp
        ·rename_i le' hq
         cases hp
         exact hL _ _ hq body' (by rw [KN]; exact hb)
        ·exact hL (false :: p) le hp body' hb
       ·cases h
    exact key N 0 s g o ad a w h ht hR hA
 | exit id =>
   intro L s g o ad a w Q hL h ht hR hA
   simp only [AN, oJ, pJ] at h
   obtain ⟨rfl, rfl⟩ := h
   exact wp_exit (hA s ad a w (by simp [lk, DT.eval]) hR (Ext.refl _ _))
 | ret =>
   intro L s g o ad a w Q hL h ht hR hA
   simp only [AN, oJ, pJ] at h
   obtain ⟨rfl, rfl⟩ := h
   exact wp_ret (hA s ad a w (by simp [lk, DT.eval]) hR (Ext.refl _ _))
 | _ => grind [AN]
def resM (a : Act) : ResultVar -> Sem Value
 | .tmp t => pure (a.tmps.getD t undef)
 | .cell t ty => do loadVar ty (<- asAddr (a.tmps.getD t undef))
theorem JW {F : Fam} (hR : RelS F ρ w0 M0 Im0 ad (tm, m) a w) : ∀ (rs : List ResultVar) (q : E × List SV), resS P (tm, m) rs = some q -> q.1.tt F ρ = true ->
 (rs.mapM (resM a)).run P w = .ok (SV.concL F ρ ad q.2) w /\ SV.okL (al m) q.2
 | [], q, h, ht => by simp only [resS, oJ] at h; subst h; exact ⟨rfl, trivial⟩
 | .tmp t :: r, q, h, ht => by
   simp only [resS] at h
   split at h
   ·rename_i v l' h1 h2
    simp only [oJ] at h; subst h
    obtain ⟨i1, i2⟩ := Bt hR.1.envV (cs := []) rfl h1
    obtain ⟨j1, j2⟩ := JW hR r l' h2 ht
    have i1' : a.tmps.getD t undef = v.conc F ρ ad := i1
    refine ⟨?_, i2, j2⟩
    simp_all [resM, SV.concL]
   ·cases h
 | .cell t ty :: r, q, h, ht => by
   simp only [resS] at h
   split at h
   ·rename_i n off ag sz h1 h2 h3
    split at h
    ·rename_i g ty' cs h4
     split at h
     ·rename_i v l' h5 h6
      simp only [oJ] at h; subst h
      obtain ⟨t1, t2⟩ := AG ht
      obtain ⟨i1, i2⟩ := Bt hR.1.envV (cs := []) rfl h1
      obtain ⟨j1, j2⟩ := JW hR r l' h6 t2
      obtain ⟨_, Im, _, _, hI⟩ := hR.2
      obtain ⟨b1, b2⟩ := Br h4
      have hh : w.heap[(ad n).blk]? = some (.cells (SV.concL F ρ ad cs).toArray ty' (0, 0)) := (hI.ent n g _ b1 t1).1
      have hcell : ∀ j u, (SV.concL F ρ ad cs)[j]? = some u -> w.cell? ⟨(ad n).blk, 0 + j, none⟩ = some u := fun j u hu => by
       rw [Nat.zero_add, Cx hh]; simpa using hu
      obtain ⟨k1, k2⟩ := D9 (P := P) hcell h5
      rw [Nat.zero_add] at k1
      have i1' : a.tmps.getD t undef = .pointer (some ⟨(ad n).blk, off, none⟩) := i1
      refine ⟨?_, k2 _ (hI.ok n g _ b1), j2⟩
      have hl := CY (P := P) (w := w) (b := (ad n).blk) (off := off) h2 h3
      rw [k1] at hl
      simp only [Instr.loadAt, Instr.sureAddr, Sem.run_bind, Sem.run_pure, Result.andThen_ok] at hl
      have hlv : (loadVar ty ⟨(ad n).blk, off, none⟩).run P w = .ok (v.conc F ρ ad) w := by
       cases hx : (loadVar ty ⟨(ad n).blk, off, none⟩).run P w with
       | ok x w' =>
         simp_all
       | halt x w' => rw [hx] at hl; cases hl
      have ha : asAddr (.pointer (some ⟨(ad n).blk, off, none⟩)) = (pure ⟨(ad n).blk, off, none⟩ : Sem Addr) := rfl
      simp_all [resM, SV.concL]
     ·cases h
    ·cases h
   ·cases h
theorem Pa {F : Fam} (hR : RelS F ρ w0 M0 Im0 ad (tm, m) a w) {fn : Func} {g : E} {v : SV} {m' : Mem} (h : NV P fn (tm, m) = some (g, v, m')) (ht : g.tt F ρ = true) :
 m' = m /\ (results fn a.tmps).run P w = .ok (v.conc F ρ ad) w /\ v.ok (al m) := by
 unfold NV at h
 obtain ⟨q, h1, h2⟩ := Option.map_eq_some_iff.1 h
 obtain ⟨gq, l⟩ := q
 simp only [pJ] at h2
 obtain ⟨rfl, rfl, rfl⟩ := h2
 obtain ⟨j1, j2⟩ := JW hR fn.results.toList _ h1 ht
 simp only at j1 j2
 have htu : (MQ l).conc F ρ ad = if hs : (SV.concL F ρ ad l).toArray.size = 1 then (SV.concL F ρ ad l).toArray[0] else .tuple (SV.concL F ρ ad l).toArray := by
  unfold MQ
  split
  ·simp [SV.concL]
  ·rename_i hne
   rw [dif_neg]
   ·rfl
   ·intro hs
    rw [Ac, List.size_toArray, List.length_map] at hs
    obtain ⟨v, hv⟩ := List.length_eq_one_iff.1 hs
    exact hne v hv
 refine ⟨rfl, ?_, ?_⟩
 ·rw [htu]
  have hres : results fn a.tmps = (do let vs <- fn.results.mapM (resM a); pure (if h : vs.size = 1 then vs[0] else .tuple vs)) := by
   unfold results
   congr 2
  rw [hres, Array.mapM_eq_mapM_toList]
  simp_all
 ·unfold MQ
  split
  ·exact j2.1
  grind [SV.ok]
theorem Ih : ∀ {xs : List (Lab × St)}, Gq xs = true -> ∀ l q, lk l xs = some q -> l = .nrm \/ l = .ret
 | [], _, l, q, h => by simp [lk] at h
 | (k, s) :: r, h, l, q, hq => by
   simp only [Gq, Bool.and_eq_true, Bool.or_eq_true, decide_eq_true_eq] at h
   simp only [lk] at hq
   split at hq
   ·simp_all
   ·exact Ih h.2 l q hq
theorem Vq {F : Fam} {args : List SV} {n : Nat} (hok : SV.okL (al m) args) : RelT F ρ ad m (tm0 n args) { tmps := (SV.concL F ρ ad args).toArray ++ Array.replicate (n - (SV.concL F ρ ad args).toArray.size) undef, defers := [] } := by
 refine ⟨rfl, by simp [Ac, tm0], fun i u hu => ?_⟩
 simp only [Tm.at, List.getD, tm0] at hu
 by_cases hi : i < args.length
 ·grind [CX, Ac]
 ·rw [List.getElem?_append_right (by simpa using hi), List.getElem?_replicate] at hu
  split at hu
  ·rename_i hlt
   simp only [Option.getD_some, oJ] at hu
   subst hu
   refine ⟨?_, trivial⟩
   grind [Ac, SV.conc]
  ·simp at hu
theorem QF {F : Fam} {o : Out} {s : St} (h : QE m o = some s) {q : St} (hq : lk (o.1.eval F ρ) o.2 = some q) : (o.1.eval F ρ = .nrm \/ o.1.eval F ρ = .ret) /\ (∀ ad a w, RelS F ρ w0 M0 Im0 ad q a w -> RelS F ρ w0 M0 Im0 ad s a w) /\ ∀ k, al q.2 k -> al s.2 k := by
 unfold QE at h
 cases hor : Gq o.2
 ·rw [hor] at h; cases h
 ·rw [hor] at h
  simp only [cond_true] at h
  have hlab := Ih hor _ _ hq
  refine ⟨hlab, ?_⟩
  split at h
  ·grind
  ·grind
  ·rename_i s1 s2 h1 h2
   obtain ⟨k1, k2, k3⟩ := BU (F := F) (ρ := ρ) (w0 := w0) (M0 := M0) (Im0 := Im0) h
   grind [DT.is_false, DT.is_true]
  ·cases h
def LTOK (P : Program) (G : Glob) (l : Tabs) (LT : Nat -> Bo) : Prop := ∀ f fn c, P.funcs[f]? = some fn -> fn.body = some c -> Fa P G l (LT f) c
theorem DY (hm : P.follows .mixedOrders = true) (hS : Ck P G l T) (hG : GOK G Im0 w0) {LT : Nat -> Bo} (hLT : LTOK P G l LT) {N : Nat} : ∀ n, Db P l ρ w0 M0 Im0 (evFn P G T LT N n)
 | 0 => fun f args m ob v m' h => by simp [evFn] at h
 | n + 1 => fun f args m ob v m' h ht ad w hM hok => by
   simp only [evFn] at h
   split at h
   ·rename_i fn hf
    split at h
    ·rename_i c hc
     split at h
     ·rename_i r hr
      split at h
      ·rename_i s hs
       split at h
       ·rename_i q hq
        obtain ⟨gq, vq, mq⟩ := q
        simp only [oJ, pJ] at h
        obtain ⟨rfl, rfl, rfl⟩ := h
        obtain ⟨t1, t2⟩ := AG ht
        refine calls_of_wp hf hc ?_
        refine DX hm hS hG (DY hm hS hG hLT n) c (LT f) _ r.1 r.2 ad _ w _ (hLT f fn c hf hc) hr t1 ⟨Vq hok, hM⟩ ?_
        intro q0 ad' a' w' hq0 hR' hx
        obtain ⟨e1, e2, e3⟩ := QF (w0 := w0) (M0 := M0) (Im0 := Im0) hs hq0
        have hRs := e2 ad' a' w' hR'
        obtain ⟨f1, f2, f3⟩ := Pa (P := P) (tm := s.1) (m := s.2) hRs (fn := fn) hq t2
        subst f1
        have hb : a'.defers = [] /\ ∃ u, (results fn a'.tmps).run P w' = .ok u w' /\ (fun e w' => ∃ ad', e = Ending.returned (vq.conc l.F ρ ad') /\ Rel l.F ρ w0 M0 Im0 ad' s.2 w' /\ Ext ad ad' m s.2 /\ vq.ok (al s.2)) (.returned u) w' :=
         ⟨hRs.1.defers, _, f2, ad', rfl, hRs.2, ⟨hx.same, fun k hk => e3 k (hx.keep k hk)⟩, f3⟩
        rcases e1 with hl | hl <;> rw [hl] <;> exact hb
       ·cases h
      ·cases h
     ·cases h
    ·cases h
   ·cases h
end
def EZ (l : Ents) (n : Nat) : Mem := (List.range n).map fun j => (l.find? fun x => x.1 == j).map (·.2)
def start (e : Ent) (k : Nat) : Mem := EZ e.pgen.2 e.nn ++ List.replicate k (some (mkB true, .dead))
def C5 (e : Ent) : Bool := (Sh.refsL e.ps).all fun j => decide (j < e.nn)
def Ii (m : Mem) : List Ob -> Option (E × List SV)
 | [] => some (mkB true, [])
 | o :: r => match m.at o.j with
   | some (g, b) => match unO b with
     | some (ty', tl', vs) => if ty' = o.ty /\ tl' = o.tl /\ vs.length = o.cs.length then (Ii m r).map fun q => (andB g q.1, vs ++ q.2) else none
     | none => none
   | none => none
def Ee : Blk -> Blk -> Bool
 | .cells ty cs, .cells ty' cs' => decide (ty = ty') && SV.sameL cs cs'
 | .lst ty row own le c, .lst ty' row' own' le' c' => decide (ty = ty') && decide (row = row') && decide (own = own') && le.same le' && c.same c'
 | .mp ks vs kag vag c, .mp ks' vs' kag' vag' c' => decide (ks = ks') && decide (vs = vs') && decide (kag = kag') && decide (vag = vag') && c.same c'
 | .seg ty cs ks c, .seg ty' cs' ks' c' => decide (ty = ty') && decide (ks = ks') && SV.sameL cs cs' && c.same c'
 | _, _ => false
def I3 (m : Mem) : Ents -> Option E
 | [] => some (mkB true)
 | x :: r => match m.at x.1 with
   | some (g, b) => if Ee b x.2.2 = true then (I3 m r).map fun q => andB (impB x.2.1 g) q else none
   | none => none
def accN (n : Nat) : List Src := (List.range n).map Src.nm
def Gr (off str : Nat) : SV -> SV
 | .ptr n o => if 0 < str /\ off <= o /\ (o - off) % str = 0 /\ (o - off) / str <= 1000000 then .pi n off str (.lit (.i .i64) ((o - off) / str : Nat)) else .ptr n o
 | .ite p a b => match Gr off str a, Gr off str b with
   | .pi n o s e, .pi n' o' s' e' => if n' = n /\ o' = o /\ s' = s /\ p.kind = .b /\ e.kind = .i .i64 /\ e'.kind = .i .i64 then .pi n o s (mkIte p e e') else .ite p a b
   | _, _ => .ite p a b
 | v => v
mutual
def fitV : Sh -> SV -> E × SV
 | .lt k n, .sc e => KO k n e
 | .nul c, .ite p a b => Ij c p a b
 | .obj .., v => Bg v
 | .seg .., v => Bg v
 | .ref _, v => Bg v
 | .pin _ off str, v => (mkB true, Gr off str v)
 | .tup l, .tup vs => ((fitL l vs).1, .tup (fitL l vs).2)
 | .agg l, .agg vs => ((fitL l vs).1, .agg (fitL l vs).2)
 | _, v => (mkB true, v)
def fitL : List Sh -> List SV -> E × List SV
 | s :: l, v :: vs => (mkAnd (fitV s v).1 (fitL l vs).1, (fitV s v).2 :: (fitL l vs).2)
 | _, vs => (mkB true, vs)
def KO (k : K) (n : Int) (e : E) : E × SV :=
 match e.lit? with
 | some _ => (mkB true, .sc e)
 | none => if e.kind = k then
  match k with
  | .b => (bif i2b n then e else Ak e, .sc (.lit .b n))
  | .i _ => (mkCmp .eql e (.lit k n), .sc (.lit k n))
  | .x => (mkB true, .sc e)
   else (mkB true, .sc e)
def Ij (c : CV) (p : E) (a b : SV) : E × SV :=
 if p.kind = .b then
  match a, b with
  | .nilp c', _ => if c' = c then (p, .nilp c) else (mkB true, .ite p a b)
  | _, .nilp c' => if c' = c then (Ak p, .nilp c) else (mkB true, .ite p a b)
  | _, _ => (mkB true, .ite p a b)
 else (mkB true, .ite p a b)
end
mutual
def svN : SV -> List Nat
 | .sv n _ _ _ _ => [n]
 | .fn _ cs | .agg cs | .tup cs => svNL cs
 | .gd _ v => svN v
 | .ite _ a b => svN a ++ svN b
 | _ => []
def svNL : List SV -> List Nat
 | [] => []
 | v :: r => svN v ++ svNL r
end
def UH (m : Mem) (v : SV) : List Nat := svN v ++ m.flatMap fun x => match x with
 | some (_, b) => svNL b.cs
 | none => []
mutual
def shNV (m : Mem) : Sh -> SV -> List Nat
 | .lst _ _ false, v => namesV v
 | .agg l, .agg vs => shNL m l vs
 | .tup l, .tup vs => shNL m l vs
 | .obj _ cs, .ptr n 0 => match m.at n with
   | some (_, .cells _ vs) => shNL m cs vs
   | _ => []
 | _, _ => []
def shNL (m : Mem) : List Sh -> List SV -> List Nat
 | s :: l, v :: vs => shNV m s v ++ shNL m l vs
 | _, _ => []
end
def UI (e : Ent) (m : Mem) (v : SV) : List Nat := match Ii m e.os with
 | some (_, V) => shNL m e.outL (V ++ [v])
 | none => []
def Gs (e : Ent) (m : Mem) (v : SV) : Option (E × List E) :=
 match Ii m e.os, I3 m (Qp e.kp e.pgen.2) with
 | some (g1, V), some g2 => match Sh.getL m e.outL (accN e.nn) (fitL e.outL (V ++ [v])).2 with
   | some (es, srcs, g3) => if (EB ((mutJ e.oents).flatMap (srcOf (accN e.nn ++ srcs))) && (e.os.all fun o => decide (o.j < e.nn)) && C5 e) = true /\ ((fitL e.outL (V ++ [v])).2.map isXv = (V ++ [v]).map isXv) then some (andB g1 (andB g2 (andB (fitL e.outL (V ++ [v])).1 g3)), es) else none
   | none => none
 | _, _ => none
section
variable {P : Program} {ρ : Nat -> Int} {G : Glob} {T : Tab} {l : Tabs} {w0 w w' : World} {M0 Im0 Im : Nat -> Prop} {ad ad' hs : Nat -> Hd} {m m2 m' : Mem} {tm : Tm} {en : Env} {a : Act}
theorem QG {F : Fam} {ad : Nat -> Hd} (k : K) (n : Int) (e : E) : (KO k n e).1.kind = .b /\ ((KO k n e).1.tt F ρ = true -> (SV.sc e).conc F ρ ad = (KO k n e).2.conc F ρ ad) := by
 unfold KO
 split
 ·simp_all
 ·split
  ·rename_i hk
   split
   ·grind [i2b, Ad, E.tt, SV.conc, E.val_b, E.kind, E.den, K.norm]
   ·rename_i k'
    have hc := Ae .eql e (.lit (.i k') n) F ρ
    simp_all [E.den, cmpB, SV.conc, E.val_i, E.kind]
   simp_all
  simp_all
theorem Pb {F : Fam} {ad : Nat -> Hd} (c : CV) (p : E) (a b : SV) : (Ij c p a b).1.kind = .b /\ ((Ij c p a b).1.tt F ρ = true -> (SV.ite p a b).conc F ρ ad = (Ij c p a b).2.conc F ρ ad) := by
 unfold Ij
 grind [SV.conc, Af, Ad, E.tt]
theorem Gf {F : Fam} {ad : Nat -> Hd} (off str : Nat) : ∀ v : SV, v.conc F ρ ad = (Gr off str v).conc F ρ ad
 | .ptr n o => by
   simp only [Gr]
   split
   ·rename_i h
    obtain ⟨h1, h2, h3, h4⟩ := h
    simp only [SV.conc]
    have hd : ((E.lit (.i .i64) ((o - off) / str : Nat)).den F ρ).toNat = (o - off) / str := by
     simp only [E.den, K.norm]
     generalize (o - off) / str = q at h4 ⊢
     rw [IntKind.wrap_i64]; omega
    rw [hd, Nat.div_mul_cancel (Nat.dvd_of_mod_eq_zero h3), Nat.add_sub_cancel' h2]
   ·rfl
 | .ite p a b => by
   have ia := Gf (F := F) (ad := ad) off str a
   have ib := Gf (F := F) (ad := ad) off str b
   grind [Gr, SV.conc, FW, E.tt]
 | .sc _ | .pi .. | .sl .. | .ls .. | .sv .. | .pe .. | .mp _ | .oq _ | .fn .. | .agg _ | .tup _ | .gd .. | .und | .nilp _ | .gl .. => rfl
mutual
theorem S4 {F : Fam} {ad : Nat -> Hd} : ∀ (s : Sh) (v : SV), (fitV s v).1.kind = .b /\ ((fitV s v).1.tt F ρ = true -> v.conc F ρ ad = (fitV s v).2.conc F ρ ad)
 | .lt k n, v => by
   cases v <;> first | exact ⟨Af _, fun _ => rfl⟩ | grind [fitV, QG]
 | .nul c, v => by
   cases v <;> first | exact ⟨Af _, fun _ => rfl⟩ | grind [fitV, Pb]
 | .obj ty cs, v => by simp only [fitV]; exact ⟨Bl v, fun h => (BJ (p := fun _ => True) v).1 h⟩
 | .seg ty ks cs, v => by simp only [fitV]; exact ⟨Bl v, fun h => (BJ (p := fun _ => True) v).1 h⟩
 | .lsn ty row, v => ⟨Af _, fun _ => rfl⟩
 | .ref j, v => by simp only [fitV]; exact ⟨Bl v, fun h => (BJ (p := fun _ => True) v).1 h⟩
 | .tup l, v => by
   cases v <;> first | exact ⟨Af _, fun _ => rfl⟩ | skip
   rename_i vs
   obtain ⟨i1, i2⟩ := FO (F := F) (ad := ad) l vs
   grind [fitV, SV.conc]
 | .agg l, v => by
   cases v <;> first | exact ⟨Af _, fun _ => rfl⟩ | skip
   rename_i vs
   obtain ⟨i1, i2⟩ := FO (F := F) (ad := ad) l vs
   grind [fitV, SV.conc]
 | .pin j off str, v => by grind [fitV, Af, Gf]
 | .sc _, v => by cases v <;> exact ⟨Af _, fun _ => rfl⟩
 | .lst .., v => by cases v <;> exact ⟨Af _, fun _ => rfl⟩
 | .fnc .., v => by cases v <;> exact ⟨Af _, fun _ => rfl⟩
 | .opt _, v => by cases v <;> exact ⟨Af _, fun _ => rfl⟩
 | .und, v => by cases v <;> exact ⟨Af _, fun _ => rfl⟩
 | .mp .., v => by cases v <;> exact ⟨Af _, fun _ => rfl⟩
theorem FO {F : Fam} {ad : Nat -> Hd} : ∀ (l : List Sh) (vs : List SV), (fitL l vs).1.kind = .b /\ ((fitL l vs).1.tt F ρ = true -> SV.concL F ρ ad vs = SV.concL F ρ ad (fitL l vs).2)
 | [], vs => ⟨Af _, fun _ => rfl⟩
 | s :: l, [] => ⟨Af _, fun _ => rfl⟩
 | s :: l, v :: vs => by
   obtain ⟨i1, i2⟩ := S4 (F := F) (ad := ad) s v
   obtain ⟨j1, j2⟩ := FO (F := F) (ad := ad) l vs
   grind [Aa, fitV, fitL, SV.concL]
end
theorem NW (l : Ents) (n j : Nat) : (EZ l n).at j = if j < n then (l.find? fun x => x.1 == j).map (·.2) else none := by
 grind [EZ, Mem.at]
theorem S5 {l : Ents} {n j : Nat} {g : E} {b : Blk} (h : (EZ l n).at j = some (g, b)) : (j, g, b) ∈ l /\ j < n := by
 rw [NW] at h
 split at h
 ·rename_i hj
  obtain ⟨x, hx, he⟩ := Option.map_eq_some_iff.1 h
  grind
 ·cases h
theorem S6 (e : Ent) (k : Nat) : (start e k).length = e.nn + k := by simp [start, EZ]
theorem Hm {e : Ent} {k j : Nat} {g : E} {b : Blk} (h : (start e k).at j = some (g, b)) : ((j, g, b) ∈ e.pgen.2 /\ j < e.nn) \/ b = .dead := by
 grind [EZ, Ent.pgen, Ent.nn, S5, start, Mem.at]
theorem CH (e : Ent) (k j : Nat) : al (start e k) j ↔ j < e.nn + k := by
 have hl : (EZ e.pgen.2 e.nn).length = e.nn := by simp [EZ]
 constructor
 ·intro h
  obtain ⟨x, hx⟩ := Option.isSome_iff_exists.1 h
  have := Mem.at_lt hx
  grind [S6]
 ·intro h
  unfold al
  by_cases hj : j < e.nn
  ·obtain ⟨x, x1, x2⟩ := CC (ev := varE e.pks) (nv := id) e.ps (mkB true) 0 0 j (Nat.zero_le _) (by rw [Nat.zero_add]; exact hj)
   have h1 : (start e k).at j = (EZ e.pgen.2 e.nn).at j := by
    simp only [start, Mem.at, List.getD]
    rw [List.getElem?_append_left (by omega)]
   rw [h1, NW, if_pos hj, Option.isSome_map, List.find?_isSome]
   exact ⟨x, x1, by simp [x2]⟩
  grind [start, Mem.at]
theorem Pv (l : Tabs) {e : Ent} (hr : C5 e = true) {xs : List Int} (zs : List Int) {ρ : Nat -> Int} (hρ : ∀ i, i < e.np -> ρ i = env xs i) (hfit : fits e.pks xs) (had : ∀ j, j < e.nn -> ad j = hs j) :
 SV.concL l.F ρ ad e.pgen.1 = SV.concL F0 (env (xs ++ zs)) hs e.pgen.1 /\ ∀ x ∈ e.pgen.2, SameE l.F F0 ρ (env (xs ++ zs)) ad hs id id x x := by
 have hl := Am hfit
 have tr : Tr e.nn l.F F0 ρ (env (xs ++ zs)) ad hs (varE e.pks) (varE e.pks) id id := by
  refine ⟨l.BI, FJ, fun i => ?_, fun i => rfl, fun j hj => had j hj⟩
  unfold varE
  cases hk : e.pks[i]? with
  | none => simp
  | some k =>
    have hi := (List.getElem?_eq_some_iff.1 hk).1
    simp only [E.den, hρ i hi, env, G9, hl, hi, if_true]
 obtain ⟨t1, t2⟩ := C1 tr e.ps (mkB true) (mkB true) 0 0 (Af _) (Af _) (by simp) (fun i k hi => by rw [Nat.zero_add]; exact EC _ _ _ hi) (by rw [Nat.zero_add]; exact Nat.le_refl _) (fun j hj => by have := List.all_eq_true.1 hr j hj; simpa using this)
 exact ⟨t1, SameL.self t2⟩
theorem FQ (l : Tabs) {e : Ent} (k : Nat) (hr : C5 e = true) {xs : List Int} {ρ : Nat -> Int} (hρ : ∀ i, i < e.np -> ρ i = env xs i) (hfit : fits e.pks xs) (hM : ∀ b, M0 b -> ¬ Im0 b /\ b < w.heap.size) (hE : RelE F0 (env xs) w M0 Im0 hs e.pgen.2 w) (had : ∀ j, j < e.nn -> ad j = hs j) :
 Rel l.F ρ w M0 Im0 ad (start e k) w /\ SV.concL l.F ρ ad e.pgen.1 = SV.concL F0 (env xs) hs e.pgen.1 /\ SV.okL (al (start e k)) e.pgen.1 := by
 obtain ⟨t1, t2⟩ := Pv l hr [] hρ hfit had
 rw [List.append_nil] at t1 t2
 have hal : ∀ j, j < e.nn -> al (start e k) j := fun j hj => (CH e k j).2 (by omega)
 obtain ⟨g1, g2⟩ := BT (ev := varE e.pks) (nv := id) (p := al (start e k)) e.ps (mkB true) 0 0 (fun j _ hj => hal j (by rw [Nat.zero_add] at hj; exact hj)) (fun j hj => hal j (by have := List.all_eq_true.1 hr j hj; simpa using this))
 refine ⟨⟨hM, Im0, fun b hb => hb, fun b hb => Or.inl hb, ⟨fun n g x hn hg => ?_, fun n g x hn => ?_, fun n k' g x g' y b h1 h2 h3 h4 h5 h6 => ?_, hE.im, hE.fr⟩⟩, t1, g1⟩
 ·rcases Hm hn with ⟨h, _⟩ | rfl
  ·have s := t2 _ h
   obtain ⟨b1, b2⟩ := hE.ent _ h (by rw [<- s.gd]; exact hg)
   refine ⟨(s.ok Im0 w).2 b1, fun b hb => b2 b ?_⟩
   rw [<- hb]; exact s.mu.symm
  ·exact ⟨trivial, fun b hb => by simp [mutB] at hb⟩
 ·rcases Hm hn with ⟨h, _⟩ | h
  ·exact (g2 _ h).2
  ·rw [h]; trivial
 ·rcases Hm h1 with ⟨a1, _⟩ | rfl
  ·rcases Hm h3 with ⟨a2, _⟩ | rfl
   ·have s1 := t2 _ a1
    have s2 := t2 _ a2
    exact hE.inj _ a1 _ a2 (by rw [<- s1.gd]; exact h2) (by rw [<- s2.gd]; exact h4) b (by rw [<- h5]; exact s1.mu.symm) (by rw [<- h6]; exact s2.mu.symm)
   ·simp [mutB] at h6
  ·simp [mutB] at h5
theorem Jx {F : Fam} {m : Mem} : ∀ {os : List Ob} {g : E} {V : List SV}, Ii m os = some (g, V) -> g.tt F ρ = true -> ∀ (vals : List SV), ∀ x ∈ objE os (V ++ vals), x.1 ∈ os.map (·.j) /\ ∃ g' b, m.at x.1 = some (g', b) /\ g'.tt F ρ = true /\ x.2.2 = b.nrm
 | [], g, V, h, ht, vals, x, hx => by cases hx
 | o :: r, g, V, h, ht, vals, x, hx => by
   simp only [Ii] at h
   split at h
   ·rename_i g1 b hm
    split at h
    ·rename_i ty' tl' vs hu
     split at h
     ·rename_i hc
      obtain ⟨rfl, rfl, hlen⟩ := hc
      obtain ⟨q, hq, he⟩ := Option.map_eq_some_iff.1 h
      simp only [pJ] at he
      obtain ⟨rfl, rfl⟩ := he
      obtain ⟨t1, t2⟩ := AG ht
      simp only [objE, List.append_assoc] at hx
      rw [List.take_left' hlen, List.drop_left' hlen] at hx
      rcases List.mem_cons.1 hx with rfl | hx
      ·grind [Vm]
      ·obtain ⟨a, b⟩ := Jx (g := q.1) (V := q.2) hq t2 vals x hx
       simp_all
     ·cases h
    ·cases h
   ·cases h
theorem S7 {os : List Ob} {vs : List SV} : ∀ z ∈ objE os vs, z.2.1 = mkB true := by
 induction os generalizing vs with
 | nil => intro z hz; cases hz
 | cons o r ih =>
   grind [objE]
theorem QH : ∀ {a b : Blk}, Ee a b = true -> a = b
 | .cells ty cs, b, h => by
   cases b <;> simp only [Ee, Bool.false_eq_true, Bool.and_eq_true, decide_eq_true_eq] at h
   grind [SV.sameL_eq]
 | .lst ty row own le c, b, h => by
   cases b <;> simp only [Ee, Bool.false_eq_true, Bool.and_eq_true, decide_eq_true_eq] at h
   grind [E.same_eq]
 | .mp ks vs kag vag c, b, h => by
   cases b <;> simp only [Ee, Bool.false_eq_true, Bool.and_eq_true, decide_eq_true_eq] at h
   grind [E.same_eq]
 | .seg ty cs ks c, b, h => by
   cases b <;> simp only [Ee, Bool.false_eq_true, Bool.and_eq_true, decide_eq_true_eq] at h
   grind [SV.sameL_eq, E.same_eq]
 | .dead, b, h => by simp [Ee] at h
theorem Ik {F : Fam} {m : Mem} : ∀ {l : Ents} {g : E}, I3 m l = some g -> g.tt F ρ = true -> ∀ x ∈ l, x.2.1.tt F ρ = true -> ∃ g', m.at x.1 = some (g', x.2.2) /\ g'.tt F ρ = true
 | [], g, h, ht, x, hx => by cases hx
 | y :: r, g, h, ht, x, hx => by
   simp only [I3] at h
   split at h
   ·rename_i g1 b hm
    split at h
    ·rename_i hs
     obtain ⟨q, hq, rfl⟩ := Option.map_eq_some_iff.1 h
     obtain ⟨t1, t2⟩ := AG ht
     rcases List.mem_cons.1 hx with rfl | hx
     ·grind [QH, Gp]
     ·exact Ik hq t2 x hx
    ·cases h
   ·cases h
theorem Dc {e : Ent} {v : SV} {g : E} {es : List E} (h : Gs e m' v = some (g, es)) : es.map E.kind = e.oks /\ (∀ x ∈ es, x.kind ≠ .x -> x.sound = true) /\
 ∀ {xs ys : List Int} {ρ : Nat -> Int} {w w' : World} {M0 Im0 : Nat -> Prop} {hs ad' : Nat -> Hd}, (∀ i, i < e.np -> ρ i = env xs i) -> fits e.pks xs -> ys = es.map (E.den l.F ρ) -> g.tt l.F ρ = true -> Rel l.F ρ w M0 Im0 ad' m' w' -> (∀ j, j < e.nn -> ad' j = hs j) ->
   ∃ (hs' : Nat -> Hd) (Im' : Nat -> Prop), (∀ j, j < e.nn -> hs' j = hs j) /\ (∀ b, Im0 b -> Im' b) /\ (∀ b, Im' b -> Im0 b \/ M0 b \/ w.heap.size <= b) /\ v.conc l.F ρ ad' = (BA e.ogen.1).conc F0 (env (xs ++ ys)) hs' /\ RelE F0 (env (xs ++ ys)) w M0 Im' hs' e.oents w' := by
 unfold Gs at h
 split at h
 ·rename_i g1 V g2 hobj hkept
  split at h
  ·rename_i es' srcs g3 hget
   split at h
   ·rename_i hc
    simp only [oJ, pJ] at h
    obtain ⟨rfl, rfl⟩ := h
    obtain ⟨hc, hfx⟩ := hc
    simp only [Bool.and_eq_true] at hc
    obtain ⟨⟨c1, c2⟩, c3⟩ := hc
    obtain ⟨k1, k2, k3, k4⟩ := Bc e.outL _ _ _ hget
    simp only at k1 k2 k3 k4
    refine ⟨k1, k4, fun {xs ys ρ w w' M0 Im0 hs ad'} hρ hfit hys ht hR had => ?_⟩
    obtain ⟨t1, t23⟩ := AG ht
    obtain ⟨t2, t34⟩ := AG t23
    obtain ⟨tf, t3⟩ := AG t34
    have hfit2 := (FO (F := l.F) (ρ := ρ) (ad := ad') e.outL (V ++ [v])).2 tf
    obtain ⟨hM, Im, i1, i2, hI⟩ := hR
    have hyfit : fits e.oks ys := by rw [hys]; exact Pp k1 k4
    have hyl : ys.length = e.oks.length := Am hyfit
    have hxl : xs.length = e.np := Am hfit
    have hall : fits (e.pks ++ e.oks) (xs ++ ys) := Cr hfit hyfit
    have hS : ∃ S, S = accN e.nn ++ srcs := ⟨_, rfl⟩
    obtain ⟨S, hS⟩ := hS
    have hal : (accN e.nn).length = e.nn := by simp [accN]
    have hSlt : ∀ j, j < e.nn -> S[j]? = some (.nm j) := fun j hj => by
     grind [accN]
    have hev : EvOK l.F ρ (env (xs ++ ys)) (varE (e.pks ++ e.oks)) e.np es' := fun i x hi => by
     have hil := (List.getElem?_eq_some_iff.1 hi).1
     have hkl : e.oks.length = es'.length := by rw [<- hyl, hys]; simp
     refine ⟨?_, ?_⟩
     ·grind [JR, G9, Ent.pks, Ent.np]
     ·refine EC _ _ _ ?_
      rw [List.getElem?_append_right (by grind [Ent.pks, Ent.np]), show e.pks.length = e.np from rfl, show e.np + i - e.np = i by omega]
      have : (es'.map E.kind)[i]? = some x.kind := by simp [hi]
      rw [k1] at this; exact this
    obtain ⟨p1, p2⟩ := Bs (F := l.F) (ρ := ρ) (ρ' := env (xs ++ ys)) (w0 := w) (w := w') (M0 := M0) (Im := Im) (ad := ad') (m := m') (ev := varE (e.pks ++ e.oks)) (S := S) (hs := fun j => match S[j]? with | some s => srcHd l.F ρ w' Im ad' m' s | none => default)
     l.BI hI (fun j s hj => by simp only [hj]) e.outL (accN e.nn) _ _ (mkB true) e.np hget (Af _) (fun j s hj => by grind) (fun j s hj => by grind) hev t3
    generalize hhs : (fun j => match S[j]? with | some s => srcHd l.F ρ w' Im ad' m' s | none => default : Nat -> Hd) = hs' at p1 p2
    rw [hal] at p1 p2
    rw [<- hfit2] at p1
    change SV.concL l.F ρ ad' (V ++ [v]) = SV.concL F0 (env (xs ++ ys)) hs' e.ogen.1 at p1
    change ∀ x ∈ e.ogen.2, _ at p2
    have hisx : (V ++ [v]).map isXv = e.ogen.1.map isXv := hfx.symm.trans <| NH (m := m') (ev := varE (e.pks ++ e.oks)) (nv := id) e.outL (accN e.nn) _ _ (mkB true) e.np e.nn hget fun i k hi => by
     refine EC _ _ _ ?_
     rw [List.getElem?_append_right (by grind [Ent.pks, Ent.np]), show e.pks.length = e.np from rfl, show e.np + i - e.np = i by omega]
     exact hi
    have hlt : ∀ j, j < e.nn -> hs' j = ad' j := fun j hj => by rw [<- hhs]; simp only [hSlt j hj]; rfl
    obtain ⟨q1, q2⟩ := Pv (ad := ad') (hs := hs') l c3 ys hρ hfit fun j hj => (hlt j hj).symm
    have hsrc : ∀ j, j < e.nn -> srcOf S j = [j] := fun j hj => by simp [srcOf, hSlt j hj, Src.ns]
    have ogn : ∀ x ∈ e.ogen.2, e.nn <= x.1 := fun x hx => ((BT (ev := varE (e.pks ++ e.oks)) (nv := id) (p := fun _ => True) e.outL (mkB true) e.np e.nn (fun _ _ _ => trivial) fun _ _ => trivial).2 x hx).1.1
    have core : ∀ z ∈ e.oents, z.2.1.tt F0 (env (xs ++ ys)) = true -> BlkOK F0 (env (xs ++ ys)) Im hs' z.1 w' z.2.2 /\
     ∀ b, mutB F0 (env (xs ++ ys)) hs' z.1 z.2.2 = some b -> ∃ n ∈ srcOf S z.1, ∃ g y, m'.at n = some (g, y) /\ g.tt l.F ρ = true /\ mutB l.F ρ ad' n y = some b := by
     intro z hz hg
     unfold Ent.oents at hz
     rcases List.mem_append.1 hz with hz | hz
     ·obtain ⟨j, g0, X⟩ := z
      have hg0 : g0 = mkB true := S7 _ hz
      subst hg0
      obtain ⟨ty, tl, vs', us', rfl, u1, u2, u3⟩ := HZ p1.symm hisx.symm j X hz
      obtain ⟨o1, g', b0, o2, o3, o4⟩ := Jx (F := l.F) (ρ := ρ) hobj t1 [v] _ u1
      simp only at o1 o2 o4
      have hj : j < e.nn := by
       obtain ⟨o, ho1, ho2⟩ := List.mem_map.1 o1
       have := List.all_eq_true.1 c2 o ho1
       simp only [decide_eq_true_eq] at this
       omega
      have hb0 := (hI.ent j g' _ o2 o3).1
      have hnr := Blk.nrm_same (hb0.lenOK l.BI) ad' j
      have hb := (hnr.2 Im w').2 hb0
      rw [<- o4] at hb
      obtain ⟨s1, s2⟩ := NC (n := j) (j := j) (ty := ty) (tl := tl) FJ l.BI u2 u3 (hlt j hj)
      grind
     ·rcases List.mem_append.1 hz with hz | hz
      ·have hz' := (List.mem_filter.1 hz).1
       have s := q2 z hz'
       obtain ⟨g', o1, o2⟩ := Ik (F := l.F) (ρ := ρ) hkept t2 z hz (by rw [s.gd]; exact hg)
       have hj : z.1 < e.nn := by
        have := ((BT (ev := varE e.pks) (nv := id) (p := fun _ => True) e.ps (mkB true) 0 0 (fun _ _ _ => trivial) fun _ _ => trivial).2 z hz').1.2
        rw [Nat.zero_add] at this; exact this
       refine ⟨(s.ok Im w').1 (hI.ent z.1 g' _ o1 o2).1, fun b hb' => ⟨z.1, by simp [hsrc z.1 hj], g', _, o1, o2, ?_⟩⟩
       rw [<- hb']; exact s.mu
      grind [EntOK.ok, EntOK.mu]
    refine ⟨hs', Im, fun j hj => (hlt j hj).trans (had j hj), i1, i2, ?_, ⟨fun z hz hg => ⟨(core z hz hg).1, fun b hb => ?_⟩, fun x hx y hy hgx hgy b hbx hby => ?_, hI.im, hI.fr⟩⟩
    ·have := Ks p1
     grind [BA]
    ·obtain ⟨n, _, g', y, a1, a2, a3⟩ := (core z hz hg).2 b hb
     exact (hI.ent n g' y a1 a2).2 b a3
    ·obtain ⟨n, n1, g', y', a1, a2, a3⟩ := (core x hx hgx).2 b hbx
     obtain ⟨n', n1', g'', y'', a1', a2', a3'⟩ := (core y hy hgy).2 b hby
     have := hI.inj n n' g' y' g'' y'' b a1 a2 a1' a2' a3 a3'
     subst this
     rw [<- hS] at c1
     exact Hb c1 x.1 (Fs hx hbx) y.1 (Fs hy hby) n n1 n1'
   ·cases h
  ·cases h
 ·cases h
end
def zAll : List SV -> Bool
 | [] => true
 | .sc (.lit (.i .i64) 0) :: r => zAll r
 | _ => false
def zCnt : List SV -> Nat -> Option Nat
 | [], n => some n
 | .sc (.lit (.i .i64) 0) :: r, n => bif Nat.ble n 100000 then zCnt r (n + 1) else none
 | _, _ => none
theorem Vr {v : SV} {r : List SV} {n : Nat} (hv : v ≠ .sc (.lit (.i .i64) 0)) : zCnt (v :: r) n = none := by
 unfold zCnt
 split
 ·rename_i heq; cases heq
 ·exfalso; simp_all
 ·rfl
theorem My : ∀ {l : List SV} {n k : Nat}, zCnt l n = some k -> zAll l = true /\ k = n + l.length
 | [], n, k, h => by simp only [zCnt, oJ] at h; exact ⟨rfl, h.symm⟩
 | v :: r, n, k, h => by
   by_cases hv : v = .sc (.lit (.i .i64) 0)
   ·subst hv
    rw [show zCnt (.sc (.lit (.i .i64) 0) :: r) n = bif Nat.ble n 100000 then zCnt r (n + 1) else none from rfl] at h
    cases hb : Nat.ble n 100000 with
    | false => rw [hb] at h; cases h
    | true =>
      rw [hb] at h
      obtain ⟨i1, i2⟩ := My (l := r) (n := n + 1) h
      exact ⟨by simpa [zAll] using i1, by rw [i2, List.length_cons]; omega⟩
   ·rw [Vr hv] at h; cases h
def segC (ty' h w : Nat) (cs : List SV) : Option Nat -> Blk
 | some k => bif Nat.beq k (k / w * w) && Nat.ble k 100000 then .seg ty' (cs.take h) (List.replicate w (.i .i64)) (.app .x 0 7 (.lit (.i .i64) (k / w : Nat) :: List.replicate w (.lit (.i .i64) 0))) else .cells ty' cs
 | none => .cells ty' cs
def segB (ty h w : Nat) : Blk -> Blk
 | .cells ty' cs => bif Nat.beq ty' ty then segC ty' h w cs (zCnt (cs.drop h) 0) else .cells ty' cs
 | x => x
theorem Hn (ty h w ty' : Nat) (cs : List SV) : segB ty h w (.cells ty' cs) = .cells ty' cs \/ ∃ N, segB ty h w (.cells ty' cs) = .seg ty' (cs.take h) (List.replicate w (.i .i64)) (.app .x 0 7 (.lit (.i .i64) (N : Nat) :: List.replicate w (.lit (.i .i64) 0))) /\ zAll (cs.drop h) = true /\ (cs.drop h).length = N * w /\ N <= 100000 := by
 simp only [segB]
 cases Nat.beq ty' ty with
 | false => exact Or.inl rfl
 | true =>
   cases hz : zCnt (cs.drop h) 0 with
   | none => exact Or.inl rfl
   | some k =>
     cases hb : (Nat.beq k (k / w * w) && Nat.ble k 100000) with
     | false => left; simp only [segC, hb, cond_true, cond_false]
     | true =>
       right
       obtain ⟨i1, i2⟩ := My hz
       simp only [Bool.and_eq_true] at hb
       have h1 := Nat.eq_of_beq_eq_true hb.1
       have h2 := Nat.le_of_ble_eq_true hb.2
       refine ⟨k / w, by simp only [segC, hb.1, hb.2, Bool.and_self, cond_true], i1, by omega, Nat.le_trans (Nat.div_le_self _ _) h2⟩
def segM (m : Mem) : List (Nat × Nat × Nat) -> Mem
 | [] => m
 | (ty, h, w) :: r => segM (m.map (Option.map fun x => (x.1, segB ty h w x.2))) r
mutual
def NX : Sh -> List (Nat × Nat × Nat)
 | .seg ty ks cs => [(ty, cs.length, ks.length)]
 | .opt s => NX s
 | .tup l => Pw l
 | _ => []
def Pw : List Sh -> List (Nat × Nat × Nat)
 | [] => []
 | s :: r => NX s ++ Pw r
end
section
variable {F : Fam} {ρ : Nat -> Int} {w0 w : World} {M0 Im0 Im : Nat -> Prop} {ad : Nat -> Hd} {m : Mem}
theorem Mz : ∀ {l : List SV}, zAll l = true -> SV.concL F ρ ad l = List.replicate l.length (K.val (.i .i64) 0)
 | [], _ => rfl
 | v :: r, h => by
   unfold zAll at h
   split at h
   ·rename_i heq; cases heq
   ·rename_i r' heq
    injection heq with e1 e2
    subst e1 e2
    simp only [SV.concL, Mz h, List.length_cons, List.replicate_succ]
    rfl
   ·cases h
theorem S8 (w n : Nat) : Bf (List.replicate w (K.i .i64)) (List.replicate n (List.replicate w 0)) = List.replicate (n * w) (K.val (.i .i64) 0) := by
 have hz : ∀ w, numV (List.replicate w (K.i .i64)) (List.replicate w 0) = List.replicate w (K.val (.i .i64) 0) := fun w => by
  induction w with
  | zero => rfl
  | succ w ih => simp only [List.replicate_succ, numV, List.zipWith_cons_cons]; rw [show List.zipWith K.val (List.replicate w (K.i .i64)) (List.replicate w 0) = _ from ih]
 unfold Bf
 induction n with
 | zero => simp
 | succ n ih =>
   rw [List.replicate_succ, List.map_cons, List.flatten_cons, ih, hz, List.replicate_append_replicate, Nat.succ_mul, Nat.add_comm w]
theorem S9 (w : Nat) : fits (List.replicate w (K.i .i64)) (List.replicate w 0) := by
 induction w with
 | zero => trivial
 | succ w ih => exact ⟨Ds .i64, ih⟩
theorem Up (F : Fam) (ρ : Nat -> Int) (ad : Nat -> Hd) (l : List SV) (h : Nat) : SV.concL F ρ ad (l.take h) ++ SV.concL F ρ ad (l.drop h) = SV.concL F ρ ad l := by
 rw [Ac, Ac, Ac, <- List.map_append, List.take_append_drop]
theorem Vt (hB : BI F) {n ty h wd : Nat} {x : Blk} (hx : BlkOK F ρ Im ad n w x) : BlkOK F ρ Im ad n w (segB ty h wd x) := by
 cases x with
 | cells ty' cs =>
   rcases Hn ty h wd ty' cs with e | ⟨N, e, c3, c4, c5⟩
   ·rw [e]; exact hx
   ·rw [e]
    have hden : (E.app .x 0 7 (.lit (.i .i64) (N : Nat) :: List.replicate wd (.lit (.i .i64) 0))).den F ρ = cd (List.replicate N (List.replicate wd 0)) := by
     rw [AH hB]
     have e1 : (E.lit (.i .i64) (N : Nat)).den F ρ = (N : Int) := by
      show IntKind.i64.wrap (N : Int) = N
      exact Bw (by unfold maxLen; omega)
     have e2 : (List.replicate wd (E.lit (.i .i64) 0)).map (E.den F ρ) = List.replicate wd 0 := by
      rw [List.map_replicate]
      rfl
     rw [List.map_cons, e1, e2]
     show cd (List.replicate ((N : Int)).toNat _) = _
     rw [Int.toNat_natCast]
    show isCd _ /\ _ /\ _
    rw [hden, Ab]
    refine ⟨E4 _, fun r hr => ?_, ?_⟩
    ·rw [(List.mem_replicate.1 hr).2]; exact S9 wd
    ·rw [S8, <- c4, <- Mz (F := F) (ρ := ρ) (ad := ad) c3, Up]
     exact hx
 | _ => exact hx
theorem NY {n ty h wd : Nat} {x : Blk} : mutB F ρ ad n (segB ty h wd x) = mutB F ρ ad n x := by
 cases x with
 | cells ty' cs =>
   rcases Hn ty h wd ty' cs with e | ⟨N, e, _⟩ <;> rw [e] <;> rfl
 | _ => rfl
theorem Vu {p : Nat -> Prop} {ty h wd : Nat} {x : Blk} (hx : SV.okL p x.cs) : SV.okL p (segB ty h wd x).cs := by
 cases x with
 | cells ty' cs =>
   rcases Hn ty h wd ty' cs with e | ⟨N, e, _⟩
   ·rw [e]; exact hx
   ·rw [e]; exact D4 hx h
 | _ => exact hx
theorem Ta (f : E × Blk -> E × Blk) (m : Mem) (n : Nat) : Mem.at (m.map (Option.map f)) n = (m.at n).map f := by
 simp only [Mem.at, List.getD_eq_getElem?_getD, List.getElem?_map]
 cases m[n]? <;> rfl
theorem Rel.segM (hB : BI F) : ∀ (l : List (Nat × Nat × Nat)) {m : Mem}, Rel F ρ w0 M0 Im0 ad m w -> Rel F ρ w0 M0 Im0 ad (Ew.segM m l) w
 | [], _, hR => hR
 | (ty, h, wd) :: r, m, hR => by
   refine Rel.segM hB r ?_
   obtain ⟨hM, Im, h1, h2, hI⟩ := hR
   have key : ∀ {n : Nat} {g : E} {x : Blk}, Mem.at (m.map (Option.map fun x => (x.1, segB ty h wd x.2))) n = some (g, x) -> ∃ y, m.at n = some (g, y) /\ x = segB ty h wd y := fun {n g x} hn => by
    rw [Ta] at hn
    obtain ⟨y, hy, e⟩ := Option.map_eq_some_iff.1 hn
    injection e with e1 e2
    exact ⟨y.2, by rw [hy, <- e1], e2.symm⟩
   have hal : al (m.map (Option.map fun x => (x.1, segB ty h wd x.2))) = al m := by
    funext n
    unfold al
    rw [Ta, Option.isSome_map]
   refine ⟨hM, Im, h1, h2, ⟨fun n g x hn hg => ?_, fun n g x hn => ?_, fun n k g x g' y b hn hg hk hg' hb hb' => ?_, hI.im, hI.fr⟩⟩
   ·obtain ⟨y, hy, rfl⟩ := key hn
    obtain ⟨i1, i2⟩ := hI.ent n g y hy hg
    exact ⟨Vt hB i1, fun b hb => i2 b (by rw [<- NY]; exact hb)⟩
   ·obtain ⟨y, hy, rfl⟩ := key hn
    rw [hal]
    exact Vu (hI.ok n g y hy)
   ·obtain ⟨x', hx, rfl⟩ := key hn
    obtain ⟨y', hy, rfl⟩ := key hk
    rw [NY] at hb hb'
    exact hI.inj n k g x' g' y' b hx hg hy hg' hb hb'
end
def evE (P : Program) (G : Glob) (T : Tab) (LT : Nat -> Bo) (N n : Nat) (e : Ent) : Option (E × List E) :=
 match evFn P G T LT N n e.f e.pgen.1 (start e 0) with
 | some (ob, v, m') => match Gs e (shareL (segM m' (NX e.rs)) (UH m' v ++ UI e m' v)) v with
   | some (g, es) => some (andB ob g, es)
   | none => none
 | none => none
def tmL (le : LEnt) : Tm := (List.range le.nt).map fun i => match le.sl.findIdx? (· == i) with
 | some k => le.ent.pgen.1[k]?
 | none => some (.oq (le.ent.nn + i))
def I4 : List Lab -> Lab -> Option (List SV)
 | [], _ => none
 | [k], x => if k = x then some [] else none
 | k :: k' :: ls, x => if k = x then some (.sc (mkB true) :: List.replicate ls.length (.sc (mkB false))) else (I4 (k' :: ls) x).map fun r => .sc (mkB false) :: r
def keepB (so wr : List Nat) (s0 s : Tm) : Bool := (List.range s0.length).all fun k => so.contains k || wr.contains k || match s0.at k, s.at k with
 | some v, some u => v.same u
 | _, _ => false
def Cp (le : LEnt) (s : St) (lab : Lab) : Option (E × List E) :=
 match I4 le.labs lab, Hk s.1 le.so with
 | some bs, some us => if s.1.length = le.nt /\ keepB le.so le.wr (tmL le) s.1 = true then Gs le.ent (shareL s.2 (UH s.2 (.tup us) ++ UI le.ent s.2 (.tup (bs ++ us)))) (.tup (bs ++ us)) else none
 | _, _ => none
def iteE (c a b : E) : E := bif a.same b then a else match c.lit? with
 | some n => bif i2b n then a else b
 | none => .ite c a b
def endsM (le : LEnt) (d : DT) : List (Lab × St) -> E × Option (List E)
 | [] => (mkB true, none)
 | (lab, s) :: r => match Cp le s lab with
   | some (g, es) => match endsM le d r with
     | (g2, none) => (andB (impB (d.is lab) g) g2, some es)
     | (g2, some es2) => (andB (impB (d.is lab) g) g2, some (List.zipWith (iteE (d.is lab)) es es2))
   | none => match endsM le d r with
     | (g2, o) => (andB (Ak (d.is lab)) g2, o)
def evL (P : Program) (G : Glob) (T : Tab) (call : Into) (N : Nat) (L : Bo) (le : LEnt) (body : Code) : Option (E × List E) :=
 match AN P G T call N L body (tmL le, start le.ent le.nt) with
 | some r => match Ie (Hl le) r with
   | some q => match endsM le q.2.1 q.2.2 with
     | (g, some es) => some (andB q.1 g, es)
     | _ => none
   | none => none
 | none => none
def evP (P : Program) (G : Glob) (T : Tab) (call : Into) (N : Nat) (L : Bo) (le : LEnt) (c : Code) : Option (E × List E) :=
 match AN P G T call N L c (tmL le, start le.ent le.nt) with
 | some r => match endsM le r.2.1 r.2.2 with
   | (g, some es) => some (andB r.1 g, es)
   | _ => none
 | none => none
section
variable {P : Program} {ρ : Nat -> Int} {G : Glob} {T : Tab} {l : Tabs} {w0 w w' : World} {M0 Im0 Im : Nat -> Prop} {ad ad' hs : Nat -> Hd} {m m2 m' : Mem} {tm : Tm} {en : Env} {a : Act}
theorem Il {e : Ent} {v : SV} {r : E × List E} (h : Gs e m' v = some r) : C5 e = true := by
 unfold Gs at h
 split at h
 ·split at h
  ·split at h
   ·rename_i hc
    have hc := hc.1
    simp only [Bool.and_eq_true] at hc
    exact hc.2
   ·cases h
  ·cases h
 ·cases h
theorem Ef {fn : Nat -> List Int -> Int} {xs : List Int} : ∀ (ks : List K) (j : Nat) (ys : List Int), ys.length = ks.length -> (∀ (i : Nat) (k : K) (y : Int), ks[i]? = some k -> ys[i]? = some y -> k.norm (fn (j + i) xs) = y) -> Aw fn xs j ks = ys
 | [], j, [], _, _ => rfl
 | [], j, _ :: _, h, _ => by simp at h
 | _ :: _, j, [], h, _ => by simp at h
 | k :: ks, j, y :: ys, hl, h => by
   simp only [Aw]
   have h0 := h 0 k y rfl rfl
   rw [Nat.add_zero] at h0
   rw [h0, Ef ks (j + 1) ys (by simpa using hl) fun i k y h1 h2 => by
    have := h (i + 1) k y (by simpa using h1) (by simpa using h2)
    rwa [show j + 1 + i = j + (i + 1) by omega]]
theorem Io (hm : P.follows .mixedOrders = true) (hS : Ck P G l T) {LT : Nat -> Bo} (hLT : LTOK P G l LT) {N n : Nat} {e : Ent} {ob : E} {es : List E} (h : evE P G T LT N n e = some (ob, es))
 (hu : ∀ xs, fits e.pks xs -> e.pre xs -> ∃ ρ : Nat -> Int, (∀ i, i < e.np -> ρ i = env xs i) /\ ob.tt l.F ρ = true /\ ∀ (i : Nat) (k : K), e.oks[i]? = some k -> k.norm (e.fn i xs) = (es.getD i (mkB false)).den l.F ρ) : EntryOK P G e := by
 unfold evE at h
 split at h
 ·rename_i ob1 v m1 hev
  split at h
  ·rename_i g es' hma
   simp only [oJ, pJ] at h
   obtain ⟨rfl, rfl⟩ := h
   intro xs hfit hpre w M0 Im0 hs hM hG hE
   obtain ⟨ρ, hρ, u1, u2⟩ := hu xs hfit hpre
   obtain ⟨t1, t2⟩ := AG u1
   obtain ⟨r1, r2, r3⟩ := FQ (ad := hs) l 0 (Il hma) hρ hfit hM hE fun _ _ => rfl
   obtain ⟨k1, k2, k3⟩ := Dc (l := l) hma
   rw [<- r2]
   refine (DY (l := l) (ρ := ρ) hm hS hG hLT n e.f _ _ _ _ _ hev t1 hs w r1 r3).mono ?_
   rintro en w' ⟨ad', rfl, a2, a3, a4⟩
   have hys : Aw e.fn xs 0 e.oks = es'.map (E.den l.F ρ) := by
    refine Ef _ _ _ (by rw [<- k1]; simp) fun i k y h1 h2 => ?_
    rw [Nat.zero_add, u2 i k h1]
    rw [List.getElem?_map] at h2
    obtain ⟨x, hx, rfl⟩ := Option.map_eq_some_iff.1 h2
    simp [List.getD, hx]
   obtain ⟨hs', Im', q1, q2, q3, q4, q5⟩ := k3 hρ hfit hys t2 ((a2.segM (Tabs.BI l) _).shareL _) fun j hj => (a3.same j ((CH e 0 j).2 (by omega))).symm
   exact ⟨hs', Im', q1, q2, q3, by rw [q4], q5⟩
  ·cases h
 ·cases h
theorem Uq (hm : P.follows .mixedOrders = true) (hS : Ck P G l T) {LT : Nat -> Bo} (hLT : LTOK P G l LT) {N n : Nat} {e : Ent} {ob : E} {es : List E} (h : evE P G T LT N n e = some (ob, es))
 (hu : ∀ xs, fits e.pks xs -> e.pre xs -> ob.tt l.F (env xs) = true /\ ∀ (i : Nat) (k : K), e.oks[i]? = some k -> k.norm (e.fn i xs) = (es.getD i (mkB false)).den l.F (env xs)) : EntryOK P G e :=
 Io hm hS hLT h fun xs hf hp => ⟨env xs, fun _ _ => rfl, hu xs hf hp⟩
theorem E0 {F : Fam} {ad : Nat -> Hd} (us : List Value) : ∀ {ls : List Lab} {x : Lab} {bs : List SV}, I4 ls x = some bs -> labV ls (SV.concL F ρ ad bs ++ us) = some (x, us) /\ ∀ p, SV.okL p bs
 | [], x, bs, h => by simp [I4] at h
 | [k], x, bs, h => by
   simp only [I4] at h
   split at h
   ·rename_i hk
    simp only [oJ] at h; subst h
    subst hk
    exact ⟨rfl, fun _ => trivial⟩
   ·cases h
 | k :: k' :: ls, x, bs, h => by
   have ht : (SV.sc (mkB true)).conc F ρ ad = .bool true := by simp only [SV.conc, E.val_b (Af true), HA]
   have hf : (SV.sc (mkB false)).conc F ρ ad = .bool false := by simp only [SV.conc, E.val_b (Af false), HA]
   simp only [I4] at h
   split at h
   ·rename_i hk
    simp only [oJ] at h; subst h
    subst hk
    have falses : ∀ (ls : List Lab) (k : Lab), ∃ y, labV (k :: ls) (SV.concL F ρ ad (List.replicate ls.length (.sc (mkB false))) ++ us) = some (y, us) := by
     intro ls
     induction ls with
     | nil => intro k; exact ⟨k, rfl⟩
     | cons k2 ls ih =>
       intro k
       obtain ⟨y, hy⟩ := ih k2
       refine ⟨y, ?_⟩
       simp only [List.length_cons, List.replicate_succ, SV.concL, hf, List.cons_append, labV, hy, Option.map_some, cond_false]
    obtain ⟨y, hy⟩ := falses ls k'
    refine ⟨?_, fun p => ⟨trivial, ?_⟩⟩
    ·simp only [SV.concL, ht, List.cons_append, labV, hy, Option.map_some, cond_true]
    ·generalize ls.length = n
     induction n with
     | zero => trivial
     | succ n ih => rw [List.replicate_succ]; exact ⟨trivial, ih⟩
   ·obtain ⟨r, hr, rfl⟩ := Option.map_eq_some_iff.1 h
    obtain ⟨i1, i2⟩ := E0 (F := F) (ad := ad) us hr
    refine ⟨?_, fun p => ⟨trivial, i2 p⟩⟩
    simp only [SV.concL, hf, List.cons_append, labV, i1, Option.map_some, cond_false]
theorem Ur (c a b : E) (F : Fam) : (iteE c a b).den F ρ = bif c.tt F ρ then a.den F ρ else b.den F ρ := by
 unfold iteE
 cases hs : a.same b
 ·simp only [cond_false]
  split
  ·rename_i n hn
   rw [lit?_tt hn]
   cases i2b n <;> rfl
  ·simp only [E.den, E.tt]
 ·rw [E.same_eq _ _ hs]
  cases c.tt F ρ <;> rfl
theorem Pc {le : LEnt} {s : St} {lab : Lab} {g : E} {es : List E} (h : Cp le s lab = some (g, es)) : es.length = le.ent.oks.length := by
 unfold Cp at h
 split at h
 ·split at h
  ·rw [<- (Dc (l := []) h).1]; simp
  ·cases h
 ·cases h
theorem E1 {le : LEnt} {d : DT} {F : Fam} : ∀ {ss : List (Lab × St)}, (∀ es, (endsM le d ss).2 = some es -> es.length = le.ent.oks.length) /\ ((endsM le d ss).1.tt F ρ = true -> ∀ s, lk (d.eval F ρ) ss = some s ->
 ∃ es g1 es1, (endsM le d ss).2 = some es /\ Cp le s (d.eval F ρ) = some (g1, es1) /\ g1.tt F ρ = true /\ es.map (E.den F ρ) = es1.map (E.den F ρ)) /\ ((endsM le d ss).2 ≠ none -> C5 le.ent = true)
 | [] => ⟨fun es h => by simp [endsM] at h, fun _ s h => by simp [lk] at h, fun h => absurd rfl h⟩
 | (lab, s0) :: r => by
   obtain ⟨i1, i2, i3⟩ := E1 (le := le) (d := d) (F := F) (ss := r)
   cases hm : Cp le s0 lab with
   | none =>
     have he : endsM le d ((lab, s0) :: r) = (andB (Ak (d.is lab)) (endsM le d r).1, (endsM le d r).2) := by simp only [endsM, hm]
     rw [he]
     refine ⟨i1, fun ht s hs => ?_, i3⟩
     obtain ⟨t1, t2⟩ := AG ht
     simp only [lk] at hs
     split at hs
     ·rename_i hk
      rw [(Ad _ F ρ).1, DT.is_true hk.symm] at t1
      simp at t1
     ·exact i2 t2 s hs
   | some z =>
     obtain ⟨g1, es1⟩ := z
     have hl1 := Pc hm
     have hst : C5 le.ent = true := by
      unfold Cp at hm
      split at hm
      ·split at hm
       ·exact Il hm
       ·cases hm
      ·cases hm
     cases ho : (endsM le d r).2 with
     | none =>
       have he : endsM le d ((lab, s0) :: r) = (andB (impB (d.is lab) g1) (endsM le d r).1, some es1) := by
        simp only [endsM, hm]
        split
        ·rename_i g2 h2; rw [h2]
        ·rename_i g2 e2 h2; rw [h2] at ho; cases ho
       rw [he]
       refine ⟨fun es h => by simp only [oJ] at h; subst h; exact hl1, fun ht s hs => ?_, fun _ => hst⟩
       obtain ⟨t1, t2⟩ := AG ht
       simp only [lk] at hs
       split at hs
       ·rename_i hk
        simp only [oJ] at hs; subst hs
        exact ⟨es1, g1, es1, rfl, by rw [<- hk]; exact hm, Gp t1 (DT.is_true hk.symm), rfl⟩
       ·obtain ⟨es, _, _, h, _⟩ := i2 t2 s hs
        rw [ho] at h; cases h
     | some es2 =>
       have he : endsM le d ((lab, s0) :: r) = (andB (impB (d.is lab) g1) (endsM le d r).1, some (List.zipWith (iteE (d.is lab)) es1 es2)) := by
        simp only [endsM, hm]
        split
        ·rename_i g2 h2; rw [h2] at ho; cases ho
        ·rename_i g2 e2 h2; rw [h2] at ho ⊢; simp only [oJ] at ho; subst ho; rfl
       have l2 := i1 es2 ho
       have hz : (List.zipWith (iteE (d.is lab)) es1 es2).map (E.den F ρ) = bif (d.is lab).tt F ρ then es1.map (E.den F ρ) else es2.map (E.den F ρ) := by
        have : ∀ (u v : List E), u.length = v.length -> (List.zipWith (iteE (d.is lab)) u v).map (E.den F ρ) = bif (d.is lab).tt F ρ then u.map (E.den F ρ) else v.map (E.den F ρ) := by
         intro u
         induction u with
         | nil => intro v hv; cases v with
           | nil => cases (d.is lab).tt F ρ <;> rfl
           | cons _ _ => simp at hv
         | cons x u ih => intro v hv; cases v with
           | nil => simp at hv
           | cons y v =>
             simp only [List.zipWith_cons_cons, List.map_cons, Ur, ih v (by simpa using hv)]
             cases (d.is lab).tt F ρ <;> rfl
        exact this es1 es2 (by omega)
       rw [he]
       refine ⟨fun es h => by simp only [oJ] at h; subst h; simp [hl1, l2], fun ht s hs => ?_, fun _ => hst⟩
       obtain ⟨t1, t2⟩ := AG ht
       simp only [lk] at hs
       split at hs
       ·rename_i hk
        simp only [oJ] at hs; subst hs
        exact ⟨_, g1, es1, rfl, by rw [<- hk]; exact hm, Gp t1 (DT.is_true hk.symm), by rw [hz, DT.is_true hk.symm]; rfl⟩
       ·rename_i hk
        obtain ⟨es, g3, es3, h1, a1, a2, a3⟩ := i2 t2 s hs
        rw [ho] at h1
        simp only [oJ] at h1
        subst h1
        exact ⟨_, g3, es3, rfl, a1, a2, by rw [hz, DT.is_false (fun e => hk e.symm)]; exact a3⟩
def enL (le : LEnt) (mu : List Int -> Nat) (n : Nat) : Ent := { le.ent with pre := fun xs => le.ent.pre xs /\ mu xs < n }
theorem Us (hm : P.follows .mixedOrders = true) {body : Code} {le : LEnt} {l0 : Tabs} {call : Into} {N : Nat} {L : Bo} (mu : List Int -> Nat)
 (hS : ∀ n, Ck P G (enL le mu n :: l0) T) (hI : ∀ n ρ w0 M0 Im0, GOK G Im0 w0 -> Db P (enL le mu n :: l0) ρ w0 M0 Im0 call) (hL : ∀ n, Fa P G (enL le mu n :: l0) L body)
 {ob : E} {es : List E} (h : evL P G T call N L le body = some (ob, es))
 (hu : ∀ n xs, fits le.ent.pks xs -> le.ent.pre xs -> mu xs <= n -> ∃ ρ : Nat -> Int, (∀ i, i < le.ent.np -> ρ i = env xs i) /\ ob.tt (Tabs.F (enL le mu n :: l0)) ρ = true /\ ∀ (i : Nat) (k : K), le.ent.oks[i]? = some k -> k.norm (le.ent.fn i xs) = (es.getD i (mkB false)).den (Tabs.F (enL le mu n :: l0)) ρ) :
 Ic P G body le := by
 have main : ∀ n, I2 G { le with ent := enL le mu n } fun Q => Code.rounds P body Q n := by
  intro n
  induction n with
  | zero => intro xs hfit hpre; exact absurd hpre.2 (Nat.not_lt_zero _)
  | succ n ih =>
    intro xs hfit hpre w M0 Im hs hM hG hE a hdef hsz hsl Q hQ
    obtain ⟨hpre1, hpre2⟩ := hpre
    obtain ⟨ρ, hρ, u1, u2⟩ := hu n xs hfit hpre1 (by omega)
    obtain ⟨l, hl⟩ : ∃ l : Tabs, l = enL le mu n :: l0 := ⟨_, rfl⟩
    have hS' := hS n
    have hI' := hI n
    have hL' := hL n
    rw [<- hl] at u1 u2 hS' hI' hL'
    unfold evL at h
    split at h
    ·rename_i r hr
     split at h
     ·rename_i q hq
      split at h
      ·rename_i g es' hends
       simp only [oJ, pJ] at h
       obtain ⟨rfl, rfl⟩ := h
       obtain ⟨t1, t2⟩ := AG u1
       obtain ⟨elen0, espec0, hst0⟩ := E1 (F := l.F) (ρ := ρ) (le := le) (d := q.2.1) (ss := q.2.2)
       rw [hends] at elen0 espec0 hst0
       have elen := elen0 es' rfl
       have espec : g.tt l.F ρ = true -> ∀ s, lk (q.2.1.eval l.F ρ) q.2.2 = some s -> ∃ g1 es1, Cp le s (q.2.1.eval l.F ρ) = some (g1, es1) /\ g1.tt l.F ρ = true /\ es'.map (E.den l.F ρ) = es1.map (E.den l.F ρ) := fun ht s hs => by
        obtain ⟨es, g1, es1, h1, h2, h3, h4⟩ := espec0 ht s hs
        simp only [oJ] at h1
        subst h1
        exact ⟨g1, es1, h2, h3, h4⟩
       have hst : C5 le.ent = true := hst0 (by simp)
       let ad0 : Nat -> Hd := fun j => if j < le.ent.nn then hs j else { blk := 0, v := a.tmps.getD (j - le.ent.nn) undef }
       obtain ⟨r1, r2, r3⟩ := FQ (ad := ad0) l le.nt hst hρ hfit hM hE fun j hj => if_pos hj
       have hT0 : RelT l.F ρ ad0 (start le.ent le.nt) (tmL le) a := by
        refine ⟨hdef, by simp [tmL]; exact hsz, fun i v hv => ?_⟩
        simp only [Tm.at, tmL, List.getD, List.getElem?_map] at hv
        by_cases hi : i < le.nt
        ·rw [List.getElem?_range hi] at hv
         simp only [Option.map_some, Option.getD_some] at hv
         split at hv
         ·rename_i k hk
          have hk2 := List.findIdx?_eq_some_iff_getElem.1 hk
          obtain ⟨hk3, hk4, _⟩ := hk2
          have hski : le.sl[k]? = some i := by rw [List.getElem?_eq_getElem hk3]; simpa using hk4
          have h1 := hsl k i hski
          change a.tmps[i]? = (SV.concL F0 (env xs) hs le.ent.pgen.1)[k]? at h1
          rw [<- r2, Ac, List.getElem?_map, hv, Option.map_some] at h1
          exact ⟨h1, CX r3 hv⟩
         ·simp only [oJ] at hv
          subst hv
          have hsz' : a.tmps.size = le.nt := hsz
          have hia : i < a.tmps.size := by rw [hsz']; exact hi
          refine ⟨?_, (CH le.ent le.nt _).2 (by omega)⟩
          simp only [SV.conc, ad0]
          rw [if_neg (by omega), show le.ent.nn + i - le.ent.nn = i by omega]
          simp [Array.getD, hia]
        ·rw [List.getElem?_eq_none (by simpa using hi)] at hv
         simp at hv
       have hget : l.get (enL le mu n).key = some (enL le mu n) := by
        rw [hl]; simp [Tabs.get]
       have hA : After l.F ρ w M0 Im ad0 (start le.ent le.nt) q.2 Q := by
        intro s ad' a' w' hlk hRs hx
        obtain ⟨g1, es1, m1, m2, m3⟩ := espec t2 s hlk
        have m1' := m1
        unfold Cp at m1'
        split at m1'
        ·rename_i bs us hbs hus
         split at m1'
         ·rename_i hkeep
          obtain ⟨hlen, hkeep⟩ := hkeep
          obtain ⟨b1, b2, b3⟩ := Dc (l := l) m1'
          have hys : Aw le.ent.fn xs 0 le.ent.oks = es1.map (E.den l.F ρ) := by
           rw [<- m3]
           refine Ef _ _ _ (by simp [elen]) fun i k y h1 h2 => ?_
           rw [Nat.zero_add, u2 i k h1]
           rw [List.getElem?_map] at h2
           obtain ⟨x, hx, rfl⟩ := Option.map_eq_some_iff.1 h2
           simp [List.getD, hx]
          obtain ⟨hs', Im', q1, q2, q3, q4, q5⟩ := b3 (hs := hs) hρ hfit hys m2 (hRs.2.shareL _) fun j hj => by
           rw [<- hx.same j ((CH le.ent le.nt j).2 (by omega))]
           exact if_pos hj
          obtain ⟨g1', g2'⟩ := DV hus
          have hbits := E0 (F := l.F) (ρ := ρ) (ad := ad') (SV.concL l.F ρ ad' us) hbs
          refine hQ a' w' hs' Im' (SV.concL l.F ρ ad' (bs ++ us)) (q.2.1.eval l.F ρ) (SV.concL l.F ρ ad' us) q1 q2 q3 q5 ?_ ?_ ?_ ?_ ?_ hRs.1.defers
          ·show (BA le.ent.ogen.1).conc _ _ _ = _
           rw [show Aw (enL le mu (n+1)).fn xs 0 (enL le mu (n+1)).oks = es1.map (E.den l.F ρ) from hys]
           rw [hys] at q4
           rw [<- q4]
           simp only [SV.conc]
          ·rw [show SV.concL l.F ρ ad' (bs ++ us) = SV.concL l.F ρ ad' bs ++ SV.concL l.F ρ ad' us by rw [Ac, Ac, Ac, List.map_append]]
           exact hbits.1
          ·intro i t hi
           have hv := g2' i t hi
           have hil : i < us.length := by have := (List.getElem?_eq_some_iff.1 hi).1; change i < le.so.length at this; omega
           rw [List.getElem?_eq_getElem hil] at hv
           rw [(hRs.1.slot t _ hv).1, Ac, List.getElem?_map, List.getElem?_eq_getElem hil, Option.map_some]
          ·intro k hk1 hk2
           have hsz' : a.tmps.size = le.nt := hsz
           by_cases hkn : k < le.nt
           ·have hkk := List.all_eq_true.1 hkeep k (List.mem_range.2 (by simp [tmL]; exact hkn))
            have c1 : le.so.contains k = false := by simpa using hk1
            have c2 : le.wr.contains k = false := by simpa using hk2
            rw [c1, c2, Bool.false_or, Bool.false_or] at hkk
            split at hkk
            ·rename_i v u hv0 hv1
             have := SV.same_eq _ _ hkk
             subst this
             obtain ⟨e1, e2⟩ := hT0.slot k v hv0
             rw [(hRs.1.slot k v hv1).1, e1, SV.conc_congr hx.same v e2]
            ·cases hkk
           ·have h1 : a'.tmps.size = le.nt := by rw [<- hlen]; exact hRs.1.size
            rw [Array.getElem?_eq_none (by omega), Array.getElem?_eq_none (by omega)]
          ·have h1 : a'.tmps.size = le.nt := by rw [<- hlen]; exact hRs.1.size
           have hsz' : a.tmps.size = le.nt := hsz
           omega
         ·cases m1'
        ·cases m1'
       show Code.rounds P body Q (n + 1) a w
       rw [rounds_succ]
       obtain ⟨v1, v2⟩ := DW (l := l) (ρ := ρ) (w0 := w) (M0 := M0) (Im0 := Im) (ad := ad0) (K := Code.rounds P body Q n) (g := q.1) (o := q.2) (f := Hl le) hq t1 hA fun s1 g2 o2 ad' a' w' h2 ht2 hR' hA' =>
        Ev (le := { le with ent := enL le mu n }) (C := fun Q => Code.rounds P body Q n) hget ih hG (g := g2) (o := o2) h2 ht2 hR' hA'
       exact DX hm hS' hG (hI' ρ w M0 Im hG) body L _ r.1 r.2 ad0 a w _ hL' hr v1 ⟨hT0, r1⟩ v2
      ·cases h
     ·cases h
    ·cases h
 intro xs hfit hpre w M0 Im hs hM hG hE a hdef hsz hsl Q hQ
 exact wp_loop_rounds (mu xs + 1) (main (mu xs + 1) xs hfit ⟨hpre, Nat.lt_succ_self _⟩ w M0 Im hs hM hG hE a hdef hsz hsl Q hQ)
theorem Vv (hm : P.follows .mixedOrders = true) {body : Code} {le : LEnt} {l0 : Tabs} {call : Into} {N : Nat} {L : Bo} (mu : List Int -> Nat)
 (hS : ∀ n, Ck P G (enL le mu n :: l0) T) (hI : ∀ n ρ w0 M0 Im0, GOK G Im0 w0 -> Db P (enL le mu n :: l0) ρ w0 M0 Im0 call) (hL : ∀ n, Fa P G (enL le mu n :: l0) L body)
 {ob : E} {es : List E} (h : evL P G T call N L le body = some (ob, es))
 (hu : ∀ n xs, fits le.ent.pks xs -> le.ent.pre xs -> mu xs <= n -> ob.tt (Tabs.F (enL le mu n :: l0)) (env xs) = true /\ ∀ (i : Nat) (k : K), le.ent.oks[i]? = some k -> k.norm (le.ent.fn i xs) = (es.getD i (mkB false)).den (Tabs.F (enL le mu n :: l0)) (env xs)) :
 Ic P G body le := Us hm mu hS hI hL h fun n xs hf hp hmu => ⟨env xs, fun _ _ => rfl, hu n xs hf hp hmu⟩
theorem Tb (hm : P.follows .mixedOrders = true) {c : Code} {le : LEnt} {call : Into} {N : Nat} {L : Bo}
 (hS' : Ck P G l T) (hI' : ∀ ρ w0 M0 Im0, GOK G Im0 w0 -> Db P l ρ w0 M0 Im0 call) (hL' : Fa P G l L c)
 {ob : E} {es : List E} (h : evP P G T call N L le c = some (ob, es))
 (hu : ∀ xs, fits le.ent.pks xs -> le.ent.pre xs -> ∃ ρ : Nat -> Int, (∀ i, i < le.ent.np -> ρ i = env xs i) /\ ob.tt l.F ρ = true /\ ∀ (i : Nat) (k : K), le.ent.oks[i]? = some k -> k.norm (le.ent.fn i xs) = (es.getD i (mkB false)).den l.F ρ) :
 CodeOK P G c le := by
 intro xs hfit hpre w M0 Im hs hM hG hE a hdef hsz hsl Q hQ
 obtain ⟨ρ, hρ, u1, u2⟩ := hu xs hfit hpre
 unfold evP at h
 split at h
 ·rename_i r hr
  split at h
  ·rename_i g es' hends
   simp only [oJ, pJ] at h
   obtain ⟨rfl, rfl⟩ := h
   obtain ⟨t1, t2⟩ := AG u1
   obtain ⟨elen0, espec0, hst0⟩ := E1 (F := l.F) (ρ := ρ) (le := le) (d := r.2.1) (ss := r.2.2)
   rw [hends] at elen0 espec0 hst0
   have elen := elen0 es' rfl
   have espec : g.tt l.F ρ = true -> ∀ s, lk (r.2.1.eval l.F ρ) r.2.2 = some s -> ∃ g1 es1, Cp le s (r.2.1.eval l.F ρ) = some (g1, es1) /\ g1.tt l.F ρ = true /\ es'.map (E.den l.F ρ) = es1.map (E.den l.F ρ) := fun ht s hs => by
    obtain ⟨es, g1, es1, h1, h2, h3, h4⟩ := espec0 ht s hs
    simp only [oJ] at h1
    subst h1
    exact ⟨g1, es1, h2, h3, h4⟩
   have hst : C5 le.ent = true := hst0 (by simp)
   let ad0 : Nat -> Hd := fun j => if j < le.ent.nn then hs j else { blk := 0, v := a.tmps.getD (j - le.ent.nn) undef }
   obtain ⟨r1, r2, r3⟩ := FQ (ad := ad0) l le.nt hst hρ hfit hM hE fun j hj => if_pos hj
   have hT0 : RelT l.F ρ ad0 (start le.ent le.nt) (tmL le) a := by
    refine ⟨hdef, by simp [tmL]; exact hsz, fun i v hv => ?_⟩
    simp only [Tm.at, tmL, List.getD, List.getElem?_map] at hv
    by_cases hi : i < le.nt
    ·rw [List.getElem?_range hi] at hv
     simp only [Option.map_some, Option.getD_some] at hv
     split at hv
     ·rename_i k hk
      have hk2 := List.findIdx?_eq_some_iff_getElem.1 hk
      obtain ⟨hk3, hk4, _⟩ := hk2
      have hski : le.sl[k]? = some i := by rw [List.getElem?_eq_getElem hk3]; simpa using hk4
      have h1 := hsl k i hski
      change a.tmps[i]? = (SV.concL F0 (env xs) hs le.ent.pgen.1)[k]? at h1
      rw [<- r2, Ac, List.getElem?_map, hv, Option.map_some] at h1
      exact ⟨h1, CX r3 hv⟩
     ·simp only [oJ] at hv
      subst hv
      have hsz' : a.tmps.size = le.nt := hsz
      have hia : i < a.tmps.size := by rw [hsz']; exact hi
      refine ⟨?_, (CH le.ent le.nt _).2 (by omega)⟩
      simp only [SV.conc, ad0]
      rw [if_neg (by omega), show le.ent.nn + i - le.ent.nn = i by omega]
      simp [Array.getD, hia]
    ·rw [List.getElem?_eq_none (by simpa using hi)] at hv
     simp at hv
   have hA : After l.F ρ w M0 Im ad0 (start le.ent le.nt) r.2 Q := by
    intro s ad' a' w' hlk hRs hx
    obtain ⟨g1, es1, m1, m2, m3⟩ := espec t2 s hlk
    have m1' := m1
    unfold Cp at m1'
    split at m1'
    ·rename_i bs us hbs hus
     split at m1'
     ·rename_i hkeep
      obtain ⟨hlen, hkeep⟩ := hkeep
      obtain ⟨b1, b2, b3⟩ := Dc (l := l) m1'
      have hys : Aw le.ent.fn xs 0 le.ent.oks = es1.map (E.den l.F ρ) := by
       rw [<- m3]
       refine Ef _ _ _ (by simp [elen]) fun i k y h1 h2 => ?_
       rw [Nat.zero_add, u2 i k h1]
       rw [List.getElem?_map] at h2
       obtain ⟨x, hx, rfl⟩ := Option.map_eq_some_iff.1 h2
       simp [List.getD, hx]
      obtain ⟨hs', Im', q1, q2, q3, q4, q5⟩ := b3 (hs := hs) hρ hfit hys m2 (hRs.2.shareL _) fun j hj => by
       rw [<- hx.same j ((CH le.ent le.nt j).2 (by omega))]
       exact if_pos hj
      obtain ⟨g1', g2'⟩ := DV hus
      have hbits := E0 (F := l.F) (ρ := ρ) (ad := ad') (SV.concL l.F ρ ad' us) hbs
      refine hQ a' w' hs' Im' (SV.concL l.F ρ ad' (bs ++ us)) (r.2.1.eval l.F ρ) (SV.concL l.F ρ ad' us) q1 q2 q3 q5 ?_ ?_ ?_ ?_ ?_ hRs.1.defers
      ·show (BA le.ent.ogen.1).conc _ _ _ = _
       rw [show Aw (le.ent).fn xs 0 (le.ent).oks = es1.map (E.den l.F ρ) from hys]
       rw [hys] at q4
       rw [<- q4]
       simp only [SV.conc]
      ·rw [show SV.concL l.F ρ ad' (bs ++ us) = SV.concL l.F ρ ad' bs ++ SV.concL l.F ρ ad' us by rw [Ac, Ac, Ac, List.map_append]]
       exact hbits.1
      ·intro i t hi
       have hv := g2' i t hi
       have hil : i < us.length := by have := (List.getElem?_eq_some_iff.1 hi).1; change i < le.so.length at this; omega
       rw [List.getElem?_eq_getElem hil] at hv
       rw [(hRs.1.slot t _ hv).1, Ac, List.getElem?_map, List.getElem?_eq_getElem hil, Option.map_some]
      ·intro k hk1 hk2
       have hsz' : a.tmps.size = le.nt := hsz
       by_cases hkn : k < le.nt
       ·have hkk := List.all_eq_true.1 hkeep k (List.mem_range.2 (by simp [tmL]; exact hkn))
        have c1 : le.so.contains k = false := by simpa using hk1
        have c2 : le.wr.contains k = false := by simpa using hk2
        rw [c1, c2, Bool.false_or, Bool.false_or] at hkk
        split at hkk
        ·rename_i v u hv0 hv1
         have := SV.same_eq _ _ hkk
         subst this
         obtain ⟨e1, e2⟩ := hT0.slot k v hv0
         rw [(hRs.1.slot k v hv1).1, e1, SV.conc_congr hx.same v e2]
        ·cases hkk
       ·have h1 : a'.tmps.size = le.nt := by rw [<- hlen]; exact hRs.1.size
        rw [Array.getElem?_eq_none (by omega), Array.getElem?_eq_none (by omega)]
      ·have h1 : a'.tmps.size = le.nt := by rw [<- hlen]; exact hRs.1.size
       have hsz' : a.tmps.size = le.nt := hsz
       omega
     ·cases m1'
    ·cases m1'
   exact DX hm hS' hG (hI' ρ w M0 Im hG) c L _ r.1 r.2 ad0 a w _ hL' hr t1 ⟨hT0, r1⟩ hA
  ·cases h
 ·cases h
end
structure Ctx where
 fs : List Ent
 ls : List (Nat × List Bool × LEnt)
def Ctx.l (c : Ctx) : Tabs := c.fs ++ c.ls.map fun x => x.2.2.ent
def Aj (l : List Ent) : Tab := fun f => l.filter fun e => e.f == f
def eqP : List Bool -> List Bool -> Bool
 | [], [] => true
 | a :: l, b :: r => (a == b) && eqP l r
 | _, _ => false
theorem Tc : ∀ {a b : List Bool}, eqP a b = true -> a = b
 | [], [], _ => rfl
 | [], _ :: _, h => by simp [eqP] at h
 | _ :: _, [], h => by simp [eqP] at h
 | a :: l, b :: r, h => by
   simp only [eqP, Bool.and_eq_true, beq_iff_eq] at h
   rw [h.1, Tc h.2]
def ltOf (l : List (Nat × List Bool × LEnt)) : Nat -> Bo := fun f p => (l.find? fun x => x.1 == f && eqP x.2.1 p).map fun x => x.2.2
def CI (P : Program) (f : Nat) (p : List Bool) : Code :=
 match P.funcs[f]? with
 | some fn => match fn.body with
   | some c => match AB c p with
     | some (.loop b) => b
     | _ => .skip
   | none => .skip
 | none => .skip
def BC (P : Program) (f : Nat) (p : List Bool) : Code :=
 match P.funcs[f]? with
 | some fn => match fn.body with
   | some c => (AB c p).getD .skip
   | none => .skip
 | none => .skip
def Bd (P : Program) (G : Glob) (f : Nat) (p : List Bool) (le : LEnt) : Prop := CodeOK P G (BC P f p) le
def Cv : List Ent -> Bool
 | [] => true
 | e :: r => (!r.any fun x => x.key == e.key) && Cv r
structure Ctx.OK (P : Program) (G : Glob) (c : Ctx) : Prop where
 keys : Cv c.l = true
 fs : ∀ e ∈ c.fs, EntryOK P G e
 ls : ∀ x ∈ c.ls, Bd P G x.1 x.2.1 x.2.2
theorem MA : ∀ {l : List Ent}, Cv l = true -> ∀ e ∈ l, Tabs.get l e.key = some e
 | [], _, e, he => by cases he
 | x :: r, h, e, he => by
   simp only [Cv, Bool.and_eq_true, Bool.not_eq_true', List.any_eq_false, beq_iff_eq] at h
   rcases List.mem_cons.1 he with rfl | he
   ·simp [Tabs.get]
   ·have hne : ¬ x.key = e.key := fun e' => h.1 e he e'.symm
    have := MA h.2 e he
    simp only [Tabs.get] at this ⊢
    rw [List.find?_cons_of_neg (by simpa using hne)]
    exact this
section
variable {P : Program} {G : Glob} {c : Ctx}
theorem BM (hc : ∀ e ∈ c.fs, EntryOK P G e) {l : Tabs} (hl : ∀ e ∈ c.fs, l.get e.key = some e) : Ck P G l (Aj c.fs) := by
 intro f e he
 simp only [Aj, List.mem_filter, beq_iff_eq] at he
 exact ⟨he.2, hl e he.1, hc e he.1⟩
theorem Ctx.OK.get (hc : c.OK P G) : ∀ e ∈ c.l, c.l.get e.key = some e := MA hc.keys
theorem Ctx.OK.getF (hc : c.OK P G) : ∀ e ∈ c.fs, c.l.get e.key = some e := fun e he => hc.get e (List.mem_append_left _ he)
theorem Ctx.OK.getL (hc : c.OK P G) : ∀ x ∈ c.ls, c.l.get x.2.2.ent.key = some x.2.2.ent := fun x hx => hc.get _ (List.mem_append_right _ (List.mem_map.2 ⟨x, hx, rfl⟩))
theorem Fb (hc : ∀ x ∈ c.ls, Bd P G x.1 x.2.1 x.2.2) {l : Tabs} (hl : ∀ x ∈ c.ls, l.get x.2.2.ent.key = some x.2.2.ent) : LTOK P G l (ltOf c.ls) := by
 intro f fn cd hf hb p le h body hbody
 unfold ltOf at h
 obtain ⟨x, hx, rfl⟩ := Option.map_eq_some_iff.1 h
 have hp := List.find?_some hx
 simp only [Bool.and_eq_true, beq_iff_eq] at hp
 obtain ⟨rfl, hp⟩ := hp
 have hp := Tc hp
 have hm := List.mem_of_find?_eq_some hx
 refine ⟨hl x hm, ?_⟩
 have := hc x hm
 have hbd : BC P x.1 x.2.1 = body := by
  unfold BC
  rw [hp]
  simp only [hf, hb, hbody, Option.getD_some]
 unfold Bd at this
 rw [hbd] at this
 exact this
theorem Ctx.OK.entry (hc : c.OK P G) (hm : P.follows .mixedOrders = true) {N n : Nat} {e : Ent} {ob : E} {es : List E} (h : evE P G (Aj c.fs) (ltOf c.ls) N n e = some (ob, es))
 (hu : ∀ xs, fits e.pks xs -> e.pre xs -> ob.tt c.l.F (env xs) = true /\ ∀ (i : Nat) (k : K), e.oks[i]? = some k -> k.norm (e.fn i xs) = (es.getD i (mkB false)).den c.l.F (env xs)) : EntryOK P G e :=
 Uq hm (BM hc.fs hc.getF) (Fb hc.ls hc.getL) h hu
def subL (l : List (Nat × List Bool × LEnt)) (f : Nat) (p : List Bool) : Bo := fun q => ltOf l f (p ++ false :: q)
theorem Ho {p q : List Bool} {c b : Code} (h : AB c p = some b) : AB c (p ++ q) = AB b q := by
 induction p generalizing c with
 | nil =>
   have : c = b := by cases c <;> simpa [AB] using h
   subst this; rfl
 | cons x p ih =>
   cases c with
   | seq a d => cases x <;> exact ih (by simpa [AB] using h)
   | cond o a d => cases x <;> exact ih (by simpa [AB] using h)
   | block i a => exact ih (by simpa [AB] using h)
   | loop a => cases x <;> exact ih (by simpa [AB] using h)
   | _ => simp [AB] at h
theorem FR {l : Tabs} {e x : Ent} (h : l.get x.key = some x) (hk : (l.any fun y => y.key == e.key) = false) : Tabs.get (e :: l) x.key = some x := by
 have hx : x ∈ l := List.mem_of_find?_eq_some h
 have hne : ¬ e.key = x.key := fun e' => by
  rw [List.any_eq_false] at hk
  exact hk x hx (by simp [e'])
 simp only [Tabs.get] at h ⊢
 rw [List.find?_cons_of_neg (by simpa using hne)]
 exact h
theorem Ctx.OK.loop (hc : c.OK P G) (hm : P.follows .mixedOrders = true) {N n : Nat} {f : Nat} {p : List Bool} {le : LEnt} {ob : E} {es : List E} (mu : List Int -> Nat)
 (hk : (c.l.any fun y => y.key == le.ent.key) = false) (hb : ∃ fn cd b, P.funcs[f]? = some fn /\ fn.body = some cd /\ AB cd p = some (.loop b))
 (h : evL P G (Aj c.fs) (evFn P G (Aj c.fs) (ltOf c.ls) N n) N (subL c.ls f p) le (CI P f p) = some (ob, es))
 (hu : ∀ n xs, fits le.ent.pks xs -> le.ent.pre xs -> mu xs <= n -> ob.tt (Tabs.F (enL le mu n :: c.l)) (env xs) = true /\ ∀ (i : Nat) (k : K), le.ent.oks[i]? = some k -> k.norm (le.ent.fn i xs) = (es.getD i (mkB false)).den (Tabs.F (enL le mu n :: c.l)) (env xs)) :
 Bd P G f p le := by
 obtain ⟨fn, cd, b, b1, b2, b3⟩ := hb
 have hcf : BC P f p = .loop b := by unfold BC; simp only [b1, b2, b3, Option.getD_some]
 unfold Bd
 rw [hcf]
 show Ic P G b le
 have hbd : CI P f p = b := by unfold CI; simp only [b1, b2, b3]
 rw [hbd] at h
 have g1 : ∀ n, ∀ e ∈ c.fs, Tabs.get (enL le mu n :: c.l) e.key = some e := fun n e he => FR (e := enL le mu n) (hc.getF e he) hk
 have g2 : ∀ n, ∀ x ∈ c.ls, Tabs.get (enL le mu n :: c.l) x.2.2.ent.key = some x.2.2.ent := fun n x hx => FR (e := enL le mu n) (hc.getL x hx) hk
 have g3 : ∀ n, LTOK P G (enL le mu n :: c.l) (ltOf c.ls) := fun n => Fb hc.ls (g2 n)
 refine Vv hm mu (fun n => BM hc.fs (g1 n)) (fun n ρ w0 M0 Im0 hG => DY hm (BM hc.fs (g1 n)) hG (g3 n) _) (fun n => ?_) h hu
 intro q le' hq body hbody
 exact g3 n f fn cd b1 b2 (p ++ false :: q) le' hq body (by rw [Ho b3]; exact hbody)
def subP (l : List (Nat × List Bool × LEnt)) (f : Nat) (p : List Bool) : Bo := fun q => match q with
 | [] => none
 | _ :: _ => ltOf l f (p ++ q)
theorem Ctx.OK.piece (hc : c.OK P G) (hm : P.follows .mixedOrders = true) {N n : Nat} {f : Nat} {p : List Bool} {le : LEnt} {ob : E} {es : List E}
 (hb : ∃ fn cd b, P.funcs[f]? = some fn /\ fn.body = some cd /\ AB cd p = some b)
 (h : evP P G (Aj c.fs) (evFn P G (Aj c.fs) (ltOf c.ls) N n) N (subP c.ls f p) le (BC P f p) = some (ob, es))
 (hu : ∀ xs, fits le.ent.pks xs -> le.ent.pre xs -> ∃ ρ : Nat -> Int, (∀ i, i < le.ent.np -> ρ i = env xs i) /\ ob.tt c.l.F ρ = true /\ ∀ (i : Nat) (k : K), le.ent.oks[i]? = some k -> k.norm (le.ent.fn i xs) = (es.getD i (mkB false)).den c.l.F ρ) :
 Bd P G f p le := by
 obtain ⟨fn, cd, b, b1, b2, b3⟩ := hb
 have hcf : BC P f p = b := by unfold BC; simp only [b1, b2, b3, Option.getD_some]
 have g3 : LTOK P G c.l (ltOf c.ls) := Fb hc.ls hc.getL
 refine Tb hm (BM hc.fs hc.getF) (fun ρ w0 M0 Im0 hG => DY hm (BM hc.fs hc.getF) hG g3 _) ?_ h hu
 intro q le' hq body hbody
 rw [hcf] at hbody
 cases q with
 | nil => cases hq
 | cons x q => exact g3 f fn cd b1 b2 (p ++ x :: q) le' hq body (by rw [Ho b3]; exact hbody)
def Ax (fn : Nat -> List Int -> Int) (xs : List Int) (F : Fam) (ρ : Nat -> Int) : Nat -> List K -> List E -> Prop
 | _, [], _ => True
 | j, k :: ks, es => k.norm (fn j xs) = (es.headD (mkB false)).den F ρ /\ Ax fn xs F ρ (j + 1) ks es.tail
theorem EE {fn : Nat -> List Int -> Int} {xs : List Int} {F : Fam} {ρ : Nat -> Int} : ∀ {ks : List K} {es : List E} {j : Nat}, Ax fn xs F ρ j ks es -> ∀ (i : Nat) (k : K), ks[i]? = some k -> k.norm (fn (j + i) xs) = (es.getD i (mkB false)).den F ρ
 | [], es, j, h, i, k, hi => by simp at hi
 | k' :: ks, es, j, h, 0, k, hi => by
   simp only [List.getElem?_cons_zero, oJ] at hi
   subst hi
   have := h.1
   cases es <;> simpa using this
 | k' :: ks, es, j, h, i + 1, k, hi => by
   have := EE h.2 i k (by simpa using hi)
   rw [show j + 1 + i = j + (i + 1) by omega] at this
   cases es with
   | nil => simpa using this
   | cons x es => simpa using this
theorem Ctx.OK.entryP (hc : c.OK P G) (hm : P.follows .mixedOrders = true) {N n : Nat} {e : Ent} {ob : E} {es : List E} (h : evE P G (Aj c.fs) (ltOf c.ls) N n e = some (ob, es)) (ks : List K) (hks : e.pks = ks) (os : List K) (hos : e.oks = os)
 (hu : ∀ xs, fits ks xs -> e.pre xs -> ob.tt c.l.F (env xs) = true /\ Ax e.fn xs c.l.F (env xs) 0 os es) : EntryOK P G e := by
 subst hks; subst hos
 exact hc.entry hm h fun xs hf hp => ⟨(hu xs hf hp).1, fun i k hi => by simpa using EE (hu xs hf hp).2 i k hi⟩
theorem Ctx.OK.loopP (hc : c.OK P G) (hm : P.follows .mixedOrders = true) {N n : Nat} {f : Nat} {p : List Bool} {le : LEnt} {ob : E} {es : List E} (mu : List Int -> Nat)
 (hk : (c.l.any fun y => y.key == le.ent.key) = false) (hb : ∃ fn cd b, P.funcs[f]? = some fn /\ fn.body = some cd /\ AB cd p = some (.loop b))
 (h : evL P G (Aj c.fs) (evFn P G (Aj c.fs) (ltOf c.ls) N n) N (subL c.ls f p) le (CI P f p) = some (ob, es)) (ks : List K) (hks : le.ent.pks = ks) (os : List K) (hos : le.ent.oks = os)
 (hu : ∀ n xs, fits ks xs -> le.ent.pre xs -> mu xs <= n -> ob.tt (Tabs.F (enL le mu n :: c.l)) (env xs) = true /\ Ax le.ent.fn xs (Tabs.F (enL le mu n :: c.l)) (env xs) 0 os es) :
 Bd P G f p le := by
 subst hks; subst hos
 exact hc.loop hm mu hk hb h fun n xs hf hp hmu => ⟨(hu n xs hf hp hmu).1, fun i k hi => by simpa using EE (hu n xs hf hp hmu).2 i k hi⟩
theorem Ctx.OK.pieceP (hc : c.OK P G) (hm : P.follows .mixedOrders = true) {N n : Nat} {f : Nat} {p : List Bool} {le : LEnt} {ob : E} {es : List E}
 (hb : ∃ fn cd b, P.funcs[f]? = some fn /\ fn.body = some cd /\ AB cd p = some b)
 (h : evP P G (Aj c.fs) (evFn P G (Aj c.fs) (ltOf c.ls) N n) N (subP c.ls f p) le (BC P f p) = some (ob, es)) (ks : List K) (hks : le.ent.pks = ks) (os : List K) (hos : le.ent.oks = os)
 (hu : ∀ xs, fits ks xs -> le.ent.pre xs -> ob.tt c.l.F (env xs) = true /\ Ax le.ent.fn xs c.l.F (env xs) 0 os es) :
 Bd P G f p le := by
 subst hks; subst hos
 exact hc.piece hm hb h fun xs hf hp => ⟨env xs, fun _ _ => rfl, (hu xs hf hp).1, fun i k hi => by simpa using EE (hu xs hf hp).2 i k hi⟩
theorem Ctx.OK.entryR (hc : c.OK P G) (hm : P.follows .mixedOrders = true) {N n : Nat} {e : Ent} {ob : E} {es : List E} (h : evE P G (Aj c.fs) (ltOf c.ls) N n e = some (ob, es)) (ks : List K) (hks : e.pks = ks) (os : List K) (hos : e.oks = os)
 (hu : ∀ xs, fits ks xs -> e.pre xs -> ∃ ρ : Nat -> Int, (∀ i, i < ks.length -> ρ i = env xs i) /\ ob.tt c.l.F ρ = true /\ Ax e.fn xs c.l.F ρ 0 os es) : EntryOK P G e := by
 subst hks; subst hos
 refine Io hm (BM hc.fs hc.getF) (Fb hc.ls hc.getL) h fun xs hf hp => ?_
 obtain ⟨ρ, u1, u2, u3⟩ := hu xs hf hp
 exact ⟨ρ, u1, u2, fun i k hi => by simpa using EE u3 i k hi⟩
theorem Ctx.OK.addF (hc : c.OK P G) {e : Ent} (h : EntryOK P G e) (hk : (c.l.any fun y => y.key == e.key) = false) : Ctx.OK P G ⟨e :: c.fs, c.ls⟩ := by
 refine ⟨?_, fun x hx => ?_, hc.ls⟩
 ·show Cv (e :: c.l) = true
  simp only [Cv, hk, Bool.not_false, Bool.true_and]
  exact hc.keys
 ·rcases List.mem_cons.1 hx with rfl | hx
  ·exact h
  ·exact hc.fs x hx
theorem MB : ∀ {a b : List Ent} {e : Ent}, Cv (a ++ b) = true -> ((a ++ b).any fun y => y.key == e.key) = false -> Cv (a ++ e :: b) = true
 | [], b, e, h, hk => by simp only [List.nil_append, Cv, hk, Bool.not_false, Bool.true_and] at *; exact h
 | x :: a, b, e, h, hk => by
   simp only [List.cons_append, Cv, Bool.and_eq_true, List.any_cons, Bool.or_eq_false_iff, Bool.not_eq_true'] at h hk ⊢
   refine ⟨?_, MB h.2 hk.2⟩
   have h1 := h.1
   simp only [List.any_append, Bool.or_eq_false_iff, List.any_cons] at h1 ⊢
   refine ⟨h1.1, ?_, h1.2⟩
   have := hk.1
   simp only [beq_eq_false_iff_ne, ne_eq] at this ⊢
   exact fun e' => this e'.symm
theorem Ctx.OK.addL (hc : c.OK P G) {f : Nat} {p : List Bool} {le : LEnt} (h : Bd P G f p le) (hk : (c.l.any fun y => y.key == le.ent.key) = false) : Ctx.OK P G ⟨c.fs, (f, p, le) :: c.ls⟩ := by
 refine ⟨?_, hc.fs, fun x hx => ?_⟩
 ·show Cv (c.fs ++ le.ent :: c.ls.map fun x => x.2.2.ent) = true
  exact MB hc.keys hk
 ·rcases List.mem_cons.1 hx with rfl | hx
  ·exact h
  ·exact hc.ls x hx
theorem Ctx.OK.nil : Ctx.OK P G ⟨[], []⟩ := ⟨rfl, fun _ h => (by cases h), fun _ h => (by cases h)⟩
end
theorem i64w {z : Int} (h1 : -9223372036854775808 <= z) (h2 : z <= 9223372036854775807) : IntKind.i64.wrap z = z := by rw [IntKind.wrap_i64]; omega
theorem i64r {z : Int} (h : IntKind.i64.wrap z = z) : -9223372036854775808 <= z /\ z <= 9223372036854775807 := by rw [IntKind.wrap_i64] at h; omega
theorem Gt (a b : E) (F : Fam) (ρ : Nat -> Int) : (E.and a b).tt F ρ = (a.tt F ρ && b.tt F ρ) := by simp [E.tt, E.den]
theorem KP (a b : E) (F : Fam) (ρ : Nat -> Int) : (E.or a b).tt F ρ = (a.tt F ρ || b.tt F ρ) := by simp [E.tt, E.den]
theorem VS (a : E) (F : Fam) (ρ : Nat -> Int) : (E.not a).tt F ρ = !a.tt F ρ := by simp [E.tt, E.den]
theorem NZ (op : BinOp) (a b : E) (F : Fam) (ρ : Nat -> Int) : (E.cmp op a b).tt F ρ = cmpB op (a.den F ρ) (b.den F ρ) := by simp [E.tt, E.den]
theorem VT (n : Int) (F : Fam) (ρ : Nat -> Int) : (E.lit .b n).tt F ρ = decide (n ≠ 0) := by
 by_cases h : n = 0 <;> simp [E.tt, E.den, K.norm, i2b, h]
theorem VU (c a b : E) (F : Fam) (ρ : Nat -> Int) : (E.ite c a b).tt F ρ = bif c.tt F ρ then a.tt F ρ else b.tt F ρ := by
 simp only [E.tt, E.den]; cases i2b (c.den F ρ) <;> rfl
theorem Vw (op : BinOp) (a b : E) (F : Fam) (ρ : Nat -> Int) : (E.cmp op a b).den F ρ = b2i (cmpB op (a.den F ρ) (b.den F ρ)) := rfl
theorem Vx (a : E) (F : Fam) (ρ : Nat -> Int) : (E.not a).den F ρ = b2i (!a.tt F ρ) := rfl
theorem Vy (a b : E) (F : Fam) (ρ : Nat -> Int) : (E.and a b).den F ρ = b2i (a.tt F ρ && b.tt F ρ) := rfl
theorem VV (a b : E) (F : Fam) (ρ : Nat -> Int) : (E.or a b).den F ρ = b2i (a.tt F ρ || b.tt F ρ) := rfl
theorem Vz (c a b : E) (F : Fam) (ρ : Nat -> Int) : (E.ite c a b).den F ρ = bif c.tt F ρ then a.den F ρ else b.den F ρ := rfl
theorem VC (k : K) (n : Int) (F : Fam) (ρ : Nat -> Int) : (E.lit k n).den F ρ = k.norm n := rfl
theorem LP (k : K) (i : Nat) (F : Fam) (ρ : Nat -> Int) : (E.var k i).den F ρ = k.norm (ρ i) := rfl
theorem VD (op : BinOp) (k : IntKind) (a b : E) (F : Fam) (ρ : Nat -> Int) : (E.bin op k a b).den F ρ = binI op k (a.den F ρ) (b.den F ρ) := rfl
theorem VW (op : BinOp) (k : IntKind) (a : E) (n : Int) (F : Fam) (ρ : Nat -> Int) : (E.dv op k a n).den F ρ = dvI op k (a.den F ρ) n := rfl
theorem VX (op : BinOp) (k : IntKind) (a b : E) (F : Fam) (ρ : Nat -> Int) : (E.sh op k a b).den F ρ = shI op k (a.den F ρ) (b.den F ρ) := rfl
theorem Ut (k : IntKind) (a : E) (F : Fam) (ρ : Nat -> Int) : (E.conv k a).den F ρ = k.wrap (a.den F ρ) := rfl
theorem Eg (k : K) (f j : Nat) (aZ : List E) (F : Fam) (ρ : Nat -> Int) : (E.app k f j aZ).den F ρ = k.norm (F f j (aZ.map (E.den F ρ))) := by simp only [E.den, E3]
theorem VY (f j : Nat) (aZ : List E) (F : Fam) (ρ : Nat -> Int) : (E.app .b f j aZ).tt F ρ = i2b (K.b.norm (F f j (aZ.map (E.den F ρ)))) := by simp only [E.tt, E.den, E3]
theorem VZ (i : Nat) (F : Fam) (ρ : Nat -> Int) : (E.var .b i).tt F ρ = i2b (ρ i) := by
 by_cases h : ρ i = 0 <;> simp [E.tt, E.den, K.norm, i2b, h]
theorem An (k : IntKind) (n : Int) : K.norm (.i k) n = k.wrap n := rfl
theorem nb1 : K.b.norm 1 = 1 := rfl
theorem nb0 : K.b.norm 0 = 0 := rfl
theorem i2b1 : i2b 1 = true := rfl
theorem i2b0 : i2b 0 = false := rfl
theorem A1 (n : Int) : K.norm .x n = n := rfl
theorem F_bi (l : Tabs) (j : Nat) (xs : List Int) : l.F 0 j xs = bi j xs := l.BI j xs
theorem F_fn {l : Tabs} (e : Ent) {key : Nat} (hk : e.key = key) (he : l.get key = some e) (h : key ≠ 0) {j : Nat} (hj : (j == preC) = false) (xs : List Int) : l.F key j xs = e.fn j xs := by
 subst hk
 exact Tabs.F_fn he h (by simpa using hj) xs
theorem V1 (le : LEnt) (mu : List Int -> Nat) (n : Nat) (l0 : Tabs) (hk : le.ent.key ≠ 0) : ∃ l : Tabs, enL le mu n :: l0 = l /\ (∀ j, (j == preC) = false -> ∀ xs, l.F le.ent.key j xs = le.ent.fn j xs) /\
 (∀ xs, le.ent.pre xs /\ mu xs < n -> i2b (K.b.norm (l.F le.ent.key 1000000 xs)) = true) /\
 ∀ e : Ent, l0.get e.key = some e -> e.key ≠ le.ent.key -> e.key ≠ 0 -> (∀ j, (j == preC) = false -> ∀ xs, l.F e.key j xs = e.fn j xs) /\ ∀ xs, e.pre xs -> i2b (K.b.norm (l.F e.key 1000000 xs)) = true := by
 have g : Tabs.get (enL le mu n :: l0) le.ent.key = some (enL le mu n) := by simp [Tabs.get, enL]
 refine ⟨_, rfl, fun j hj xs => F_fn (enL le mu n) rfl g hk hj xs, fun xs h => (Tabs.F_pre (e := enL le mu n) g hk rfl).2 h, fun e he h1 h2 => ?_⟩
 have ge : Tabs.get (enL le mu n :: l0) e.key = some e := by
  have : (le.ent.key == e.key) = false := by simpa using fun e' => h1 e'.symm
  simp only [Tabs.get, enL, List.find?_cons, this]
  exact he
 exact ⟨fun j hj xs => F_fn e rfl ge h2 hj xs, fun xs h => (Tabs.F_pre ge h2 rfl).2 h⟩
theorem ctx_F {l0 : Tabs} : ∃ l : Tabs, l0 = l /\ ∀ e : Ent, l0.get e.key = some e -> e.key ≠ 0 -> (∀ j, (j == preC) = false -> ∀ xs, l.F e.key j xs = e.fn j xs) /\ ∀ xs, e.pre xs -> i2b (K.b.norm (l.F e.key 1000000 xs)) = true :=
 ⟨_, rfl, fun e ge h2 => ⟨fun j hj xs => F_fn e rfl ge h2 hj xs, fun xs h => (Tabs.F_pre ge h2 rfl).2 h⟩⟩
theorem por (x y : Bool) : ((x || y) = true) = (x = false -> y = true) := by cases x <;> cases y <;> simp
theorem pnand (x y : Bool) : ((x && y) = false) = (x = true -> y = false) := by cases x <;> cases y <;> simp
theorem pand (x y : Bool) : ((x && y) = true) = (x = true /\ y = true) := by cases x <;> cases y <;> simp
theorem pnor (x y : Bool) : ((x || y) = false) = (x = false /\ y = false) := by cases x <;> cases y <;> simp
theorem pnot (x : Bool) : ((!x) = true) = (x = false) := by cases x <;> simp
theorem pnnot (x : Bool) : ((!x) = false) = (x = true) := by cases x <;> simp
theorem pcond (c x y : Bool) : ((bif c then x else y) = true) = ((c = true -> x = true) /\ (c = false -> y = true)) := by cases c <;> cases x <;> cases y <;> simp
theorem pncond (c x y : Bool) : ((bif c then x else y) = false) = ((c = true -> x = false) /\ (c = false -> y = false)) := by cases c <;> cases x <;> cases y <;> simp
theorem pdec (p : Prop) [Decidable p] : (decide p = true) = p := by simp
theorem pndec (p : Prop) [Decidable p] : (decide p = false) = ¬ p := by simp
theorem peq (x y : Int) : ((x == y) = true) = (x = y) := by simp
theorem pneq (x y : Int) : ((x == y) = false) = ¬ (x = y) := by simp
theorem pne (x y : Int) : ((x != y) = true) = ¬ (x = y) := by simp
theorem pnne (x y : Int) : ((x != y) = false) = (x = y) := by simp
theorem pgt (x y : Int) : (x > y) = (y < x) := rfl
theorem pge (x y : Int) : (x >= y) = (y <= x) := rfl
theorem u8w {z : Int} (h1 : 0 <= z) (h2 : z <= 255) : IntKind.u8.wrap z = z := by
 simp only [IntKind.wrap, IntKind.signed, IntKind.bits]; simp; omega
theorem u16w {z : Int} (h1 : 0 <= z) (h2 : z <= 65535) : IntKind.u16.wrap z = z := by
 simp only [IntKind.wrap, IntKind.signed, IntKind.bits]; simp; omega
theorem u32w {z : Int} (h1 : 0 <= z) (h2 : z <= 4294967295) : IntKind.u32.wrap z = z := by
 simp only [IntKind.wrap, IntKind.signed, IntKind.bits]; simp; omega
theorem u64w {z : Int} (h1 : 0 <= z) (h2 : z <= 18446744073709551615) : IntKind.u64.wrap z = z := by
 simp only [IntKind.wrap, IntKind.signed, IntKind.bits]; simp; omega
theorem u8r {z : Int} (h : IntKind.u8.wrap z = z) : 0 <= z /\ z <= 255 := by
 simp only [IntKind.wrap, IntKind.signed, IntKind.bits] at h; simp at h; omega
theorem dcond (c : Bool) (x y : Int) : (bif c then x else y) = if c = true then x else y := by cases c <;> rfl
open Classical in
theorem AK {l0 : Tabs} : ∃ l : Tabs, l0 = l /\ ∀ e : Ent, l0.get e.key = some e -> e.key ≠ 0 -> (∀ j, (j == preC) = false -> ∀ xs, l.F e.key j xs = e.fn j xs) /\ ∀ xs, (i2b (K.b.norm (l.F e.key 1000000 xs)) = true) = e.pre xs :=
 ⟨_, rfl, fun e ge h2 => ⟨fun j hj xs => F_fn e rfl ge h2 hj xs, fun xs => propext (Tabs.F_pre ge h2 rfl)⟩⟩
theorem Td (le : LEnt) (mu : List Int -> Nat) (n : Nat) (l0 : Tabs) (hk : le.ent.key ≠ 0) : ∃ l : Tabs, enL le mu n :: l0 = l /\ ((∀ j, (j == preC) = false -> ∀ xs, l.F le.ent.key j xs = le.ent.fn j xs) /\
 (∀ xs, (i2b (K.b.norm (l.F le.ent.key 1000000 xs)) = true) = (le.ent.pre xs /\ mu xs < n))) /\
 ∀ e : Ent, l0.get e.key = some e -> e.key ≠ le.ent.key -> e.key ≠ 0 -> (∀ j, (j == preC) = false -> ∀ xs, l.F e.key j xs = e.fn j xs) /\ ∀ xs, (i2b (K.b.norm (l.F e.key 1000000 xs)) = true) = e.pre xs := by
 have g : Tabs.get (enL le mu n :: l0) le.ent.key = some (enL le mu n) := by simp [Tabs.get, enL]
 refine ⟨_, rfl, ⟨fun j hj xs => F_fn (enL le mu n) rfl g hk hj xs, fun xs => propext (Tabs.F_pre (e := enL le mu n) g hk rfl)⟩, fun e he h1 h2 => ?_⟩
 have ge : Tabs.get (enL le mu n :: l0) e.key = some e := by
  have : (le.ent.key == e.key) = false := by simpa using fun e' => h1 e'.symm
  simp only [Tabs.get, enL, List.find?_cons, this]
  exact he
 exact ⟨fun j hj xs => F_fn e rfl ge h2 hj xs, fun xs => propext (Tabs.F_pre ge h2 rfl)⟩
def Ent.nm (e : Ent) : Ent := { e with key := e.key + 100000000 }
theorem Ent.nm_fn (e : Ent) : e.nm.fn = e.fn := rfl
theorem Ent.nm_pre (e : Ent) : e.nm.pre = e.pre := rfl
theorem EntryOK.nm {P : Program} {G : Glob} {e : Ent} (h : EntryOK P G e) : EntryOK P G e.nm := h
def LEnt.nm (le : LEnt) : LEnt := { le with ent := le.ent.nm }
theorem CodeOK.nm {P : Program} {G : Glob} {c : Code} {le : LEnt} (h : CodeOK P G c le) : CodeOK P G c le.nm := h
def Ctx.nm (c : Ctx) : Ctx := ⟨c.fs.map Ent.nm, c.ls.map fun x => (x.1, x.2.1, x.2.2.nm)⟩
theorem N0 : ∀ {l : List Ent}, Cv l = true -> Cv (l.map Ent.nm) = true
 | [], _ => rfl
 | e :: r, h => by
   simp only [Cv, Bool.and_eq_true, Bool.not_eq_true', List.any_eq_false, beq_iff_eq, List.map_cons] at h ⊢
   refine ⟨fun x hx => ?_, N0 h.2⟩
   obtain ⟨y, hy, rfl⟩ := List.mem_map.1 hx
   have := h.1 y hy
   show ¬ y.key + 100000000 = e.key + 100000000
   omega
theorem Ctx.nm_l (c : Ctx) : c.nm.l = c.l.map Ent.nm := by
 simp only [Ctx.l, Ctx.nm, List.map_append, List.map_map]; rfl
theorem Ctx.OK.nm {P : Program} {G : Glob} {c : Ctx} (h : c.OK P G) : c.nm.OK P G := by
 refine ⟨?_, fun e he => ?_, fun x hx => ?_⟩
 ·rw [Ctx.nm_l]; exact N0 h.keys
 ·obtain ⟨y, hy, rfl⟩ := List.mem_map.1 he
  exact (h.fs y hy).nm
 ·obtain ⟨y, hy, rfl⟩ := List.mem_map.1 hx
  exact CodeOK.nm (h.ls y hy)
mutual
def E.no (p : Nat -> Bool) : E -> Bool
 | .lit .. => true
 | .var _ i => !p i
 | .app _ _ _ aZ => E.noL p aZ
 | .bin _ _ a b => E.no p a && E.no p b
 | .dv _ _ a _ => E.no p a
 | .sh _ _ a b => E.no p a && E.no p b
 | .cmp _ a b => E.no p a && E.no p b
 | .conv _ a => E.no p a
 | .not a => E.no p a
 | .and a b => E.no p a && E.no p b
 | .or a b => E.no p a && E.no p b
 | .ite c a b => E.no p c && (E.no p a && E.no p b)
def E.noL (p : Nat -> Bool) : List E -> Bool
 | [] => true
 | e :: r => E.no p e && E.noL p r
end
mutual
theorem E.no_den {F : Fam} {p : Nat -> Bool} {ρ ρ' : Nat -> Int} (h : ∀ i, p i = false -> ρ i = ρ' i) : ∀ e : E, E.no p e = true -> e.den F ρ = e.den F ρ'
 | .lit .., _ => rfl
 | .var k i, hn => by simp only [E.no, Bool.not_eq_true'] at hn; simp only [E.den, h i hn]
 | .app k f j aZ, hn => by simp only [E.no] at hn; simp only [E.den, E.no_denL h aZ hn]
 | .bin op k a b, hn => by simp only [E.no, Bool.and_eq_true] at hn; simp only [E.den, E.no_den h a hn.1, E.no_den h b hn.2]
 | .dv op k a n, hn => by simp only [E.no] at hn; simp only [E.den, E.no_den h a hn]
 | .sh op k a b, hn => by simp only [E.no, Bool.and_eq_true] at hn; simp only [E.den, E.no_den h a hn.1, E.no_den h b hn.2]
 | .cmp op a b, hn => by simp only [E.no, Bool.and_eq_true] at hn; simp only [E.den, E.no_den h a hn.1, E.no_den h b hn.2]
 | .conv k a, hn => by simp only [E.no] at hn; simp only [E.den, E.no_den h a hn]
 | .not a, hn => by simp only [E.no] at hn; simp only [E.den, E.no_den h a hn]
 | .and a b, hn => by simp only [E.no, Bool.and_eq_true] at hn; simp only [E.den, E.no_den h a hn.1, E.no_den h b hn.2]
 | .or a b, hn => by simp only [E.no, Bool.and_eq_true] at hn; simp only [E.den, E.no_den h a hn.1, E.no_den h b hn.2]
 | .ite c a b, hn => by simp only [E.no, Bool.and_eq_true] at hn; simp only [E.den, E.no_den h c hn.1, E.no_den h a hn.2.1, E.no_den h b hn.2.2]
theorem E.no_denL {F : Fam} {p : Nat -> Bool} {ρ ρ' : Nat -> Int} (h : ∀ i, p i = false -> ρ i = ρ' i) : ∀ l : List E, E.noL p l = true -> E.denL F ρ l = E.denL F ρ' l
 | [], _ => rfl
 | e :: r, hn => by simp only [E.noL, Bool.and_eq_true] at hn; simp only [E.denL, E.no_den h e hn.1, E.no_denL h r hn.2]
end
def okD (np : Nat) : List (Nat × E) -> Bool
 | [] => true
 | x :: r => (decide (np <= x.1) && E.no (fun i => i == x.1 || r.any fun y => y.1 == i) x.2) && ((!r.any fun y => y.1 == x.1) && okD np r)
theorem Te (F : Fam) (np : Nat) : ∀ (d : List (Nat × E)) (ρ0 : Nat -> Int), okD np d = true -> ∃ ρ : Nat -> Int, (∀ i, (d.any fun y => y.1 == i) = false -> ρ i = ρ0 i) /\ ∀ x ∈ d, ρ x.1 = x.2.den F ρ
 | [], ρ0, _ => ⟨ρ0, fun _ _ => rfl, fun x hx => by cases hx⟩
 | x :: r, ρ0, h => by
   simp only [okD, Bool.and_eq_true, decide_eq_true_eq, Bool.not_eq_true'] at h
   obtain ⟨⟨h1, h2⟩, h3, h4⟩ := h
   obtain ⟨ρ, q1, q2⟩ := Te F np r (fun i => if i = x.1 then x.2.den F ρ0 else ρ0 i) h4
   have hx : ρ x.1 = x.2.den F ρ := by
    rw [q1 x.1 h3, if_pos rfl]
    refine E.no_den (fun i hi => ?_) _ h2
    simp only [Bool.or_eq_false_iff, beq_eq_false_iff_ne] at hi
    rw [q1 i hi.2, if_neg hi.1]
   refine ⟨ρ, fun i hi => ?_, fun y hy => ?_⟩
   ·simp only [List.any_cons, Bool.or_eq_false_iff, beq_eq_false_iff_ne] at hi
    rw [q1 i hi.2, if_neg (fun e => hi.1 e.symm)]
   ·rcases List.mem_cons.1 hy with rfl | hy
    ·exact hx
    ·exact q2 y hy
theorem Tf {np : Nat} : ∀ {d : List (Nat × E)}, okD np d = true -> ∀ i, i < np -> (d.any fun y => y.1 == i) = false
 | [], _, _, _ => rfl
 | x :: r, h, i, hi => by
   simp only [okD, Bool.and_eq_true, decide_eq_true_eq] at h
   simp only [List.any_cons, Tf h.2.2 i hi, Bool.or_false, beq_eq_false_iff_ne]
   have := h.1.1
   omega
theorem solve {F : Fam} (np : Nat) (d : List (Nat × E)) (h : okD np d = true) (xs : List Int) : ∃ ρ : Nat -> Int, (∀ i, i < np -> ρ i = env xs i) /\ ∀ x ∈ d, ρ x.1 = x.2.den F ρ := by
 obtain ⟨ρ, a, b⟩ := Te F np d (env xs) h
 exact ⟨ρ, fun i hi => a i (Tf h i hi), b⟩
theorem ewA : (∀ (a b : E) (F : Fam) (ρ : Nat -> Int), (E.and a b).tt F ρ = (a.tt F ρ && b.tt F ρ)) /\
 (∀ (a b : E) (F : Fam) (ρ : Nat -> Int), (E.or a b).tt F ρ = (a.tt F ρ || b.tt F ρ)) /\
 (∀ (a : E) (F : Fam) (ρ : Nat -> Int), (E.not a).tt F ρ = !a.tt F ρ) /\
 (∀ (op : BinOp) (a b : E) (F : Fam) (ρ : Nat -> Int), (E.cmp op a b).tt F ρ = cmpB op (a.den F ρ) (b.den F ρ)) /\
 (∀ (n : Int) (F : Fam) (ρ : Nat -> Int), (E.lit .b n).tt F ρ = decide (n ≠ 0)) /\
 (∀ (c a b : E) (F : Fam) (ρ : Nat -> Int), (E.ite c a b).tt F ρ = bif c.tt F ρ then a.tt F ρ else b.tt F ρ) /\
 (∀ (i : Nat) (F : Fam) (ρ : Nat -> Int), (E.var .b i).tt F ρ = i2b (ρ i)) /\
 (∀ (f j : Nat) (aZ : List E) (F : Fam) (ρ : Nat -> Int), (E.app .b f j aZ).tt F ρ = i2b (K.b.norm (F f j (aZ.map (E.den F ρ))))) /\
 (∀ (op : BinOp) (a b : E) (F : Fam) (ρ : Nat -> Int), (E.cmp op a b).den F ρ = b2i (cmpB op (a.den F ρ) (b.den F ρ))) /\
 (∀ (a : E) (F : Fam) (ρ : Nat -> Int), (E.not a).den F ρ = b2i (!a.tt F ρ)) /\
 (∀ (a b : E) (F : Fam) (ρ : Nat -> Int), (E.and a b).den F ρ = b2i (a.tt F ρ && b.tt F ρ)) /\
 (∀ (a b : E) (F : Fam) (ρ : Nat -> Int), (E.or a b).den F ρ = b2i (a.tt F ρ || b.tt F ρ)) /\
 (∀ (c a b : E) (F : Fam) (ρ : Nat -> Int), (E.ite c a b).den F ρ = bif c.tt F ρ then a.den F ρ else b.den F ρ) /\
 (∀ (k : K) (n : Int) (F : Fam) (ρ : Nat -> Int), (E.lit k n).den F ρ = k.norm n) /\
 (∀ (k : K) (i : Nat) (F : Fam) (ρ : Nat -> Int), (E.var k i).den F ρ = k.norm (ρ i)) /\
 (∀ (op : BinOp) (k : IntKind) (a b : E) (F : Fam) (ρ : Nat -> Int), (E.bin op k a b).den F ρ = binI op k (a.den F ρ) (b.den F ρ)) /\
 (∀ (op : BinOp) (k : IntKind) (a : E) (n : Int) (F : Fam) (ρ : Nat -> Int), (E.dv op k a n).den F ρ = dvI op k (a.den F ρ) n) /\
 (∀ (op : BinOp) (k : IntKind) (a b : E) (F : Fam) (ρ : Nat -> Int), (E.sh op k a b).den F ρ = shI op k (a.den F ρ) (b.den F ρ)) /\
 (∀ (k : IntKind) (a : E) (F : Fam) (ρ : Nat -> Int), (E.conv k a).den F ρ = k.wrap (a.den F ρ)) /\
 (∀ (k : K) (f j : Nat) (aZ : List E) (F : Fam) (ρ : Nat -> Int), (E.app k f j aZ).den F ρ = k.norm (F f j (aZ.map (E.den F ρ)))) /\
 (∀ (k : IntKind) (n : Int), K.norm (.i k) n = k.wrap n) /\
 (∀ (n : Int), K.norm .x n = n) /\
 (∀ (b : Bool), K.b.norm (b2i b) = b2i b) /\
 (K.b.norm 1 = 1) /\
 (K.b.norm 0 = 0) /\
 (i2b 1 = true) /\
 (i2b 0 = false) /\
 (∀ (b : Bool), i2b (b2i b) = b) /\
 (∀ (l : Tabs) (j : Nat) (xs : List Int), l.F 0 j xs = bi j xs) /\
 (∀ (l : RL), dc (cd l) = l) :=
 ⟨@Gt, @KP, @VS, @NZ, @VT, @VU, @VZ, @VY, @Vw, @Vx, @Vy, @VV, @Vz, @VC, @LP, @VD, @VW, @VX, @Ut, @Eg, @An, @A1, @Cf, @nb1, @nb0, @i2b1, @i2b0, @D1, @F_bi, @Ab⟩
theorem ewB : (∀ (x y : Bool), ((x || y) = true) = (x = false -> y = true)) /\
 (∀ (x y : Bool), ((x && y) = false) = (x = true -> y = false)) /\
 (∀ (x y : Bool), ((x && y) = true) = (x = true /\ y = true)) /\
 (∀ (x y : Bool), ((x || y) = false) = (x = false /\ y = false)) /\
 (∀ (x : Bool), ((!x) = true) = (x = false)) /\
 (∀ (x : Bool), ((!x) = false) = (x = true)) /\
 (∀ (c x y : Bool), ((bif c then x else y) = true) = ((c = true -> x = true) /\ (c = false -> y = true))) /\
 (∀ (c x y : Bool), ((bif c then x else y) = false) = ((c = true -> x = false) /\ (c = false -> y = false))) /\
 (∀ (x y : Int), ((x == y) = true) = (x = y)) /\
 (∀ (x y : Int), ((x == y) = false) = ¬ (x = y)) /\
 (∀ (x y : Int), ((x != y) = true) = ¬ (x = y)) /\
 (∀ (x y : Int), ((x != y) = false) = (x = y)) /\
 (∀ (x y : Int), (x > y) = (y < x)) /\
 (∀ (x y : Int), (x >= y) = (y <= x)) /\
 (∀ (c : Bool) (x y : Int), (bif c then x else y) = if c = true then x else y) /\
 (∀ (e : Ent), e.nm.fn = e.fn) /\
 (∀ (e : Ent), e.nm.pre = e.pre) /\
 (∀ {z : Int} (h1 : -9223372036854775808 <= z) (h2 : z <= 9223372036854775807), IntKind.i64.wrap z = z) /\
 (∀ {z : Int} (h1 : 0 <= z) (h2 : z <= 255), IntKind.u8.wrap z = z) /\
 (∀ {z : Int} (h1 : 0 <= z) (h2 : z <= 65535), IntKind.u16.wrap z = z) /\
 (∀ {z : Int} (h1 : 0 <= z) (h2 : z <= 4294967295), IntKind.u32.wrap z = z) /\
 (∀ {z : Int} (h1 : 0 <= z) (h2 : z <= 18446744073709551615), IntKind.u64.wrap z = z) :=
 ⟨@por, @pnand, @pand, @pnor, @pnot, @pnnot, @pcond, @pncond, @peq, @pneq, @pne, @pnne, @pgt, @pge, @dcond, @Ent.nm_fn, @Ent.nm_pre, @i64w, @u8w, @u16w, @u32w, @u64w⟩
theorem ewL : (∀ (f : E -> Int) (a : E) (l : List E), List.map f (a :: l) = f a :: List.map f l) /\ (∀ (f : E -> Int), List.map f [] = []) /\
 (∀ (a d : Int) (l : List Int) (n : Nat), (a :: l).getD (n + 1) d = l.getD n d) /\ (∀ (a d : Int) (l : List Int), (a :: l).getD 0 d = a) /\
 (∀ (a d : List Int) (l : RL) (n : Nat), (a :: l).getD (n + 1) d = l.getD n d) /\ (∀ (a d : List Int) (l : RL), (a :: l).getD 0 d = a) /\
 (∀ (a : Int) (l : List Int), (a :: l)[0]? = some a) /\ (∀ (a : Int) (l : List Int) (n : Nat), (a :: l)[n + 1]? = l[n]?) /\
 (∀ (a : E) (l : List E), (a :: l)[0]? = some a) /\ (∀ (a : E) (l : List E) (n : Nat), (a :: l)[n + 1]? = l[n]?) /\
 (∀ (l : List Int), [] ++ l = l) /\ (∀ (a : Int) (l m : List Int), a :: l ++ m = a :: (l ++ m)) /\
 (∀ (l : RL), [] ++ l = l) /\ (∀ (a : List Int) (l m : RL), a :: l ++ m = a :: (l ++ m)) /\
 (Int.toNat 0 = 0) /\ (Int.toNat 1 = 1) /\ (∀ n : Nat, Int.toNat (n : Int) = n) /\ (∀ n : Nat, 0 + n = n) :=
 ⟨fun _ _ _ => rfl, fun _ => rfl, fun _ _ _ _ => List.getD_cons_succ, fun _ _ _ => List.getD_cons_zero, fun _ _ _ _ => List.getD_cons_succ, fun _ _ _ => List.getD_cons_zero,
  fun _ _ => rfl, fun _ _ _ => rfl, fun _ _ => rfl, fun _ _ _ => rfl, fun _ => rfl, fun _ _ _ => rfl, fun _ => rfl, fun _ _ _ => rfl, rfl, rfl, fun _ => rfl, Nat.zero_add⟩
theorem ewM : (∀ (p : Prop) [Decidable p], (decide p = true) = p) /\ (∀ (p : Prop) [Decidable p], (decide p = false) = ¬ p) /\
 (∀ {a b : Int}, ¬ a < b ↔ b <= a) /\ (∀ {a b : Int}, ¬ a <= b ↔ b < a) /\ (∀ p : Prop, (True /\ p) = p) /\ (∀ p : Prop, (p /\ True) = p) /\ (∀ p : Prop, (False /\ p) = False) /\ (∀ p : Prop, (p /\ False) = False) /\
 (∀ p : Prop, (True -> p) = p) /\ (∀ p : Prop, (p -> True) = True) /\ (∀ p : Prop, (False -> p) = True) /\ ((¬ True) = False) /\ ((¬ False) = True) /\
 (∀ l : RL, l.take l.length = l) /\ (∀ l : RL, l.drop 0 = l) :=
 ⟨pdec, pndec, Int.not_lt, Int.not_le, true_and, and_true, false_and, and_false, fun p => by simp, fun p => by simp, fun p => by simp, not_true_eq_false, not_false_eq_true, fun _ => List.take_length, fun _ => rfl⟩
def enH (le : LEnt) (φ : Nat -> List Int -> Int) (mu : List Int -> Nat) (n : Nat) : Ent := { le.ent with fn := φ, pre := fun xs => le.ent.pre xs /\ mu xs < n }
theorem Gg {f g : Nat -> List Int -> Int} {xs : List Int} (h : ∀ j, f j xs = g j xs) : ∀ {ks : List K} {j : Nat}, Aw f xs j ks = Aw g xs j ks
 | [], _ => rfl
 | k :: ks, j => by simp only [Aw, h j, Gg h (ks := ks) (j := j + 1)]
section
variable {P : Program} {ρ : Nat -> Int} {G : Glob} {T : Tab} {l : Tabs} {w0 w w' : World} {M0 Im0 Im : Nat -> Prop} {ad ad' hs : Nat -> Hd} {m m2 m' : Mem} {tm : Tm} {en : Env} {a : Act}
theorem Uu (hm : P.follows .mixedOrders = true) {body : Code} {le : LEnt} {l0 : Tabs} {call : Into} {N : Nat} {L : Bo} (mu : List Int -> Nat) (ψ : Nat -> Nat -> List Int -> Int) (hψ : ∀ n j xs, mu xs < n -> ψ n j xs = le.ent.fn j xs)
 (hS : ∀ φ n, Ck P G (enH le φ mu n :: l0) T) (hI : ∀ φ n ρ w0 M0 Im0, GOK G Im0 w0 -> Db P (enH le φ mu n :: l0) ρ w0 M0 Im0 call) (hL : ∀ φ n, Fa P G (enH le φ mu n :: l0) L body)
 {ob : E} {es : List E} (h : evL P G T call N L le body = some (ob, es))
 (hu : ∀ xs, fits le.ent.pks xs -> le.ent.pre xs -> ∃ ρ : Nat -> Int, (∀ i, i < le.ent.np -> ρ i = env xs i) /\ ob.tt (Tabs.F (enH le (ψ (mu xs)) mu (mu xs) :: l0)) ρ = true /\ ∀ (i : Nat) (k : K), le.ent.oks[i]? = some k -> k.norm (le.ent.fn i xs) = (es.getD i (mkB false)).den (Tabs.F (enH le (ψ (mu xs)) mu (mu xs) :: l0)) ρ) :
 Ic P G body le := by
 have main : ∀ n, I2 G { le with ent := enL le mu n } fun Q => Code.rounds P body Q n := by
  intro n
  induction n with
  | zero => intro xs hfit hpre; exact absurd hpre.2 (Nat.not_lt_zero _)
  | succ n ih =>
    intro xs hfit hpre w M0 Im hs hM hG hE a hdef hsz hsl Q hQ
    obtain ⟨hpre1, hpre2⟩ := hpre
    obtain ⟨ρ, hρ, u1, u2⟩ := hu xs hfit hpre1
    obtain ⟨m, hm0⟩ : ∃ m, m = mu xs := ⟨_, rfl⟩
    rw [<- hm0] at u1 u2
    have hmn : m <= n := by omega
    obtain ⟨l, hl⟩ : ∃ l : Tabs, l = enH le (ψ m) mu m :: l0 := ⟨_, rfl⟩
    have hS' := hS (ψ m) m
    have hI' := hI (ψ m) m
    have hL' := hL (ψ m) m
    have ih' : I2 G { le with ent := enH le (ψ m) mu m } fun Q => Code.rounds P body Q n := by
     intro xs hfit hpre w M0 Im hs hM hG hE a hdef hsz hsl Q hQ
     have hp2 : le.ent.pre xs /\ mu xs < m := hpre
     refine ih xs hfit ⟨hp2.1, by have := hp2.2; omega⟩ w M0 Im hs hM hG hE a hdef hsz hsl Q ?_
     have eo : Aw (ψ m) xs 0 le.ent.oks = Aw le.ent.fn xs 0 le.ent.oks := Gg fun j => hψ m j xs hp2.2
     intro a' w' hs' Im' Vs lab us q1 q2 q3 q4 q5
     refine hQ a' w' hs' Im' Vs lab us q1 q2 q3 ?_ ?_
     ·show RelE F0 (env (xs ++ Aw (ψ m) xs 0 le.ent.oks)) w M0 Im' hs' le.ent.oents w'
      rw [eo]; exact q4
     ·show (BA le.ent.ogen.1).conc F0 (env (xs ++ Aw (ψ m) xs 0 le.ent.oks)) hs' = .tuple Vs.toArray
      rw [eo]; exact q5
    rw [<- hl] at u1 u2 hS' hI' hL'
    unfold evL at h
    split at h
    ·rename_i r hr
     split at h
     ·rename_i q hq
      split at h
      ·rename_i g es' hends
       simp only [oJ, pJ] at h
       obtain ⟨rfl, rfl⟩ := h
       obtain ⟨t1, t2⟩ := AG u1
       obtain ⟨elen0, espec0, hst0⟩ := E1 (F := l.F) (ρ := ρ) (le := le) (d := q.2.1) (ss := q.2.2)
       rw [hends] at elen0 espec0 hst0
       have elen := elen0 es' rfl
       have espec : g.tt l.F ρ = true -> ∀ s, lk (q.2.1.eval l.F ρ) q.2.2 = some s -> ∃ g1 es1, Cp le s (q.2.1.eval l.F ρ) = some (g1, es1) /\ g1.tt l.F ρ = true /\ es'.map (E.den l.F ρ) = es1.map (E.den l.F ρ) := fun ht s hs => by
        obtain ⟨es, g1, es1, h1, h2, h3, h4⟩ := espec0 ht s hs
        simp only [oJ] at h1
        subst h1
        exact ⟨g1, es1, h2, h3, h4⟩
       have hst : C5 le.ent = true := hst0 (by simp)
       let ad0 : Nat -> Hd := fun j => if j < le.ent.nn then hs j else { blk := 0, v := a.tmps.getD (j - le.ent.nn) undef }
       obtain ⟨r1, r2, r3⟩ := FQ (ad := ad0) l le.nt hst hρ hfit hM hE fun j hj => if_pos hj
       have hT0 : RelT l.F ρ ad0 (start le.ent le.nt) (tmL le) a := by
        refine ⟨hdef, by simp [tmL]; exact hsz, fun i v hv => ?_⟩
        simp only [Tm.at, tmL, List.getD, List.getElem?_map] at hv
        by_cases hi : i < le.nt
        ·rw [List.getElem?_range hi] at hv
         simp only [Option.map_some, Option.getD_some] at hv
         split at hv
         ·rename_i k hk
          have hk2 := List.findIdx?_eq_some_iff_getElem.1 hk
          obtain ⟨hk3, hk4, _⟩ := hk2
          have hski : le.sl[k]? = some i := by rw [List.getElem?_eq_getElem hk3]; simpa using hk4
          have h1 := hsl k i hski
          change a.tmps[i]? = (SV.concL F0 (env xs) hs le.ent.pgen.1)[k]? at h1
          rw [<- r2, Ac, List.getElem?_map, hv, Option.map_some] at h1
          exact ⟨h1, CX r3 hv⟩
         ·simp only [oJ] at hv
          subst hv
          have hsz' : a.tmps.size = le.nt := hsz
          have hia : i < a.tmps.size := by rw [hsz']; exact hi
          refine ⟨?_, (CH le.ent le.nt _).2 (by omega)⟩
          simp only [SV.conc, ad0]
          rw [if_neg (by omega), show le.ent.nn + i - le.ent.nn = i by omega]
          simp [Array.getD, hia]
        ·rw [List.getElem?_eq_none (by simpa using hi)] at hv
         simp at hv
       have hget : l.get (enH le (ψ m) mu m).key = some (enH le (ψ m) mu m) := by
        rw [hl]; simp [Tabs.get]
       have hA : After l.F ρ w M0 Im ad0 (start le.ent le.nt) q.2 Q := by
        intro s ad' a' w' hlk hRs hx
        obtain ⟨g1, es1, m1, m2, m3⟩ := espec t2 s hlk
        have m1' := m1
        unfold Cp at m1'
        split at m1'
        ·rename_i bs us hbs hus
         split at m1'
         ·rename_i hkeep
          obtain ⟨hlen, hkeep⟩ := hkeep
          obtain ⟨b1, b2, b3⟩ := Dc (l := l) m1'
          have hys : Aw le.ent.fn xs 0 le.ent.oks = es1.map (E.den l.F ρ) := by
           rw [<- m3]
           refine Ef _ _ _ (by simp [elen]) fun i k y h1 h2 => ?_
           rw [Nat.zero_add, u2 i k h1]
           rw [List.getElem?_map] at h2
           obtain ⟨x, hx, rfl⟩ := Option.map_eq_some_iff.1 h2
           simp [List.getD, hx]
          obtain ⟨hs', Im', q1, q2, q3, q4, q5⟩ := b3 (hs := hs) hρ hfit hys m2 (hRs.2.shareL _) fun j hj => by
           rw [<- hx.same j ((CH le.ent le.nt j).2 (by omega))]
           exact if_pos hj
          obtain ⟨g1', g2'⟩ := DV hus
          have hbits := E0 (F := l.F) (ρ := ρ) (ad := ad') (SV.concL l.F ρ ad' us) hbs
          refine hQ a' w' hs' Im' (SV.concL l.F ρ ad' (bs ++ us)) (q.2.1.eval l.F ρ) (SV.concL l.F ρ ad' us) q1 q2 q3 q5 ?_ ?_ ?_ ?_ ?_ hRs.1.defers
          ·show (BA le.ent.ogen.1).conc _ _ _ = _
           rw [show Aw (enL le mu (n+1)).fn xs 0 (enL le mu (n+1)).oks = es1.map (E.den l.F ρ) from hys]
           rw [hys] at q4
           rw [<- q4]
           simp only [SV.conc]
          ·rw [show SV.concL l.F ρ ad' (bs ++ us) = SV.concL l.F ρ ad' bs ++ SV.concL l.F ρ ad' us by rw [Ac, Ac, Ac, List.map_append]]
           exact hbits.1
          ·intro i t hi
           have hv := g2' i t hi
           have hil : i < us.length := by have := (List.getElem?_eq_some_iff.1 hi).1; change i < le.so.length at this; omega
           rw [List.getElem?_eq_getElem hil] at hv
           rw [(hRs.1.slot t _ hv).1, Ac, List.getElem?_map, List.getElem?_eq_getElem hil, Option.map_some]
          ·intro k hk1 hk2
           have hsz' : a.tmps.size = le.nt := hsz
           by_cases hkn : k < le.nt
           ·have hkk := List.all_eq_true.1 hkeep k (List.mem_range.2 (by simp [tmL]; exact hkn))
            have c1 : le.so.contains k = false := by simpa using hk1
            have c2 : le.wr.contains k = false := by simpa using hk2
            rw [c1, c2, Bool.false_or, Bool.false_or] at hkk
            split at hkk
            ·rename_i v u hv0 hv1
             have := SV.same_eq _ _ hkk
             subst this
             obtain ⟨e1, e2⟩ := hT0.slot k v hv0
             rw [(hRs.1.slot k v hv1).1, e1, SV.conc_congr hx.same v e2]
            ·cases hkk
           ·have h1 : a'.tmps.size = le.nt := by rw [<- hlen]; exact hRs.1.size
            rw [Array.getElem?_eq_none (by omega), Array.getElem?_eq_none (by omega)]
          ·have h1 : a'.tmps.size = le.nt := by rw [<- hlen]; exact hRs.1.size
           have hsz' : a.tmps.size = le.nt := hsz
           omega
         ·cases m1'
        ·cases m1'
       show Code.rounds P body Q (n + 1) a w
       rw [rounds_succ]
       obtain ⟨v1, v2⟩ := DW (l := l) (ρ := ρ) (w0 := w) (M0 := M0) (Im0 := Im) (ad := ad0) (K := Code.rounds P body Q n) (g := q.1) (o := q.2) (f := Hl le) hq t1 hA fun s1 g2 o2 ad' a' w' h2 ht2 hR' hA' =>
        Ev (le := { le with ent := enH le (ψ m) mu m }) (C := fun Q => Code.rounds P body Q n) hget ih' hG (g := g2) (o := o2) h2 ht2 hR' hA'
       exact DX hm hS' hG (hI' ρ w M0 Im hG) body L _ r.1 r.2 ad0 a w _ hL' hr v1 ⟨hT0, r1⟩ v2
      ·cases h
     ·cases h
    ·cases h
 intro xs hfit hpre w M0 Im hs hM hG hE a hdef hsz hsl Q hQ
 exact wp_loop_rounds (mu xs + 1) (main (mu xs + 1) xs hfit ⟨hpre, Nat.lt_succ_self _⟩ w M0 Im hs hM hG hE a hdef hsz hsl Q hQ)
end
def dEl : List (Nat × E) -> E
 | [] => mkB true
 | x :: r => .and (.cmp .eql (.var x.2.kind x.1) x.2) (dEl r)
def dE (d : List (Nat × E)) (i n : Nat) : E := dEl ((d.drop i).take n)
def UJ : E -> Bool
 | .app .. => true
 | _ => false
theorem Tg {F : Fam} {ρ : Nat -> Int} : ∀ {d : List (Nat × E)}, (d.all fun x => UJ x.2) = true -> (∀ x ∈ d, ρ x.1 = x.2.den F ρ) -> (dEl d).tt F ρ = true
 | [], _, _ => rfl
 | x :: r, ha, h => by
   simp only [List.all_cons, Bool.and_eq_true] at ha
   rw [dEl, Gt, Tg ha.2 fun y hy => h y (List.mem_cons_of_mem _ hy), Bool.and_true, NZ, LP, h x (List.mem_cons_self ..)]
   obtain ⟨i, e⟩ := x
   cases e with
   | app k f j aZ =>
     simp only [E.kind, Eg, K.norm_norm, cmpB, beq_self_eq_true]
   | _ => cases ha.1
theorem MR {F : Fam} {ρ : Nat -> Int} {d : List (Nat × E)} (ha : (d.all fun x => UJ x.2) = true) (h : ∀ x ∈ d, ρ x.1 = x.2.den F ρ) (i n : Nat) : (dE d i n).tt F ρ = true := by
 refine Tg ?_ fun x hx => h x (List.mem_of_mem_drop (List.mem_of_mem_take hx))
 rw [List.all_eq_true] at ha ⊢
 exact fun x hx => ha x (List.mem_of_mem_drop (List.mem_of_mem_take hx))
theorem FC {l : Tabs} {k0 k : Nat} {f : Nat -> List Int -> Int} {p : List Int -> Prop} (hk : k0 = k) (h : (∀ j, (j == preC) = false -> ∀ xs, l.F k0 j xs = f j xs) /\ (∀ xs, (i2b (K.b.norm (l.F k0 1000000 xs)) = true) = p xs)) :
 (∀ xs, l.F k 0 xs = f 0 xs) /\ (∀ xs, l.F k 1 xs = f 1 xs) /\ (∀ xs, l.F k 2 xs = f 2 xs) /\ (∀ xs, l.F k 3 xs = f 3 xs) /\ (∀ xs, l.F k 4 xs = f 4 xs) /\ (∀ xs, l.F k 5 xs = f 5 xs) /\ (∀ xs, l.F k 6 xs = f 6 xs) /\ (∀ xs, l.F k 7 xs = f 7 xs) /\ (∀ xs, l.F k 8 xs = f 8 xs) /\ (∀ xs, l.F k 9 xs = f 9 xs) /\ (∀ xs, l.F k 10 xs = f 10 xs) /\ (∀ xs, l.F k 11 xs = f 11 xs) /\ (∀ xs, l.F k 12 xs = f 12 xs) /\ (∀ xs, l.F k 13 xs = f 13 xs) /\ (∀ xs, l.F k 14 xs = f 14 xs) /\ (∀ xs, l.F k 15 xs = f 15 xs) /\ (∀ xs, (i2b (K.b.norm (l.F k 1000000 xs)) = true) = p xs) := by
 subst hk
 exact ⟨h.1 0 rfl, h.1 1 rfl, h.1 2 rfl, h.1 3 rfl, h.1 4 rfl, h.1 5 rfl, h.1 6 rfl, h.1 7 rfl, h.1 8 rfl, h.1 9 rfl, h.1 10 rfl, h.1 11 rfl, h.1 12 rfl, h.1 13 rfl, h.1 14 rfl, h.1 15 rfl, h.2⟩
def exN : List K -> (List Int -> Prop) -> Prop
 | [], P => P []
 | k :: ks, P => ∃ x, k.norm x = x /\ exN ks fun xs => P (x :: xs)
theorem N1 : ∀ {ks : List K} {P Q : List Int -> Prop}, (∀ xs, P xs -> Q xs) -> exN ks P -> exN ks Q
 | [], _, _, h, hp => h _ hp
 | _ :: _, _, _, h, ⟨x, hx, hp⟩ => ⟨x, hx, N1 (fun xs => h (x :: xs)) hp⟩
theorem Fu : ∀ {ks : List K} {xs : List Int}, fits ks xs -> exN ks fun ys => xs = ys
 | [], [], _ => rfl
 | [], _ :: _, h => h.elim
 | _ :: _, [], h => h.elim
 | k :: ks, x :: xs, h => ⟨x, h.1, N1 (fun ys (e : xs = ys) => by rw [e]) (Fu h.2)⟩
def eqL (ρ : Nat -> Int) : Nat -> List Int -> Prop
 | _, [] => True
 | j, [x] => ρ j = x
 | j, x :: y :: xs => ρ j = x /\ eqL ρ (j + 1) (y :: xs)
theorem Th {ρ : Nat -> Int} : ∀ (xs : List Int) (j : Nat), (∀ i, i < xs.length -> ρ (j + i) = env xs i) -> eqL ρ j xs
 | [], _, _ => trivial
 | [x], j, h => h 0 (Nat.zero_lt_succ _)
 | x :: y :: xs, j, h => ⟨h 0 (Nat.zero_lt_succ _), Th (y :: xs) (j + 1) fun i hi => by
   have := h (i + 1) (Nat.succ_lt_succ hi)
   rwa [show j + 1 + i = j + (i + 1) by omega]⟩
theorem Fv {ρ : Nat -> Int} {xs : List Int} {n : Nat} (h : ∀ i, i < n -> ρ i = env xs i) (hn : xs.length <= n) : eqL ρ 0 xs := Th xs 0 fun i hi => by
 rw [Nat.zero_add]; exact h i (Nat.lt_of_lt_of_le hi hn)
theorem nmd {F : Fam} {ρ : Nat -> Int} {d : List (Nat × E)} (h : ∀ x ∈ d, ρ x.1 = x.2.den F ρ) (n : Nat) {i : Nat} {k : K} {f j : Nat} {aZ : List E} (hn : d[n]? = some (i, .app k f j aZ)) : ∃ v, ρ i = v /\ v = k.norm (F f j (aZ.map (E.den F ρ))) /\ k.norm v = v := by
 have e := h _ (List.mem_of_getElem? hn)
 simp only [Eg] at e
 exact ⟨_, rfl, e, by rw [e]; exact K.norm_norm _ _⟩
theorem AM {k : K} {ks : List K} {xs : List Int} (h : fits (k :: ks) xs) : ∃ x r, xs = x :: r /\ k.norm x = x /\ fits ks r := by
 cases xs with
 | nil => exact h.elim
 | cons x r => exact ⟨x, r, rfl, h.1, h.2⟩
theorem Eh {xs : List Int} (h : fits [] xs) : xs = [] := by
 cases xs with
 | nil => rfl
 | cons x r => exact h.elim
def esB : List K -> List E -> Bool
 | [], [] => true
 | k :: ks, e :: es => decide (e.kind = k) && e.sound && esB ks es
 | _, _ => false
theorem I5 : ∀ {ks : List K} {es : List E}, esB ks es = true -> es.length = ks.length /\ ∀ (F : Fam) (ρ : Nat -> Int) (i : Nat) (k : K), ks[i]? = some k -> k.norm ((es.getD i (mkB false)).den F ρ) = (es.getD i (mkB false)).den F ρ
 | [], [], _ => ⟨rfl, fun _ _ i k h => by simp at h⟩
 | [], _ :: _, h => by simp [esB] at h
 | _ :: _, [], h => by simp [esB] at h
 | k :: ks, e :: es, h => by
   simp only [esB, Bool.and_eq_true, decide_eq_true_eq] at h
   obtain ⟨⟨rfl, h2⟩, h3⟩ := h
   obtain ⟨i1, i2⟩ := I5 h3
   refine ⟨by simp [i1], fun F ρ i k hi => ?_⟩
   cases i with
   | zero =>
     simp only [List.getElem?_cons_zero, oJ] at hi
     subst hi
     simpa using E.den_norm F ρ e h2
   | succ i => simpa using i2 F ρ i k (by simpa using hi)
abbrev Post := List Int -> List Int -> Prop
def Fnd (F : Fam) (np : Nat) (ob : E) (es : List E) (Q : Post) (xs : List Int) (ρ : Nat -> Int) : Prop :=
 (∀ i, i < np -> ρ i = env xs i) /\ ob.tt F ρ = true /\ Q xs (es.map (E.den F ρ))
open Classical in
noncomputable def fnR (F : Fam) (np : Nat) (ob : E) (es : List E) (Q : Post) (j : Nat) (xs : List Int) : Int :=
 if h : ∃ ρ : Nat -> Int, Fnd F np ob es Q xs ρ then (es.getD j (mkB false)).den F h.choose else 0
theorem Ti {F : Fam} {np : Nat} {ob : E} {es : List E} {Q : Post} {xs : List Int} (h : ∃ ρ : Nat -> Int, Fnd F np ob es Q xs ρ) : ∃ ρ, Fnd F np ob es Q xs ρ /\ ∀ j, fnR F np ob es Q j xs = (es.getD j (mkB false)).den F ρ :=
 ⟨h.choose, h.choose_spec, fun j => dif_pos h⟩
def PostOK (e : Ent) (Q : Post) : Prop := ∀ xs, fits e.pks xs -> e.pre xs -> Q xs (Aw e.fn xs 0 e.oks)
def UK : K -> Int -> Int -> Prop
 | .b, v, z => v = K.b.norm z
 | .i k, v, z => v = k.wrap z
 | .x, v, z => v = z
theorem QI {k : K} {v z : Int} (h : UK k v z) : v = k.norm z := by cases k <;> exact h
def Ah (fn : Nat -> List Int -> Int) (xs : List Int) : Nat -> List K -> List Int -> Prop
 | _, [], [] => True
 | j, k :: ks, v :: vs => UK k v (fn j xs) /\ Ah fn xs (j + 1) ks vs
 | _, _, _ => False
theorem N2 {fn : Nat -> List Int -> Int} {xs : List Int} : ∀ {ks : List K} {vs : List Int} {j : Nat}, Ah fn xs j ks vs -> vs = Aw fn xs j ks
 | [], [], _, _ => rfl
 | [], _ :: _, _, h => h.elim
 | _ :: _, [], _, h => h.elim
 | k :: ks, v :: vs, j, h => by
   rw [Aw, <- QI h.1, <- N2 h.2]
theorem PostOK.use {e : Ent} {Q : Post} (h : PostOK e Q) {xs vs : List Int} {ks os : List K} (hks : e.pks = ks) (hos : e.oks = os) (ho : Ah e.fn xs 0 os vs) (hf : fits ks xs) (hp : e.pre xs) : Q xs vs := by
 subst hks; subst hos
 rw [N2 ho]; exact h xs hf hp
theorem N3 {F : Fam} {ρ : Nat -> Int} {fn : Nat -> List Int -> Int} {xs : List Int} {ks : List K} {es : List E} (hb : esB ks es = true) (h : ∀ j, fn j xs = (es.getD j (mkB false)).den F ρ) : Aw fn xs 0 ks = es.map (E.den F ρ) := by
 obtain ⟨b1, b2⟩ := I5 hb
 refine Ef _ _ _ (by simp [b1]) fun i k y h1 h2 => ?_
 rw [Nat.zero_add, h i, b2 F ρ i k h1]
 rw [List.getElem?_map] at h2
 obtain ⟨x, hx, rfl⟩ := Option.map_eq_some_iff.1 h2
 simp [List.getD, hx]
def Ent.fw (e : Ent) (f : Nat -> List Int -> Int) : Ent := { e with fn := f }
def LEnt.fw (le : LEnt) (f : Nat -> List Int -> Int) : LEnt := { le with ent := le.ent.fw f }
theorem ewR : (∀ le : LEnt, le.nm.ent.fn = le.ent.fn) /\ (∀ le : LEnt, le.nm.ent.pre = le.ent.pre) /\ (∀ (e : Ent) (f : Nat -> List Int -> Int), (e.fw f).pre = e.pre) /\ (∀ (e : LEnt) (f : Nat -> List Int -> Int), (e.fw f).ent.pre = e.ent.pre) := ⟨fun _ => rfl, fun _ => rfl, fun _ _ => rfl, fun _ _ => rfl⟩
section
variable {P : Program} {G : Glob} {c : Ctx}
theorem Ctx.OK.entryH (hc : c.OK P G) (hm : P.follows .mixedOrders = true) {N n : Nat} {e : Ent} {ob : E} {es : List E} {Q : Post} (h : evE P G (Aj c.fs) (ltOf c.ls) N n (e.fw (fnR c.l.F e.np ob es Q)) = some (ob, es)) (hb : esB e.oks es = true) (ks : List K) (hks : e.pks = ks)
 (hu : ∀ xs, fits ks xs -> e.pre xs -> ∃ ρ : Nat -> Int, (∀ i, i < ks.length -> ρ i = env xs i) /\ ob.tt c.l.F ρ = true /\ Q xs (es.map (E.den c.l.F ρ))) : EntryOK P G (e.fw (fnR c.l.F e.np ob es Q)) /\ PostOK (e.fw (fnR c.l.F e.np ob es Q)) Q := by
 subst hks
 have key : ∀ xs, fits e.pks xs -> e.pre xs -> ∃ ρ, Fnd c.l.F e.np ob es Q xs ρ /\ ∀ j, fnR c.l.F e.np ob es Q j xs = (es.getD j (mkB false)).den c.l.F ρ := fun xs hf hp => Ti (hu xs hf hp)
 refine ⟨Io hm (BM hc.fs hc.getF) (Fb hc.ls hc.getL) h fun xs hf hp => ?_, fun xs hf hp => ?_⟩
 ·obtain ⟨ρ, ⟨f1, f2, _⟩, f4⟩ := key xs hf hp
  refine ⟨ρ, f1, f2, fun i k hi => ?_⟩
  show k.norm (fnR c.l.F e.np ob es Q i xs) = _
  rw [f4 i]; exact (I5 hb).2 _ _ i k hi
 ·obtain ⟨ρ, ⟨_, _, f3⟩, f4⟩ := key xs hf hp
  show Q xs (Aw (fnR c.l.F e.np ob es Q) xs 0 e.oks)
  rw [N3 hb f4]; exact f3
noncomputable def psiL (le : LEnt) (l0 : Tabs) (ob : E) (es : List E) (Q : Post) (mu : List Int -> Nat) : Nat -> Nat -> List Int -> Int
 | 0, _, _ => 0
 | n + 1, j, xs => if mu xs < n then psiL le l0 ob es Q mu n j xs else fnR (Tabs.F (enH le (psiL le l0 ob es Q mu n) mu n :: l0)) le.ent.np ob es Q j xs
noncomputable def fnL (le : LEnt) (l0 : Tabs) (ob : E) (es : List E) (Q : Post) (mu : List Int -> Nat) (j : Nat) (xs : List Int) : Int := psiL le l0 ob es Q mu (mu xs + 1) j xs
theorem LQ {le : LEnt} {l0 : Tabs} {ob : E} {es : List E} {Q : Post} {mu : List Int -> Nat} : ∀ (n j : Nat) (xs : List Int), mu xs < n -> psiL le l0 ob es Q mu n j xs = fnL le l0 ob es Q mu j xs
 | 0, _, _, h => absurd h (Nat.not_lt_zero _)
 | n + 1, j, xs, h => by
   by_cases hc : mu xs < n
   ·rw [psiL, if_pos hc]; exact LQ n j xs hc
   ·have e : n = mu xs := by omega
    rw [e]; rfl
theorem V3 {le : LEnt} {l0 : Tabs} {ob : E} {es : List E} {Q : Post} {mu : List Int -> Nat} (j : Nat) (xs : List Int) : fnL le l0 ob es Q mu j xs = fnR (Tabs.F (enH le (psiL le l0 ob es Q mu (mu xs)) mu (mu xs) :: l0)) le.ent.np ob es Q j xs := by
 rw [fnL, psiL, if_neg (Nat.lt_irrefl _)]
theorem Ctx.OK.loopH (hc : c.OK P G) (hm : P.follows .mixedOrders = true) {N n : Nat} {f : Nat} {p : List Bool} {le : LEnt} {ob : E} {es : List E} {Q : Post} {mu : List Int -> Nat}
 (hk : (c.l.any fun y => y.key == le.ent.key) = false) (hp : ∃ fn cd b, P.funcs[f]? = some fn /\ fn.body = some cd /\ AB cd p = some (.loop b))
 (h : evL P G (Aj c.fs) (evFn P G (Aj c.fs) (ltOf c.ls) N n) N (subL c.ls f p) (le.fw (fnL le c.l ob es Q mu)) (CI P f p) = some (ob, es)) (hb : esB le.ent.oks es = true) (ks : List K) (hks : le.ent.pks = ks)
 (hu : ∀ xs, fits ks xs -> le.ent.pre xs -> ∀ φ : Nat -> List Int -> Int, (∀ ys, fits ks ys -> le.ent.pre ys -> mu ys < mu xs -> Q ys (Aw φ ys 0 le.ent.oks)) ->
  ∃ ρ : Nat -> Int, (∀ i, i < ks.length -> ρ i = env xs i) /\ ob.tt (Tabs.F (enH le φ mu (mu xs) :: c.l)) ρ = true /\ Q xs (es.map (E.den (Tabs.F (enH le φ mu (mu xs) :: c.l)) ρ))) :
 Bd P G f p (le.fw (fnL le c.l ob es Q mu)) /\ PostOK (le.fw (fnL le c.l ob es Q mu)).ent Q := by
 subst hks
 have hpost : ∀ m xs, mu xs = m -> fits le.ent.pks xs -> le.ent.pre xs -> Q xs (Aw (fnL le c.l ob es Q mu) xs 0 le.ent.oks) /\ ∃ ρ, Fnd (Tabs.F (enH le (psiL le c.l ob es Q mu (mu xs)) mu (mu xs) :: c.l)) le.ent.np ob es Q xs ρ /\
  ∀ j, fnL le c.l ob es Q mu j xs = (es.getD j (mkB false)).den (Tabs.F (enH le (psiL le c.l ob es Q mu (mu xs)) mu (mu xs) :: c.l)) ρ := by
  intro m
  induction m using Nat.strongRecOn with
  | _ m ih =>
    intro xs hm' hf hp'
    obtain ⟨ρ, ⟨f1, f2, f3⟩, f4⟩ := Ti (hu xs hf hp' (psiL le c.l ob es Q mu (mu xs)) fun ys hy1 hy2 hy3 => by
     rw [Gg fun j => LQ (mu xs) j ys hy3]
     exact (ih (mu ys) (by omega) ys rfl hy1 hy2).1)
    have f5 : ∀ j, fnL le c.l ob es Q mu j xs = (es.getD j (mkB false)).den (Tabs.F (enH le (psiL le c.l ob es Q mu (mu xs)) mu (mu xs) :: c.l)) ρ := fun j => (V3 j xs).trans (f4 j)
    refine ⟨?_, ρ, ⟨f1, f2, f3⟩, f5⟩
    rw [N3 hb f5]; exact f3
 refine ⟨?_, fun xs hf hp' => (hpost _ xs rfl hf hp').1⟩
 obtain ⟨fn, cd, b, b1, b2, b3⟩ := hp
 have hcf : BC P f p = .loop b := by unfold BC; simp only [b1, b2, b3, Option.getD_some]
 unfold Bd
 rw [hcf]
 show Ic P G b (le.fw (fnL le c.l ob es Q mu))
 have hbd : CI P f p = b := by unfold CI; simp only [b1, b2, b3]
 rw [hbd] at h
 have g1 : ∀ φ n, ∀ e ∈ c.fs, Tabs.get (enH (le.fw (fnL le c.l ob es Q mu)) φ mu n :: c.l) e.key = some e := fun φ n e he => FR (e := enH (le.fw (fnL le c.l ob es Q mu)) φ mu n) (hc.getF e he) hk
 have g2 : ∀ φ n, ∀ x ∈ c.ls, Tabs.get (enH (le.fw (fnL le c.l ob es Q mu)) φ mu n :: c.l) x.2.2.ent.key = some x.2.2.ent := fun φ n x hx => FR (e := enH (le.fw (fnL le c.l ob es Q mu)) φ mu n) (hc.getL x hx) hk
 have g3 : ∀ φ n, LTOK P G (enH (le.fw (fnL le c.l ob es Q mu)) φ mu n :: c.l) (ltOf c.ls) := fun φ n => Fb hc.ls (g2 φ n)
 refine Uu hm mu (psiL le c.l ob es Q mu) (fun n j xs h => LQ n j xs h) (fun φ n => BM hc.fs (g1 φ n)) (fun φ n ρ w0 M0 Im0 hG => DY hm (BM hc.fs (g1 φ n)) hG (g3 φ n) _) (fun φ n => ?_) h fun xs hf hp' => ?_
 ·intro q le' hq body hbody
  exact g3 φ n f fn cd b1 b2 (p ++ false :: q) le' hq body (by rw [Ho b3]; exact hbody)
 ·obtain ⟨_, ρ, ⟨f1, f2, _⟩, f5⟩ := hpost _ xs rfl hf hp'
  refine ⟨ρ, f1, f2, fun i k hi => ?_⟩
  show k.norm (fnL le c.l ob es Q mu i xs) = _
  rw [f5 i]; exact (I5 hb).2 _ _ i k hi
theorem V4 (le : LEnt) (φ : Nat -> List Int -> Int) (mu : List Int -> Nat) (n : Nat) (l0 : Tabs) (hk : le.ent.key ≠ 0) : ∃ l : Tabs, enH le φ mu n :: l0 = l /\ ((∀ j, (j == preC) = false -> ∀ xs, l.F le.ent.key j xs = φ j xs) /\
 (∀ xs, (i2b (K.b.norm (l.F le.ent.key 1000000 xs)) = true) = (le.ent.pre xs /\ mu xs < n))) /\
 ∀ e : Ent, l0.get e.key = some e -> e.key ≠ le.ent.key -> e.key ≠ 0 -> (∀ j, (j == preC) = false -> ∀ xs, l.F e.key j xs = e.fn j xs) /\ ∀ xs, (i2b (K.b.norm (l.F e.key 1000000 xs)) = true) = e.pre xs := by
 have g : Tabs.get (enH le φ mu n :: l0) le.ent.key = some (enH le φ mu n) := by simp [Tabs.get, enH]
 refine ⟨_, rfl, ⟨fun j hj xs => F_fn (enH le φ mu n) rfl g hk hj xs, fun xs => propext (Tabs.F_pre (e := enH le φ mu n) g hk rfl)⟩, fun e he h1 h2 => ?_⟩
 have ge : Tabs.get (enH le φ mu n :: l0) e.key = some e := by
  have : (le.ent.key == e.key) = false := by simpa using fun e' => h1 e'.symm
  simp only [Tabs.get, enH, List.find?_cons, this]
  exact he
 exact ⟨fun j hj xs => F_fn e rfl ge h2 hj xs, fun xs => propext (Tabs.F_pre ge h2 rfl)⟩
theorem ewE : preC = 1000000 /\ (∀ k x y, binI .add k x y = k.wrap (x + y)) /\ (∀ k x y, binI .sub k x y = k.wrap (x - y)) /\ (∀ k x y, binI .mul k x y = k.wrap (x * y)) /\ (∀ k x y, binI .and k x y = FB .and k x y) /\ (∀ k x y, binI .or k x y = FB .or k x y) /\ (∀ k x y, binI .xor k x y = FB .xor k x y) /\ (∀ k x y, binI .andNot k x y = FB .andNot k x y) /\
  (∀ k x y, dvI .quo k x y = k.wrap (x.tdiv y)) /\ (∀ k x y, dvI .rem k x y = x.tmod y) /\ (∀ k x y, shI .shl k x y = k.wrap (x * 2 ^ (min y.toNat k.bits))) /\ (∀ k x y, shI .shr k x y = x.fdiv (2 ^ (min y.toNat k.bits))) /\
  (∀ x y, cmpB .eql x y = (x == y)) /\ (∀ x y, cmpB .neq x y = (x != y)) /\ (∀ x y, cmpB .lss x y = decide (x < y)) /\ (∀ x y, cmpB .leq x y = decide (x <= y)) /\ (∀ x y, cmpB .gtr x y = decide (x > y)) /\ (∀ x y, cmpB .geq x y = decide (x >= y)) /\
  (∀ xs i, env xs i = xs.getD i 0) /\ (∀ c, bi 0 [c] = ((dc c).length : Int)) /\ (∀ c i j, bi 1 [c, i, j] = ((dc c).getD i.toNat []).getD j.toNat 0) /\ bi 2 [] = cd [] /\ (∀ c row, bi 3 (c :: row) = cd (dc c ++ [row])) /\ (∀ c d, bi 4 [c, d] = cd (dc c ++ dc d)) /\
  (∀ c a b, bi 5 [c, a, b] = cd (((dc c).take b.toNat).drop a.toNat)) /\ (∀ c i j vs, bi 6 (c :: i :: j :: vs) = cd ((dc c).set i.toNat (splR ((dc c).getD i.toNat []) j.toNat vs))) /\ (∀ n row, bi 7 (n :: row) = cd (List.replicate n.toNat row)) /\
  (∀ c n row, bi 12 (c :: n :: row) = cd (List.replicate (dc c).length row)) /\ (∀ x y, bi 20 [x, y] = x.tdiv y) /\ (∀ x y, bi 21 [x, y] = x.tmod y) :=
  ⟨rfl, fun _ _ _ => rfl, fun _ _ _ => rfl, fun _ _ _ => rfl, fun _ _ _ => rfl, fun _ _ _ => rfl, fun _ _ _ => rfl, fun _ _ _ => rfl, fun _ _ _ => rfl, fun _ _ _ => rfl, fun _ _ _ => rfl, fun _ _ _ => rfl, fun _ _ => rfl, fun _ _ => rfl, fun _ _ => rfl, fun _ _ => rfl, fun _ _ => rfl, fun _ _ => rfl, fun _ _ => rfl,
  fun _ => rfl, fun _ _ _ => rfl, rfl, fun _ _ => rfl, fun _ _ => rfl, fun _ _ _ => rfl, fun _ _ _ _ => rfl, fun _ _ => rfl, fun _ _ _ => rfl, fun _ _ => rfl, fun _ _ => rfl⟩
theorem ewQ : (∀ (h : Decidable True) (a b : Int), @ite Int True h a b = a) /\ (∀ (h : Decidable False) (a b : Int), @ite Int False h a b = b) /\ (∀ (h : Decidable True) (a b : Prop), @ite Prop True h a b = a) /\ (∀ (h : Decidable False) (a b : Prop), @ite Prop False h a b = b) /\ (∀ p : Prop, (p -> True) = True) /\ (∀ α : Type, (α -> True) = True) /\ (∀ a b : Int, (a ≠ b) = ¬ a = b) /\ (∀ a b : Nat, (a ≠ b) = ¬ a = b) :=
  ⟨fun _ _ _ => if_pos trivial, fun _ _ _ => if_neg id, fun _ _ _ => if_pos trivial, fun _ _ _ => if_neg id, fun _ => eq_true fun _ => trivial, fun _ => eq_true fun _ => trivial, fun _ _ => rfl, fun _ _ => rfl⟩
theorem ewT : (∀ (d a : E) l, (a :: l).headD d = a) /\ (∀ d : E, [].headD d = d) /\ (∀ (a : E) l, (a :: l).tail = l) /\ (([] : List E).tail = []) /\ (∀ (d a : Int) l, (a :: l).headD d = a) /\ (∀ d : Int, [].headD d = d) /\ (∀ (a : Int) l, (a :: l).tail = l) /\ (([] : List Int).tail = []) := ⟨fun _ _ _ => rfl, fun _ => rfl, fun _ _ => rfl, rfl, fun _ _ _ => rfl, fun _ => rfl, fun _ _ => rfl, rfl⟩
theorem ewY : type_of% (Jj ewA (Jj ewL (Jj ewE ewT))) := (Jj ewA (Jj ewL (Jj ewE ewT)))
theorem ewZ : type_of% (Jj ewY (Jj ewR (Jj ewB (Jj ewM ewQ)))) := (Jj ewY (Jj ewR (Jj ewB (Jj ewM ewQ))))

end
def isDf (i f j : Nat) : Bool := decide (1000000000000 < i) && (decide (namB <= f) && !(j == preC))
def dfs : E -> List (Nat × E) -> List (Nat × E)
 | .and a b, l => dfs b (dfs a l)
 | .or a b, l => dfs b (dfs a l)
 | .not a, l => dfs a l
 | .ite a b c, l => dfs c (dfs b (dfs a l))
 | .cmp .eql (.var k i) (.app k' f j us), l => bif isDf i f j && !(l.any fun x => x.1 == i) then (i, .app k' f j us) :: l else l
 | _, l => l
def strD (d : List (Nat × E)) : E -> E
 | .and a b => match strD d a, strD d b with
   | .lit .b 1, y => y
   | x, .lit .b 1 => x
   | x, y => .and x y
 | .or a b => match strD d a, strD d b with
   | _, .lit .b 1 => .lit .b 1
   | x, y => .or x y
 | .cmp .eql (.var k i) (.app k' f j us) => bif decide (k = k') && d.any (fun x => x.1 == i && x.2.same (.app k' f j us)) then .lit .b 1 else .cmp .eql (.var k i) (.app k' f j us)
 | e => e
theorem Gu {F : Fam} {ρ : Nat -> Int} {d : List (Nat × E)} (h : ∀ x ∈ d, ρ x.1 = x.2.den F ρ) : ∀ e : E, (strD d e).tt F ρ = true -> e.tt F ρ = true
 | .and a b, g => by
   have ha := Gu h a
   have hb := Gu h b
   rw [strD] at g
   rw [Gt, Bool.and_eq_true]
   split at g
   ·rename_i e1; exact ⟨ha (by rw [e1]; rfl), hb g⟩
   ·rename_i e2 _; exact ⟨ha g, hb (by rw [e2]; rfl)⟩
   ·rw [Gt, Bool.and_eq_true] at g; exact ⟨ha g.1, hb g.2⟩
 | .or a b, g => by
   have ha := Gu h a
   have hb := Gu h b
   rw [strD] at g
   rw [KP, Bool.or_eq_true]
   split at g
   ·rename_i e1; exact Or.inr (hb (by rw [e1]; rfl))
   ·rw [KP, Bool.or_eq_true] at g; exact g.imp ha hb
 | .cmp op a b, g => by
   unfold strD at g
   split at g <;> try contradiction
   ·rename_i k i k' f j us e
    cases e
    cases hc : (decide (k = k') && d.any fun x => x.1 == i && x.2.same (.app k' f j us))
    ·rw [hc] at g; exact g
    ·simp only [Bool.and_eq_true, decide_eq_true_eq, List.any_eq_true, beq_iff_eq] at hc
     obtain ⟨rfl, x, hx, rfl, e2⟩ := hc
     rw [NZ, LP, h x hx, E.same_eq _ _ e2, Eg, K.norm_norm]
     simp only [cmpB, beq_self_eq_true]
   ·exact g
 | .lit .., g => g
 | .var .., g => g
 | .app .., g => g
 | .bin .., g => g
 | .dv .., g => g
 | .sh .., g => g
 | .conv .., g => g
 | .not _, g => g
 | .ite .., g => g
def addJ (kn l : List E) (x : E) : List E := bif x.same (.lit .b 1) || (l.any fun y => y.same x) || (kn.any fun y => y.same x) then l else x :: l
def andL : List E -> E
 | [] => .lit .b 1
 | [x] => x
 | x :: y :: l => .and x (andL (y :: l))
def strJ : List E -> E -> List E -> List E
 | kn, .and a b, l => strJ kn b (strJ kn a l)
 | kn, .or a b, l => addJ kn l (match andL (strJ (l ++ kn) b []).reverse with
   | .lit .b 1 => .lit .b 1
   | y => .or a y)
 | kn, e, l => addJ kn l e
theorem Px {F : Fam} {ρ : Nat -> Int} {kn l : List E} {x : E} (hk : ∀ y ∈ kn, y.tt F ρ = true) (h : ∀ y ∈ addJ kn l x, y.tt F ρ = true) : x.tt F ρ = true /\ ∀ y ∈ l, y.tt F ρ = true := by
 unfold addJ at h
 cases hc : (x.same (.lit .b 1) || (l.any fun y => y.same x) || (kn.any fun y => y.same x))
 ·rw [hc] at h
  exact ⟨h x (List.mem_cons_self ..), fun y hy => h y (List.mem_cons_of_mem _ hy)⟩
 ·rw [hc] at h
  refine ⟨?_, h⟩
  simp only [Bool.or_eq_true, List.any_eq_true] at hc
  rcases hc with (hc | ⟨y, hy, hc⟩) | ⟨y, hy, hc⟩
  ·rw [E.same_eq _ _ hc]; rfl
  ·rw [<- E.same_eq _ _ hc]; exact h y hy
  ·rw [<- E.same_eq _ _ hc]; exact hk y hy
theorem LR {F : Fam} {ρ : Nat -> Int} : ∀ {l : List E}, (andL l).tt F ρ = true -> ∀ y ∈ l, y.tt F ρ = true
 | [], _, _, hy => by cases hy
 | [x], h, y, hy => by obtain rfl := List.mem_singleton.1 hy; exact h
 | x :: z :: l, h, y, hy => by
   rw [andL, Gt, Bool.and_eq_true] at h
   rcases List.mem_cons.1 hy with rfl | hy
   ·exact h.1
   ·exact LR h.2 y hy
theorem I6 {F : Fam} {ρ : Nat -> Int} : ∀ (e : E) (kn l : List E), (∀ y ∈ kn, y.tt F ρ = true) -> (∀ y ∈ strJ kn e l, y.tt F ρ = true) -> e.tt F ρ = true /\ ∀ y ∈ l, y.tt F ρ = true
 | .and a b, kn, l, hk, h => by
   have hb := I6 b kn _ hk h
   have ha := I6 a kn l hk hb.2
   exact ⟨by rw [Gt, ha.1, hb.1]; rfl, ha.2⟩
 | .or a b, kn, l, hk, h => by
   have z := Px hk h
   refine ⟨?_, z.2⟩
   have key : (andL (strJ (l ++ kn) b []).reverse).tt F ρ = true -> b.tt F ρ = true := fun g => (I6 b (l ++ kn) [] (fun y hy => (List.mem_append.1 hy).elim (z.2 y) (hk y)) fun y hy => LR g y (List.mem_reverse.2 hy)).1
   rw [KP, Bool.or_eq_true]
   have z1 := z.1
   split at z1
   ·rename_i e; exact Or.inr (key (by rw [e]; rfl))
   ·rw [KP, Bool.or_eq_true] at z1; exact z1.imp id key
 | .cmp .., _, _, hk, h | .lit .., _, _, hk, h | .var .., _, _, hk, h | .app .., _, _, hk, h | .bin .., _, _, hk, h | .dv .., _, _, hk, h | .sh .., _, _, hk, h | .conv .., _, _, hk, h | .not _, _, _, hk, h | .ite .., _, _, hk, h => Px hk h
abbrev Rd := List K × E × List E × List (Nat × E)
def rdy (dd : Bool) (ks oks : List K) : Option (E × List E) -> Option Rd
 | some (ob, es) => bif okD ks.length (dfs ob []).reverse && esB oks es then some (ks, (bif dd then andL (strJ [] (strD (dfs ob []) ob) []).reverse else strD (dfs ob []) ob), es, (dfs ob []).reverse) else none
 | none => none
theorem KQ {dd : Bool} {ks oks : List K} {R : Option (E × List E)} {ks' : List K} {ob : E} {es : List E} {d : List (Nat × E)} (h : rdy dd ks oks R = some (ks', ob, es, d)) :
 ks' = ks /\ ∃ ob0, R = some (ob0, es) /\ okD ks.length d = true /\ esB oks es = true /\ ∀ (F : Fam) (ρ : Nat -> Int), (∀ x ∈ d, ρ x.1 = x.2.den F ρ) -> ob.tt F ρ = true -> ob0.tt F ρ = true := by
 cases R with
 | none => cases h
 | some r =>
   obtain ⟨ob0, es0⟩ := r
   rw [rdy] at h
   cases hc : okD ks.length (dfs ob0 []).reverse && esB oks es0
   ·rw [hc] at h; cases h
   ·rw [hc] at h
    simp only [cond_true, oJ, pJ] at h
    obtain ⟨rfl, rfl, rfl, rfl⟩ := h
    rw [Bool.and_eq_true] at hc
    refine ⟨rfl, _, rfl, hc.1, hc.2, fun F ρ hd g => Gu (fun x hx => hd x (List.mem_reverse.2 hx)) _ ?_⟩
    cases dd
    ·exact g
    ·exact (I6 _ [] [] (fun y hy => by cases hy) fun y hy => LR g y (List.mem_reverse.2 hy)).1
noncomputable section
abbrev V := Value
def encR (r : Rd) : Array Value := #[]
def frN (n : Nat) (c : Nat -> V) : V := @Nat.rec (fun _ => V) .nilIface (fun m _ => c (@OfNat.ofNat Nat m (instOfNatNat m))) (Nat.add n 1)
def frI (n : Int) (c : Int -> V) : V := @Int.rec (fun _ => V) (fun m => @Nat.rec (fun _ => V) .nilIface (fun m _ => c (@OfNat.ofNat Int m (@instOfNat m))) (Nat.add m 1)) (fun m => @Nat.rec (fun _ => V) .nilIface (fun m _ => c (-(@OfNat.ofNat Int m (@instOfNat m)))) (Nat.add m 2)) n
def frIK (k : IntKind) (c : IntKind -> V) : V := @IntKind.rec (fun _ => V) (c .i8) (c .i16) (c .i32) (c .i64) (c .u8) (c .u16) (c .u32) (c .u64) k
def frK (k : K) (c : K -> V) : V := @K.rec (fun _ => V) (c .b) (fun i => frIK i fun i => c (.i i)) (c .x) k
def frE (e : E) : (E -> V) -> V := @E.rec (fun _ => (E -> V) -> V) (fun _ => (List E -> V) -> V)
 (fun k n c => frK k fun k => frI n fun n => c (.lit k n))
 (fun k i c => frK k fun k => frN i fun i => c (.var k i))
 (fun k f j _ us c => frK k fun k => frN f fun f => frN j fun j => us fun us' => c (.app k f j us'))
 (fun op k _ _ a b c => frIK k fun k => a fun a' => b fun b' => c (.bin op k a' b'))
 (fun op k _ n a c => frIK k fun k => frI n fun n => a fun a' => c (.dv op k a' n))
 (fun op k _ _ a b c => frIK k fun k => a fun a' => b fun b' => c (.sh op k a' b'))
 (fun op _ _ a b c => a fun a' => b fun b' => c (.cmp op a' b'))
 (fun k _ a c => frIK k fun k => a fun a' => c (.conv k a'))
 (fun _ a c => a fun a' => c (.not a'))
 (fun _ _ a b c => a fun a' => b fun b' => c (.and a' b'))
 (fun _ _ a b c => a fun a' => b fun b' => c (.or a' b'))
 (fun _ _ _ x a b c => x fun x' => a fun a' => b fun b' => c (.ite x' a' b'))
 (fun c => c [])
 (fun _ _ e r c => e fun e' => r fun r' => c (e' :: r')) e
def frEL (l : List E) : (List E -> V) -> V := @List.rec E (fun _ => (List E -> V) -> V) (fun c => c []) (fun e _ r c => frE e fun e' => r fun r' => c (e' :: r')) l
def frKL (l : List K) : (List K -> V) -> V := @List.rec K (fun _ => (List K -> V) -> V) (fun c => c []) (fun e _ r c => frK e fun e' => r fun r' => c (e' :: r')) l
def frD (l : List (Nat × E)) : (List (Nat × E) -> V) -> V := @List.rec (Nat × E) (fun _ => (List (Nat × E) -> V) -> V) (fun c => c []) (fun e _ r c => frN e.1 fun i => frE e.2 fun e' => r fun r' => c ((i, e') :: r')) l
def frR : Option Rd -> V
 | none => .nilIface
 | some (ks, ob, es, d) => frKL ks fun ks => frE ob fun ob => frEL es fun es => frD d fun d => .iface 0 (.agg (encR (ks, ob, es, d)))
def P2 : Program := { (default : Program) with types := #[{ (default : TypeInfo) with methods := #[{ name := "", sig := 0, path := #[], func := some (0, false) }] }, { (default : TypeInfo) with methods := #[{ name := "", sig := 0, path := #[], func := none }] }] }
abbrev FCp (l : Tabs) (k : Nat) (f : Nat -> List Int -> Int) (p : List Int -> Prop) : Prop :=
 (∀ xs, l.F k 0 xs = f 0 xs) /\ (∀ xs, l.F k 1 xs = f 1 xs) /\ (∀ xs, l.F k 2 xs = f 2 xs) /\ (∀ xs, l.F k 3 xs = f 3 xs) /\ (∀ xs, l.F k 4 xs = f 4 xs) /\ (∀ xs, l.F k 5 xs = f 5 xs) /\ (∀ xs, l.F k 6 xs = f 6 xs) /\ (∀ xs, l.F k 7 xs = f 7 xs) /\ (∀ xs, l.F k 8 xs = f 8 xs) /\ (∀ xs, l.F k 9 xs = f 9 xs) /\ (∀ xs, l.F k 10 xs = f 10 xs) /\ (∀ xs, l.F k 11 xs = f 11 xs) /\ (∀ xs, l.F k 12 xs = f 12 xs) /\ (∀ xs, l.F k 13 xs = f 13 xs) /\ (∀ xs, l.F k 14 xs = f 14 xs) /\ (∀ xs, l.F k 15 xs = f 15 xs) /\ (∀ xs, (i2b (K.b.norm (l.F k 1000000 xs)) = true) = p xs)
def alN : List K -> (List Int -> Prop) -> Prop
 | [], P => P []
 | .i k :: ks, P => ∀ x, k.wrap x = x -> alN ks fun xs => P (x :: xs)
 | .b :: ks, P => ∀ x, K.b.norm x = x -> alN ks fun xs => P (x :: xs)
 | .x :: ks, P => ∀ x, alN ks fun xs => P (x :: xs)
theorem KR : ∀ {ks : List K} {P : List Int -> Prop}, alN ks P -> ∀ {xs : List Int}, fits ks xs -> P xs
 | [], _, h, [], _ => h
 | [], _, _, _ :: _, hf => hf.elim
 | _ :: _, _, _, [], hf => hf.elim
 | .i k :: ks, P, h, x :: xs, hf => KR (P := fun xs => P (x :: xs)) (h x hf.1) hf.2
 | .b :: ks, P, h, x :: xs, hf => KR (P := fun xs => P (x :: xs)) (h x hf.1) hf.2
 | .x :: ks, P, h, x :: xs, hf => KR (P := fun xs => P (x :: xs)) (h x) hf.2
variable {P : Program} {G : Glob} {c : Ctx}
abbrev evF (P : Program) (G : Glob) (c : Ctx) (e : Ent) : Option (E × List E) := evE P G (Aj c.fs) (ltOf c.ls) 40 10 e
abbrev evM (P : Program) (G : Glob) (c : Ctx) (f : Nat) (p : List Bool) (le : LEnt) : Option (E × List E) := evL P G (Aj c.fs) (evFn P G (Aj c.fs) (ltOf c.ls) 40 10) 40 (subL c.ls f p) le (CI P f p)
def fnG (P : Program) (G : Glob) (e : Ent) (Q : Post) : Nat -> List Int -> Int := Classical.epsilon fun φ => EntryOK P G (e.fw φ) /\ PostOK (e.fw φ) Q
def fnM (P : Program) (G : Glob) (f : Nat) (p : List Bool) (le : LEnt) (Q : Post) : Nat -> List Int -> Int := Classical.epsilon fun φ => Bd P G f p (le.fw φ) /\ PostOK (le.fw φ).ent Q
theorem Tj (P : Program) (G : Glob) (c : Ctx) (e : Ent) (f : Nat -> List Int -> Int) : evF P G c (e.fw f) = evF P G c e := by kernel_rfl
theorem V5 (P : Program) (G : Glob) (c : Ctx) (g : Nat) (p : List Bool) (e : LEnt) (f : Nat -> List Int -> Int) : evM P G c g p (e.fw f) = evM P G c g p e := by kernel_rfl
theorem Ctx.OK.entryJ (hc : c.OK P G) (hm : P.follows .mixedOrders = true) {e : Ent} {Q : Post} (dd : Bool := false)
 (h : ∃ ks ob es d, Sem.run P2 (Go.method 2 1 (frR (rdy dd e.pks e.oks (evF P G c e))) "") default = .ok (0, .agg (encR (ks, ob, es, d))) default /\ rdy dd e.pks e.oks (evF P G c e) = some (ks, ob, es, d) /\
  alN ks fun xs => e.pre xs -> ∀ l : Tabs, (∀ k (e : Ent), c.l.get k = some e -> (e.key == k && k != 0) = true -> FCp l k e.fn e.pre) -> ∀ ρ : Nat -> Int, eqL ρ 0 xs -> (∀ x ∈ d, ρ x.1 = x.2.den l.F ρ) -> ob.tt l.F ρ = true /\ Q xs (es.map (E.den l.F ρ))) :
 EntryOK P G (e.fw (fnG P G e Q)) /\ PostOK (e.fw (fnG P G e Q)) Q := by
 obtain ⟨ks, ob, es, d, -, hr, hu⟩ := h
 obtain ⟨rfl, ob0, hv, hd, hb, hs⟩ := KQ hr
 refine Classical.epsilon_spec (p := fun φ => EntryOK P G (e.fw φ) /\ PostOK (e.fw φ) Q) ⟨fnR c.l.F e.np ob0 es Q, ?_⟩
 refine hc.entryH hm ((Tj P G c e _).trans hv) hb _ rfl fun xs hf hp => ?_
 obtain ⟨l, hl, hF⟩ := AK (l0 := c.l)
 obtain ⟨ρ, a, b⟩ := solve (F := l.F) e.pks.length d hd xs
 have z := KR hu hf hp l (fun k e g h => by
  simp only [Bool.and_eq_true, beq_iff_eq, bne_iff_ne, ne_eq] at h
  obtain ⟨rfl, h⟩ := h
  exact FC rfl (hF e g h)) ρ (Fv a (Nat.le_of_eq (Am hf))) b
 rw [hl]
 exact ⟨ρ, a, hs _ _ b z.1, z.2⟩
end
end Go.Proofs.Ytnockichpnaoeaa.Ew
namespace Go.Proofs.Ytnockichpnaoeaa.Ew
open Go Go.RowKit
noncomputable section
variable {P : Program} {G : Glob} {c : Ctx}
end
end Go.Proofs.Ytnockichpnaoeaa.Ew
namespace Go.Proofs.Ytnockichpnaoeaa.Ew
open Go Go.RowKit
noncomputable section
variable {P : Program} {G : Glob} {c : Ctx}
abbrev FCk (l : Tabs) (k : Nat) (f : Nat -> List Int -> Int) (p : List Int -> Prop) : Prop := (∀ xs, (i2b (K.b.norm (l.F k 1000000 xs)) = true) = p xs) /\ (∀ xs, l.F k 0 xs = f 0 xs) /\ (∀ xs, l.F k 1 xs = f 1 xs) /\ (∀ xs, l.F k 2 xs = f 2 xs) /\ (∀ xs, l.F k 3 xs = f 3 xs) /\ (∀ xs, l.F k 4 xs = f 4 xs) /\ (∀ xs, l.F k 5 xs = f 5 xs) /\ (∀ xs, l.F k 6 xs = f 6 xs) /\ (∀ xs, l.F k 7 xs = f 7 xs) /\ (∀ xs, l.F k 8 xs = f 8 xs) /\ (∀ xs, l.F k 9 xs = f 9 xs) /\ (∀ xs, l.F k 10 xs = f 10 xs) /\ (∀ xs, l.F k 11 xs = f 11 xs) /\ (∀ xs, l.F k 12 xs = f 12 xs) /\ (∀ xs, l.F k 13 xs = f 13 xs) /\ (∀ xs, l.F k 14 xs = f 14 xs) /\ (∀ xs, l.F k 15 xs = f 15 xs) /\ (∀ xs, l.F k 16 xs = f 16 xs) /\ (∀ xs, l.F k 17 xs = f 17 xs) /\ (∀ xs, l.F k 18 xs = f 18 xs) /\ (∀ xs, l.F k 19 xs = f 19 xs)
theorem N5 {l : Tabs} {k0 k : Nat} {f : Nat -> List Int -> Int} {p : List Int -> Prop} (hk : k0 = k) (h : (∀ j, (j == preC) = false -> ∀ xs, l.F k0 j xs = f j xs) /\ (∀ xs, (i2b (K.b.norm (l.F k0 1000000 xs)) = true) = p xs)) : FCk l k f p := by
 subst hk
 exact ⟨h.2, h.1 0 rfl, h.1 1 rfl, h.1 2 rfl, h.1 3 rfl, h.1 4 rfl, h.1 5 rfl, h.1 6 rfl, h.1 7 rfl, h.1 8 rfl, h.1 9 rfl, h.1 10 rfl, h.1 11 rfl, h.1 12 rfl, h.1 13 rfl, h.1 14 rfl, h.1 15 rfl, h.1 16 rfl, h.1 17 rfl, h.1 18 rfl, h.1 19 rfl⟩
abbrev fcsL (l : Tabs) (L : List (Nat × Ent)) : Prop := @List.rec (Nat × Ent) (fun _ => Prop) True (fun x _ r => @Prod.rec Nat Ent (fun _ => Prop) (fun k e => FCk l k e.fn e.pre /\ r) x) L
abbrev fckL (t : Tabs) (L : List (Nat × Ent)) : Prop := (L.map fun x => (t.get x.1, x.2.key == x.1 && x.1 != 0)) = L.map fun x => (some x.2, true)
theorem LS {t l : Tabs} (h : ∀ k (e : Ent), t.get k = some e -> (e.key == k && k != 0) = true -> FCk l k e.fn e.pre) : ∀ {L : List (Nat × Ent)}, fckL t L -> fcsL l L
 | [], _ => trivial
 | (k, e) :: L, g => by
   simp only [fckL, List.map_cons, List.cons.injEq, pJ] at g
   exact ⟨h k e g.1.1 g.1.2, LS h g.2⟩
def idx : Nat -> List K -> List (Nat × K)
 | _, [] => []
 | j, k :: ks => (j, k) :: idx (j + 1) ks
abbrev Rz := List (Nat × K) × E × List E × List (Nat × E)
def rdz (dd : Bool) (ks oks : List K) (R : Option (E × List E)) : Option Rz := match rdy dd ks oks R with
 | some (ks, r) => some (idx 0 ks, r)
 | none => none
def encZ (r : Rz) : Array Value := #[]
def frZ : Option Rz -> V
 | none => .nilIface
 | some (ks, ob, es, d) => @List.rec (Nat × K) (fun _ => (List (Nat × K) -> V) -> V) (fun c => c []) (fun e _ r c => frN e.1 fun i => frK e.2 fun k => r fun r' => c ((i, k) :: r')) ks fun ks => frE ob fun ob => frEL es fun es => frD d fun d => .iface 0 (.agg (encZ (ks, ob, es, d)))
theorem Tk {dd : Bool} {ks oks : List K} {R : Option (E × List E)} {ks' : List (Nat × K)} {ob : E} {es : List E} {d : List (Nat × E)} (h : rdz dd ks oks R = some (ks', ob, es, d)) : ks' = idx 0 ks /\ rdy dd ks oks R = some (ks, ob, es, d) := by
 unfold rdz at h
 split at h
 ·rename_i ks1 r e
  obtain ⟨ob1, es1, d1⟩ := r
  obtain ⟨rfl, -⟩ := KQ e
  cases h
  exact ⟨rfl, e⟩
 ·cases h
theorem Py : ∀ (ks : List K) (j : Nat), (idx j ks).map Prod.snd = ks
 | [], _ => rfl
 | k :: ks, j => congrArg (k :: ·) (Py ks (j + 1))
def alQ (ρ : Nat -> Int) : List (Nat × K) -> (Prop -> Prop) -> ((Prop -> Prop) -> List Int -> Prop) -> Prop
 | [], A, R => R A []
 | (j, .i k) :: ks, A, R => ∀ x, k.wrap x = x -> alQ ρ ks (fun X => A (ρ j = x /\ k.wrap x = x /\ X)) fun A xs => R A (x :: xs)
 | (j, .b) :: ks, A, R => ∀ x, K.b.norm x = x -> alQ ρ ks (fun X => A (ρ j = x /\ K.b.norm x = x /\ X)) fun A xs => R A (x :: xs)
 | (j, .x) :: ks, A, R => ∀ x, alQ ρ ks (fun X => A (ρ j = x /\ X)) fun A xs => R A (x :: xs)
theorem Ip {ρ : Nat -> Int} : ∀ {ks : List K} {j : Nat} {A : Prop -> Prop} {R : (Prop -> Prop) -> List Int -> Prop}, alQ ρ (idx j ks) A R -> (∀ X, X -> A X) -> ∀ {xs : List Int}, fits ks xs -> (∀ i, i < xs.length -> ρ (j + i) = env xs i) -> ∃ B : Prop -> Prop, (∀ X, X -> B X) /\ R B xs
 | [], _, A, _, h, a, [], _, _ => ⟨A, a, h⟩
 | [], _, _, _, _, _, _ :: _, hf, _ => hf.elim
 | _ :: _, _, _, _, _, _, [], hf, _ => hf.elim
 | .i k :: ks, j, A, R, h, a, x :: xs, hf, hr => Ip (R := fun A xs => R A (x :: xs)) (h x hf.1) (fun X y => a _ ⟨hr 0 (Nat.zero_lt_succ _), hf.1, y⟩) hf.2 fun i hi => by
   rw [show j + 1 + i = j + (i + 1) by omega]; exact hr (i + 1) (Nat.succ_lt_succ hi)
 | .b :: ks, j, A, R, h, a, x :: xs, hf, hr => Ip (R := fun A xs => R A (x :: xs)) (h x hf.1) (fun X y => a _ ⟨hr 0 (Nat.zero_lt_succ _), hf.1, y⟩) hf.2 fun i hi => by
   rw [show j + 1 + i = j + (i + 1) by omega]; exact hr (i + 1) (Nat.succ_lt_succ hi)
 | .x :: ks, j, A, R, h, a, x :: xs, hf, hr => Ip (R := fun A xs => R A (x :: xs)) (h x) (fun X y => a _ ⟨hr 0 (Nat.zero_lt_succ _), y⟩) hf.2 fun i hi => by
   rw [show j + 1 + i = j + (i + 1) by omega]; exact hr (i + 1) (Nat.succ_lt_succ hi)
def alD (F : Fam) (ρ : Nat -> Int) : List (Nat × E) -> (Prop -> Prop) -> (Prop -> Prop) -> Prop -> Prop
 | [], A, B, G => A True -> B True -> G
 | (i, .app (.i k) f j us) :: d, A, B, G => ∀ v, k.wrap v = v -> alD F ρ d (fun X => A (ρ i = v /\ k.wrap v = v /\ X)) (fun X => B (v = k.wrap (F f j (us.map (E.den F ρ))) /\ X)) G
 | (i, .app .b f j us) :: d, A, B, G => ∀ v, K.b.norm v = v -> alD F ρ d (fun X => A (ρ i = v /\ K.b.norm v = v /\ X)) (fun X => B (v = K.b.norm (F f j (us.map (E.den F ρ))) /\ X)) G
 | (i, .app .x f j us) :: d, A, B, G => ∀ v, alD F ρ d (fun X => A (ρ i = v /\ X)) (fun X => B (v = F f j (us.map (E.den F ρ)) /\ X)) G
 | _ :: d, A, B, G => alD F ρ d A B G
theorem Gv {F : Fam} {ρ : Nat -> Int} {G : Prop} : ∀ (d : List (Nat × E)) {A B : Prop -> Prop}, alD F ρ d A B G -> (∀ X, X -> A X) -> (∀ X, X -> B X) -> (∀ x ∈ d, ρ x.1 = x.2.den F ρ) -> G
 | [], _, _, h, a, b, _ => h (a _ trivial) (b _ trivial)
 | (i, .app (.i k) f j us) :: d, _, _, h, a, b, hd => by
   have e := hd _ (List.mem_cons_self ..)
   simp only [Eg] at e
   have n : k.wrap (ρ i) = ρ i := by rw [e]; exact K.norm_norm (.i k) _
   exact Gv d (h _ n) (fun X x => a _ ⟨rfl, n, x⟩) (fun X x => b _ ⟨e, x⟩) fun x hx => hd x (List.mem_cons_of_mem _ hx)
 | (i, .app .b f j us) :: d, _, _, h, a, b, hd => by
   have e := hd _ (List.mem_cons_self ..)
   simp only [Eg] at e
   have n : K.b.norm (ρ i) = ρ i := by rw [e]; exact K.norm_norm .b _
   exact Gv d (h _ n) (fun X x => a _ ⟨rfl, n, x⟩) (fun X x => b _ ⟨e, x⟩) fun x hx => hd x (List.mem_cons_of_mem _ hx)
 | (i, .app .x f j us) :: d, _, _, h, a, b, hd => by
   have e := hd _ (List.mem_cons_self ..)
   simp only [Eg] at e
   exact Gv d (h _) (fun X x => a _ ⟨rfl, x⟩) (fun X x => b _ ⟨e, x⟩) fun x hx => hd x (List.mem_cons_of_mem _ hx)
 | (_, .lit ..) :: d, _, _, h, a, b, hd | (_, .var ..) :: d, _, _, h, a, b, hd | (_, .bin ..) :: d, _, _, h, a, b, hd | (_, .dv ..) :: d, _, _, h, a, b, hd | (_, .sh ..) :: d, _, _, h, a, b, hd | (_, .cmp ..) :: d, _, _, h, a, b, hd | (_, .conv ..) :: d, _, _, h, a, b, hd | (_, .not _) :: d, _, _, h, a, b, hd | (_, .and ..) :: d, _, _, h, a, b, hd | (_, .or ..) :: d, _, _, h, a, b, hd | (_, .ite ..) :: d, _, _, h, a, b, hd => Gv d h a b fun x hx => hd x (List.mem_cons_of_mem _ hx)
theorem enK {p r q : List (Nat × K) -> E -> List E -> List (Nat × E) -> Prop} {ks : List (Nat × K)} {ob : E} {es : List E} {d : List (Nat × E)} (h : p ks ob es d) (hq : q ks ob es d) (hr : r ks ob es d := by kernel_rfl) :
 ∃ ks ob es d, p ks ob es d /\ r ks ob es d /\ q ks ob es d := ⟨_, _, _, _, h, hr, hq⟩
theorem Ctx.OK.entryK (hc : c.OK P G) {e : Ent} {Q : Post} (dd : Bool) (L : List (Nat × Ent))
 (h : ∃ ks ob es d, Sem.run P2 (Go.method 2 1 (frZ (rdz dd e.pks e.oks (evF P G c e))) "") default = .ok (0, .agg (encZ (ks, ob, es, d))) default /\ rdz dd e.pks e.oks (evF P G c e) = some (ks, ob, es, d) /\
  ∀ (l : Tabs) (ρ : Nat -> Int), alQ ρ ks (fun X => X) fun A xs => e.pre xs -> alD l.F ρ d (fun X => fcsL l L /\ A X) (fun X => X) (ob.tt l.F ρ = true /\ Q xs (es.map (E.den l.F ρ))))
 (hL : fckL c.l L := by rfl) (hm : P.follows .mixedOrders = true := by kernel_rfl) :
 EntryOK P G (e.fw (fnG P G e Q)) /\ PostOK (e.fw (fnG P G e Q)) Q := by
 obtain ⟨ks, ob, es, d, -, hz, hu⟩ := h
 obtain ⟨rfl, hr⟩ := Tk hz
 obtain ⟨-, ob0, hv, hd, hb, hs⟩ := KQ hr
 refine Classical.epsilon_spec (p := fun φ => EntryOK P G (e.fw φ) /\ PostOK (e.fw φ) Q) ⟨fnR c.l.F e.np ob0 es Q, ?_⟩
 refine hc.entryH hm ((Tj P G c e _).trans hv) hb _ rfl fun xs hf hp => ?_
 obtain ⟨l, hl, hF⟩ := AK (l0 := c.l)
 obtain ⟨ρ, a, b⟩ := solve (F := l.F) e.pks.length d hd xs
 have hA := LS (fun k e g h => by
  simp only [Bool.and_eq_true, beq_iff_eq, bne_iff_ne, ne_eq] at h
  obtain ⟨rfl, h⟩ := h
  exact N5 rfl (hF e g h)) hL
 obtain ⟨B, hB, hR⟩ := Ip (hu l ρ) (fun _ x => x) hf fun i hi => by rw [Nat.zero_add]; exact a i (by rw [<- Am hf]; exact hi)
 have z := Gv d (hR hp) (fun X x => ⟨hA, hB X x⟩) (fun _ x => x) b
 rw [hl]
 exact ⟨ρ, a, hs _ _ b z.1, z.2⟩
theorem Ctx.OK.loopK (hc : c.OK P G) {f : Nat} {p : List Bool} {le : LEnt} {Q : Post} (mu : List Int -> Nat) (dd : Bool) (k0 : Nat) (L : List (Nat × Ent))
 (hp : ∃ fn cd b, P.funcs[f]? = some fn /\ fn.body = some cd /\ AB cd p = some (.loop b))
 (h : ∃ ks ob es d, Sem.run P2 (Go.method 2 1 (frZ (rdz dd le.ent.pks le.ent.oks (evM P G c f p le))) "") default = .ok (0, .agg (encZ (ks, ob, es, d))) default /\ rdz dd le.ent.pks le.ent.oks (evM P G c f p le) = some (ks, ob, es, d) /\
  ∀ (φ : Nat -> List Int -> Int) (l : Tabs) (ρ : Nat -> Int), alQ ρ ks (fun X => X) fun A xs => le.ent.pre xs -> (∀ ys, fits (ks.map Prod.snd) ys -> le.ent.pre ys -> mu ys < mu xs -> Q ys (Aw φ ys 0 le.ent.oks)) ->
  alD l.F ρ d (fun X => (FCk l k0 φ (fun ys => le.ent.pre ys /\ mu ys < mu xs) /\ fcsL l L) /\ A X) (fun X => X) (ob.tt l.F ρ = true /\ Q xs (es.map (E.den l.F ρ))))
 (hk0 : le.ent.key = k0 := by rfl) (hk : ((c.l.any fun y => y.key == le.ent.key) || le.ent.key == 0) = false := by rfl) (hL : fckL c.l L := by rfl) (hm : P.follows .mixedOrders = true := by kernel_rfl) :
 Bd P G f p (le.fw (fnM P G f p le Q)) /\ PostOK (le.fw (fnM P G f p le Q)).ent Q := by
 rw [Bool.or_eq_false_iff] at hk
 have h0 : le.ent.key ≠ 0 := by simpa using hk.2
 subst hk0
 obtain ⟨ks, ob, es, d, -, hz, hu⟩ := h
 obtain ⟨rfl, hr⟩ := Tk hz
 obtain ⟨-, ob0, hv, hd, hb, hs⟩ := KQ hr
 refine Classical.epsilon_spec (p := fun φ => Bd P G f p (le.fw φ) /\ PostOK (le.fw φ).ent Q) ⟨fnL le c.l ob0 es Q mu, ?_⟩
 refine hc.loopH hm hk.1 hp ((V5 P G c f p le _).trans hv) hb _ rfl fun xs hf hp φ hφ => ?_
 obtain ⟨l, hl, hS, hF⟩ := V4 le φ mu (mu xs) c.l h0
 obtain ⟨ρ, a, b⟩ := solve (F := l.F) le.ent.pks.length d hd xs
 have hA := LS (fun k e g h => by
  simp only [Bool.and_eq_true, beq_iff_eq, bne_iff_ne, ne_eq] at h
  obtain ⟨rfl, h⟩ := h
  refine N5 rfl (hF e g (fun hh => ?_) h)
  have q := List.any_eq_false.mp hk.1 e (List.mem_of_find?_eq_some g)
  exact q (by simpa using hh)) hL
 obtain ⟨B, hB, hR⟩ := Ip (hu φ l ρ) (fun _ x => x) hf fun i hi => by rw [Nat.zero_add]; exact a i (by rw [<- Am hf]; exact hi)
 have z := Gv d (hR hp (by rw [Py]; exact hφ)) (fun X x => ⟨⟨N5 rfl hS, hA⟩, hB X x⟩) (fun _ x => x) b
 rw [hl]
 exact ⟨ρ, a, hs _ _ b z.1, z.2⟩
theorem PostOK.usf {e : Ent} {Q : Post} (h : PostOK e Q) {xs vs : List Int} (hd : Ah e.fn xs 0 e.oks vs) (hf : fits e.pks xs) (hp : e.pre xs) : Q xs vs := h.use rfl rfl hd hf hp
def cjA {α : Type} (p : α -> Prop) : List α -> Prop
 | [] => True
 | x :: l => p x /\ cjA p l
theorem mF {α : Type} {p : α -> Prop} : ∀ {l : List α}, cjA p l -> ∀ x ∈ l, p x
 | [], _, _, hx => by cases hx
 | y :: l, h, x, hx => by
   rcases List.mem_cons.1 hx with rfl | hx
   ·exact h.1
   ·exact mF h.2 x hx
end
end Go.Proofs.Ytnockichpnaoeaa.Ew
namespace Go.Proofs.Ytnockichpnaoeaa.Ew.Ar
open Go Go.RowKit Go.ChangeShapes Go.WideShapes Go.Proofs.Ytnockichpnaoeaa.Ew
def vals : List K -> List Int -> List Value
 | k :: ks, x :: xs => k.val x :: vals ks xs
 | _, _ => []
theorem Cr : ∀ {ks ls : List K} {xs ys : List Int}, fits ks xs -> fits ls ys -> fits (ks ++ ls) (xs ++ ys)
 | [], _, [], _, _, h => h
 | [], _, _ :: _, _, h, _ => h.elim
 | _ :: _, _, [], _, h, _ => h.elim
 | _ :: _, _, _ :: _, _, h, h' => ⟨h.1, Cr h.2 h'⟩
def BH (leaf : TypeId -> Option (List K)) (P : Program) : List (TypeId × Nat) -> Nat -> Option (List K)
 | [], _ => some []
 | (t, o) :: r, off => if o = off then
  match leaf t with
  | some ks => if P.cellsOf t = ks.length then (BH leaf P r (off + ks.length)).map (ks ++ ·) else none
  | none => none
   else none
def AV (P : Program) : Nat -> TypeId -> Option (List K)
 | 0, _ => none
 | n + 1, t => match P.underlying t with
   | some .bool => some [.b]
   | some (.int k) => some [.i k]
   | some (.struct fs) => match BH (AV P n) P (fs.toList.map fun f => (f.type, f.offset)) 0 with
     | some ks => if P.cellsOf t = ks.length then some ks else none
     | none => none
   | some (.array m e) => match BH (AV P n) P ((List.range m).map fun i => (e, i * P.cellsOf e)) 0 with
     | some ks => if P.cellsOf t = ks.length then some ks else none
     | none => none
   | _ => none
theorem Jy : ∀ {ks ls : List K} {xs ys : List Int}, fits ks xs -> vals (ks ++ ls) (xs ++ ys) = vals ks xs ++ vals ls ys
 | [], _, [], _, _ => rfl
 | [], _, _ :: _, _, h => h.elim
 | _ :: _, _, [], _, h => h.elim
 | _ :: ks, _, _ :: xs, _, h => by simp [vals, Jy h.2]
section
variable {H : Type} {enc : TypeId × Value -> H} {P : Program} {w : World} {base : Nat} {spare : Nat -> Bool} {held : Bool}
def Tp (enc : TypeId × Value -> H) (P : Program) (t : TypeId) (ks : List K) : Prop :=
 ∀ (w : World) (base : Nat) (spare : Nat -> Bool) (held : Bool) (fuel : Nat) (cs : List Value) (x : DataW H × List MemPlace), DataW.trod enc P w base spare held fuel t cs = some x ->
   ∃ xs, cs = vals ks xs /\ fits ks xs /\ x.2 = [] /\ ∀ (w' : World) (base' : Nat) (spare' : Nat -> Bool) (held' : Bool), DataW.trod enc P w' base' spare' held' fuel t cs = some x
theorem Pz {k : IntKind} {n : Int} (h : (Lit.int k n).wf = true) : k.wrap n = n := by
 simp only [Lit.wf, Bool.and_eq_true, decide_eq_true_eq] at h
 cases k <;> simp [IntKind.wrap, IntKind.signed, IntKind.bits] <;> simp [IntKind.min, IntKind.max, IntKind.signed, IntKind.bits] at h <;> omega
theorem JX {ks : List K} {xs : List Int} (h : fits ks xs) : (vals ks xs).length = ks.length := by
 induction ks generalizing xs with
 | nil => cases xs <;> simp [vals]
 | cons k ks ih => cases xs with
   | nil => exact h.elim
   | cons x xs => simp [vals, ih h.2]
theorem Iq {leaf : TypeId -> Option (List K)} (hleaf : ∀ t ks, leaf t = some ks -> Tp enc P t ks) {fuel : Nat} (cs : List Value) :
 ∀ (l : List (TypeId × Nat)) (off : Nat) (ks : List K) (ys : List (DataW H × List MemPlace)), BH leaf P l off = some ks -> (cs.drop off).length = ks.length ->
   (l.mapM fun p => DataW.trod enc P w base spare held fuel p.1 ((cs.drop p.2).take (P.cellsOf p.1))) = some ys ->
   ∃ xs, cs.drop off = vals ks xs /\ fits ks xs /\ ys.flatMap (·.2) = [] /\ ∀ (w' : World) (base' : Nat) (spare' : Nat -> Bool) (held' : Bool), (l.mapM fun p => DataW.trod enc P w' base' spare' held' fuel p.1 ((cs.drop p.2).take (P.cellsOf p.1))) = some ys
 | [], off, ks, ys, hp, hl, hm => by
   simp only [BH, oJ] at hp
   subst hp
   simp only [List.mapM_nil, Option.pure_def, oJ] at hm
   subst hm
   refine ⟨[], ?_, trivial, rfl, fun _ _ _ _ => by simp⟩
   simp only [vals]
   exact List.eq_nil_of_length_eq_zero (by simpa using hl)
 | (t, o) :: r, off, ks, ys, hp, hl, hm => by
   simp only [BH] at hp
   split at hp
   ·rename_i ho
    subst ho
    split at hp
    ·rename_i k1 hk1
     split at hp
     ·rename_i hc
      obtain ⟨k2, hk2, rfl⟩ := Option.map_eq_some_iff.1 hp
      simp only [List.mapM_cons, Option.bind_eq_bind, Option.pure_def, Option.bind_eq_some_iff, oJ] at hm
      obtain ⟨y, hy, ys', hys', rfl⟩ := hm
      rw [hc] at hy
      obtain ⟨xs1, e1, f1, p1, a1⟩ := hleaf t k1 hk1 _ _ _ _ _ _ _ hy
      have hl2 : (cs.drop (o + k1.length)).length = k2.length := by
       simp only [List.length_drop, List.length_append] at hl ⊢
       omega
      obtain ⟨xs2, e2, f2, p2, a2⟩ := Iq hleaf cs r (o + k1.length) k2 ys' hk2 hl2 hys'
      refine ⟨xs1 ++ xs2, ?_, Cr f1 f2, by simp [p1, p2], fun w' base' spare' held' => ?_⟩
      ·rw [Jy f1, <- e1, <- e2, <- List.drop_drop, List.take_append_drop]
      ·simp only [List.mapM_cons, Option.bind_eq_bind, Option.pure_def, a2 w' base' spare' held', hc, a1 w' base' spare' held', Option.bind_some]
     ·cases hp
    ·cases hp
   ·cases hp
theorem MC {α β γ : Type} (f : α -> β) (g : β -> Option γ) (l : List α) : (l.map f).mapM g = l.mapM fun a => g (f a) := by
 induction l with
 | nil => simp
 | cons a r ih => simp [List.mapM_cons, ih]
theorem Ir : ∀ (n : Nat) (t : TypeId) (ks : List K), AV P n t = some ks -> Tp enc P t ks
 | 0, _, _, h => by simp [AV] at h
 | n + 1, t, ks, h => by
   intro w base spare held fuel cs x hx
   simp only [AV] at h
   split at h
   ·rename_i hu
    simp only [oJ] at h; subst h
    obtain ⟨b, rfl, rfl⟩ := DataW.trod_bool hu hx
    refine ⟨[b2i b], by simp [vals, K.val], ⟨by simp [Cf], trivial⟩, rfl, fun w' base' spare' held' => ?_⟩
    cases fuel with
    | zero => simp [DataW.trod] at hx
    | succ m => simp [DataW.trod, hu]
   ·rename_i k hu
    simp only [oJ] at h; subst h
    obtain ⟨z, rfl, rfl, hw⟩ := DataW.trod_int hu hx
    refine ⟨[z], by simp [vals, K.val], ⟨Pz hw, trivial⟩, rfl, fun w' base' spare' held' => ?_⟩
    cases fuel with
    | zero => simp [DataW.trod] at hx
    | succ m => simp [DataW.trod, hu, hw]
   ·rename_i fs hu
    split at h
    ·rename_i ks' hp
     split at h
     ·rename_i hc
      simp only [oJ] at h; subst h
      cases fuel with
      | zero => simp [DataW.trod] at hx
      | succ m =>
        have un : ∀ (w : World) (base : Nat) (spare : Nat -> Bool) (held : Bool), DataW.trod enc P w base spare held (m + 1) t cs = if cs.length = P.cellsOf t then ((fs.toList.map fun f => (f.type, f.offset)).mapM fun p => DataW.trod enc P w base spare held m p.1 ((cs.drop p.2).take (P.cellsOf p.1))).map (fun xs => (.agg (xs.map (·.1)), xs.flatMap (·.2))) else none := by
         intro w base spare held
         rw [MC, DataW.trod]
         simp only [hu]
        rw [un] at hx
        split at hx
        ·rename_i hl
         obtain ⟨ys, hys, rfl⟩ := Option.map_eq_some_iff.1 hx
         obtain ⟨xs, e1, f1, p1, a1⟩ := Iq (fun t ks ht => Ir n t ks ht) cs _ 0 ks' ys hp (by simp [hl, hc]) hys
         refine ⟨xs, by simpa using e1, f1, p1, fun w' base' spare' held' => ?_⟩
         rw [un, if_pos hl, a1 w' base' spare' held']
         rfl
        ·cases hx
     ·cases h
    ·cases h
   ·rename_i m' e hu
    split at h
    ·rename_i ks' hp
     split at h
     ·rename_i hc
      simp only [oJ] at h; subst h
      cases fuel with
      | zero => simp [DataW.trod] at hx
      | succ m =>
        have un : ∀ (w : World) (base : Nat) (spare : Nat -> Bool) (held : Bool), DataW.trod enc P w base spare held (m + 1) t cs = if cs.length = P.cellsOf t then (((List.range m').map fun i => (e, i * P.cellsOf e)).mapM fun p => DataW.trod enc P w base spare held m p.1 ((cs.drop p.2).take (P.cellsOf p.1))).map (fun xs => (.agg (xs.map (·.1)), xs.flatMap (·.2))) else none := by
         intro w base spare held
         rw [MC]
         conv => lhs; unfold DataW.trod
         rw [hu]
        rw [un] at hx
        split at hx
        ·rename_i hl
         obtain ⟨ys, hys, rfl⟩ := Option.map_eq_some_iff.1 hx
         obtain ⟨xs, e1, f1, p1, a1⟩ := Iq (fun t ks ht => Ir n t ks ht) cs _ 0 ks' ys hp (by simp [hl, hc]) hys
         refine ⟨xs, by simpa using e1, f1, p1, fun w' base' spare' held' => ?_⟩
         rw [un, if_pos hl, a1 w' base' spare' held']
         rfl
        ·cases hx
     ·cases h
    ·cases h
   ·cases h
theorem MD {w : World} {Im : Nat -> Prop} : ∀ {ks : List K} {xs : List Int}, fits ks xs -> RowV w Im (Row.ofKs ks) xs (vals ks xs)
 | [], [], _ => ⟨rfl, rfl⟩
 | [], _ :: _, h => h.elim
 | _ :: _, [], h => h.elim
 | k :: ks, x :: xs, h => ⟨x, xs, vals ks xs, rfl, rfl, h.1, MD h.2⟩
theorem QJ {W : World} {t e : TypeId} {ks : List K} {r : Reach} {b0 : Nat} {v : Value} {d : DataW H} {p : List MemPlace} (ht : P.underlying t = some (.slice e)) (hk : AV P 9 e = some ks) (hc : P.cellsOf e = ks.length) (h0 : 0 < ks.length)
 (hv : Value.okWide P W r b0 t v) (h : DataW.Trod enc P W 0 (fun _ => true) true t v d p) :
 ∃ (hd : Hd) (l : RL), v = hd.sl l.length /\ ShL W (fun b => b < W.heap.size) (Row.ofKs ks) hd l /\ (∀ r ∈ l, fits ks r) /\ l.length <= maxLen /\
   ∀ (W' : World) (sp : Nat -> Bool), Below W.heap.size W W' -> (∀ q ∈ p, sp q.block = true) -> DataW.Trod enc P W' 0 sp true t v d p := by
 obtain ⟨fuel, hf⟩ := h
 rcases Deep.open_slice ht hf with ⟨hcs, hx⟩ | ⟨a, len, cap, m, n, D, Pl, hcs, hb, hl, hm, hmm, hx, hel⟩
 ·obtain ⟨a, len, cap, rfl⟩ := okWide_slice ht hv
  have hcs' : [Value.slice a len cap] = [.slice none 0 0] := hcs
  simp only [List.cons.injEq, Value.slice.injEq, and_true] at hcs'
  obtain ⟨rfl, rfl, rfl⟩ := hcs'
  refine ⟨{ blk := 0, nil := true }, [], rfl, ⟨Nat.zero_le _, Nat.zero_le _, fun h => absurd rfl h, fun i r' hi => absurd hi (by simp)⟩, (fun r hr => absurd hr (by simp)), Nat.zero_le _, fun W' sp _ _ => ⟨fuel, ?_⟩⟩
  simp only [pJ] at hx
  obtain ⟨rfl, rfl⟩ := hx
  show DataW.trod enc P W' 0 sp true fuel t [.slice none 0 0] = _
  cases fuel with
  | zero => simp [DataW.trod] at hf
  | succ fuel => simp [DataW.trod, ht]
 ·obtain ⟨a', len', cap', rfl⟩ := okWide_slice ht hv
  have hcs' : [Value.slice a' len' cap'] = [.slice (some a) len cap] := hcs
  simp only [List.cons.injEq, Value.slice.injEq, and_true] at hcs'
  obtain ⟨rfl, rfl, rfl⟩ := hcs'
  simp only [if_true] at hmm
  subst hmm
  have hsp : a.spot = none := by
   simp only [Value.okWide, ht, Cell.okWide, Cell.ok] at hv
   exact hv.2.2.2.1
  obtain ⟨blk, off, spot⟩ := a
  simp only at hsp
  subst hsp
  simp only [pJ] at hx
  obtain ⟨rfl, rfl⟩ := hx
  have hrow : ∀ i, i < m -> ∃ xs, fits ks xs /\ W.cells? 0 ((⟨blk, off, none⟩ : Addr).add (i * P.cellsOf e)) (P.cellsOf e) = some (vals ks xs) /\ Pl i = [] /\ ∀ (W' : World) (sp : Nat -> Bool), DataW.trod enc P W' 0 sp true n e (vals ks xs) = some (D i, []) := fun i hi => by
   obtain ⟨cs', c1, c2⟩ := hel i hi
   obtain ⟨xs, e1, f1, p1, a1⟩ := Ir 9 e ks hk _ _ _ _ _ _ _ c2
   simp only at p1
   refine ⟨xs, f1, by rw [<- e1]; exact c1, p1, fun W' sp => ?_⟩
   rw [<- e1]
   have := a1 W' 0 sp true
   rw [p1] at this
   exact this
  obtain ⟨R, hR⟩ := Deep.choose_lt hrow
  have hcell : ∀ i, i < m -> ∀ j u, (vals ks (R i))[j]? = some u -> W.cell? ⟨blk, off + i * ks.length + j, none⟩ = some u := fun i hi j u hu => by
   have c1 := (hR i hi).2.1
   have hs := World.cells?_some c1
   have hlv := JX (hR i hi).1
   have hj : j < ks.length := by have := (List.getElem?_eq_some_iff.1 hu).1; omega
   have h2 := hs.2.2 j (by omega)
   rw [hu] at h2
   rw [<- h2, hc]
   simp only [Addr.add]
   split <;> (split at * <;> simp_all <;> omega)
  refine ⟨{ blk := blk, off := off, cap := m }, (List.range len').map R, by simp [Hd.sl], ⟨by simp; omega, by simpa using hl, fun hne => ?_, fun i r' hi => ?_⟩, fun r hr => ?_, by simp; omega, fun W' sp hbl hsp => ?_⟩
  ·have h1 : 0 < len' := by
    cases len' with
    | zero => exact absurd rfl hne
    | succ _ => omega
   have c1 := (hR 0 (by omega)).2.1
   simpa [Addr.add] using World.cells?_block c1 (by omega)
  ·rw [List.getElem?_map] at hi
   obtain ⟨i', hi', rfl⟩ := Option.map_eq_some_iff.1 hi
   obtain ⟨hil, hie⟩ := List.getElem?_eq_some_iff.1 hi'
   simp only [List.length_range] at hil
   simp only [List.getElem_range] at hie
   subst hie
   refine ⟨_, MD (hR i (by omega)).1, fun j u hu => ?_⟩
   rw [AE]
   exact hcell i (by omega) j u hu
  ·obtain ⟨i, hi, hri⟩ := List.mem_map.1 hr
   rw [<- hri]
   exact (hR i (by have := List.mem_range.1 hi; omega)).1
  ·have hpl : (List.range m).flatMap Pl = (List.range m).flatMap fun _ => ([] : List MemPlace) := by
    rw [List.flatMap_def, List.flatMap_def, List.map_congr_left fun i hi => (hR i (List.mem_range.1 hi)).2.2.1]
   by_cases hm0 : m = 0
   ·subst hm0
    have hl0 : len' = 0 := by omega
    subst hl0
    refine ⟨fuel, ?_⟩
    show DataW.trod enc P W' 0 sp true fuel t [.slice (some ⟨blk, off, none⟩) 0 0] = _
    cases fuel with
    | zero => simp [DataW.trod] at hf
    | succ fuel => simp [DataW.trod, ht, hm]
   refine Deep.shut_slice_whole (a := ⟨blk, off, none⟩) ht (Nat.zero_le _) hl hm ?_ D Pl fun i hi => ⟨vals ks (R i), n, ?_, ?_⟩
   ·refine hsp (.cell blk off) ?_
    refine List.mem_append_left _ (MemPlace.mem_row.2 ⟨0, ?_, by simp⟩)
    rw [hc]; exact Nat.mul_pos (by omega) h0
   ·have c1 := (hR i hi).2.1
    obtain ⟨g1, g2, g3⟩ := World.cells?_some c1
    have hbk := World.cells?_block c1 (by omega)
    refine World.cells?_of_each g1 g2 fun j hj => ?_
    rw [<- g3 j hj]
    rw [add_plain] at hbk
    rw [add_plain, add_plain]
    exact hbl.cell (p := ⟨blk, off + i * P.cellsOf e + j, none⟩) hbk
   ·rw [(hR i hi).2.2.1]
    exact (hR i hi).2.2.2 W' sp
theorem Hp {W : World} {t : TypeId} {k : IntKind} {r : Reach} {b0 : Nat} {v : Value} {d : DataW H} {p : List MemPlace} (ht : P.underlying t = some (.int k)) (hv : Value.okWide P W r b0 t v) (h : DataW.Trod enc P W base spare held t v d p) :
 ∃ z, v = .int k z /\ k.wrap z = z /\ p = [] /\ ∀ (W' : World) (b : Nat) (sp : Nat -> Bool) (hd : Bool), DataW.Trod enc P W' b sp hd t v d [] := by
 obtain ⟨n, rfl, rfl, rfl, hw⟩ := open_int ht hv h
 exact ⟨n, rfl, Pz hw, rfl, fun W' b sp hd => shut_int ht hw⟩
theorem KS {f : Func} {s : ChangeSpec} {apart fresh handsOn again : Bool} {W W' : World} {args : Array Value} {v : Value} {ds gs : List (DataW H)} {before pa pv : List MemPlace}
 (hW : DataW.Whole enc P f.params.toList s.vars apart W args.toList ds gs before)
 (hres : ∀ (b : Nat) (sp : Nat -> Bool) (hd : Bool), DataW.TrodAll enc P W' b sp hd f.resultTypes.toList (v.resultList f.resultTypes.size) (s.fn H (ds ++ gs)).results [])
 (hargs : ∀ sp : Nat -> Bool, (∀ p ∈ before, sp p.block = true) -> DataW.TrodAll enc P W' 0 sp true f.params.toList args.toList (s.fn H (ds ++ gs)).args pa)
 (hvars : ∀ sp : Nat -> Bool, (∀ p ∈ before, sp p.block = true) -> DataW.TrodVars enc P W' sp s.vars (s.fn H (ds ++ gs)).vars pv)
 (hps : before = pa ++ pv) (hb : Below W.heap.size W W')
 (hok : ∀ (j : Nat) (t : TypeId) (r : Value), f.resultTypes[j]? = some t -> (v.resultList f.resultTypes.size)[j]? = some r -> Value.okWide P W' .any 0 t r) :
 s.post enc P f apart fresh handsOn again W args v W' := by
 have hlt : ∀ p ∈ before, p.block < W.heap.size := fun p hp => hW.lt p hp
 have hold : ∀ p ∈ before, (fun b => decide (b < W.heap.size)) p.block = true := fun p hp => by simpa using hlt p hp
 refine ⟨ds, gs, before, [], pa, pv, hW, hres _ _ _, hargs _ hold, hvars _ hold, World.keptBut_mono (fun p hp => ⟨hp, ?_⟩) (hb.frame (· ∈ before)), fun _ => ?_⟩
 ·rw [hps, List.mem_append] at hp
  exact Or.inr hp
 ·obtain ⟨_, _, _, _, _, hz, hn⟩ := hW
  refine ⟨hok, _, _, ([] ++ pa) ++ pv, ⟨[] ++ pa, pv, trodAll_append (hargs _ (fun _ _ => rfl)) (hres _ _ _), hvars _ (fun _ _ => rfl), rfl, ?_, ?_⟩, ?_⟩
  ·intro b off hp
   have hin : MemPlace.cell b off ∈ before := by rw [hps]; simpa using hp
   rw [hb.frozen (hlt _ hin)]
   exact hz b off hin
  ·intro ha
   have := hn ha
   rw [hps] at this
   simpa using this
  ·intro p hp _
   rw [hps]
   simpa using hp
theorem ME {e : Ent} (h : EntryOK P (fun _ _ => none) e) {xs : List Int} (hf : fits e.pks xs) (hp : e.pre xs) (ho : e.os = []) (hr : e.rs = .lt .b 1) {W : World} {hs : Nat -> Hd} {args : Array Value}
 (ha : (SV.concL F0 (env xs) hs e.pgen.1).toArray = args) (hE : RelE F0 (env xs) W (fun _ => False) (fun b => b < W.heap.size) hs e.pgen.2 W) : Calls P e.f args W fun en W' => en = .returned (.bool true) /\ Below W.heap.size W W' := by
 subst ha
 refine (h xs hf hp W (fun _ => False) (fun b => b < W.heap.size) hs (fun b hb => hb.elim) (fun F ρ b off v hv => by cases hv) hE).mono ?_
 rintro en w' ⟨hs', Im', _, _, _, rfl, hR⟩
 refine ⟨?_, hR.fr.toBelow⟩
 congr 1
 unfold Ent.ogen Ent.outL
 rw [ho, hr]
 simp [Sh.genL, Sh.gen, BA, SV.conc, E.val, E.kind, E.tt, E.den, K.norm, i2b]
theorem N8 {W : World} {ρ : Nat -> Int} {hs : Nat -> Hd} : RelE F0 ρ W (fun _ => False) (fun b => b < W.heap.size) hs [] W :=
 ⟨(fun x hx => by cases hx), (fun x hx => by cases hx), (fun b hb => hb), Fr.refl _ _⟩
theorem Tq {W : World} {ρ : Nat -> Int} {hs : Nat -> Hd} {n : Nat} {g le c : E} {ty : Nat} {row : Row} {l : Ents} (h1 : isCd (c.den F0 ρ)) (h2 : le.den F0 ρ = ((dc (c.den F0 ρ)).length : Int)) (h3 : ShL W (fun b => b < W.heap.size) row (hs n) (dc (c.den F0 ρ)))
 (h : RelE F0 ρ W (fun _ => False) (fun b => b < W.heap.size) hs l W) : RelE F0 ρ W (fun _ => False) (fun b => b < W.heap.size) hs ((n, g, .lst ty row false le c) :: l) W := by
 refine ⟨fun x hx hg => ?_, fun x hx y hy hgx hgy b hbx hby => ?_, h.im, h.fr⟩
 ·rcases List.mem_cons.1 hx with rfl | hx
  ·exact ⟨⟨h1, h2, h3⟩, fun b hb => by simp [mutB] at hb⟩
  ·exact h.ent x hx hg
 ·rcases List.mem_cons.1 hx with rfl | hx
  ·simp [mutB] at hbx
  ·rcases List.mem_cons.1 hy with rfl | hy
   ·simp [mutB] at hby
   ·exact h.inj x hx y hy hgx hgy b hbx hby
end
end Go.Proofs.Ytnockichpnaoeaa.Ew.Ar

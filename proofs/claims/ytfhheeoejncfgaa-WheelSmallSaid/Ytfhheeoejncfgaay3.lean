/- Texts that the claim needs, set narrow. -/
import Derived.Test.Ytfhheeoejncfgaay2
import Derived.ProofKit
import Derived.OpenShut
import Derived.Deep.Slices
import Derived.Below
import Derived.DataShut
import Derived.ChangeSame
set_option linter.unusedVariables false
set_option linter.unusedSimpArgs false
namespace Go.Proofs.Ytfhheeoejncfgaa.Ew
open Go Go.RowKit
inductive W where
 | val (v : SV)
 | dx (g : E) (x : X)
 | call (g : E) (f : Nat) (args : List SV)
 deriving Repr, Inhabited
def Kd (P : Program) (cs : List E) (en : Env) (o : Oper) : Option W :=
 match pick? o.op with
 | some (c, a, b) => (M6 cs en c a b).map .val
 | none => match TE P (getC cs en) o with
   | some (g, .old (.call f args)) => some (.call g f args)
   | some (g, x) => some (.dx g x)
   | none => none
def C4 : List SV -> E
 | [] => mkB true
 | v :: r => mkAnd (Bb v).1 (C4 r)
def Gk (fo : Bool) (args : List SV) : List SV := bif fo then args.map fun v => (Bb v).2 else args
def Na (T : Tab) (m : Mem) (nm f : Nat) (args : List SV) (k : Nat) (fo : Bool) : Option (E × SV × Mem) :=
 match (T f)[k % 1000]? with
 | some e => (Qm (decide (1000 <= k)) e m nm (Gk fo args)).map fun r => (mkAnd (bif fo then C4 args else mkB true) r.1, r.2.1, r.2.2)
 | none => none
def fpK (T : Tab) (m : Mem) (nm f : Nat) (args : List SV) (k : Nat) (fo : Bool) : FP :=
 match (T f)[k % 1000]? with
 | some e => fpCX (decide (1000 <= k)) e m nm (Gk fo args)
 | none => ([], [])
def W6 (T : Tab) (m : Mem) (nm f : Nat) (args : List SV) : Option (Nat × Bool) :=
 (((List.range (T f).length).map fun k => (k, false)) ++ ((List.range (T f).length).map fun k => (k + 1000, false)) ++ ((List.range (T f).length).map fun k => (k, true)) ++ ((List.range (T f).length).map fun k => (k + 1000, true))).find? fun c => (Na T m nm f args c.1 c.2).isSome
abbrev Ch := Option (Nat × Bool)
def runW (P : Program) (G : Glob) (T : Tab) (m : Mem) (nm : Nat) (ch : Ch) : W -> Option (E × SV × Mem)
 | .val v => some (mkB true, v, m)
 | .dx g x => (applyX P G m nm x).bind fun r => if r.1.kind = .b then some (mkAnd g r.1, r.2.1, r.2.2) else none
 | .call g f args => match ch with
   | some (k, fo) => (Na T m nm f args k fo).map fun r => (mkAnd g r.1, r.2.1, r.2.2)
   | none => none
def fpW (T : Tab) (m : Mem) (nm : Nat) (ch : Ch) : W -> FP
 | .val _ => ([], [])
 | .dx _ x => fpX nm x
 | .call _ f args => match ch with
   | some (k, fo) => fpK T m nm f args k fo
   | none => ([], [])
section
variable {P : Program} {ρ : Nat -> Int} {G : Glob} {T : Tab} {l : Tabs} {w0 w : World} {M0 Im0 : Nat -> Prop} {ad : Nat -> Hd} {m m2 m' : Mem} {tm : Tm} {en : Env} {a : Act}
theorem HX {F : Fam} : ∀ (args : List SV), (C4 args).kind = .b /\ ((C4 args).tt F ρ = true -> SV.concL F ρ ad (args.map fun v => (Bb v).2) = SV.concL F ρ ad args)
 | [] => ⟨rfl, fun _ => rfl⟩
 | v :: r => by
   obtain ⟨i1, i2⟩ := HX (F := F) r
   have h := Ac (Bb v).1 (C4 r) (Bg v) i1 F ρ
   refine ⟨h.2, fun ht => ?_⟩
   simp only [C4] at ht
   rw [h.1, Bool.and_eq_true] at ht
   simp only [List.map_cons, SV.concL, i2 ht.2]
   rw [(Bt (F := F) (ρ := ρ) (ad := ad) (p := fun _ => True) v).1 ht.1]
theorem Jn {F : Fam} {fo : Bool} {args : List SV} (h : (bif fo then C4 args else mkB true).tt F ρ = true) : SV.concL F ρ ad (Gk fo args) = SV.concL F ρ ad args := by
 cases fo
 ·rfl
 ·exact (HX args).2 h
theorem Mo {nm : Nat} {ch : Ch} {W : W} {g : E} {v : SV} (h : runW P G T m nm ch W = some (g, v, m')) :
 Loc (fun m => runW P G T m nm ch W) m (fpW T m nm ch W) g v m' /\ ∀ m2, Agree ((fpW T m nm ch W).1 ++ (fpW T m nm ch W).2) m m2 -> fpW T m2 nm ch W = fpW T m nm ch W := by
 have wrap : ∀ {f : Mem -> Option (E × SV × Mem)} {q : E -> E} {g0 : E} {v : SV} {m' : Mem} {fp : FP}, Loc f m fp g0 v m' -> Loc (fun m => (f m).map fun r => (q r.1, r.2.1, r.2.2)) m fp (q g0) v m' := fun {f q g0 v m' fp} hL =>
  ⟨hL.len, hL.frame, fun m2 hl ha => by
   obtain ⟨m2', r1, r2, r3, r4⟩ := hL.loc m2 hl ha
   exact ⟨m2', by simp only [r1, Option.map_some], r2, r3, r4⟩⟩
 cases W with
 | val u =>
   simp only [runW, oJ, pJ] at h
   obtain ⟨rfl, rfl, rfl⟩ := h
   exact ⟨Loc.read fun _ _ _ => rfl, fun _ _ => rfl⟩
 | dx g0 x =>
   simp only [runW] at h
   obtain ⟨⟨g1, v1, m1⟩, h1, h2⟩ := Option.bind_eq_some_iff.1 h
   split at h2
   ·rename_i hk
    simp only [oJ, pJ] at h2
    obtain ⟨rfl, rfl, rfl⟩ := h2
    have hL := TS h1
    refine ⟨⟨hL.len, hL.frame, fun m2 hl ha => ?_⟩, fun _ _ => rfl⟩
    obtain ⟨m2', r1, r2, r3, r4⟩ := hL.loc m2 hl ha
    refine ⟨m2', ?_, r2, r3, r4⟩
    simp only at hk
    simp only [runW, r1, Option.bind_some, if_pos hk]
   ·cases h2
 | call g0 f args =>
   simp only [runW] at h
   split at h
   ·rename_i k fo
    obtain ⟨⟨g1, v1, m1⟩, h1, h2⟩ := Option.map_eq_some_iff.1 h
    simp only [pJ] at h2
    obtain ⟨rfl, rfl, rfl⟩ := h2
    unfold Na at h1
    split at h1
    ·rename_i e he
     obtain ⟨⟨g3, v3, m3⟩, h3, h4⟩ := Option.map_eq_some_iff.1 h1
     simp only [pJ] at h4
     obtain ⟨rfl, rfl, rfl⟩ := h4
     obtain ⟨c1, c2⟩ := VH h3
     have hf : ∀ m, fpW T m nm (some (k, fo)) (.call g0 f args) = fpCX (decide (1000 <= k)) e m nm (Gk fo args) := fun m => by simp only [fpW, fpK, he]
     rw [hf]
     refine ⟨?_, fun m2 ha => by rw [hf]; exact c2 m2 ha⟩
     have := wrap (q := fun g => mkAnd g0 g) (wrap (q := fun g => mkAnd (bif fo then C4 args else mkB true) g) c1)
     refine ⟨this.len, this.frame, fun m2 hl ha => ?_⟩
     obtain ⟨m2', r1, r2, r3, r4⟩ := this.loc m2 hl ha
     refine ⟨m2', ?_, r2, r3, r4⟩
     simp only [runW, Na, he]
     exact r1
    ·cases h1
   ·cases h
theorem Nb (hS : CC P G l T) (hG : GOK G Im0 w0) (hT : RelV l.F ρ ad m en a) (hR : Rel l.F ρ w0 M0 Im0 ad m w) {cs : List E} (hc : holds l.F ρ cs = true) {nm : Nat} {ch : Ch} {o : Oper} {W : W} (hp : Kd P cs en o = some W) {g : E} {v : SV}
 (h : runW P G T m nm ch W = some (g, v, m')) : g.kind = .b /\ (g.tt l.F ρ = true -> ∀ (K : Act -> World -> Prop) (Q : Exit -> Act -> World -> Prop),
  (∀ ad' w', Rel l.F ρ w0 M0 Im0 ad' m' w' -> Ext ad ad' m m' -> v.ok (al m') -> K (a.put o.dst (v.conc l.F ρ ad')) w') -> o.wp P a w K Q) := by
 have hB := l.BI
 unfold Kd at hp
 split at hp
 ·rename_i x y z hpk
  obtain ⟨u, h1, rfl⟩ := Option.map_eq_some_iff.1 hp
  simp only [runW, oJ, pJ] at h
  obtain ⟨rfl, rfl, rfl⟩ := h
  refine ⟨rfl, fun _ K Q hK => ?_⟩
  have ho : o.op = .pick x y z := by
   unfold pick? at hpk
   split at hpk
   ·rename_i heq; simp only [oJ, pJ] at hpk; obtain ⟨rfl, rfl, rfl⟩ := hpk; exact heq
   ·cases hpk
  obtain ⟨hrun, i3⟩ := TN (P := P) (w := w) hT hc h1 ho
  unfold Oper.wp
  rw [hrun]
  exact hK ad w hR (Ext.refl _ _) i3
 ·split at hp
  ·rename_i g0 f args hds
   simp only [oJ] at hp
   subst hp
   obtain ⟨j1, j2⟩ := JR l.BI (P := P) (w := w) (F := l.F) (ρ := ρ) (ad := ad) (p := al m) (ev := a.eval) (fun x s hx => BC hT hc hx) hds
   simp only [runW] at h
   split at h
   ·rename_i k fo
    obtain ⟨⟨g1, v1, m1⟩, h1, h2⟩ := Option.map_eq_some_iff.1 h
    simp only [pJ] at h2
    obtain ⟨rfl, rfl, rfl⟩ := h2
    unfold Na at h1
    split at h1
    ·rename_i e he
     obtain ⟨⟨g3, v3, m3⟩, h3, h4⟩ := Option.map_eq_some_iff.1 h1
     simp only [pJ] at h4
     obtain ⟨rfl, rfl, rfl⟩ := h4
     obtain ⟨t1, t2, t3⟩ := hS f e (List.mem_of_getElem? he)
     obtain ⟨c1, c2⟩ := SK t2 t3 hG hR h3
     have fk : (bif fo then C4 args else mkB true).kind = .b := by
      cases fo
      ·rfl
      ·exact (HX (F := l.F) (ρ := ρ) (ad := ad) args).1
     have a1 := Ac _ g3 fk c1 l.F ρ
     have a2 := Ac g0 _ j1 a1.2 l.F ρ
     refine ⟨a2.2, fun ht K Q hK => ?_⟩
     rw [a2.1, a1.1, Bool.and_eq_true, Bool.and_eq_true] at ht
     obtain ⟨d1, d2⟩ := j2 ht.1
     have hcall := c2 ht.2.2
     rw [Jn ht.2.1, t1] at hcall
     unfold Oper.wp
     rw [d1]
     simp only [X.run, D.run, Oper.upon]
     refine hcall.mono ?_
     rintro en' w' ⟨ad', rfl, r2, r3, r4⟩
     exact hK ad' w' r2 r3 r4
    ·cases h1
   ·cases h
  ·rename_i g0 x hnc hds
   simp only [oJ] at hp
   subst hp
   obtain ⟨j1, j2⟩ := JR l.BI (P := P) (w := w) (F := l.F) (ρ := ρ) (ad := ad) (p := al m) (ev := a.eval) (fun x s hx => BC hT hc hx) hds
   simp only [runW] at h
   obtain ⟨⟨g1, v1, m1⟩, h1, h2⟩ := Option.bind_eq_some_iff.1 h
   split at h2
   ·rename_i hk
    simp only [oJ, pJ] at h2
    obtain ⟨rfl, rfl, rfl⟩ := h2
    simp only at hk
    have a2 := Ac g0 g1 j1 hk l.F ρ
    refine ⟨a2.2, fun ht K Q hK => ?_⟩
    rw [a2.1, Bool.and_eq_true] at ht
    obtain ⟨d1, d2⟩ := j2 ht.1
    obtain ⟨e1, e2⟩ := Ri (P := P) hB hG hR d2 h1
    obtain ⟨ad', w', c1, c2, c3, c4⟩ := e2 ht.2
    unfold Oper.wp
    rw [d1]
    rcases c1 with c1 | ⟨c1, cu⟩
    ·rw [c1]; exact hK ad' w' c2 c3 c4
    ·rw [c1]
     have := hK ad' w' c2 c3 c4
     rw [cu] at this
     exact this
   ·cases h2
  ·cases hp
end
def conjE : List E -> E
 | [] => mkB true
 | c :: r => mkAnd c (conjE r)
def bAll (cs : List E) : Bool := cs.all fun c => decide (c.kind = .b)
theorem Nc {F : Fam} {ρ : Nat -> Int} : ∀ {cs : List E}, bAll cs = true -> (conjE cs).kind = .b /\ (conjE cs).tt F ρ = holds F ρ cs
 | [], _ => ⟨rfl, by simp [conjE, holds]⟩
 | c :: r, h => by
   simp only [bAll, List.all_cons, Bool.and_eq_true, decide_eq_true_eq] at h
   obtain ⟨i1, i2⟩ := Nc (F := F) (ρ := ρ) (cs := r) h.2
   have := Ac c (conjE r) h.1 i1 F ρ
   exact ⟨this.2, by simp only [conjE, this.1, i2, holds, List.all_cons]⟩
inductive PL where
 | put (v : SV)
 | run (cs : Option (List E)) (w : W)
 deriving Repr, Inhabited
def Gl (P : Program) (ops : Array Oper) (o : Oper) (en : Env) : Option PL :=
 match Ro ops en o with
 | some .no => some (.put .und)
 | some .yes => (Kd P [] en o).map (.run none)
 | some (.cond cs) => (Kd P cs en o).map (.run (some cs))
 | none => none
def mergeOn (c : E) (m' : Mem) (W : List Nat) (m : Mem) : Mem := zipR (fun n x y => bif W.contains n then AA c x y else y) 0 m' m
theorem HY (c : E) (m' : Mem) (W : List Nat) (m : Mem) : (mergeOn c m' W m).length = m.length := Jg _ _ _
theorem EL (c : E) (m' : Mem) (W : List Nat) (m : Mem) (hl : m'.length = m.length) (n : Nat) : (mergeOn c m' W m).at n = if n ∈ W then AA c (m'.at n) (m.at n) else m.at n := by
 by_cases hn : n < m.length
 ·unfold mergeOn
  rw [Ll _ _ _ _ hn, Nat.zero_add]
  by_cases hw : n ∈ W <;> simp [hw]
 ·have e1 : m'.at n = none := by simp [Mem.at, List.getD, List.getElem?_eq_none (show m'.length <= n by omega)]
  have e2 : m.at n = none := by simp [Mem.at, List.getD, List.getElem?_eq_none (show m.length <= n by omega)]
  have e3 : (mergeOn c m' W m).at n = none := by simp [Mem.at, List.getD, List.getElem?_eq_none (show (mergeOn c m' W m).length <= n by rw [HY]; omega)]
  rw [e1, e2, e3]
  simp [AA]
def refsW (m' : Mem) (v : SV) (W : List Nat) : List Nat := allN v ++ W.flatMap fun n => match m'.at n with
 | some (_, b) => allNL b.cs
 | _ => []
def DW (P : Program) (G : Glob) (T : Tab) (m : Mem) (nm : Nat) (ch : Ch) : PL -> Option (E × SV × Mem)
 | .put v => some (mkB true, v, m)
 | .run none w => runW P G T m nm ch w
 | .run (some cs) w => match runW P G T m nm ch w with
   | some (g, v, m') => if bAll cs = true /\ g.kind = .b /\ ((refsW m' v (fpW T m nm ch w).2).all fun n => (m'.at n).isSome) = true then
    some (mkOr (Ao (conjE cs)) g, .gd cs v, mergeOn (conjE cs) m' (fpW T m nm ch w).2 m) else none
   | none => none
def fpPL (P : Program) (G : Glob) (T : Tab) (m : Mem) (nm : Nat) (ch : Ch) : PL -> FP
 | .put _ => ([], [])
 | .run none w => fpW T m nm ch w
 | .run (some _) w => match runW P G T m nm ch w with
   | some (_, v, m') => ((fpW T m nm ch w).1 ++ refsW m' v (fpW T m nm ch w).2, (fpW T m nm ch w).2)
   | none => ([], [])
section
variable {P : Program} {ρ : Nat -> Int} {G : Glob} {T : Tab} {l : Tabs} {w0 w : World} {M0 Im0 : Nat -> Prop} {ad : Nat -> Hd} {m m2 m' : Mem} {tm : Tm} {en : Env} {a : Act}
theorem SL {m' m2' : Mem} (v : SV) {W : List Nat} (h : ∀ n ∈ W, m2'.at n = m'.at n) : refsW m2' v W = refsW m' v W := by
 unfold refsW
 congr 1
 have : ∀ (W : List Nat), (∀ n ∈ W, m2'.at n = m'.at n) -> (W.flatMap fun n => match m2'.at n with | some (_, b) => allNL b.cs | _ => []) = W.flatMap fun n => match m'.at n with | some (_, b) => allNL b.cs | _ => [] := by
  intro W
  induction W with
  | nil => intro _; rfl
  | cons n W ih =>
    intro h
    rw [List.flatMap_cons, List.flatMap_cons, ih fun k hk => h k (List.mem_cons_of_mem _ hk), h n (List.mem_cons_self ..)]
 exact this W h
theorem P4 {nm : Nat} {ch : Ch} {pl : PL} {g : E} {v : SV} (h : DW P G T m nm ch pl = some (g, v, m')) :
 Loc (fun m => DW P G T m nm ch pl) m (fpPL P G T m nm ch pl) g v m' /\ ∀ m2, m2.length = m.length -> Agree ((fpPL P G T m nm ch pl).1 ++ (fpPL P G T m nm ch pl).2) m m2 -> fpPL P G T m2 nm ch pl = fpPL P G T m nm ch pl := by
 cases pl with
 | put u =>
   simp only [DW, oJ, pJ] at h
   obtain ⟨rfl, rfl, rfl⟩ := h
   exact ⟨Loc.read fun _ _ _ => rfl, fun _ _ _ => rfl⟩
 | run cs w =>
   cases cs with
   | none =>
     obtain ⟨h1, h2⟩ := Mo h
     exact ⟨h1, fun m2 _ ha => h2 m2 ha⟩
   | some cs =>
     simp only [DW] at h
     split at h
     ·rename_i g1 v1 m1 hr
      split at h
      ·rename_i hc
       simp only [oJ, pJ] at h
       obtain ⟨rfl, rfl, rfl⟩ := h
       obtain ⟨hL, hF⟩ := Mo hr
       have hfp : fpPL P G T m nm ch (.run (some cs) w) = ((fpW T m nm ch w).1 ++ refsW m1 v1 (fpW T m nm ch w).2, (fpW T m nm ch w).2) := by simp only [fpPL, hr]
       rw [hfp]
       have step : ∀ m2, m2.length = m.length -> Agree (((fpW T m nm ch w).1 ++ refsW m1 v1 (fpW T m nm ch w).2) ++ (fpW T m nm ch w).2) m m2 -> fpW T m2 nm ch w = fpW T m nm ch w /\ ∃ m2', runW P G T m2 nm ch w = some (g1, v1, m2') /\ m2'.length = m2.length /\ (∀ n ∈ (fpW T m nm ch w).2, m2'.at n = m1.at n) /\ (∀ n, n ∉ (fpW T m nm ch w).2 -> m2'.at n = m2.at n) /\ refsW m2' v1 (fpW T m nm ch w).2 = refsW m1 v1 (fpW T m nm ch w).2 := fun m2 hl ha => by
        have ha' : Agree ((fpW T m nm ch w).1 ++ (fpW T m nm ch w).2) m m2 := fun n hn => by
         rcases List.mem_append.1 hn with hn | hn
         ·exact ha n (by simp [hn])
         ·exact ha n (by simp [hn])
        obtain ⟨m2', r1, r2, r3, r4⟩ := hL.loc m2 hl ha'
        exact ⟨hF m2 ha', m2', r1, r2, r3, r4, SL v1 r3⟩
       refine ⟨⟨HY _ _ _ _, fun n hn => by rw [EL _ _ _ _ hL.len, if_neg hn], fun m2 hl ha => ?_⟩, fun m2 hl ha => ?_⟩
       ·obtain ⟨f1, m2', r1, r2, r3, r4, r5⟩ := step m2 hl ha
        refine ⟨mergeOn (conjE cs) m2' (fpW T m nm ch w).2 m2, ?_, HY _ _ _ _, fun n hn => ?_, fun n hn => by rw [EL _ _ _ _ r2, if_neg hn]⟩
        ·simp only [DW, r1, f1]
         rw [r5, if_pos]
         refine ⟨hc.1, hc.2.1, ?_⟩
         rw [List.all_eq_true]
         intro k hk
         have h0 := List.all_eq_true.1 hc.2.2 k hk
         by_cases hw : k ∈ (fpW T m nm ch w).2
         ·rw [r3 k hw]; exact h0
         ·rw [r4 k hw, ha k (by simp [hk]), <- hL.frame k hw]; exact h0
        ·rw [EL _ _ _ _ r2, EL _ _ _ _ hL.len, if_pos hn, if_pos hn, r3 n hn, ha n (by simp [hn])]
       ·obtain ⟨f1, m2', r1, r2, r3, r4, r5⟩ := step m2 hl ha
        simp only [fpPL, r1, f1, r5]
      ·cases h
     ·cases h
theorem HZ (hS : CC P G l T) (hG : GOK G Im0 w0) {s : St} (hR : RelS l.F ρ w0 M0 Im0 ad s a w) (hE : RelV l.F ρ ad s.2 en a) {ops : Array Oper} {nm : Nat} {ch : Ch} {o : Oper} {pl : PL} (hp : Gl P ops o en = some pl) {g : E} {v : SV}
 (h : DW P G T s.2 nm ch pl = some (g, v, m')) : g.kind = .b /\ (g.tt l.F ρ = true -> ∀ (K : Act -> World -> Prop) (Q : Exit -> Act -> World -> Prop),
  (∀ ad' a' w', RelS l.F ρ w0 M0 Im0 ad' (setT s.1 o.dst v, m') a' w' -> Ext ad ad' s.2 m' -> K a' w') ->
  if Region.wanted o (yielded ops a.tmps) = true then o.wp P a w K Q else K (a.put o.dst undef) w) := by
 obtain ⟨hT, hM⟩ := hR
 unfold Gl at hp
 split at hp
 ·rename_i hg
  simp only [oJ] at hp
  subst hp
  simp only [DW, oJ, pJ] at h
  obtain ⟨rfl, rfl, rfl⟩ := h
  refine ⟨rfl, fun _ K Q hK => ?_⟩
  rw [FE hE hg]
  simp only [Gd.tt, Bool.false_eq_true, if_false]
  exact hK ad _ w ⟨hT.put o.dst (v := .und) trivial, hM⟩ (Ext.refl _ _)
 ·rename_i hg
  obtain ⟨W, hW, rfl⟩ := Option.map_eq_some_iff.1 hp
  simp only [DW] at h
  obtain ⟨r1, r2⟩ := Nb hS hG hE hM (cs := []) rfl hW h
  refine ⟨r1, fun ht K Q hK => ?_⟩
  rw [FE hE hg]
  simp only [Gd.tt, if_true]
  exact r2 ht K Q fun ad' w' hr x hv => hK ad' _ w' ⟨(hT.ext x).put o.dst hv, hr⟩ x
 ·rename_i cs hg
  obtain ⟨W, hW, rfl⟩ := Option.map_eq_some_iff.1 hp
  have hwant := FE hE hg
  simp only [DW] at h
  split at h
  ·rename_i g1 v1 m1 hr
   split at h
   ·rename_i hc
    simp only [oJ, pJ] at h
    obtain ⟨rfl, rfl, rfl⟩ := h
    obtain ⟨hb, hgk, hrefs⟩ := hc
    obtain ⟨c1, c2⟩ := Nc (F := l.F) (ρ := ρ) hb
    have hor := Cx (Ao (conjE cs)) g1 (Ag _ l.F ρ).2 hgk l.F ρ
    obtain ⟨hL, _⟩ := Mo hr
    have hPM : PM (conjE cs) m1 s.2 (mergeOn (conjE cs) m1 (fpW T s.2 nm ch W).2 s.2) := fun n => by
     rw [EL _ _ _ _ hL.len]
     by_cases hn : n ∈ (fpW T s.2 nm ch W).2
     ·rw [if_pos hn]; exact Or.inr rfl
     ·rw [if_neg hn]; exact Or.inl ⟨(hL.frame n hn).symm, rfl⟩
    have hal : ∀ k, al s.2 k \/ al m1 k -> al (mergeOn (conjE cs) m1 (fpW T s.2 nm ch W).2 s.2) k := fun k hk => by rw [hPM.al]; exact hk.symm
    have hal1 : ∀ k ∈ refsW m1 v1 (fpW T s.2 nm ch W).2, al m1 k := fun k hk => List.all_eq_true.1 hrefs k hk
    have hvok : v1.ok (al m1) := Gz v1 fun n hn => hal1 n (by simp [refsW, hn])
    have hok1 : ∀ n g x, m1.at n = some (g, x) -> SV.okL (al m1) x.cs \/ s.2.at n = some (g, x) := fun n g x hn => by
     by_cases hw : n ∈ (fpW T s.2 nm ch W).2
     ·left
      refine Mn x.cs fun k hk => hal1 k ?_
      unfold refsW
      exact List.mem_append_right _ (List.mem_flatMap.2 ⟨n, hw, by rw [hn]; exact hk⟩)
     ·right; rw [<- hL.frame n hw]; exact hn
    have keep1 : ∀ k, al s.2 k -> k ∉ (fpW T s.2 nm ch W).2 -> al m1 k := fun k hk hw => by unfold al at hk ⊢; rw [hL.frame k hw]; exact hk
    refine ⟨hor.2, fun ht K Q hK => ?_⟩
    rw [hor.1, Bool.or_eq_true, (Ag (conjE cs) l.F ρ).1, c2] at ht
    rcases Bool.eq_false_or_eq_true (holds l.F ρ cs) with hh | hh
    ·rw [if_pos (by rw [hwant]; exact hh)]
     have hgt : g1.tt l.F ρ = true := by
      rcases ht with ht | ht
      ·rw [hh] at ht; cases ht
      ·exact ht
     refine (Nb hS hG hE hM hh hW hr).2 hgt K Q fun ad' w' hr' x hv => ?_
     have x' : Ext ad ad' s.2 (mergeOn (conjE cs) m1 (fpW T s.2 nm ch W).2 s.2) := ⟨x.same, fun k hk => hal k (Or.inl hk)⟩
     have hp' := (hT.ext x').put o.dst (v := .gd cs v1) (by simpa [SV.ok] using SV.ok_mono (fun k hk => hal k (Or.inr hk)) v1 hv)
     simp only [SV.conc] at hp'
     unfold holds at hh
     rw [hh] at hp'
     refine hK ad' _ w' ⟨hp', hPM.rel c1 (t := true) (by rw [c2]; exact hh) hr' fun n g x hn => ?_⟩ x'
     obtain ⟨_, Im, _, _, hI⟩ := hM
     exact hI.ok n g x hn
    ·rw [if_neg (by rw [hwant]; show ¬ holds l.F ρ cs = true; rw [hh]; exact Bool.false_ne_true)]
     have x' : Ext ad ad s.2 (mergeOn (conjE cs) m1 (fpW T s.2 nm ch W).2 s.2) := ⟨fun _ _ => rfl, fun k hk => hal k (Or.inl hk)⟩
     have hp' := (hT.ext x').put o.dst (v := .gd cs v1) (by simpa [SV.ok] using SV.ok_mono (fun k hk => hal k (Or.inr hk)) v1 hvok)
     have hh' := hh
     simp only [SV.conc] at hp'
     unfold holds at hh
     rw [hh] at hp'
     obtain ⟨_, Im, _, _, hI⟩ := id hM
     refine hK ad _ w ⟨hp', ?_⟩ x'
     refine (PM.rel' c1 hPM (by rw [c2]; exact hh') hM fun n g x hn => ?_)
     rcases hok1 n g x hn with h | h
     ·exact SV.okL_mono (fun k hk => hal k (Or.inr hk)) _ h
     ·exact SV.okL_mono (fun k hk => hal k (Or.inl hk)) _ (hI.ok n g x h)
   ·cases h
  ·cases h
 ·cases hp
end
def DA (ops : Array Oper) (o : Oper) (tm : Tm) : Env := fun t => bif (o.looksAt ops).contains t then tm.at t else none
def Jo (P : Program) (ops : Array Oper) (i : Nat) (tm : Tm) : Option (PL × Option Nat) :=
 match ops[i]? with
 | some o => (Gl P ops o (DA ops o tm)).map fun p => (p, o.dst)
 | none => none
structure Rec where
 fp : FP
 ob : E
 ch : Ch
def WD : Nat := 8
def Rt (a b : FP) : Bool := (a.2.all fun n => !b.1.contains n && !b.2.contains n) && b.2.all fun n => !a.1.contains n && !a.2.contains n
def stI (P : Program) (G : Glob) (T : Tab) (ops : Array Oper) (base : Nat) (rs : List Rec) (i : Nat) (s : St) : Option St :=
 match Jo P ops i s.1, rs[i]? with
 | some (p, dst), some r => if fpPL P G T s.2 (base + WD * i) r.ch p = r.fp then
  match DW P G T s.2 (base + WD * i) r.ch p with
  | some (g, v, m') => if g.same r.ob = true then some (setT s.1 dst v, m') else none
  | none => none
   else none
 | _, _ => none
def Gm (P : Program) (G : Glob) (T : Tab) (ops : Array Oper) (base : Nat) (rs : List Rec) : List Nat -> St -> Option St
 | [], s => some s
 | i :: r, s => match stI P G T ops base rs i s with
   | some s' => Gm P G T ops base rs r s'
   | none => none
def VI (ops : Array Oper) (x y : Oper) : Bool :=
 (match x.dst with
  | some d => !(y.looksAt ops).contains d && decide (y.dst ≠ some d)
  | none => true) &&
 (match y.dst with
  | some d => !(x.looksAt ops).contains d
  | none => true)
def indep (ops : Array Oper) (rs : List Rec) (j i : Nat) : Bool :=
 match ops[j]?, ops[i]?, rs[j]?, rs[i]? with
 | some oj, some oi, some fj, some fi => Rt fj.fp fi.fp && VI ops oj oi
 | _, _, _, _ => false
section
variable {P : Program} {ρ : Nat -> Int} {G : Glob} {T : Tab} {l : Tabs} {w0 w : World} {M0 Im0 : Nat -> Prop} {ad : Nat -> Hd} {m m2 m' : Mem} {tm : Tm} {en : Env} {a : Act}
theorem P5 {ops : Array Oper} {o : Oper} {tm : Tm} {d : Option Nat} {v : SV} (h : ∀ k, d = some k -> (o.looksAt ops).contains k = false) : DA ops o (setT tm d v) = DA ops o tm := by
 funext t
 unfold DA
 cases ht : (o.looksAt ops).contains t
 ·rfl
 ·simp only [cond_true]
  cases d with
  | none => rfl
  | some k =>
    have : k ≠ t := by rintro rfl; rw [h k rfl] at ht; cases ht
    simp [setT, Tm.at, List.getD, List.getElem?_set, this]
theorem VJ {tm : Tm} {d d' : Option Nat} {v v' : SV} (h : d = none \/ d' = none \/ d ≠ d') : setT (setT tm d v) d' v' = setT (setT tm d' v') d v := by
 cases d <;> cases d' <;> simp only [setT]
 rename_i x y
 exact List.set_comm _ _ (by rcases h with h | h | h; cases h; cases h; exact fun e => h (by rw [e]))
theorem Mem.ext' (hl : m.length = m2.length) (h : ∀ n, m.at n = m2.at n) : m = m2 := by
 apply List.ext_getElem hl
 intro n h1 h2
 have := h n
 simpa [Mem.at, List.getD, h1, h2] using this
theorem SM {a b : FP} (h : Rt a b = true) : (∀ n ∈ a.2, n ∉ b.1 /\ n ∉ b.2) /\ ∀ n ∈ b.2, n ∉ a.1 /\ n ∉ a.2 := by
 unfold Rt at h
 simp only [Bool.and_eq_true, List.all_eq_true, Bool.not_eq_true', List.contains_eq_mem, decide_eq_false_iff_not] at h
 exact h
theorem swap {ops : Array Oper} {base : Nat} {rs : List Rec} {j i : Nat} (hi : indep ops rs j i = true) {s s1 s2 : St}
 (h1 : stI P G T ops base rs j s = some s1) (h2 : stI P G T ops base rs i s1 = some s2) : ∃ s1', stI P G T ops base rs i s = some s1' /\ stI P G T ops base rs j s1' = some s2 := by
 unfold indep at hi
 split at hi
 ·rename_i oj oi rj ri hoj hoi hrj hri
  simp only [Bool.and_eq_true, VI] at hi
  obtain ⟨hdis, hx, hy⟩ := hi
  obtain ⟨dj, di⟩ := SM hdis
  have hdd : oj.dst = none \/ oi.dst = none \/ oj.dst ≠ oi.dst := by
   cases hd : oj.dst with
   | none => exact Or.inl rfl
   | some d =>
     right; right
     rw [hd] at hx
     simp only [Bool.and_eq_true, decide_eq_true_eq] at hx
     exact fun e => hx.2 e.symm
  have e1 : ∀ (tm : Tm) (v : SV), DA ops oi (setT tm oj.dst v) = DA ops oi tm := fun tm v => P5 fun k hk => by
   rw [hk] at hx
   simp only [Bool.and_eq_true, Bool.not_eq_true'] at hx
   exact hx.1
  have e2 : ∀ (tm : Tm) (v : SV), DA ops oj (setT tm oi.dst v) = DA ops oj tm := fun tm v => P5 fun k hk => by
   rw [hk] at hy
   simp only [Bool.not_eq_true'] at hy
   exact hy
  unfold stI Jo at h1
  simp only [hoj, hrj] at h1
  cases hpj : Gl P ops oj (DA ops oj s.1) with
  | none => rw [hpj] at h1; cases h1
  | some p =>
    simp only [hpj, Option.map_some] at h1
    split at h1
    ·rename_i hcj
     split at h1
     ·rename_i gj vj mj hj
      split at h1
      ·rename_i hgj
       simp only [oJ] at h1; subst h1
       unfold stI Jo at h2
       simp only [hoi, hri, e1] at h2
       cases hpi : Gl P ops oi (DA ops oi s.1) with
       | none => rw [hpi] at h2; cases h2
       | some p' =>
         simp only [hpi, Option.map_some] at h2
         split at h2
         ·rename_i hci
          split at h2
          ·rename_i gi vi mi hii
           split at h2
           ·rename_i hgi
            simp only [oJ] at h2; subst h2
            obtain ⟨Lj, Fj⟩ := P4 hj
            obtain ⟨Li, Fi⟩ := P4 hii
            rw [hcj] at Lj Fj
            rw [hci] at Li Fi
            have ai : Agree (ri.fp.1 ++ ri.fp.2) mj s.2 := fun n hn => by
             refine (Lj.frame n fun hw => ?_).symm
             obtain ⟨d1, d2⟩ := dj n hw
             rcases List.mem_append.1 hn with hn | hn
             ·exact d1 hn
             ·exact d2 hn
            obtain ⟨m1, q1, q2, q3, q4⟩ := Li.loc s.2 Lj.len.symm ai
            have aj : Agree (rj.fp.1 ++ rj.fp.2) s.2 m1 := fun n hn => by
             refine q4 n fun hw => ?_
             obtain ⟨d1, d2⟩ := di n hw
             rcases List.mem_append.1 hn with hn | hn
             ·exact d1 hn
             ·exact d2 hn
            obtain ⟨m2, t1, t2, t3, t4⟩ := Lj.loc m1 q2 aj
            have hmm : m2 = mi := by
             refine Mem.ext' (by rw [t2, q2, Li.len, Lj.len]) fun n => ?_
             by_cases hw : n ∈ rj.fp.2
             ·rw [t3 n hw, Li.frame n (dj n hw).2]
             ·rw [t4 n hw]
              by_cases hv : n ∈ ri.fp.2
              ·exact q3 n hv
              ·rw [q4 n hv, Li.frame n hv, Lj.frame n hw]
            subst hmm
            refine ⟨(setT s.1 oi.dst vi, m1), ?_, ?_⟩
            ·unfold stI Jo
             simp only [hoi, hri, hpi, Option.map_some]
             rw [if_pos ((Fi s.2 Lj.len.symm ai).trans rfl)]
             simp only [q1, if_pos hgi]
            ·unfold stI Jo
             simp only [hoj, hrj, e2, hpj, Option.map_some]
             rw [if_pos ((Fj m1 q2 aj).trans rfl)]
             simp only [t1, if_pos hgj]
             rw [VJ hdd]
           ·cases h2
          ·cases h2
         ·cases h2
      ·cases h1
     ·cases h1
    ·cases h1
 ·cases hi
theorem Tb {ops : Array Oper} {base : Nat} {rs : List Rec} {i : Nat} {post : List Nat} : ∀ (pre : List Nat) {s s' : St}, (∀ j ∈ pre, indep ops rs j i = true) ->
 Gm P G T ops base rs (pre ++ i :: post) s = some s' -> ∃ s1, stI P G T ops base rs i s = some s1 /\ Gm P G T ops base rs (pre ++ post) s1 = some s'
 | [], s, s', _, h => by
   simp only [List.nil_append, Gm] at h
   split at h
   ·rename_i s1 h1; exact ⟨s1, h1, h⟩
   ·cases h
 | j :: pre, s, s', hp, h => by
   simp only [List.cons_append, Gm] at h
   split at h
   ·rename_i s1 h1
    obtain ⟨s2, i1, i2⟩ := Tb pre (fun k hk => hp k (by simp [hk])) h
    obtain ⟨s1', c1, c2⟩ := swap (hp j (by simp)) h1 i1
    refine ⟨s1', c1, ?_⟩
    simp only [List.cons_append, Gm, c2]
    exact i2
   ·cases h
def Ke (o : Oper) (l : List Nat) : Nat := o.after.toList.foldl (fun s e => bif Region.binds .any e then s ||| (2 ^ e.on ||| l.getD e.on 0) else s) 0
def Lm (ops : List Oper) : List Nat -> List Nat := fun acc => match ops with
 | [] => acc
 | o :: r => Lm r (acc ++ [Ke o acc])
inductive Anc (ops : Array Oper) : Nat -> Nat -> Prop
 | one {i j : Nat} {o : Oper} {e : Edge} : ops[i]? = some o -> e ∈ o.after -> Region.binds .any e = true -> e.on = j -> Anc ops i j
 | more {i j : Nat} {o : Oper} {e : Edge} : ops[i]? = some o -> e ∈ o.after -> Region.binds .any e = true -> Anc ops e.on j -> Anc ops i j
theorem Nd {l : List Nat} {j : Nat} : ∀ (es : List Edge) (s : Nat), (es.foldl (fun s e => bif Region.binds .any e then s ||| (2 ^ e.on ||| l.getD e.on 0) else s) s).testBit j = true ->
 s.testBit j = true \/ ∃ e ∈ es, Region.binds .any e = true /\ (e.on = j \/ (l.getD e.on 0).testBit j = true)
 | [], s, h => Or.inl h
 | e :: es, s, h => by
   simp only [List.foldl_cons] at h
   rcases Nd es _ h with h1 | ⟨e', h1, h2, h3⟩
   ·cases hb : Region.binds .any e
    ·rw [hb] at h1; exact Or.inl h1
    ·rw [hb] at h1
     simp only [cond_true, Nat.testBit_or, Bool.or_eq_true, Nat.testBit_two_pow, decide_eq_true_eq] at h1
     rcases h1 with h1 | h1 | h1
     ·exact Or.inl h1
     ·exact Or.inr ⟨e, by simp, hb, Or.inl h1⟩
     ·exact Or.inr ⟨e, by simp, hb, Or.inr h1⟩
   ·exact Or.inr ⟨e', by simp [h1], h2, h3⟩
theorem Nf (ops : Array Oper) : ∀ (r : List Oper) (acc : List Nat), (∀ k, r[k]? = ops[acc.length + k]?) -> (∀ i j, (acc.getD i 0).testBit j = true -> Anc ops i j) ->
 ∀ i j, ((Lm r acc).getD i 0).testBit j = true -> Anc ops i j
 | [], acc, _, h => h
 | o :: r, acc, hr, h => by
   unfold Lm
   have h0 : ops[acc.length]? = some o := by simpa using (hr 0).symm
   refine Nf ops r _ (fun k => by have := hr (k + 1); simpa [Nat.add_assoc, Nat.add_comm 1 k] using this) ?_
   intro i j hij
   by_cases hi : i < acc.length
   ·rw [show (acc ++ [Ke o acc]).getD i 0 = acc.getD i 0 by simp [List.getD, List.getElem?_append_left hi]] at hij
    exact h i j hij
   ·by_cases hi' : i = acc.length
    ·subst hi'
     rw [show (acc ++ [Ke o acc]).getD acc.length 0 = Ke o acc by simp [List.getD]] at hij
     rcases Nd _ _ hij with h1 | ⟨e, h1, h2, h3⟩
     ·simp at h1
     ·rcases h3 with h3 | h3
      ·exact .one h0 (by simpa using h1) h2 h3
      ·exact .more h0 (by simpa using h1) h2 (h e.on j h3)
    ·rw [show (acc ++ [Ke o acc]).getD i 0 = 0 by rw [List.getD, List.getElem?_eq_none (by simp; omega)]; rfl] at hij
     simp at hij
def VK (ops : Array Oper) (listed : Array Bool) : Prop := ∀ k o, listed.getD k false = true -> ops[k]? = some o -> ∀ e ∈ o.after, Region.binds .any e = true -> listed.getD e.on false = true
theorem Anc.listed {ops : Array Oper} {listed : Array Bool} (hc : VK ops listed) {i j : Nat} (h : Anc ops i j) : (∀ o, ops[i]? = some o -> ∀ e ∈ o.after, Region.binds .any e = true -> listed.getD e.on false = true) -> listed.getD j false = true := by
 induction h with
 | one h1 h2 h3 h4 => intro hx; subst h4; exact hx _ h1 _ h2 h3
 | more h1 h2 h3 _ ih => intro hx; exact ih fun o ho e he hb => hc _ o (hx _ h1 _ h2 h3) ho e he hb
def Ln (ops : List Oper) (i : Nat) : Bool := match ops with
 | [] => true
 | o :: r => (o.after.toList.all fun e => !Region.binds .any e || decide (e.on < i)) && Ln r (i + 1)
theorem Ng {ops : Array Oper} : ∀ (r : List Oper) (i : Nat), (∀ k, r[k]? = ops[i + k]?) -> Ln r i = true -> ∀ k o, i <= k -> ops[k]? = some o -> ∀ e ∈ o.after, Region.binds .any e = true -> e.on < k
 | [], i, hr, _, k, o, hk, ho, _, _, _ => by
   have := hr (k - i)
   rw [show i + (k - i) = k by omega, ho] at this
   simp at this
 | x :: r, i, hr, hb, k, o, hk, ho, e, he, hbe => by
   simp only [Ln, Bool.and_eq_true] at hb
   by_cases hki : k = i
   ·subst hki
    have hx : o = x := by have := hr 0; simp only [List.getElem?_cons_zero, Nat.add_zero] at this; rw [ho] at this; exact (Option.some.inj this).symm
    subst hx
    have := List.all_eq_true.1 hb.1 e (by simpa using he)
    rw [hbe] at this
    simpa using this
   ·exact Ng r (i + 1) (fun k => by have := hr (k + 1); simpa [Nat.add_assoc, Nat.add_comm 1 k] using this) hb.2 k o (by omega) ho e he hbe
def Nh (ops : Array Oper) (rs : List Rec) (ms : List Nat) : Bool :=
 (List.range ops.size).all fun i => (List.range i).all fun j => (ms.getD i 0).testBit j || indep ops rs j i
def recsRun (P : Program) (G : Glob) (T : Tab) (ops : Array Oper) (base : Nat) : List Nat -> St -> Option (List Rec)
 | [], _ => some []
 | i :: r, s => match Jo P ops i s.1 with
   | some (p, dst) =>
     let ch : Ch := match p with
      | .run _ (.call _ f args) => W6 T s.2 (base + WD * i) f args
      | _ => none
     match DW P G T s.2 (base + WD * i) ch p with
     | some (g, v, m') => match recsRun P G T ops base r (setT s.1 dst v, m') with
       | some l => some (⟨fpPL P G T s.2 (base + WD * i) ch p, g, ch⟩ :: l)
       | none => none
     | none => none
   | none => none
def obsE : List Rec -> E
 | [] => mkB true
 | r :: l => mkAnd r.ob (obsE l)
def Ru (P : Program) (G : Glob) (T : Tab) (ops : Array Oper) (s : St) : Option (E × St) :=
 let s0 : St := (s.1, s.2 ++ List.replicate (WD * ops.size) none)
 match recsRun P G T ops s.2.length (List.range ops.size) s0 with
 | some rs => bif Ln ops.toList 0 && Nh ops rs (Lm ops.toList []) && rs.all fun r => decide (r.ob.kind = .b) then
  (Gm P G T ops s.2.length rs (List.range ops.size) s0).map fun s' => (obsE rs, s')
   else none
 | none => none
theorem P6 {F : Fam} : ∀ {rs : List Rec}, (rs.all fun r => decide (r.ob.kind = .b)) = true -> (obsE rs).kind = .b /\ ((obsE rs).tt F ρ = true -> ∀ r ∈ rs, r.ob.tt F ρ = true)
 | [], _ => ⟨rfl, fun _ r hr => by cases hr⟩
 | r :: l, h => by
   simp only [List.all_cons, Bool.and_eq_true, decide_eq_true_eq] at h
   obtain ⟨i1, i2⟩ := P6 (F := F) (rs := l) h.2
   have := Ac r.ob (obsE l) h.1 i1 F ρ
   refine ⟨this.2, fun ht x hx => ?_⟩
   simp only [obsE] at ht
   rw [this.1, Bool.and_eq_true] at ht
   rcases List.mem_cons.1 hx with rfl | hx
   ·exact ht.1
   ·exact i2 ht.2 x hx
theorem Hv (m : Mem) (n k : Nat) : Mem.at (m ++ List.replicate n none) k = m.at k := by
 simp only [Mem.at, List.getD]
 rcases Nat.lt_or_ge k m.length with h | h
 ·rw [List.getElem?_append_left h]
 ·rw [List.getElem?_append_right h, List.getElem?_eq_none h, List.getElem?_replicate]
  split <;> rfl
theorem Cz (m : Mem) (n : Nat) : al (m ++ List.replicate n none) = al m := by funext k; simp [al, Hv]
theorem Rel.extend {F : Fam} (h : Rel F ρ w0 M0 Im0 ad m w) (n : Nat) : Rel F ρ w0 M0 Im0 ad (m ++ List.replicate n none) w := by
 obtain ⟨hM, Im, h1, h2, hI⟩ := h
 refine ⟨hM, Im, h1, h2, fun k g x hk hg => ?_, fun k g x hk => ?_, fun k k' g x g' y b a1 a2 a3 a4 a5 a6 => ?_, hI.im, hI.fr⟩
 ·rw [Hv] at hk; exact hI.ent k g x hk hg
 ·rw [Hv] at hk; rw [Cz]; exact hI.ok k g x hk
 ·rw [Hv] at a1 a3; exact hI.inj k k' g x g' y b a1 a2 a3 a4 a5 a6
theorem RelS.extend {F : Fam} {s : St} (h : RelS F ρ w0 M0 Im0 ad s a w) (n : Nat) : RelS F ρ w0 M0 Im0 ad (s.1, s.2 ++ List.replicate n none) a w :=
 ⟨⟨h.1.defers, h.1.size, fun i v hv => by simp only [Cz]; exact h.1.slot i v hv⟩, h.2.extend n⟩
theorem Rel.drew {F : Fam} (h : Rel F ρ w0 M0 Im0 ad m w) : Rel F ρ w0 M0 Im0 ad m { w with drawn := w.drawn + 1 } := by
 obtain ⟨hM, Im, h1, h2, hI⟩ := h
 exact ⟨hM, Im, h1, h2, hI.refl_w rfl (hI.fr.trans (Fr.drew M0 w) fun b _ hb => hb)⟩
theorem VL {F : Fam} {ops : Array Oper} {o : Oper} (hT : RelT F ρ ad m tm a) : RelV F ρ ad m (DA ops o tm) a := fun i v hv => by
 unfold DA at hv
 cases hc : (o.looksAt ops).contains i
 ·rw [hc] at hv; cases hv
 ·rw [hc] at hv; exact hT.slot i v hv
def rem (ops : Array Oper) (listed : Array Bool) : List Nat := (List.range ops.size).filter fun i => !listed.getD i true
theorem VM (hS : CC P G l T) (hG : GOK G Im0 w0) {ops : Array Oper} {base : Nat} {rs : List Rec} (hobs : ∀ r ∈ rs, r.ob.tt l.F ρ = true) {Q : Exit -> Act -> World -> Prop} (hback : Ln ops.toList 0 = true) (hpairs : Nh ops rs (Lm ops.toList []) = true)
 {s' : St} : ∀ (fuel : Nat) (listed : Array Bool) (s : St) (a : Act) (w : World) (ad : Nat -> Hd), listed.size = ops.size -> VK ops listed -> (rem ops listed).length = fuel ->
 Gm P G T ops base rs (rem ops listed) s = some s' -> RelS l.F ρ w0 M0 Im0 ad s a w -> (∀ ad' a' w', RelS l.F ρ w0 M0 Im0 ad' s' a' w' -> Ext ad ad' s.2 s'.2 -> Q .normal a' w') -> wpAny P .any ops Q fuel listed a w := by
 have hanc := Nf ops ops.toList [] (fun k => by simp) (fun i j h => by simp at h)
 have hb := Ng (ops := ops) ops.toList 0 (fun k => by simp) hback
 have noready : ∀ listed : Array Bool, listed.size = ops.size -> Region.ready .any ops listed = [] -> rem ops listed = [] := by
  intro listed hsz hr
  cases hrem : rem ops listed with
  | nil => rfl
  | cons i r =>
    exfalso
    have hmem : i ∈ rem ops listed := by rw [hrem]; simp
    simp only [rem, List.mem_filter, List.mem_range, Bool.not_eq_true'] at hmem
    have hsorted : (rem ops listed).Pairwise (· < ·) := List.Pairwise.filter _ List.pairwise_lt_range
    rw [hrem] at hsorted
    have hmin : ∀ k, k < i -> k ∉ rem ops listed := fun k hk hkm => by
     rw [hrem] at hkm
     rcases List.mem_cons.1 hkm with rfl | hkm
     ·omega
     ·have := (List.pairwise_cons.1 hsorted).1 k hkm; omega
    have : i ∈ Region.ready .any ops listed := by
     rw [mem_ready]
     refine ⟨hmem.2, ops[i], by simp [hmem.1], fun e he hbe => ?_⟩
     have hlt := hb i ops[i] (Nat.zero_le _) (by simp [hmem.1]) e he hbe
     have := hmin e.on hlt
     simp only [rem, List.mem_filter, List.mem_range, Bool.not_eq_true', not_and, Bool.not_eq_false] at this
     have := this (by omega)
     have hl : e.on < listed.size := by omega
     simpa [hl] using this
    rw [hr] at this
    cases this
 intro fuel
 induction fuel with
 | zero =>
   intro listed s a w ad hsz hcl hlen hfold hR hQ
   have hnil : rem ops listed = [] := List.eq_nil_of_length_eq_zero hlen
   rw [hnil] at hfold
   simp only [Gm, oJ] at hfold
   subst hfold
   refine ⟨?_, hQ ad a w hR (Ext.refl _ _)⟩
   cases hr : Region.ready .any ops listed with
   | nil => rfl
   | cons i r =>
     exfalso
     have hi : i ∈ Region.ready .any ops listed := by rw [hr]; simp
     obtain ⟨h1, o, ho, _⟩ := mem_ready.1 hi
     have : i ∈ rem ops listed := by
      simp only [rem, List.mem_filter, List.mem_range, Bool.not_eq_true']
      exact ⟨(Array.getElem?_eq_some_iff.1 ho).1, h1⟩
     rw [hnil] at this
     cases this
 | succ fuel ih =>
   intro listed s a w ad hsz hcl hlen hfold hR hQ
   refine ⟨fun hr => ?_, fun i hi => ?_⟩
   ·have := noready listed hsz hr
    rw [this] at hlen
    simp at hlen
   ·obtain ⟨hun, o, ho, hall⟩ := mem_ready.1 hi
    have hisz : i < ops.size := (Array.getElem?_eq_some_iff.1 ho).1
    have hmem : i ∈ rem ops listed := by
     simp only [rem, List.mem_filter, List.mem_range, Bool.not_eq_true']
     exact ⟨hisz, hun⟩
    have hnd : (rem ops listed).Nodup := List.Pairwise.filter _ List.nodup_range
    have hsorted : (rem ops listed).Pairwise (· < ·) := List.Pairwise.filter _ List.pairwise_lt_range
    obtain ⟨pre, post, hnot, hsplit, herase⟩ := List.exists_erase_eq hmem
    have hrem' : rem ops (listed.setIfInBounds i true) = pre ++ post := by
     rw [<- herase, List.Nodup.erase_eq_filter hnd]
     unfold rem
     rw [List.filter_filter]
     apply List.filter_congr
     intro k hk
     by_cases hki : i = k
     ·subst hki
      have : i < listed.size := by omega
      simp [this]
     ·rw [getD_set_ne true hki]
      have : (k != i) = true := by simp; exact fun e => hki e.symm
      rw [this, Bool.true_and]
    have hindep : ∀ j ∈ pre, indep ops rs j i = true := fun j hj => by
     have hjm : j ∈ rem ops listed := by rw [hsplit]; simp [hj]
     have hjm' := hjm
     simp only [rem, List.mem_filter, List.mem_range, Bool.not_eq_true'] at hjm'
     have hlt : j < i := by
      rw [hsplit] at hsorted
      exact (List.pairwise_append.1 hsorted).2.2 j hj i (by simp)
     unfold Nh at hpairs
     have h1 := List.all_eq_true.1 (List.all_eq_true.1 hpairs i (List.mem_range.2 hisz)) j (List.mem_range.2 hlt)
     simp only [Bool.or_eq_true] at h1
     rcases h1 with h1 | h1
     ·exfalso
      have h2 := (hanc i j h1).listed hcl (fun o' ho' e he hbe => hall e (by rw [ho] at ho'; cases ho'; exact he) hbe)
      have hl : j < listed.size := by omega
      have := hjm'.2
      simp [hl] at h2 this
      rw [h2] at this
      cases this
     ·exact h1
    rw [hsplit] at hfold
    obtain ⟨s1, c1, c2⟩ := Tb pre hindep hfold
    rw [<- hrem'] at c2
    unfold stI Jo at c1
    rw [ho] at c1
    simp only at c1
    cases hp : Gl P ops o (DA ops o s.1) with
    | none => rw [hp] at c1; cases c1
    | some p =>
      simp only [hp, Option.map_some] at c1
      split at c1
      ·rename_i p' dst' r hpe hr
       simp only [oJ, pJ] at hpe
       obtain ⟨rfl, rfl⟩ := hpe
       split at c1
       ·split at c1
        ·rename_i g v m' hrun
         split at c1
         ·rename_i hgs
          simp only [oJ] at c1
          subst c1
          have hgt : g.tt l.F ρ = true := by rw [E.same_eq _ _ hgs]; exact hobs r (List.mem_of_getElem? hr)
          refine wpOp_step ho fun K' hK' => ?_
          refine (HZ hS hG hR (VL hR.1) hp hrun).2 hgt _ _ fun ad' a' w' hR' hx => hK' a' w' ?_
          refine ih _ (setT s.1 o.dst v, m') a' w' ad' (by simp [hsz]) ?_ ?_ c2 hR' fun ad'' a'' w'' hR'' hx' => hQ ad'' a'' w'' hR'' (hx.trans hx')
          ·intro k o' hk ho' e he hbe
           by_cases hki : i = k
           ·subst hki
            rw [ho] at ho'; cases ho'
            exact getD_set_true (hall e he hbe)
           ·rw [getD_set_ne false hki] at hk
            exact getD_set_true (hcl k o' hk ho' e he hbe)
          ·rw [hrem']
           have : (rem ops listed).length = pre.length + post.length + 1 := by rw [hsplit]; simp; omega
           simp; omega
         ·cases c1
        ·cases c1
       ·cases c1
      ·cases c1
theorem TT (hm : P.follows .mixedOrders = true) (hS : CC P G l T) (hG : GOK G Im0 w0) {ops : Array Oper} {id : Nat} {s s' : St} {ob : E} (h : Ru P G T ops s = some (ob, s')) : ob.kind = .b /\ (ob.tt l.F ρ = true -> ∀ {ad : Nat -> Hd} {a : Act} {w : World}, RelS l.F ρ w0 M0 Im0 ad s a w -> ∀ {Q : Exit -> Act -> World -> Prop},
 (∀ ad' a' w', RelS l.F ρ w0 M0 Im0 ad' s' a' w' -> Ext ad ad' s.2 s'.2 -> Q .normal a' w') -> (Code.region id ops true).wp P Q a w) := by
 unfold Ru at h
 simp only at h
 split at h
 ·rename_i rs hrs
  cases hb : Ln ops.toList 0 && Nh ops rs (Lm ops.toList []) && rs.all fun r => decide (r.ob.kind = .b)
  ·rw [hb] at h; cases h
  ·rw [hb] at h
   simp only [cond_true] at h
   obtain ⟨s1, hfo, he⟩ := Option.map_eq_some_iff.1 h
   simp only [pJ] at he
   obtain ⟨rfl, rfl⟩ := he
   simp only [Bool.and_eq_true] at hb
   obtain ⟨o1, o2⟩ := P6 (F := l.F) (ρ := ρ) hb.2
   refine ⟨o1, fun ht {ad a w} hR {Q} hQ => ?_⟩
   have hrem : rem ops (Array.replicate ops.size false) = List.range ops.size := by
    unfold rem
    rw [List.filter_eq_self]
    intro i hi
    have := List.mem_range.1 hi
    simp [this]
   have hR0 := hR.extend (WD * ops.size)
   refine wp_region_any hm (VM hS hG (o2 ht) hb.1.1 hb.1.2 ops.size _ (s.1, s.2 ++ List.replicate (WD * ops.size) none) a _ ad (by simp) ?_ (by rw [hrem]; simp) (by rw [hrem]; exact hfo) ⟨hR0.1, hR0.2.drew⟩ ?_)
   ·intro k o hk
    exfalso
    rcases Nat.lt_or_ge k ops.size with h' | h'
    ·simp [h'] at hk
    ·simp [h'] at hk
   ·intro ad' a' w' hR' hx
    refine hQ ad' a' w' hR' ⟨fun k hk => hx.same k ?_, fun k hk => hx.keep k ?_⟩ <;> simpa [Cz] using hk
 ·cases h
end
def andB (a b : E) : E := if a.kind = .b /\ b.kind = .b then mkAnd a b else mkB false
def impB (c b : E) : E := if c.kind = .b /\ b.kind = .b then mkOr (Ao c) b else mkB false
theorem AE {a b : E} {F : Fam} {ρ : Nat -> Int} (h : (andB a b).tt F ρ = true) : a.tt F ρ = true /\ b.tt F ρ = true := by
 unfold andB at h; split at h
 ·rename_i hk; rw [(Ac a b hk.1 hk.2 F ρ).1, Bool.and_eq_true] at h; exact h
 ·simp at h
theorem GA {c b : E} {F : Fam} {ρ : Nat -> Int} (h : (impB c b).tt F ρ = true) (hc : c.tt F ρ = true) : b.tt F ρ = true := by
 unfold impB at h; split at h
 ·rename_i hk
  rw [(Cx (Ao c) b (Ag c F ρ).2 hk.2 F ρ).1, (Ag c F ρ).1, hc, Bool.or_eq_true] at h
  rcases h with h | h
  ·cases h
  ·exact h
 ·simp at h
abbrev Into := Nat -> List SV -> Mem -> Option (E × SV × Mem)
def chOf (T : Tab) (m : Mem) (nm : Nat) : PL -> Ch
 | .run _ (.call _ f args) => W6 T m nm f args
 | _ => none
def W7 (P : Program) (G : Glob) (T : Tab) (m : Mem) (nm : Nat) (pl : PL) : Option (E × SV × Mem) := DW P G T m nm (chOf T m nm pl) pl
def TU (call : Into) (f : Nat) (args : List SV) (m : Mem) : Option (E × SV × Mem) :=
 match call f args m with
 | some r => some r
 | none => bif SV.sameL args (Gk true args) then none else (call f (Gk true args) m).map fun r => (andB (C4 args) r.1, r.2.1, r.2.2)
def Rv (P : Program) (G : Glob) (T : Tab) (call : Into) (ops : Array Oper) (o : Oper) (s : St) : Option (E × St) :=
 match Gl P ops o s.1.at with
 | some pl => match W7 P G T s.2 s.2.length pl with
   | some (g, v, m') => some (g, setT s.1 o.dst v, m')
   | none => match W7 P G T (s.2 ++ List.replicate WD none) s.2.length pl with
     | some (g, v, m') => some (g, setT s.1 o.dst v, m')
     | none => match pl with
       | .run none (.call g f args) => match TU call f args s.2 with
         | some (g2, v, m') => some (andB g g2, setT s.1 o.dst v, m')
         | none => none
       | _ => none
 | none => none
def Ni (P : Program) (G : Glob) (T : Tab) (call : Into) (ops : Array Oper) : List Oper -> St -> Option (E × St)
 | [], s => some (mkB true, s)
 | o :: r, s => match Rv P G T call ops o s with
   | some (g, s1) => match Ni P G T call ops r s1 with
     | some (g2, s2) => some (andB g g2, s2)
     | none => none
   | none => none
def TV (s : St) (c : Operand) : Option E :=
 match getC [] s.1.at c with
 | some (.sc e) => if e.kind = .b then some e else none
 | _ => none
section
variable {P : Program} {ρ : Nat -> Int} {G : Glob} {T : Tab} {l : Tabs} {w0 w : World} {M0 Im0 : Nat -> Prop} {ad : Nat -> Hd} {m m2 m' : Mem} {tm : Tm} {en : Env} {a : Act}
def DJ (P : Program) (l : Tabs) (ρ : Nat -> Int) (w0 : World) (M0 Im0 : Nat -> Prop) (call : Into) : Prop :=
 ∀ f args m ob v m', call f args m = some (ob, v, m') -> ob.tt l.F ρ = true -> ∀ ad w, Rel l.F ρ w0 M0 Im0 ad m w -> SV.okL (al m) args ->
   Calls P f (SV.concL l.F ρ ad args).toArray w fun e w' => ∃ ad', e = .returned (v.conc l.F ρ ad') /\ Rel l.F ρ w0 M0 Im0 ad' m' w' /\ Ext ad ad' m m' /\ v.ok (al m')
theorem Rw {p : Nat -> Prop} {F : Fam} {ρ : Nat -> Int} {ad : Nat -> Hd} : ∀ {args : List SV}, SV.okL p args -> SV.okL p (Gk true args)
 | [], _ => trivial
 | v :: r, h => ⟨(Bt (F := F) (ρ := ρ) (ad := ad) v).2 h.1, Rw (F := F) (ρ := ρ) (ad := ad) (args := r) h.2⟩
theorem WG {call : Into} (hI : DJ P l ρ w0 M0 Im0 call) : DJ P l ρ w0 M0 Im0 (TU call) := by
 intro f args m ob v m' h ht ad w hR hok
 unfold TU at h
 split at h
 ·rename_i r hr
  simp only [oJ] at h; subst h
  exact hI f args m _ _ _ hr ht ad w hR hok
 ·cases hs : SV.sameL args (Gk true args)
  ·rw [hs] at h
   obtain ⟨⟨o2, v2, m2⟩, h2, h3⟩ := Option.map_eq_some_iff.1 h
   simp only [pJ] at h3
   obtain ⟨rfl, rfl, rfl⟩ := h3
   obtain ⟨t1, t2⟩ := AE ht
   have := hI f _ m _ _ _ h2 t2 ad w hR (Rw (F := l.F) (ρ := ρ) (ad := ad) hok)
   rw [Jn (fo := true) t1] at this
   exact this
  ·rw [hs] at h; cases h
theorem TX {s : St} (hE : RelV l.F ρ ad s.2 en a) {ops : Array Oper} {o : Oper} {g : E} {f : Nat} {args : List SV} (hp : Gl P ops o en = some (.run none (.call g f args))) (hg : g.tt l.F ρ = true) :
 Region.wanted o (yielded ops a.tmps) = true /\ (execOp a.eval o).run P w = .ok (.enter f (SV.concL l.F ρ ad args).toArray) w /\ SV.okL (al s.2) args := by
 unfold Gl at hp
 split at hp
 ·simp at hp
 ·rename_i hgd
  obtain ⟨W, hW, he⟩ := Option.map_eq_some_iff.1 hp
  simp only [PL.run.injEq, true_and] at he
  subst he
  refine ⟨by rw [FE hE hgd]; rfl, ?_⟩
  unfold Kd at hW
  split at hW
  ·obtain ⟨u, h1, h2⟩ := Option.map_eq_some_iff.1 hW; cases h2
  ·split at hW
   ·rename_i g0 f' args' hds
    simp only [oJ, W.call.injEq] at hW
    obtain ⟨rfl, rfl, rfl⟩ := hW
    obtain ⟨j1, j2⟩ := JR l.BI (P := P) (w := w) (F := l.F) (ρ := ρ) (ad := ad) (p := al s.2) (ev := a.eval) (fun x s hx => BC hE (cs := []) rfl hx) hds
    obtain ⟨d1, d2⟩ := j2 hg
    exact ⟨by rw [d1]; rfl, d2⟩
   ·simp at hW
   ·cases hW
 ·obtain ⟨W, hW, he⟩ := Option.map_eq_some_iff.1 hp
  simp at he
 ·cases hp
theorem Rx (hS : CC P G l T) (hG : GOK G Im0 w0) {call : Into} (hI : DJ P l ρ w0 M0 Im0 call) {ops : Array Oper} {o : Oper} {s s' : St} {g : E} (h : Rv P G T call ops o s = some (g, s')) (ht : g.tt l.F ρ = true)
 (hR : RelS l.F ρ w0 M0 Im0 ad s a w) {K : Act -> World -> Prop} {Q : Exit -> Act -> World -> Prop} (hK : ∀ ad' a' w', RelS l.F ρ w0 M0 Im0 ad' s' a' w' -> Ext ad ad' s.2 s'.2 -> K a' w') :
 if Region.wanted o (yielded ops a.tmps) = true then o.wp P a w K Q else K (a.put o.dst undef) w := by
 unfold Rv at h
 split at h
 ·rename_i pl hp
  split at h
  ·rename_i g1 v m' hr
   simp only [oJ, pJ] at h
   obtain ⟨rfl, rfl⟩ := h
   exact (HZ hS hG hR hR.1.envV hp hr).2 ht K Q hK
  ·split at h
   ·rename_i g1 v m' hr
    simp only [oJ, pJ] at h
    obtain ⟨rfl, rfl⟩ := h
    have hR' := hR.extend WD
    exact (HZ hS hG hR' hR'.1.envV hp hr).2 ht K Q fun ad' a' w' h1 h2 => hK ad' a' w' h1 ⟨fun k hk => h2.same k (by simpa [Cz] using hk), fun k hk => h2.keep k (by simpa [Cz] using hk)⟩
   ·split at h
    ·rename_i g1 f args hn1 hn2
     split at h
     ·rename_i g2 v m' hc
      simp only [oJ, pJ] at h
      obtain ⟨rfl, rfl⟩ := h
      obtain ⟨t1, t2⟩ := AE ht
      obtain ⟨p1, p2, p3⟩ := TX (w := w) hR.1.envV hp t1
      rw [if_pos p1]
      unfold Oper.wp
      rw [p2]
      simp only [Oper.upon]
      refine (WG hI f args s.2 _ _ _ hc t2 ad w hR.2 p3).mono ?_
      rintro e w' ⟨ad', rfl, r2, r3, r4⟩
      exact hK ad' _ w' ⟨(hR.1.ext r3).put o.dst r4, r2⟩ r3
     ·cases h
    ·cases h
 ·cases h
theorem L6 (hS : CC P G l T) (hG : GOK G Im0 w0) {call : Into} (hI : DJ P l ρ w0 M0 Im0 call) {ops : Array Oper} {Q : Exit -> Act -> World -> Prop} : ∀ (os : List Oper) (s s' : St) (g : E) (ad : Nat -> Hd) (a : Act) (w : World),
 Ni P G T call ops os s = some (g, s') -> g.tt l.F ρ = true -> RelS l.F ρ w0 M0 Im0 ad s a w -> (∀ ad' a' w', RelS l.F ρ w0 M0 Im0 ad' s' a' w' -> Ext ad ad' s.2 s'.2 -> Q .normal a' w') -> wpList P ops Q os a w
 | [], s, s', g, ad, a, w, h, ht, hR, hQ => by
   simp only [Ni, oJ, pJ] at h
   obtain ⟨rfl, rfl⟩ := h
   exact hQ ad a w hR (Ext.refl _ _)
 | o :: r, s, s', g, ad, a, w, h, ht, hR, hQ => by
   simp only [Ni] at h
   split at h
   ·rename_i g1 s1 h1
    split at h
    ·rename_i g2 s2 h2
     simp only [oJ, pJ] at h
     obtain ⟨rfl, rfl⟩ := h
     obtain ⟨t1, t2⟩ := AE ht
     have := Rx (K := wpList P ops Q r) (Q := Q) hS hG hI h1 t1 hR fun ad' a' w' hR' hx => L6 hS hG hI r s1 _ g2 ad' a' w' h2 t2 hR' fun ad'' a'' w'' hR'' hx' => hQ ad'' a'' w'' hR'' (hx.trans hx')
     unfold wpList
     by_cases hw : Region.wanted o (yielded ops a.tmps) = true
     ·rw [if_pos hw] at this ⊢; exact .inl this
     ·rw [if_neg hw] at this ⊢; exact this
    ·cases h
   ·cases h
theorem TY {F : Fam} (hT : RelT F ρ ad m tm a) {c : Operand} {e : E} (h : TV (tm, m) c = some e) : e.kind = .b /\ a.eval c = .bool (e.tt F ρ) := by
 unfold TV at h
 split at h
 ·rename_i e' h1
  split at h
  ·rename_i hk
   simp only [oJ] at h; subst h
   obtain ⟨i1, _⟩ := BC hT.envV (cs := []) rfl h1
   exact ⟨hk, by rw [i1]; simp [SV.conc, E.val_b hk]⟩
  ·cases h
 ·cases h
end
structure LEnt where
 ent : Ent
 sl : List Nat
 so : List Nat
 wr : List Nat
 labs : List Lab
 nt : Nat
 shr : List Nat
def dtOf : List Lab -> List SV -> Option (DT × List SV)
 | [], _ => none
 | [l], vs => some (.leaf l, vs)
 | l :: k :: ls, .sc e :: vs => if e.kind = .b then (dtOf (k :: ls) vs).map fun r => (.br e (.leaf l) r.1, r.2) else none
 | _ :: _ :: _, _ => none
def labV : List Lab -> List Value -> Option (Lab × List Value)
 | [], _ => none
 | [l], vs => some (l, vs)
 | l :: k :: ls, .bool b :: vs => (labV (k :: ls) vs).map fun r => (bif b then l else r.1, r.2)
 | _ :: _ :: _, _ => none
def Jp : List Nat -> List SV -> Tm -> Option Tm
 | [], [], tm => some tm
 | t :: ts, v :: vs, tm => if t < tm.length /\ !ts.contains t = true then Jp ts vs (tm.set t (some v)) else none
 | _, _, _ => none
def clrSl : List Nat -> Tm -> Tm
 | [], tm => tm
 | t :: ts, tm => clrSl ts (tm.set t none)
def Jq (tm : Tm) : List Nat -> Option (List SV)
 | [] => some []
 | t :: ts => match tm.at t, Jq tm ts with
   | some v, some l => some (v :: l)
   | _, _ => none
def Nj (e : Ent) (m : Mem) (nm : Nat) (args : List SV) (fo : Bool) : Option (E × SV × Mem) :=
 (DV e m nm (Gk fo args)).map fun r => (andB (bif fo then C4 args else mkB true) r.1, r.2.1, r.2.2)
def VN (e : Ent) (m : Mem) (nm : Nat) (args : List SV) : Option (E × SV × Mem) :=
 match Nj e m nm args false with
 | some r => some r
 | none => Nj e m nm args true
def shrN (tm : Tm) (l : List Nat) : List Nat := l.filterMap fun t => match tm.at t with
 | some (.ls n _) => some n
 | _ => none
def TZ : List Sh -> List SV -> List Nat
 | .lst _ _ false :: l, .ls n _ :: vs => n :: TZ l vs
 | _ :: l, _ :: vs => TZ l vs
 | _, _ => []
def objN (m : Mem) : List Sh -> List SV -> List Nat
 | .obj _ cs :: l, .ptr n 0 :: vs => (match m.at n with
   | some (_, .cells _ us) => TZ cs us
   | _ => []) ++ objN m l vs
 | _ :: l, _ :: vs => objN m l vs
 | _, _ => []
def Jr (le : LEnt) (s : St) : Option (E × Out) :=
 match (if s.1.length = le.nt then Jq s.1 le.sl else none) with
 | some args => match VN le.ent (shareL s.2 (shrN s.1 le.shr ++ objN s.2 le.ent.ps args) ++ List.replicate (Sh.nnL le.ent.outL) none) s.2.length args with
   | some (g, .tup vs, m') => match dtOf le.labs vs with
     | some (d, us) => match Jp le.so us (clrSl le.wr s.1) with
       | some tm' => some (g, d, le.labs.map fun l => (l, (tm', m')))
       | none => none
     | none => none
   | _ => none
 | none => none
def Lo (G : Glob) (le : LEnt) (C : (Exit -> Act -> World -> Prop) -> Act -> World -> Prop) : Prop :=
 ∀ xs, fits le.ent.pks xs -> le.ent.pre xs -> ∀ (w : World) (M0 Im : Nat -> Prop) (hs : Nat -> Hd), (∀ b, M0 b -> ¬ Im b /\ b < w.heap.size) -> GOK G Im w -> RelE F0 (env xs) w M0 Im hs le.ent.pgen.2 w ->
   ∀ a : Act, a.defers = [] -> a.tmps.size = le.nt -> (∀ (i t : Nat), le.sl[i]? = some t -> a.tmps[t]? = (SV.concL F0 (env xs) hs le.ent.pgen.1)[i]?) -> ∀ Q : Exit -> Act -> World -> Prop,
     (∀ (a' : Act) (w' : World) (hs' : Nat -> Hd) (Im' : Nat -> Prop) (Vs : List Value) (lab : Lab) (us : List Value), (∀ j, j < le.ent.nn -> hs' j = hs j) -> (∀ b, Im b -> Im' b) -> (∀ b, Im' b -> Im b \/ M0 b \/ w.heap.size <= b) ->
      RelE F0 (env (xs ++ Am le.ent.fn xs 0 le.ent.oks)) w M0 Im' hs' le.ent.oents w' ->
      (BN le.ent.ogen.1).conc F0 (env (xs ++ Am le.ent.fn xs 0 le.ent.oks)) hs' = .tuple Vs.toArray -> labV le.labs Vs = some (lab, us) ->
      (∀ (i t : Nat), le.so[i]? = some t -> a'.tmps[t]? = us[i]?) -> (∀ k, k ∉ le.so -> k ∉ le.wr -> a'.tmps[k]? = a.tmps[k]?) -> a'.tmps.size = a.tmps.size -> a'.defers = [] -> Q lab.exit a' w') ->
     C Q a w
def CodeOK (P : Program) (G : Glob) (c : Code) (le : LEnt) : Prop := Lo G le fun Q => c.wp P Q
def Kf (P : Program) (G : Glob) (body : Code) (le : LEnt) : Prop := Lo G le fun Q => (Code.loop body).wp P Q
section
variable {P : Program} {ρ : Nat -> Int} {G : Glob} {T : Tab} {l : Tabs} {w0 w : World} {M0 Im0 : Nat -> Prop} {ad : Nat -> Hd} {m m2 m' : Mem} {tm : Tm} {en : Env} {a : Act}
theorem P7 {F : Fam} : ∀ {ls : List Lab} {vs us : List SV} {d : DT}, dtOf ls vs = some (d, us) -> labV ls (SV.concL F ρ ad vs) = some (d.eval F ρ, SV.concL F ρ ad us) /\ (∀ p, SV.okL p vs -> SV.okL p us) /\ d.eval F ρ ∈ ls
 | [], vs, us, d, h => by simp [dtOf] at h
 | [k], vs, us, d, h => by
   simp only [dtOf, oJ, pJ] at h
   obtain ⟨rfl, rfl⟩ := h
   exact ⟨rfl, fun _ h => h, by simp [DT.eval]⟩
 | k :: k' :: ls, [], us, d, h => by simp [dtOf] at h
 | k :: k' :: ls, v :: vs, us, d, h => by
   cases v with
   | sc e =>
     simp only [dtOf] at h
     split at h
     ·rename_i hk
      obtain ⟨⟨d', us'⟩, h1, h2⟩ := Option.map_eq_some_iff.1 h
      simp only [pJ] at h2
      obtain ⟨rfl, rfl⟩ := h2
      obtain ⟨i1, i2, i3⟩ := P7 (F := F) h1
      refine ⟨?_, fun p hp => i2 p hp.2, ?_⟩
      ·simp only [SV.concL, SV.conc, E.val_b hk, labV, i1, Option.map_some, DT.eval]
      ·simp only [DT.eval]
       cases e.tt F ρ
       ·simp only [cond_false]; exact List.mem_cons_of_mem _ i3
       ·simp
     ·cases h
   | _ => simp [dtOf] at h
theorem Nk : ∀ (ts : List Nat) (tm : Tm), (clrSl ts tm).length = tm.length /\ ∀ k v, (clrSl ts tm).at k = some v -> tm.at k = some v /\ k ∉ ts
 | [], tm => ⟨rfl, fun k v h => ⟨h, by simp⟩⟩
 | t :: ts, tm => by
   obtain ⟨i1, i2⟩ := Nk ts (tm.set t none)
   refine ⟨by simp only [clrSl, i1, List.length_set], fun k v h => ?_⟩
   obtain ⟨j1, j2⟩ := i2 k v h
   by_cases hk : t = k
   ·subst hk
    exfalso
    simp only [Tm.at, List.getD, List.getElem?_set] at j1
    by_cases hl : t < tm.length <;> simp [hl] at j1
   ·refine ⟨by simpa [Tm.at, List.getD, List.getElem?_set, hk] using j1, ?_⟩
    simp only [List.mem_cons, not_or]
    exact ⟨fun e => hk e.symm, j2⟩
theorem Nl : ∀ {ts : List Nat} {vs : List SV} {tm tm' : Tm}, Jp ts vs tm = some tm' -> tm'.length = tm.length /\ vs.length = ts.length /\ (∀ k, k ∉ ts -> tm'.at k = tm.at k) /\ ∀ (i t : Nat), ts[i]? = some t -> tm'.at t = vs[i]?
 | [], [], tm, tm', h => by
   simp only [Jp, oJ] at h; subst h
   exact ⟨rfl, rfl, fun _ _ => rfl, fun i t h => by simp at h⟩
 | [], _ :: _, tm, tm', h => by simp [Jp] at h
 | _ :: _, [], tm, tm', h => by simp [Jp] at h
 | t :: ts, v :: vs, tm, tm', h => by
   simp only [Jp] at h
   split at h
   ·rename_i hc
    obtain ⟨i1, i2, i3, i4⟩ := Nl h
    have hnot : t ∉ ts := by have := hc.2; simpa using this
    refine ⟨by simpa using i1, by simp [i2], fun k hk => ?_, fun i k hi => ?_⟩
    ·simp only [List.mem_cons, not_or] at hk
     rw [i3 k hk.2]
     have : ¬ t = k := fun e => hk.1 e.symm
     simp [Tm.at, List.getD, List.getElem?_set, this]
    ·cases i with
     | zero =>
       simp only [List.getElem?_cons_zero, oJ] at hi
       subst hi
       rw [i3 t hnot]
       simp [Tm.at, List.getD, List.getElem?_set, hc.1]
     | succ i =>
       simp only [List.getElem?_cons_succ] at hi ⊢
       exact i4 i k hi
   ·cases h
theorem EM : ∀ {ts : List Nat} {vs : List SV}, Jq tm ts = some vs -> vs.length = ts.length /\ ∀ (i t : Nat), ts[i]? = some t -> tm.at t = vs[i]?
 | [], vs, h => by simp only [Jq, oJ] at h; subst h; exact ⟨rfl, fun i t h => by simp at h⟩
 | t :: ts, vs, h => by
   simp only [Jq] at h
   split at h
   ·rename_i v l h1 h2
    simp only [oJ] at h; subst h
    obtain ⟨i1, i2⟩ := EM h2
    refine ⟨by simp [i1], fun i k hi => ?_⟩
    cases i with
    | zero => simp only [List.getElem?_cons_zero, oJ] at hi ⊢; subst hi; exact h1
    | succ i => simp only [List.getElem?_cons_succ] at hi ⊢; exact i2 i k hi
   ·cases h
theorem T3 {e : Ent} (he : l.get e.key = some e) (hG : GOK G Im0 w0) (hR : Rel l.F ρ w0 M0 Im0 ad m w) {nm : Nat} {args : List SV} {fo : Bool} {g : E} {v : SV}
 (h : Nj e m nm args fo = some (g, v, m')) (ht : g.tt l.F ρ = true) : ∃ (xs : List Int) (hs : Nat -> Hd) (M1 Im : Nat -> Prop), fits e.pks xs /\ e.pre xs /\ SV.concL l.F ρ ad args = SV.concL F0 (env xs) hs e.pgen.1 /\
  (∀ b, M1 b -> ¬ Im b /\ b < w.heap.size) /\ GOK G Im w /\ RelE F0 (env xs) w M1 Im hs e.pgen.2 w /\
  ∀ (w' : World) (hs' : Nat -> Hd) (Im' : Nat -> Prop), (∀ j, j < e.nn -> hs' j = hs j) -> (∀ b, Im b -> Im' b) -> (∀ b, Im' b -> Im b \/ M1 b \/ w.heap.size <= b) -> RelE F0 (env (xs ++ Am e.fn xs 0 e.oks)) w M1 Im' hs' e.oents w' ->
    ∃ ad', v.conc l.F ρ ad' = (BN e.ogen.1).conc F0 (env (xs ++ Am e.fn xs 0 e.oks)) hs' /\ Rel l.F ρ w0 M0 Im0 ad' m' w' /\ Ext ad ad' m m' /\ v.ok (al m') := by
 unfold Nj at h
 obtain ⟨⟨g1, v1, m1⟩, h1, h2⟩ := Option.map_eq_some_iff.1 h
 simp only [pJ] at h2
 obtain ⟨rfl, rfl, rfl⟩ := h2
 obtain ⟨t1, t2⟩ := AE ht
 have := (M4 he hG hR h1).2 t2
 rw [Jn t1] at this
 exact this
theorem FF {le : LEnt} {C : (Exit -> Act -> World -> Prop) -> Act -> World -> Prop} (he : l.get le.ent.key = some le.ent) (hL : Lo G le C) (hG : GOK G Im0 w0) {s : St} {g : E} {o : Out} (h : Jr le s = some (g, o)) (ht : g.tt l.F ρ = true) (hR : RelS l.F ρ w0 M0 Im0 ad s a w) {Q : Exit -> Act -> World -> Prop}
 (hA : After l.F ρ w0 M0 Im0 ad s.2 o Q) : C Q a w := by
 unfold Jr at h
 split at h
 ·rename_i args hargs
  have hnt : s.1.length = le.nt /\ Jq s.1 le.sl = some args := by
   split at hargs
   ·rename_i h; exact ⟨h, hargs⟩
   ·cases hargs
  obtain ⟨hnt, hargs⟩ := hnt
  split at h
  ·rename_i g1 vs m' hcall
   split at h
   ·rename_i d us hd
    split at h
    ·rename_i tm' hset
     simp only [oJ, pJ] at h
     obtain ⟨rfl, rfl⟩ := h
     have hR1 : RelS l.F ρ w0 M0 Im0 ad (s.1, shareL s.2 (shrN s.1 le.shr ++ objN s.2 le.ent.ps args)) a w := ⟨⟨hR.1.defers, hR.1.size, fun i v hv => ⟨(hR.1.slot i v hv).1, SV.ok_mono (fun k hk => (Cy _ _ _).2 hk) v (hR.1.slot i v hv).2⟩⟩, Rel.shareL _ hR.2⟩
     have hR' := hR1.extend (Sh.nnL le.ent.outL)
     have hcore : ∃ fo, Nj le.ent (shareL s.2 (shrN s.1 le.shr ++ objN s.2 le.ent.ps args) ++ List.replicate (Sh.nnL le.ent.outL) none) s.2.length args fo = some (g1, .tup vs, m') := by
      unfold VN at hcall
      split at hcall
      ·rename_i r hr
       simp only [oJ] at hcall; subst hcall
       exact ⟨_, hr⟩
      ·exact ⟨_, hcall⟩
     obtain ⟨fo, hcf⟩ := hcore
     obtain ⟨xs, hs, M1, Im, a1, a2, a3, a4, a5, a6, a7⟩ := T3 he hG hR'.2 hcf ht
     obtain ⟨g1, g2⟩ := EM hargs
     refine hL xs a1 a2 w M1 Im hs a4 a5 a6 a hR.1.defers (by rw [<- hnt]; exact hR.1.size) (fun i t hi => ?_) Q ?_
     ·rw [<- a3]
      have hv := g2 i t hi
      have hil : i < args.length := by have := (List.getElem?_eq_some_iff.1 hi).1; omega
      rw [List.getElem?_eq_getElem hil] at hv
      rw [(hR.1.slot t _ hv).1, Ae, List.getElem?_map, List.getElem?_eq_getElem hil, Option.map_some]
     ·intro a' w' hs' Im' Vs lab uv q1 q2 q3 q4 q5 q6 q7 q8 q9 q10
      obtain ⟨ad', r1, r2, r3, r4⟩ := a7 w' hs' Im' q1 q2 q3 q4
      rw [<- r1] at q5
      simp only [SV.conc, Value.tuple.injEq] at q5
      have hVs : Vs = SV.concL l.F ρ ad' vs := by
       have := congrArg Array.toList q5
       simpa using this.symm
      subst hVs
      obtain ⟨l1, l2, l3⟩ := P7 (F := l.F) (ρ := ρ) (ad := ad') hd
      rw [l1] at q6
      simp only [oJ, pJ] at q6
      obtain ⟨rfl, rfl⟩ := q6
      obtain ⟨s1, s2, s3, s4⟩ := Nl hset
      obtain ⟨c1, c2⟩ := Nk le.wr s.1
      have hx : Ext ad ad' s.2 m' := ⟨fun k hk => r3.same k (by rw [Cz, Cy]; exact hk), fun k hk => r3.keep k (by rw [Cz, Cy]; exact hk)⟩
      refine hA (tm', m') ad' a' w' ?_ ⟨⟨q10, ?_, fun k v hv => ?_⟩, r2⟩ hx
      ·have : ∀ (ls : List Lab) (x : Lab), x ∈ ls -> lk x (ls.map fun l => (l, (tm', m'))) = some (tm', m') := by
        intro ls x hx
        induction ls with
        | nil => cases hx
        | cons k ls ih =>
          simp only [List.map_cons, lk]
          split
          ·rfl
          ·rename_i hne
           rcases List.mem_cons.1 hx with h | h
           ·exact (hne h.symm).elim
           ·exact ih h
       exact this le.labs _ l3
      ·show a'.tmps.size = tm'.length
       rw [s1, c1, q9]; exact hR.1.size
      ·have hokus := l2 _ r4
       change tm'.at k = some v at hv
       by_cases hk : k ∈ le.so
       ·obtain ⟨i, hi, hik⟩ := List.getElem_of_mem hk
        have hik' : le.so[i]? = some k := by rw [List.getElem?_eq_getElem hi, hik]
        have h1 := s4 i k hik'
        rw [hv] at h1
        have h2 := q7 i k hik'
        rw [Ae, List.getElem?_map, <- h1, Option.map_some] at h2
        exact ⟨h2, Dr hokus h1.symm⟩
       ·rw [s3 k hk] at hv
        obtain ⟨j1, j2⟩ := c2 k v hv
        obtain ⟨k1, k2⟩ := hR.1.slot k v j1
        exact ⟨by rw [q8 k hk j2, k1, SV.conc_congr hx.same v k2], SV.ok_mono hx.keep v k2⟩
    ·cases h
   ·cases h
  ·cases h
 ·cases h
end
abbrev BO := List Bool -> Option LEnt
def AJ : Code -> List Bool -> Option Code
 | .seq x y, b :: p => bif b then AJ y p else AJ x p
 | .cond _ x y, b :: p => bif b then AJ y p else AJ x p
 | .block _ c, _ :: p => AJ c p
 | .loop c, _ :: p => AJ c p
 | c, [] => some c
 | _, _ :: _ => none
def Kg (f : St -> Option (E × Out)) (r : E × Out) : Option (E × Out) :=
 match lk .nrm r.2.2 with
 | none => some r
 | some s1 => match f s1 with
   | some q => match S9 r.2 q.2 with
     | some o => some (andB r.1 (impB (r.2.1.is .nrm) q.1), o)
     | none => none
   | none => none
def Kh (f : St -> Option (E × Out)) : Nat -> St -> Option (E × Out)
 | 0, _ => none
 | n + 1, s => match f s with
   | some r => Kg (Kh f n) r
   | none => none
def padTo (m : Mem) (o : Option (E × Out)) : Nat :=
 match o with
 | some r => r.2.2.foldl (fun k x => max k x.2.2.length) m.length - m.length
 | none => 0
def brE (e : E) (x y : Option (E × Out)) : Option (E × Out) :=
 match x, y with
 | some ox, some oy => match TP e ox.2 oy.2 with
   | some o => some (andB (impB e ox.1) (impB (Ao e) oy.1), o)
   | none => none
 | some ox, none => some (andB e ox.1, ox.2)
 | none, some oy => some (andB (Ao e) oy.1, oy.2)
 | none, none => none
def AK (P : Program) (G : Glob) (T : Tab) (call : Into) (N : Nat) : BO -> Code -> St -> Option (E × Out)
 | _, .skip, s => some (mkB true, .leaf .nrm, [(.nrm, s)])
 | _, .label _, s => some (mkB true, .leaf .nrm, [(.nrm, s)])
 | _, .region _ ops true, s => match Ru P G T ops s with
   | some (g, s') => some (g, .leaf .nrm, [(.nrm, s')])
   | none => none
 | _, .region _ ops false, s => match Ni P G T call ops ops.toList s with
   | some (g, s') => some (g, .leaf .nrm, [(.nrm, s')])
   | none => none
 | L, .seq x y, s => match L [] with
   | some le => Jr le s
   | none => match AK P G T call N (fun p => L (false :: p)) x s with
     | some r => Kg (AK P G T call N (fun p => L (true :: p)) y) r
     | none => none
 | L, .cond c x y, s => match TV s c with
   | some e => match e.lit? with
     | some n => bif i2b n then AK P G T call N (fun p => L (false :: p)) x s else AK P G T call N (fun p => L (true :: p)) y s
     | none => match AK P G T call N (fun p => L (false :: p)) x s with
       | ox => brE e ox (AK P G T call N (fun p => L (true :: p)) y (s.1, s.2 ++ List.replicate (padTo s.2 ox) none))
   | none => none
 | L, .block id body, s => match AK P G T call N (fun p => L (false :: p)) body s with
   | some r => match Rr id r.2 with
     | some o => some (r.1, o)
     | none => none
   | none => none
 | L, .loop body, s => match L [] with
   | some le => Jr le s
   | none => Kh (AK P G T call N (fun p => L (false :: p)) body) N s
 | _, .exit id, s => some (mkB true, .leaf (.ex id), [(.ex id, s)])
 | _, .ret, s => some (mkB true, .leaf .ret, [(.ret, s)])
 | _, _, _ => none
def resS (P : Program) (s : St) : List ResultVar -> Option (E × List SV)
 | [] => some (mkB true, [])
 | .tmp t :: r => match getC [] s.1.at (.tmp t), resS P s r with
   | some v, some l => some (l.1, v :: l.2)
   | _, _ => none
 | .cell t ty :: r => match getC [] s.1.at (.tmp t), F8 P ty, szOf P ty with
   | some (.ptr n off), some ag, some sz => match blkC s.2 n with
     | some (g, _, cs) => match rdC cs off sz ag, resS P s r with
       | some v, some l => some (andB g l.1, v :: l.2)
       | _, _ => none
     | none => none
   | _, _, _ => none
def Qn : List SV -> SV
 | [v] => v
 | l => .tup l
def Ry (P : Program) (fn : Func) (s : St) : Option (E × SV × Mem) := (resS P s fn.results.toList).map fun l => (l.1, Qn l.2, s.2)
def H8 : List (Lab × St) -> Bool
 | [] => true
 | (l, _) :: r => (decide (l = .nrm) || decide (l = .ret)) && H8 r
def T4 (m : Mem) (o : Out) : Option St :=
 bif H8 o.2 then
  match lk .ret o.2, lk .nrm o.2 with
  | some s, none => some s
  | none, some s => some s
  | some s, some s' => Gx (o.1.is .ret) s s'
  | none, none => none
 else none
def tm0 (n : Nat) (args : List SV) : Tm := args.map some ++ List.replicate (n - args.length) (some .und)
def evFn (P : Program) (G : Glob) (T : Tab) (LT : Nat -> BO) (N : Nat) : Nat -> Into
 | 0, _, _, _ => none
 | n + 1, f, args, m => match P.funcs[f]? with
   | some fn => match fn.body with
     | some c => match AK P G T (evFn P G T LT N n) N (LT f) c (tm0 fn.ntmps args, m) with
       | some r => match T4 m r.2 with
         | some s => match Ry P fn s with
           | some q => some (andB r.1 q.1, q.2)
           | none => none
         | none => none
       | none => none
     | none => none
   | none => none
section
variable {P : Program} {ρ : Nat -> Int} {G : Glob} {T : Tab} {l : Tabs} {w0 w : World} {M0 Im0 : Nat -> Prop} {ad : Nat -> Hd} {m m2 m' : Mem} {tm : Tm} {en : Env} {a : Act}
def GB (P : Program) (G : Glob) (l : Tabs) (L : BO) (c : Code) : Prop :=
 ∀ p le, L p = some le -> ∀ body, AJ c p = some body -> l.get le.ent.key = some le.ent /\ CodeOK P G body le
theorem EN {f : St -> Option (E × Out)} {r : E × Out} {s0 : Mem} {g : E} {o : Out} (h : Kg f r = some (g, o)) (ht : g.tt l.F ρ = true) {Q : Exit -> Act -> World -> Prop} {K : Act -> World -> Prop}
 (hA : After l.F ρ w0 M0 Im0 ad s0 o Q)
 (hK : ∀ s1 g2 o2 ad' a' w', f s1 = some (g2, o2) -> g2.tt l.F ρ = true -> RelS l.F ρ w0 M0 Im0 ad' s1 a' w' -> After l.F ρ w0 M0 Im0 ad' s1.2 o2 Q -> K a' w') :
 r.1.tt l.F ρ = true /\ After l.F ρ w0 M0 Im0 ad s0 r.2 (Exit.then K Q) := by
 unfold Kg at h
 split at h
 ·rename_i hn
  simp only [oJ] at h; subst h
  refine ⟨ht, fun q ad' a' w' hq hR' hx => ?_⟩
  have hne : o.1.eval l.F ρ ≠ .nrm := fun e => by rw [e, hn] at hq; cases hq
  have := hA q ad' a' w' hq hR' hx
  cases hl : o.1.eval l.F ρ with
  | nrm => exact (hne hl).elim
  | ret => rw [hl] at this; exact this
  | ex id => rw [hl] at this; exact this
 ·rename_i s1 hn
  split at h
  ·rename_i q0 hq0
   split at h
   ·rename_i o' ho'
    simp only [oJ, pJ] at h
    obtain ⟨rfl, rfl⟩ := h
    obtain ⟨t1, t2⟩ := AE ht
    obtain ⟨j1, j2⟩ := After.join ho' hA
    refine ⟨t1, fun q ad' a' w' hq hR' hx => ?_⟩
    by_cases he : r.2.1.eval l.F ρ = .nrm
    ·rw [he] at hq ⊢
     rw [hn] at hq
     simp only [oJ] at hq
     subst hq
     refine hK s1 q0.1 q0.2 ad' a' w' hq0 (GA t2 (DT.is_true he)) hR' fun q' ad'' a'' w'' hq' hR'' hx' => ?_
     exact j2 he q' ad'' a'' w'' hq' hR'' (hx.trans hx')
    ·have := j1 he q ad' a' w' hq hR' hx
     cases hl : r.2.1.eval l.F ρ with
     | nrm => exact (he hl).elim
     | ret => rw [hl] at this; exact this
     | ex id => rw [hl] at this; exact this
   ·cases h
  ·cases h
theorem VO {e : E} {x y : Option (E × Out)} {s0 : Mem} {g : E} {o : Out} (h : brE e x y = some (g, o)) (ht : g.tt l.F ρ = true) {Q : Exit -> Act -> World -> Prop} (hA : After l.F ρ w0 M0 Im0 ad s0 o Q) :
 (e.tt l.F ρ = true -> ∃ g1 o1, x = some (g1, o1) /\ g1.tt l.F ρ = true /\ After l.F ρ w0 M0 Im0 ad s0 o1 Q) /\ (e.tt l.F ρ = false -> ∃ g1 o1, y = some (g1, o1) /\ g1.tt l.F ρ = true /\ After l.F ρ w0 M0 Im0 ad s0 o1 Q) := by
 have hnot : e.tt l.F ρ = false -> (Ao e).tt l.F ρ = true := fun h => by rw [(Ag e l.F ρ).1, h]; rfl
 unfold brE at h
 split at h
 ·rename_i ox oy
  split at h
  ·rename_i o' ho'
   simp only [oJ, pJ] at h
   obtain ⟨rfl, rfl⟩ := h
   obtain ⟨t1, t2⟩ := AE ht
   obtain ⟨j1, j2⟩ := After.br ho' hA
   exact ⟨fun he => ⟨ox.1, ox.2, rfl, GA t1 he, j1 he⟩, fun he => ⟨oy.1, oy.2, rfl, GA t2 (hnot he), j2 he⟩⟩
  ·cases h
 ·rename_i ox
  simp only [oJ, pJ] at h
  obtain ⟨rfl, rfl⟩ := h
  obtain ⟨t1, t2⟩ := AE ht
  exact ⟨fun _ => ⟨ox.1, ox.2, rfl, t2, hA⟩, fun he => by rw [t1] at he; cases he⟩
 ·rename_i oy
  simp only [oJ, pJ] at h
  obtain ⟨rfl, rfl⟩ := h
  obtain ⟨t1, t2⟩ := AE ht
  rw [(Ag e l.F ρ).1] at t1
  exact ⟨fun he => (by rw [he] at t1; cases t1), fun _ => ⟨oy.1, oy.2, rfl, t2, hA⟩⟩
 ·cases h
theorem EO (hm : P.follows .mixedOrders = true) (hS : CC P G l T) (hG : GOK G Im0 w0) {call : Into} (hI : DJ P l ρ w0 M0 Im0 call) {N : Nat} : ∀ (c : Code) (L : BO) (s : St) (g : E) (o : Out) (ad : Nat -> Hd) (a : Act) (w : World) (Q : Exit -> Act -> World -> Prop),
 GB P G l L c -> AK P G T call N L c s = some (g, o) -> g.tt l.F ρ = true -> RelS l.F ρ w0 M0 Im0 ad s a w -> After l.F ρ w0 M0 Im0 ad s.2 o Q -> c.wp P Q a w := by
 intro c
 induction c with
 | skip =>
   intro L s g o ad a w Q hL h ht hR hA
   simp only [AK, oJ, pJ] at h
   obtain ⟨rfl, rfl⟩ := h
   exact wp_skip (hA s ad a w (by simp [lk, DT.eval]) hR (Ext.refl _ _))
 | label k =>
   intro L s g o ad a w Q hL h ht hR hA
   simp only [AK, oJ, pJ] at h
   obtain ⟨rfl, rfl⟩ := h
   exact wp_label (hA s ad a w (by simp [lk, DT.eval]) hR (Ext.refl _ _))
 | region id ops draw =>
   intro L s g o ad a w Q hL h ht hR hA
   cases draw with
   | true =>
     simp only [AK] at h
     split at h
     ·rename_i g1 s' h1
      simp only [oJ, pJ] at h
      obtain ⟨rfl, rfl⟩ := h
      exact (TT hm hS hG h1).2 ht hR fun ad' a' w' hR' hx => hA s' ad' a' w' (by simp [lk, DT.eval]) hR' hx
     ·cases h
   | false =>
     simp only [AK] at h
     split at h
     ·rename_i g1 s' h1
      simp only [oJ, pJ] at h
      obtain ⟨rfl, rfl⟩ := h
      exact wp_region_list (L6 hS hG hI ops.toList s s' g1 ad a w h1 ht hR fun ad' a' w' hR' hx => hA s' ad' a' w' (by simp [lk, DT.eval]) hR' hx)
     ·cases h
 | seq x y ihx ihy =>
   intro L s g o ad a w Q hL h ht hR hA
   simp only [AK] at h
   split at h
   ·rename_i le hle
    obtain ⟨l1, l2⟩ := hL [] le hle (.seq x y) rfl
    exact FF l1 l2 hG h ht hR hA
   split at h
   ·rename_i r hr
    obtain ⟨t1, t2⟩ := EN (K := y.wp P Q) h ht hA fun s1 g2 o2 ad' a' w' h2 ht2 hR' hA' => ihy _ s1 g2 o2 ad' a' w' Q (fun p le hp body hb => hL (true :: p) le hp body hb) h2 ht2 hR' hA'
    exact wp_seq (ihx _ s r.1 r.2 ad a w _ (fun p le hp body hb => hL (false :: p) le hp body hb) hr t1 hR t2)
   ·cases h
 | cond c x y ihx ihy =>
   intro L s g o ad a w Q hL h ht hR hA
   simp only [AK] at h
   split at h
   ·rename_i e he
    obtain ⟨hk, hev⟩ := TY hR.1 he
    split at h
    ·rename_i n hn
     have htn := lit?_tt hn l.F ρ
     rw [htn] at hev
     cases hi : i2b n
     ·rw [hi] at h hev
      exact wp_cond (t := false) hev (ihy _ s g o ad a w Q (fun p le hp body hb => hL (true :: p) le hp body hb) h ht hR hA)
     ·rw [hi] at h hev
      exact wp_cond (t := true) hev (ihx _ s g o ad a w Q (fun p le hp body hb => hL (false :: p) le hp body hb) h ht hR hA)
    ·obtain ⟨j1, j2⟩ := VO h ht hA
     rcases Bool.eq_false_or_eq_true (e.tt l.F ρ) with hte | hte
     ·rw [hte] at hev
      obtain ⟨g1, o1, k1, k2, k3⟩ := j1 hte
      exact wp_cond (t := true) hev (ihx _ s g1 o1 ad a w Q (fun p le hp body hb => hL (false :: p) le hp body hb) k1 k2 hR k3)
     ·rw [hte] at hev
      obtain ⟨g1, o1, k1, k2, k3⟩ := j2 hte
      refine wp_cond (t := false) hev (ihy _ _ g1 o1 ad a w Q (fun p le hp body hb => hL (true :: p) le hp body hb) k1 k2 (hR.extend _) fun q ad' a' w' hq hR' hx => k3 q ad' a' w' hq hR' ⟨fun k hk => hx.same k ?_, fun k hk => hx.keep k ?_⟩) <;> simpa [Cz] using hk
   ·cases h
 | block id body ih =>
   intro L s g o ad a w Q hL h ht hR hA
   simp only [AK] at h
   split at h
   ·rename_i r hr
    split at h
    ·rename_i o' ho'
     simp only [oJ, pJ] at h
     obtain ⟨rfl, rfl⟩ := h
     exact wp_block (ih _ s r.1 r.2 ad a w _ (fun p le hp body hb => hL (false :: p) le hp body hb) hr ht hR (After.rel ho' hA))
    ·cases h
   ·cases h
 | loop body ih =>
   intro L s g o ad a w Q hL h ht hR hA
   simp only [AK] at h
   split at h
   ·rename_i le hle
    obtain ⟨l1, l2⟩ := hL [] le hle (.loop body) rfl
    exact FF l1 l2 hG h ht hR hA
   ·refine wp_loop_rounds N ?_
    have key : ∀ (n : Nat) (s : St) (g : E) (o : Out) (ad : Nat -> Hd) (a : Act) (w : World), Kh (AK P G T call N (fun p => L (false :: p)) body) n s = some (g, o) -> g.tt l.F ρ = true -> RelS l.F ρ w0 M0 Im0 ad s a w -> After l.F ρ w0 M0 Im0 ad s.2 o Q -> Code.rounds P body Q n a w := by
     intro n
     induction n with
     | zero => intro s g o ad a w h; simp [Kh] at h
     | succ n ihn =>
       intro s g o ad a w h ht hR hA
       simp only [Kh] at h
       split at h
       ·rename_i r hr
        rw [rounds_succ]
        obtain ⟨t1, t2⟩ := EN (K := Code.rounds P body Q n) h ht hA fun s1 g2 o2 ad' a' w' h2 ht2 hR' hA' => ihn s1 g2 o2 ad' a' w' h2 ht2 hR' hA'
        exact ih _ s r.1 r.2 ad a w _ (fun p le hp body hb => hL (false :: p) le hp body hb) hr t1 hR t2
       ·cases h
    exact key N s g o ad a w h ht hR hA
 | exit id =>
   intro L s g o ad a w Q hL h ht hR hA
   simp only [AK, oJ, pJ] at h
   obtain ⟨rfl, rfl⟩ := h
   exact wp_exit (hA s ad a w (by simp [lk, DT.eval]) hR (Ext.refl _ _))
 | ret =>
   intro L s g o ad a w Q hL h ht hR hA
   simp only [AK, oJ, pJ] at h
   obtain ⟨rfl, rfl⟩ := h
   exact wp_ret (hA s ad a w (by simp [lk, DT.eval]) hR (Ext.refl _ _))
 | _ => intro L s g o ad a w Q hL h; simp [AK] at h
def resM (a : Act) : ResultVar -> Sem Value
 | .tmp t => pure (a.tmps.getD t undef)
 | .cell t ty => do loadVar ty (<- asAddr (a.tmps.getD t undef))
theorem Mp {F : Fam} (hR : RelS F ρ w0 M0 Im0 ad (tm, m) a w) : ∀ (rs : List ResultVar) (q : E × List SV), resS P (tm, m) rs = some q -> q.1.tt F ρ = true ->
 (rs.mapM (resM a)).run P w = .ok (SV.concL F ρ ad q.2) w /\ SV.okL (al m) q.2
 | [], q, h, ht => by simp only [resS, oJ] at h; subst h; exact ⟨rfl, trivial⟩
 | .tmp t :: r, q, h, ht => by
   simp only [resS] at h
   split at h
   ·rename_i v l' h1 h2
    simp only [oJ] at h; subst h
    obtain ⟨i1, i2⟩ := BC hR.1.envV (cs := []) rfl h1
    obtain ⟨j1, j2⟩ := Mp hR r l' h2 ht
    have i1' : a.tmps.getD t undef = v.conc F ρ ad := i1
    refine ⟨?_, i2, j2⟩
    simp only [List.mapM_cons, Sem.run_bind, Sem.run_pure, Result.andThen_ok, resM, j1, i1', SV.concL]
   ·cases h
 | .cell t ty :: r, q, h, ht => by
   simp only [resS] at h
   split at h
   ·rename_i n off ag sz h1 h2 h3
    split at h
    ·rename_i g ty' cs h4
     split at h
     ·rename_i v l' h5 h6
      simp only [oJ] at h; subst h
      obtain ⟨t1, t2⟩ := AE ht
      obtain ⟨i1, i2⟩ := BC hR.1.envV (cs := []) rfl h1
      obtain ⟨j1, j2⟩ := Mp hR r l' h6 t2
      obtain ⟨_, Im, _, _, hI⟩ := hR.2
      obtain ⟨b1, b2⟩ := Bz h4
      have hh : w.heap[(ad n).blk]? = some (.cells (SV.concL F ρ ad cs).toArray ty' (0, 0)) := (hI.ent n g _ b1 t1).1
      have hcell : ∀ j u, (SV.concL F ρ ad cs)[j]? = some u -> w.cell? ⟨(ad n).blk, 0 + j, none⟩ = some u := fun j u hu => by
       rw [Nat.zero_add, Bi hh]; simpa using hu
      obtain ⟨k1, k2⟩ := E5 (P := P) hcell h5
      rw [Nat.zero_add] at k1
      have i1' : a.tmps.getD t undef = .pointer (some ⟨(ad n).blk, off, none⟩) := i1
      refine ⟨?_, k2 _ (hI.ok n g _ b1), j2⟩
      have hl := Dt (P := P) (w := w) (b := (ad n).blk) (off := off) h2 h3
      rw [k1] at hl
      simp only [Instr.loadAt, Instr.sureAddr, Sem.run_bind, Sem.run_pure, Result.andThen_ok] at hl
      have hlv : (loadVar ty ⟨(ad n).blk, off, none⟩).run P w = .ok (v.conc F ρ ad) w := by
       cases hx : (loadVar ty ⟨(ad n).blk, off, none⟩).run P w with
       | ok x w' =>
         rw [hx] at hl
         simp only [Result.andThen_ok, Result.ok.injEq, Next.value.injEq] at hl
         rw [hl.1, hl.2]
       | halt x w' => rw [hx] at hl; cases hl
      have ha : asAddr (.pointer (some ⟨(ad n).blk, off, none⟩)) = (pure ⟨(ad n).blk, off, none⟩ : Sem Addr) := rfl
      simp only [List.mapM_cons, Sem.run_bind, Sem.run_pure, Result.andThen_ok, resM, j1, i1', SV.concL, ha, hlv]
     ·cases h
    ·cases h
   ·cases h
theorem SN {F : Fam} (hR : RelS F ρ w0 M0 Im0 ad (tm, m) a w) {fn : Func} {g : E} {v : SV} {m' : Mem} (h : Ry P fn (tm, m) = some (g, v, m')) (ht : g.tt F ρ = true) :
 m' = m /\ (results fn a.tmps).run P w = .ok (v.conc F ρ ad) w /\ v.ok (al m) := by
 unfold Ry at h
 obtain ⟨q, h1, h2⟩ := Option.map_eq_some_iff.1 h
 obtain ⟨gq, l⟩ := q
 simp only [pJ] at h2
 obtain ⟨rfl, rfl, rfl⟩ := h2
 obtain ⟨j1, j2⟩ := Mp hR fn.results.toList _ h1 ht
 simp only at j1 j2
 have htu : (Qn l).conc F ρ ad = if hs : (SV.concL F ρ ad l).toArray.size = 1 then (SV.concL F ρ ad l).toArray[0] else .tuple (SV.concL F ρ ad l).toArray := by
  unfold Qn
  split
  ·simp [SV.concL]
  ·rename_i hne
   rw [dif_neg]
   ·rfl
   ·intro hs
    rw [Ae, List.size_toArray, List.length_map] at hs
    obtain ⟨v, hv⟩ := List.length_eq_one_iff.1 hs
    exact hne v hv
 refine ⟨rfl, ?_, ?_⟩
 ·rw [htu]
  have hres : results fn a.tmps = (do let vs <- fn.results.mapM (resM a); pure (if h : vs.size = 1 then vs[0] else .tuple vs)) := by
   unfold results
   congr 2
  rw [hres, Array.mapM_eq_mapM_toList]
  simp only [Sem.run_bind, Sem.run_map, Sem.run_pure]
  rw [j1]
  rfl
 ·unfold Qn
  split
  ·exact j2.1
  ·simp only [SV.ok]; exact j2
theorem Ki : ∀ {xs : List (Lab × St)}, H8 xs = true -> ∀ l q, lk l xs = some q -> l = .nrm \/ l = .ret
 | [], _, l, q, h => by simp [lk] at h
 | (k, s) :: r, h, l, q, hq => by
   simp only [H8, Bool.and_eq_true, Bool.or_eq_true, decide_eq_true_eq] at h
   simp only [lk] at hq
   split at hq
   ·rename_i hk; subst hk; exact h.1
   ·exact Ki h.2 l q hq
theorem XK {F : Fam} {args : List SV} {n : Nat} (hok : SV.okL (al m) args) : RelT F ρ ad m (tm0 n args) { tmps := (SV.concL F ρ ad args).toArray ++ Array.replicate (n - (SV.concL F ρ ad args).toArray.size) undef, defers := [] } := by
 refine ⟨rfl, by simp [Ae, tm0], fun i u hu => ?_⟩
 simp only [Tm.at, List.getD, tm0] at hu
 by_cases hi : i < args.length
 ·rw [List.getElem?_append_left (by simpa using hi)] at hu
  simp only [List.getElem?_map, List.getElem?_eq_getElem hi, Option.map_some, Option.getD_some, oJ] at hu
  subst hu
  refine ⟨?_, Dr hok (List.getElem?_eq_getElem hi)⟩
  simp only [Ae, Array.getElem?_append, List.size_toArray, List.length_map, hi, if_true]
  simp [hi]
 ·rw [List.getElem?_append_right (by simpa using hi), List.getElem?_replicate] at hu
  split at hu
  ·rename_i hlt
   simp only [Option.getD_some, oJ] at hu
   subst hu
   refine ⟨?_, trivial⟩
   simp only [List.length_map] at hlt
   simp only [Ae, List.size_toArray, List.length_map, Array.getElem?_append]
   rw [if_neg hi]
   simp [Array.getElem?_replicate, hlt, SV.conc]
  ·simp at hu
theorem T6 {F : Fam} {o : Out} {s : St} (h : T4 m o = some s) {q : St} (hq : lk (o.1.eval F ρ) o.2 = some q) : (o.1.eval F ρ = .nrm \/ o.1.eval F ρ = .ret) /\ (∀ ad a w, RelS F ρ w0 M0 Im0 ad q a w -> RelS F ρ w0 M0 Im0 ad s a w) /\ ∀ k, al q.2 k -> al s.2 k := by
 unfold T4 at h
 cases hor : H8 o.2
 ·rw [hor] at h; cases h
 ·rw [hor] at h
  simp only [cond_true] at h
  have hlab := Ki hor _ _ hq
  refine ⟨hlab, ?_⟩
  split at h
  ·rename_i s' h1 h2
   simp only [oJ] at h; subst h
   rcases hlab with hl | hl
   ·rw [hl, h2] at hq; cases hq
   ·rw [hl, h1] at hq
    simp only [oJ] at hq; subst hq
    exact ⟨fun _ _ _ h => h, fun _ h => h⟩
  ·rename_i s' h1 h2
   simp only [oJ] at h; subst h
   rcases hlab with hl | hl
   ·rw [hl, h2] at hq
    simp only [oJ] at hq; subst hq
    exact ⟨fun _ _ _ h => h, fun _ h => h⟩
   ·rw [hl, h1] at hq; cases hq
  ·rename_i s1 s2 h1 h2
   obtain ⟨k1, k2, k3⟩ := B9 (F := F) (ρ := ρ) (w0 := w0) (M0 := M0) (Im0 := Im0) h
   rcases hlab with hl | hl
   ·rw [hl, h2] at hq
    simp only [oJ] at hq; subst hq
    exact ⟨fun ad a w hR => k3 ad a w (DT.is_false (by rw [hl]; exact fun e => by cases e)) hR, fun k hk => k1 k (Or.inr hk)⟩
   ·rw [hl, h1] at hq
    simp only [oJ] at hq; subst hq
    exact ⟨fun ad a w hR => k2 ad a w (DT.is_true hl) hR, fun k hk => k1 k (Or.inl hk)⟩
  ·cases h
def LTOK (P : Program) (G : Glob) (l : Tabs) (LT : Nat -> BO) : Prop := ∀ f fn c, P.funcs[f]? = some fn -> fn.body = some c -> GB P G l (LT f) c
theorem EP (hm : P.follows .mixedOrders = true) (hS : CC P G l T) (hG : GOK G Im0 w0) {LT : Nat -> BO} (hLT : LTOK P G l LT) {N : Nat} : ∀ n, DJ P l ρ w0 M0 Im0 (evFn P G T LT N n)
 | 0 => fun f args m ob v m' h => by simp [evFn] at h
 | n + 1 => fun f args m ob v m' h ht ad w hM hok => by
   simp only [evFn] at h
   split at h
   ·rename_i fn hf
    split at h
    ·rename_i c hc
     split at h
     ·rename_i r hr
      split at h
      ·rename_i s hs
       split at h
       ·rename_i q hq
        obtain ⟨gq, vq, mq⟩ := q
        simp only [oJ, pJ] at h
        obtain ⟨rfl, rfl, rfl⟩ := h
        obtain ⟨t1, t2⟩ := AE ht
        refine calls_of_wp hf hc ?_
        refine EO hm hS hG (EP hm hS hG hLT n) c (LT f) _ r.1 r.2 ad _ w _ (hLT f fn c hf hc) hr t1 ⟨XK hok, hM⟩ ?_
        intro q0 ad' a' w' hq0 hR' hx
        obtain ⟨e1, e2, e3⟩ := T6 (w0 := w0) (M0 := M0) (Im0 := Im0) hs hq0
        have hRs := e2 ad' a' w' hR'
        obtain ⟨f1, f2, f3⟩ := SN (P := P) (tm := s.1) (m := s.2) hRs (fn := fn) hq t2
        subst f1
        have hb : a'.defers = [] /\ ∃ u, (results fn a'.tmps).run P w' = .ok u w' /\ (fun e w' => ∃ ad', e = Ending.returned (vq.conc l.F ρ ad') /\ Rel l.F ρ w0 M0 Im0 ad' s.2 w' /\ Ext ad ad' m s.2 /\ vq.ok (al s.2)) (.returned u) w' :=
         ⟨hRs.1.defers, _, f2, ad', rfl, hRs.2, ⟨hx.same, fun k hk => e3 k (hx.keep k hk)⟩, f3⟩
        rcases e1 with hl | hl <;> rw [hl] <;> exact hb
       ·cases h
      ·cases h
     ·cases h
    ·cases h
   ·cases h
end
def FG (l : Ents) (n : Nat) : Mem := (List.range n).map fun j => (l.find? fun x => x.1 == j).map (·.2)
def start (e : Ent) (k : Nat) : Mem := FG e.pgen.2 e.nn ++ List.replicate k (some (mkB true, .dead))
def DB (e : Ent) : Bool := (Sh.refsL e.ps).all fun j => decide (j < e.nn)
def Kj (m : Mem) : List Ob -> Option (E × List SV)
 | [] => some (mkB true, [])
 | o :: r => match m.at o.j with
   | some (g, b) => match unO b with
     | some (ty', tl', vs) => if ty' = o.ty /\ tl' = o.tl /\ vs.length = o.cs.length then (Kj m r).map fun q => (andB g q.1, vs ++ q.2) else none
     | none => none
   | none => none
def Fb : Blk -> Blk -> Bool
 | .cells ty cs, .cells ty' cs' => decide (ty = ty') && SV.sameL cs cs'
 | .lst ty row own le c, .lst ty' row' own' le' c' => decide (ty = ty') && decide (row = row') && decide (own = own') && le.same le' && c.same c'
 | .mp ks vs kag vag c, .mp ks' vs' kag' vag' c' => decide (ks = ks') && decide (vs = vs') && decide (kag = kag') && decide (vag = vag') && c.same c'
 | .seg ty cs ks c, .seg ty' cs' ks' c' => decide (ty = ty') && decide (ks = ks') && SV.sameL cs cs' && c.same c'
 | _, _ => false
def Lp (m : Mem) : Ents -> Option E
 | [] => some (mkB true)
 | x :: r => match m.at x.1 with
   | some (g, b) => if Fb b x.2.2 = true then (Lp m r).map fun q => andB (impB x.2.1 g) q else none
   | none => none
def accN (n : Nat) : List Src := (List.range n).map Src.nm
def H9 (off str : Nat) : SV -> SV
 | .ptr n o => if 0 < str /\ off <= o /\ (o - off) % str = 0 /\ (o - off) / str <= 1000000 then .pi n off str (.lit (.i .i64) ((o - off) / str : Nat)) else .ptr n o
 | .ite p a b => match H9 off str a, H9 off str b with
   | .pi n o s e, .pi n' o' s' e' => if n' = n /\ o' = o /\ s' = s /\ p.kind = .b /\ e.kind = .i .i64 /\ e'.kind = .i .i64 then .pi n o s (mkIte p e e') else .ite p a b
   | _, _ => .ite p a b
 | v => v
mutual
def fitV : Sh -> SV -> E × SV
 | .lt k n, .sc e => Nm k n e
 | .nul c, .ite p a b => Kk c p a b
 | .obj .., v => Bb v
 | .seg .., v => Bb v
 | .ref _, v => Bb v
 | .pin _ off str, v => (mkB true, H9 off str v)
 | .tup l, .tup vs => ((fitL l vs).1, .tup (fitL l vs).2)
 | .agg l, .agg vs => ((fitL l vs).1, .agg (fitL l vs).2)
 | _, v => (mkB true, v)
def fitL : List Sh -> List SV -> E × List SV
 | s :: l, v :: vs => (mkAnd (fitV s v).1 (fitL l vs).1, (fitV s v).2 :: (fitL l vs).2)
 | _, vs => (mkB true, vs)
def Nm (k : K) (n : Int) (e : E) : E × SV :=
 match e.lit? with
 | some _ => (mkB true, .sc e)
 | none => if e.kind = k then
  match k with
  | .b => (bif i2b n then e else Ao e, .sc (.lit .b n))
  | .i _ => (mkCmp .eql e (.lit k n), .sc (.lit k n))
  | .x => (mkB true, .sc e)
   else (mkB true, .sc e)
def Kk (c : CV) (p : E) (a b : SV) : E × SV :=
 if p.kind = .b then
  match a, b with
  | .nilp c', _ => if c' = c then (p, .nilp c) else (mkB true, .ite p a b)
  | _, .nilp c' => if c' = c then (Ao p, .nilp c) else (mkB true, .ite p a b)
  | _, _ => (mkB true, .ite p a b)
 else (mkB true, .ite p a b)
end
mutual
def svN : SV -> List Nat
 | .sv n _ _ _ _ => [n]
 | .fn _ cs | .agg cs | .tup cs => svNL cs
 | .gd _ v => svN v
 | .ite _ a b => svN a ++ svN b
 | _ => []
def svNL : List SV -> List Nat
 | [] => []
 | v :: r => svN v ++ svNL r
end
def W8 (m : Mem) (v : SV) : List Nat := svN v ++ m.flatMap fun x => match x with
 | some (_, b) => svNL b.cs
 | none => []
mutual
def shNV (m : Mem) : Sh -> SV -> List Nat
 | .lst _ _ false, v => namesV v
 | .agg l, .agg vs => shNL m l vs
 | .tup l, .tup vs => shNL m l vs
 | .obj _ cs, .ptr n 0 => match m.at n with
   | some (_, .cells _ vs) => shNL m cs vs
   | _ => []
 | _, _ => []
def shNL (m : Mem) : List Sh -> List SV -> List Nat
 | s :: l, v :: vs => shNV m s v ++ shNL m l vs
 | _, _ => []
end
def W9 (e : Ent) (m : Mem) (v : SV) : List Nat := match Kj m e.os with
 | some (_, V) => shNL m e.outL (V ++ [v])
 | none => []
def Ia (e : Ent) (m : Mem) (v : SV) : Option (E × List E) :=
 match Kj m e.os, Lp m (TK e.kp e.pgen.2) with
 | some (g1, V), some g2 => match Sh.getL m e.outL (accN e.nn) (fitL e.outL (V ++ [v])).2 with
   | some (es, srcs, g3) => if (FJ ((mutJ e.oents).flatMap (srcOf (accN e.nn ++ srcs))) && (e.os.all fun o => decide (o.j < e.nn)) && DB e) = true /\ ((fitL e.outL (V ++ [v])).2.map isXv = (V ++ [v]).map isXv) then some (andB g1 (andB g2 (andB (fitL e.outL (V ++ [v])).1 g3)), es) else none
   | none => none
 | _, _ => none
section
variable {P : Program} {ρ : Nat -> Int} {G : Glob} {T : Tab} {l : Tabs} {w0 w w' : World} {M0 Im0 Im : Nat -> Prop} {ad ad' hs : Nat -> Hd} {m m2 m' : Mem} {tm : Tm} {en : Env} {a : Act}
theorem T7 {F : Fam} {ad : Nat -> Hd} (k : K) (n : Int) (e : E) : (Nm k n e).1.kind = .b /\ ((Nm k n e).1.tt F ρ = true -> (SV.sc e).conc F ρ ad = (Nm k n e).2.conc F ρ ad) := by
 unfold Nm
 split
 ·exact ⟨Ak _, fun _ => rfl⟩
 ·split
  ·rename_i hk
   split
   ·cases hn : i2b n
    ·simp only [cond_false]
     refine ⟨(Ag e F ρ).2, fun h => ?_⟩
     rw [(Ag e F ρ).1] at h
     have he : e.tt F ρ = false := by simpa using h
     simp only [SV.conc, E.val_b hk, E.val_b (show (E.lit .b n).kind = .b from rfl), he]
     congr 1
     simp only [E.tt, E.den, K.norm]
     simp only [i2b, Bool.not_eq_false', beq_iff_eq] at hn
     simp [hn, i2b]
    ·simp only [cond_true]
     refine ⟨hk, fun h => ?_⟩
     simp only [SV.conc, E.val_b hk, E.val_b (show (E.lit .b n).kind = .b from rfl), h]
     congr 1
     simp only [E.tt, E.den, K.norm]
     simp only [i2b, Bool.not_eq_true', beq_eq_false_iff_ne] at hn
     simp [hn, i2b]
   ·rename_i k'
    have hc := Al .eql e (.lit (.i k') n) F ρ
    refine ⟨hc.2, fun h => ?_⟩
    rw [hc.1] at h
    have h' : e.den F ρ = (E.lit (.i k') n).den F ρ := by simpa [cmpB] using h
    simp only [SV.conc, E.val_i hk, E.val_i (show (E.lit (.i k') n).kind = .i k' from rfl), h']
   ·exact ⟨Ak _, fun _ => rfl⟩
  ·exact ⟨Ak _, fun _ => rfl⟩
theorem SO {F : Fam} {ad : Nat -> Hd} (c : CV) (p : E) (a b : SV) : (Kk c p a b).1.kind = .b /\ ((Kk c p a b).1.tt F ρ = true -> (SV.ite p a b).conc F ρ ad = (Kk c p a b).2.conc F ρ ad) := by
 unfold Kk
 split
 ·rename_i hp
  split
  ·split
   ·rename_i hc
    subst hc
    exact ⟨hp, fun h => by simp only [SV.conc, h, cond_true]⟩
   ·exact ⟨Ak _, fun _ => rfl⟩
  ·split
   ·rename_i hc
    subst hc
    refine ⟨(Ag p F ρ).2, fun h => ?_⟩
    rw [(Ag p F ρ).1] at h
    have hf : p.tt F ρ = false := by simpa using h
    simp only [SV.conc, hf, cond_false]
   ·exact ⟨Ak _, fun _ => rfl⟩
  ·exact ⟨Ak _, fun _ => rfl⟩
 ·exact ⟨Ak _, fun _ => rfl⟩
theorem H0 {F : Fam} {ad : Nat -> Hd} (off str : Nat) : ∀ v : SV, v.conc F ρ ad = (H9 off str v).conc F ρ ad
 | .ptr n o => by
   simp only [H9]
   split
   ·rename_i h
    obtain ⟨h1, h2, h3, h4⟩ := h
    simp only [SV.conc]
    have hd : ((E.lit (.i .i64) ((o - off) / str : Nat)).den F ρ).toNat = (o - off) / str := by
     simp only [E.den, K.norm]
     generalize (o - off) / str = q at h4 ⊢
     rw [IntKind.wrap_i64]; omega
    rw [hd, Nat.div_mul_cancel (Nat.dvd_of_mod_eq_zero h3), Nat.add_sub_cancel' h2]
   ·rfl
 | .ite p a b => by
   have ia := H0 (F := F) (ad := ad) off str a
   have ib := H0 (F := F) (ad := ad) off str b
   simp only [H9]
   split
   ·rename_i n o s e n' o' s' e' ha hb
    split
    ·rename_i h
     obtain ⟨rfl, rfl, rfl, hp, he, he'⟩ := h
     rw [ha] at ia
     rw [hb] at ib
     simp only [SV.conc, ia, ib, Ft hp he he']
     cases p.tt F ρ <;> rfl
    ·rfl
   ·rfl
 | .sc _ | .pi .. | .sl .. | .ls .. | .sv .. | .pe .. | .mp _ | .oq _ | .fn .. | .agg _ | .tup _ | .gd .. | .und | .nilp _ | .gl .. => rfl
mutual
theorem VP {F : Fam} {ad : Nat -> Hd} : ∀ (s : Sh) (v : SV), (fitV s v).1.kind = .b /\ ((fitV s v).1.tt F ρ = true -> v.conc F ρ ad = (fitV s v).2.conc F ρ ad)
 | .lt k n, v => by
   cases v <;> first | exact ⟨Ak _, fun _ => rfl⟩ | (simp only [fitV]; exact T7 k n _)
 | .nul c, v => by
   cases v <;> first | exact ⟨Ak _, fun _ => rfl⟩ | (simp only [fitV]; exact SO c _ _ _)
 | .obj ty cs, v => by simp only [fitV]; exact ⟨Bg v, fun h => (Bt (p := fun _ => True) v).1 h⟩
 | .seg ty ks cs, v => by simp only [fitV]; exact ⟨Bg v, fun h => (Bt (p := fun _ => True) v).1 h⟩
 | .lsn ty row, v => ⟨Ak _, fun _ => rfl⟩
 | .ref j, v => by simp only [fitV]; exact ⟨Bg v, fun h => (Bt (p := fun _ => True) v).1 h⟩
 | .tup l, v => by
   cases v <;> first | exact ⟨Ak _, fun _ => rfl⟩ | skip
   rename_i vs
   obtain ⟨i1, i2⟩ := Hw (F := F) (ad := ad) l vs
   simp only [fitV]
   exact ⟨i1, fun h => by simp only [SV.conc, i2 h]⟩
 | .agg l, v => by
   cases v <;> first | exact ⟨Ak _, fun _ => rfl⟩ | skip
   rename_i vs
   obtain ⟨i1, i2⟩ := Hw (F := F) (ad := ad) l vs
   simp only [fitV]
   exact ⟨i1, fun h => by simp only [SV.conc, i2 h]⟩
 | .pin j off str, v => by simp only [fitV]; exact ⟨Ak _, fun _ => H0 off str v⟩
 | .sc _, v => by cases v <;> exact ⟨Ak _, fun _ => rfl⟩
 | .lst .., v => by cases v <;> exact ⟨Ak _, fun _ => rfl⟩
 | .fnc .., v => by cases v <;> exact ⟨Ak _, fun _ => rfl⟩
 | .opt _, v => by cases v <;> exact ⟨Ak _, fun _ => rfl⟩
 | .und, v => by cases v <;> exact ⟨Ak _, fun _ => rfl⟩
 | .mp .., v => by cases v <;> exact ⟨Ak _, fun _ => rfl⟩
theorem Hw {F : Fam} {ad : Nat -> Hd} : ∀ (l : List Sh) (vs : List SV), (fitL l vs).1.kind = .b /\ ((fitL l vs).1.tt F ρ = true -> SV.concL F ρ ad vs = SV.concL F ρ ad (fitL l vs).2)
 | [], vs => ⟨Ak _, fun _ => rfl⟩
 | s :: l, [] => ⟨Ak _, fun _ => rfl⟩
 | s :: l, v :: vs => by
   obtain ⟨i1, i2⟩ := VP (F := F) (ad := ad) s v
   obtain ⟨j1, j2⟩ := Hw (F := F) (ad := ad) l vs
   have h := Ac (fitV s v).1 (fitL l vs).1 i1 j1 F ρ
   simp only [fitL]
   refine ⟨h.2, fun ht => ?_⟩
   rw [h.1, Bool.and_eq_true] at ht
   simp only [SV.concL, i2 ht.1, j2 ht.2]
end
theorem Rz (l : Ents) (n j : Nat) : (FG l n).at j = if j < n then (l.find? fun x => x.1 == j).map (·.2) else none := by
 unfold FG Mem.at
 by_cases h : j < n <;> simp [List.getD, h]
theorem VQ {l : Ents} {n j : Nat} {g : E} {b : Blk} (h : (FG l n).at j = some (g, b)) : (j, g, b) ∈ l /\ j < n := by
 rw [Rz] at h
 split at h
 ·rename_i hj
  obtain ⟨x, hx, he⟩ := Option.map_eq_some_iff.1 h
  have h1 := List.mem_of_find?_eq_some hx
  have h2 := List.find?_some hx
  have h3 : x.1 = j := by simpa using h2
  obtain ⟨a, c⟩ := x
  simp only at h3 he
  subst h3 he
  exact ⟨h1, hj⟩
 ·cases h
theorem VR (e : Ent) (k : Nat) : (start e k).length = e.nn + k := by simp [start, FG]
theorem Js {e : Ent} {k j : Nat} {g : E} {b : Blk} (h : (start e k).at j = some (g, b)) : ((j, g, b) ∈ e.pgen.2 /\ j < e.nn) \/ b = .dead := by
 have hl : (FG e.pgen.2 e.nn).length = e.nn := by simp [FG]
 by_cases hj : j < e.nn
 ·left
  refine VQ ?_
  rw [<- h]
  simp only [start, Mem.at, List.getD]
  rw [List.getElem?_append_left (by omega)]
 ·right
  simp only [start, Mem.at, List.getD] at h
  rw [List.getElem?_append_right (by omega), List.getElem?_replicate] at h
  split at h
  ·simp only [Option.getD_some, oJ, pJ] at h; exact h.2.symm
  ·simp at h
theorem C5 (e : Ent) (k j : Nat) : al (start e k) j ↔ j < e.nn + k := by
 have hl : (FG e.pgen.2 e.nn).length = e.nn := by simp [FG]
 constructor
 ·intro h
  obtain ⟨x, hx⟩ := Option.isSome_iff_exists.1 h
  have := Mem.at_lt hx
  rw [VR] at this; exact this
 ·intro h
  unfold al
  by_cases hj : j < e.nn
  ·obtain ⟨x, x1, x2⟩ := C2 (ev := varE e.pks) (nv := id) e.ps (mkB true) 0 0 j (Nat.zero_le _) (by rw [Nat.zero_add]; exact hj)
   have h1 : (start e k).at j = (FG e.pgen.2 e.nn).at j := by
    simp only [start, Mem.at, List.getD]
    rw [List.getElem?_append_left (by omega)]
   rw [h1, Rz, if_pos hj, Option.isSome_map, List.find?_isSome]
   exact ⟨x, x1, by simp [x2]⟩
  ·simp only [start, Mem.at, List.getD]
   rw [List.getElem?_append_right (by omega), List.getElem?_replicate, if_pos (by omega)]
   rfl
theorem Tc (l : Tabs) {e : Ent} (hr : DB e = true) {xs : List Int} (zs : List Int) {ρ : Nat -> Int} (hρ : ∀ i, i < e.np -> ρ i = env xs i) (hfit : fits e.pks xs) (had : ∀ j, j < e.nn -> ad j = hs j) :
 SV.concL l.F ρ ad e.pgen.1 = SV.concL F0 (env (xs ++ zs)) hs e.pgen.1 /\ ∀ x ∈ e.pgen.2, SameE l.F F0 ρ (env (xs ++ zs)) ad hs id id x x := by
 have hl := Au hfit
 have tr : Tr e.nn l.F F0 ρ (env (xs ++ zs)) ad hs (varE e.pks) (varE e.pks) id id := by
  refine ⟨l.BI, Hr, fun i => ?_, fun i => rfl, fun j hj => had j hj⟩
  unfold varE
  cases hk : e.pks[i]? with
  | none => simp
  | some k =>
    have hi := (List.getElem?_eq_some_iff.1 hk).1
    simp only [E.den, hρ i hi, env, Jd, hl, hi, if_true]
 obtain ⟨t1, t2⟩ := Dx tr e.ps (mkB true) (mkB true) 0 0 (Ak _) (Ak _) (by simp) (fun i k hi => by rw [Nat.zero_add]; exact FK _ _ _ hi) (by rw [Nat.zero_add]; exact Nat.le_refl _) (fun j hj => by have := List.all_eq_true.1 hr j hj; simpa using this)
 exact ⟨t1, SameL.self t2⟩
theorem Hx (l : Tabs) {e : Ent} (k : Nat) (hr : DB e = true) {xs : List Int} {ρ : Nat -> Int} (hρ : ∀ i, i < e.np -> ρ i = env xs i) (hfit : fits e.pks xs) (hM : ∀ b, M0 b -> ¬ Im0 b /\ b < w.heap.size) (hE : RelE F0 (env xs) w M0 Im0 hs e.pgen.2 w) (had : ∀ j, j < e.nn -> ad j = hs j) :
 Rel l.F ρ w M0 Im0 ad (start e k) w /\ SV.concL l.F ρ ad e.pgen.1 = SV.concL F0 (env xs) hs e.pgen.1 /\ SV.okL (al (start e k)) e.pgen.1 := by
 obtain ⟨t1, t2⟩ := Tc l hr [] hρ hfit had
 rw [List.append_nil] at t1 t2
 have hal : ∀ j, j < e.nn -> al (start e k) j := fun j hj => (C5 e k j).2 (by omega)
 obtain ⟨g1, g2⟩ := B8 (ev := varE e.pks) (nv := id) (p := al (start e k)) e.ps (mkB true) 0 0 (fun j _ hj => hal j (by rw [Nat.zero_add] at hj; exact hj)) (fun j hj => hal j (by have := List.all_eq_true.1 hr j hj; simpa using this))
 refine ⟨⟨hM, Im0, fun b hb => hb, fun b hb => Or.inl hb, ⟨fun n g x hn hg => ?_, fun n g x hn => ?_, fun n k' g x g' y b h1 h2 h3 h4 h5 h6 => ?_, hE.im, hE.fr⟩⟩, t1, g1⟩
 ·rcases Js hn with ⟨h, _⟩ | rfl
  ·have s := t2 _ h
   obtain ⟨b1, b2⟩ := hE.ent _ h (by rw [<- s.gd]; exact hg)
   refine ⟨(s.ok Im0 w).2 b1, fun b hb => b2 b ?_⟩
   rw [<- hb]; exact s.mu.symm
  ·exact ⟨trivial, fun b hb => by simp [mutB] at hb⟩
 ·rcases Js hn with ⟨h, _⟩ | h
  ·exact (g2 _ h).2
  ·rw [h]; trivial
 ·rcases Js h1 with ⟨a1, _⟩ | rfl
  ·rcases Js h3 with ⟨a2, _⟩ | rfl
   ·have s1 := t2 _ a1
    have s2 := t2 _ a2
    exact hE.inj _ a1 _ a2 (by rw [<- s1.gd]; exact h2) (by rw [<- s2.gd]; exact h4) b (by rw [<- h5]; exact s1.mu.symm) (by rw [<- h6]; exact s2.mu.symm)
   ·simp [mutB] at h6
  ·simp [mutB] at h5
theorem L7 {F : Fam} {m : Mem} : ∀ {os : List Ob} {g : E} {V : List SV}, Kj m os = some (g, V) -> g.tt F ρ = true -> ∀ (vals : List SV), ∀ x ∈ objE os (V ++ vals), x.1 ∈ os.map (·.j) /\ ∃ g' b, m.at x.1 = some (g', b) /\ g'.tt F ρ = true /\ x.2.2 = b.nrm
 | [], g, V, h, ht, vals, x, hx => by cases hx
 | o :: r, g, V, h, ht, vals, x, hx => by
   simp only [Kj] at h
   split at h
   ·rename_i g1 b hm
    split at h
    ·rename_i ty' tl' vs hu
     split at h
     ·rename_i hc
      obtain ⟨rfl, rfl, hlen⟩ := hc
      obtain ⟨q, hq, he⟩ := Option.map_eq_some_iff.1 h
      simp only [pJ] at he
      obtain ⟨rfl, rfl⟩ := he
      obtain ⟨t1, t2⟩ := AE ht
      simp only [objE, List.append_assoc] at hx
      rw [List.take_left' hlen, List.drop_left' hlen] at hx
      rcases List.mem_cons.1 hx with rfl | hx
      ·exact ⟨by simp, g1, b, hm, t1, XH hu⟩
      ·obtain ⟨a, b⟩ := L7 (g := q.1) (V := q.2) hq t2 vals x hx
       exact ⟨List.mem_cons_of_mem _ a, b⟩
     ·cases h
    ·cases h
   ·cases h
theorem VS {os : List Ob} {vs : List SV} : ∀ z ∈ objE os vs, z.2.1 = mkB true := by
 induction os generalizing vs with
 | nil => intro z hz; cases hz
 | cons o r ih =>
   intro z hz
   simp only [objE] at hz
   rcases List.mem_cons.1 hz with rfl | hz
   ·rfl
   ·exact ih z hz
theorem T8 : ∀ {a b : Blk}, Fb a b = true -> a = b
 | .cells ty cs, b, h => by
   cases b <;> simp only [Fb, Bool.false_eq_true, Bool.and_eq_true, decide_eq_true_eq] at h
   obtain ⟨rfl, h2⟩ := h
   rw [SV.sameL_eq _ _ h2]
 | .lst ty row own le c, b, h => by
   cases b <;> simp only [Fb, Bool.false_eq_true, Bool.and_eq_true, decide_eq_true_eq] at h
   obtain ⟨⟨⟨⟨rfl, rfl⟩, rfl⟩, h4⟩, h5⟩ := h
   rw [E.same_eq _ _ h4, E.same_eq _ _ h5]
 | .mp ks vs kag vag c, b, h => by
   cases b <;> simp only [Fb, Bool.false_eq_true, Bool.and_eq_true, decide_eq_true_eq] at h
   obtain ⟨⟨⟨⟨rfl, rfl⟩, rfl⟩, rfl⟩, h5⟩ := h
   rw [E.same_eq _ _ h5]
 | .seg ty cs ks c, b, h => by
   cases b <;> simp only [Fb, Bool.false_eq_true, Bool.and_eq_true, decide_eq_true_eq] at h
   obtain ⟨⟨⟨rfl, rfl⟩, h3⟩, h4⟩ := h
   rw [SV.sameL_eq _ _ h3, E.same_eq _ _ h4]
 | .dead, b, h => by simp [Fb] at h
theorem Kl {F : Fam} {m : Mem} : ∀ {l : Ents} {g : E}, Lp m l = some g -> g.tt F ρ = true -> ∀ x ∈ l, x.2.1.tt F ρ = true -> ∃ g', m.at x.1 = some (g', x.2.2) /\ g'.tt F ρ = true
 | [], g, h, ht, x, hx => by cases hx
 | y :: r, g, h, ht, x, hx => by
   simp only [Lp] at h
   split at h
   ·rename_i g1 b hm
    split at h
    ·rename_i hs
     obtain ⟨q, hq, rfl⟩ := Option.map_eq_some_iff.1 h
     obtain ⟨t1, t2⟩ := AE ht
     rcases List.mem_cons.1 hx with rfl | hx
     ·exact fun hg => ⟨g1, by rw [hm, T8 hs], GA t1 hg⟩
     ·exact Kl hq t2 x hx
    ·cases h
   ·cases h
theorem DK {e : Ent} {v : SV} {g : E} {es : List E} (h : Ia e m' v = some (g, es)) : es.map E.kind = e.oks /\ (∀ x ∈ es, x.kind ≠ .x -> x.sound = true) /\
 ∀ {xs ys : List Int} {ρ : Nat -> Int} {w w' : World} {M0 Im0 : Nat -> Prop} {hs ad' : Nat -> Hd}, (∀ i, i < e.np -> ρ i = env xs i) -> fits e.pks xs -> ys = es.map (E.den l.F ρ) -> g.tt l.F ρ = true -> Rel l.F ρ w M0 Im0 ad' m' w' -> (∀ j, j < e.nn -> ad' j = hs j) ->
   ∃ (hs' : Nat -> Hd) (Im' : Nat -> Prop), (∀ j, j < e.nn -> hs' j = hs j) /\ (∀ b, Im0 b -> Im' b) /\ (∀ b, Im' b -> Im0 b \/ M0 b \/ w.heap.size <= b) /\ v.conc l.F ρ ad' = (BN e.ogen.1).conc F0 (env (xs ++ ys)) hs' /\ RelE F0 (env (xs ++ ys)) w M0 Im' hs' e.oents w' := by
 unfold Ia at h
 split at h
 ·rename_i g1 V g2 hobj hkept
  split at h
  ·rename_i es' srcs g3 hget
   split at h
   ·rename_i hc
    simp only [oJ, pJ] at h
    obtain ⟨rfl, rfl⟩ := h
    obtain ⟨hc, hfx⟩ := hc
    simp only [Bool.and_eq_true] at hc
    obtain ⟨⟨c1, c2⟩, c3⟩ := hc
    obtain ⟨k1, k2, k3, k4⟩ := A5 e.outL _ _ _ hget
    simp only at k1 k2 k3 k4
    refine ⟨k1, k4, fun {xs ys ρ w w' M0 Im0 hs ad'} hρ hfit hys ht hR had => ?_⟩
    obtain ⟨t1, t23⟩ := AE ht
    obtain ⟨t2, t34⟩ := AE t23
    obtain ⟨tf, t3⟩ := AE t34
    have hfit2 := (Hw (F := l.F) (ρ := ρ) (ad := ad') e.outL (V ++ [v])).2 tf
    obtain ⟨hM, Im, i1, i2, hI⟩ := hR
    have hyfit : fits e.oks ys := by rw [hys]; exact S7 k1 k4
    have hyl : ys.length = e.oks.length := Au hyfit
    have hxl : xs.length = e.np := Au hfit
    have hall : fits (e.pks ++ e.oks) (xs ++ ys) := B3 hfit hyfit
    have hS : ∃ S, S = accN e.nn ++ srcs := ⟨_, rfl⟩
    obtain ⟨S, hS⟩ := hS
    have hal : (accN e.nn).length = e.nn := by simp [accN]
    have hSlt : ∀ j, j < e.nn -> S[j]? = some (.nm j) := fun j hj => by
     rw [hS, List.getElem?_append_left (by omega)]
     simp [accN, hj]
    have hev : EvOK l.F ρ (env (xs ++ ys)) (varE (e.pks ++ e.oks)) e.np es' := fun i x hi => by
     have hil := (List.getElem?_eq_some_iff.1 hi).1
     have hkl : e.oks.length = es'.length := by rw [<- hyl, hys]; simp
     refine ⟨?_, ?_⟩
     ·rw [Ml hall, List.length_append, Jd, hxl, show e.pks.length = e.np from rfl, if_pos (by omega), if_neg (by omega), show e.np + i - e.np = i by omega, hys]
      simp [List.getD, hi]
     ·refine FK _ _ _ ?_
      rw [List.getElem?_append_right (by rw [show e.pks.length = e.np from rfl]; omega), show e.pks.length = e.np from rfl, show e.np + i - e.np = i by omega]
      have : (es'.map E.kind)[i]? = some x.kind := by simp [hi]
      rw [k1] at this; exact this
    obtain ⟨p1, p2⟩ := BA (F := l.F) (ρ := ρ) (ρ' := env (xs ++ ys)) (w0 := w) (w := w') (M0 := M0) (Im := Im) (ad := ad') (m := m') (ev := varE (e.pks ++ e.oks)) (S := S) (hs := fun j => match S[j]? with | some s => srcHd l.F ρ w' Im ad' m' s | none => default)
     l.BI hI (fun j s hj => by simp only [hj]) e.outL (accN e.nn) _ _ (mkB true) e.np hget (Ak _) (fun j s hj => by rw [Nat.zero_add, hS, List.getElem?_append_left (List.getElem?_eq_some_iff.1 hj).1]; exact hj) (fun j s hj => by rw [hS, List.getElem?_append_right (by omega)]; simpa using hj) hev t3
    generalize hhs : (fun j => match S[j]? with | some s => srcHd l.F ρ w' Im ad' m' s | none => default : Nat -> Hd) = hs' at p1 p2
    rw [hal] at p1 p2
    rw [<- hfit2] at p1
    change SV.concL l.F ρ ad' (V ++ [v]) = SV.concL F0 (env (xs ++ ys)) hs' e.ogen.1 at p1
    change ∀ x ∈ e.ogen.2, _ at p2
    have hisx : (V ++ [v]).map isXv = e.ogen.1.map isXv := hfx.symm.trans <| Rn (m := m') (ev := varE (e.pks ++ e.oks)) (nv := id) e.outL (accN e.nn) _ _ (mkB true) e.np e.nn hget fun i k hi => by
     refine FK _ _ _ ?_
     rw [List.getElem?_append_right (by rw [show e.pks.length = e.np from rfl]; omega), show e.pks.length = e.np from rfl, show e.np + i - e.np = i by omega]
     exact hi
    have hlt : ∀ j, j < e.nn -> hs' j = ad' j := fun j hj => by rw [<- hhs]; simp only [hSlt j hj]; rfl
    obtain ⟨q1, q2⟩ := Tc (ad := ad') (hs := hs') l c3 ys hρ hfit fun j hj => (hlt j hj).symm
    have hsrc : ∀ j, j < e.nn -> srcOf S j = [j] := fun j hj => by simp [srcOf, hSlt j hj, Src.ns]
    have ogn : ∀ x ∈ e.ogen.2, e.nn <= x.1 := fun x hx => ((B8 (ev := varE (e.pks ++ e.oks)) (nv := id) (p := fun _ => True) e.outL (mkB true) e.np e.nn (fun _ _ _ => trivial) fun _ _ => trivial).2 x hx).1.1
    have core : ∀ z ∈ e.oents, z.2.1.tt F0 (env (xs ++ ys)) = true -> BlkOK F0 (env (xs ++ ys)) Im hs' z.1 w' z.2.2 /\
     ∀ b, mutB F0 (env (xs ++ ys)) hs' z.1 z.2.2 = some b -> ∃ n ∈ srcOf S z.1, ∃ g y, m'.at n = some (g, y) /\ g.tt l.F ρ = true /\ mutB l.F ρ ad' n y = some b := by
     intro z hz hg
     unfold Ent.oents at hz
     rcases List.mem_append.1 hz with hz | hz
     ·obtain ⟨j, g0, X⟩ := z
      have hg0 : g0 = mkB true := VS _ hz
      subst hg0
      obtain ⟨ty, tl, vs', us', rfl, u1, u2, u3⟩ := J1 p1.symm hisx.symm j X hz
      obtain ⟨o1, g', b0, o2, o3, o4⟩ := L7 (F := l.F) (ρ := ρ) hobj t1 [v] _ u1
      simp only at o1 o2 o4
      have hj : j < e.nn := by
       obtain ⟨o, ho1, ho2⟩ := List.mem_map.1 o1
       have := List.all_eq_true.1 c2 o ho1
       simp only [decide_eq_true_eq] at this
       omega
      have hb0 := (hI.ent j g' _ o2 o3).1
      have hnr := Blk.nrm_same (hb0.lenOK l.BI) ad' j
      have hb := (hnr.2 Im w').2 hb0
      rw [<- o4] at hb
      obtain ⟨s1, s2⟩ := Rj (n := j) (j := j) (ty := ty) (tl := tl) Hr l.BI u2 u3 (hlt j hj)
      refine ⟨(s2 Im w').2 hb, fun b hb' => ⟨j, by simp [hsrc j hj], g', _, o2, o3, ?_⟩⟩
      rw [<- hnr.1, <- o4, <- s1]; exact hb'
     ·rcases List.mem_append.1 hz with hz | hz
      ·have hz' := (List.mem_filter.1 hz).1
       have s := q2 z hz'
       obtain ⟨g', o1, o2⟩ := Kl (F := l.F) (ρ := ρ) hkept t2 z hz (by rw [s.gd]; exact hg)
       have hj : z.1 < e.nn := by
        have := ((B8 (ev := varE e.pks) (nv := id) (p := fun _ => True) e.ps (mkB true) 0 0 (fun _ _ _ => trivial) fun _ _ => trivial).2 z hz').1.2
        rw [Nat.zero_add] at this; exact this
       refine ⟨(s.ok Im w').1 (hI.ent z.1 g' _ o1 o2).1, fun b hb' => ⟨z.1, by simp [hsrc z.1 hj], g', _, o1, o2, ?_⟩⟩
       rw [<- hb']; exact s.mu
      ·have := p2 z hz hg
       exact ⟨this.ok, this.mu⟩
    refine ⟨hs', Im, fun j hj => (hlt j hj).trans (had j hj), i1, i2, ?_, ⟨fun z hz hg => ⟨(core z hz hg).1, fun b hb => ?_⟩, fun x hx y hy hgx hgy b hbx hby => ?_, hI.im, hI.fr⟩⟩
    ·have := M3 p1
     rw [<- this]
     congr 1
     simp [BN]
    ·obtain ⟨n, _, g', y, a1, a2, a3⟩ := (core z hz hg).2 b hb
     exact (hI.ent n g' y a1 a2).2 b a3
    ·obtain ⟨n, n1, g', y', a1, a2, a3⟩ := (core x hx hgx).2 b hbx
     obtain ⟨n', n1', g'', y'', a1', a2', a3'⟩ := (core y hy hgy).2 b hby
     have := hI.inj n n' g' y' g'' y'' b a1 a2 a1' a2' a3 a3'
     subst this
     rw [<- hS] at c1
     exact Jf c1 x.1 (G9 hx hbx) y.1 (G9 hy hby) n n1 n1'
   ·cases h
  ·cases h
 ·cases h
end
def zAll : List SV -> Bool
 | [] => true
 | .sc (.lit (.i .i64) 0) :: r => zAll r
 | _ => false
def zCnt : List SV -> Nat -> Option Nat
 | [], n => some n
 | .sc (.lit (.i .i64) 0) :: r, n => bif Nat.ble n 100000 then zCnt r (n + 1) else none
 | _, _ => none
theorem XL {v : SV} {r : List SV} {n : Nat} (hv : v ≠ .sc (.lit (.i .i64) 0)) : zCnt (v :: r) n = none := by
 unfold zCnt
 split
 ·rename_i heq; cases heq
 ·exfalso; simp_all
 ·rfl
theorem P8 : ∀ {l : List SV} {n k : Nat}, zCnt l n = some k -> zAll l = true /\ k = n + l.length
 | [], n, k, h => by simp only [zCnt, oJ] at h; exact ⟨rfl, h.symm⟩
 | v :: r, n, k, h => by
   by_cases hv : v = .sc (.lit (.i .i64) 0)
   ·subst hv
    rw [show zCnt (.sc (.lit (.i .i64) 0) :: r) n = bif Nat.ble n 100000 then zCnt r (n + 1) else none from rfl] at h
    cases hb : Nat.ble n 100000 with
    | false => rw [hb] at h; cases h
    | true =>
      rw [hb] at h
      obtain ⟨i1, i2⟩ := P8 (l := r) (n := n + 1) h
      exact ⟨by simpa [zAll] using i1, by rw [i2, List.length_cons]; omega⟩
   ·rw [XL hv] at h; cases h
def segC (ty' h w : Nat) (cs : List SV) : Option Nat -> Blk
 | some k => bif Nat.beq k (k / w * w) && Nat.ble k 100000 then .seg ty' (cs.take h) (List.replicate w (.i .i64)) (.app .x 0 7 (.lit (.i .i64) (k / w : Nat) :: List.replicate w (.lit (.i .i64) 0))) else .cells ty' cs
 | none => .cells ty' cs
def segB (ty h w : Nat) : Blk -> Blk
 | .cells ty' cs => bif Nat.beq ty' ty then segC ty' h w cs (zCnt (cs.drop h) 0) else .cells ty' cs
 | x => x
theorem Jt (ty h w ty' : Nat) (cs : List SV) : segB ty h w (.cells ty' cs) = .cells ty' cs \/ ∃ N, segB ty h w (.cells ty' cs) = .seg ty' (cs.take h) (List.replicate w (.i .i64)) (.app .x 0 7 (.lit (.i .i64) (N : Nat) :: List.replicate w (.lit (.i .i64) 0))) /\ zAll (cs.drop h) = true /\ (cs.drop h).length = N * w /\ N <= 100000 := by
 simp only [segB]
 cases Nat.beq ty' ty with
 | false => exact Or.inl rfl
 | true =>
   cases hz : zCnt (cs.drop h) 0 with
   | none => exact Or.inl rfl
   | some k =>
     cases hb : (Nat.beq k (k / w * w) && Nat.ble k 100000) with
     | false => left; simp only [segC, hb, cond_true, cond_false]
     | true =>
       right
       obtain ⟨i1, i2⟩ := P8 hz
       simp only [Bool.and_eq_true] at hb
       have h1 := Nat.eq_of_beq_eq_true hb.1
       have h2 := Nat.le_of_ble_eq_true hb.2
       refine ⟨k / w, by simp only [segC, hb.1, hb.2, Bool.and_self, cond_true], i1, by omega, Nat.le_trans (Nat.div_le_self _ _) h2⟩
def segM (m : Mem) : List (Nat × Nat × Nat) -> Mem
 | [] => m
 | (ty, h, w) :: r => segM (m.map (Option.map fun x => (x.1, segB ty h w x.2))) r
mutual
def RA : Sh -> List (Nat × Nat × Nat)
 | .seg ty ks cs => [(ty, cs.length, ks.length)]
 | .opt s => RA s
 | .tup l => Td l
 | _ => []
def Td : List Sh -> List (Nat × Nat × Nat)
 | [] => []
 | s :: r => RA s ++ Td r
end
section
variable {F : Fam} {ρ : Nat -> Int} {w0 w : World} {M0 Im0 Im : Nat -> Prop} {ad : Nat -> Hd} {m : Mem}
theorem P9 : ∀ {l : List SV}, zAll l = true -> SV.concL F ρ ad l = List.replicate l.length (K.val (.i .i64) 0)
 | [], _ => rfl
 | v :: r, h => by
   unfold zAll at h
   split at h
   ·rename_i heq; cases heq
   ·rename_i r' heq
    injection heq with e1 e2
    subst e1 e2
    simp only [SV.concL, P9 h, List.length_cons, List.replicate_succ]
    rfl
   ·cases h
theorem VT (w n : Nat) : flatN (List.replicate w (K.i .i64)) (List.replicate n (List.replicate w 0)) = List.replicate (n * w) (K.val (.i .i64) 0) := by
 have hz : ∀ w, numV (List.replicate w (K.i .i64)) (List.replicate w 0) = List.replicate w (K.val (.i .i64) 0) := fun w => by
  induction w with
  | zero => rfl
  | succ w ih => simp only [List.replicate_succ, numV, List.zipWith_cons_cons]; rw [show List.zipWith K.val (List.replicate w (K.i .i64)) (List.replicate w 0) = _ from ih]
 unfold flatN
 induction n with
 | zero => simp
 | succ n ih =>
   rw [List.replicate_succ, List.map_cons, List.flatten_cons, ih, hz, List.replicate_append_replicate, Nat.succ_mul, Nat.add_comm w]
theorem VU (w : Nat) : fits (List.replicate w (K.i .i64)) (List.replicate w 0) := by
 induction w with
 | zero => trivial
 | succ w ih => exact ⟨D0 .i64, ih⟩
theorem WH (F : Fam) (ρ : Nat -> Int) (ad : Nat -> Hd) (l : List SV) (h : Nat) : SV.concL F ρ ad (l.take h) ++ SV.concL F ρ ad (l.drop h) = SV.concL F ρ ad l := by
 rw [Ae, Ae, Ae, <- List.map_append, List.take_append_drop]
theorem XM (hB : BI F) {n ty h wd : Nat} {x : Blk} (hx : BlkOK F ρ Im ad n w x) : BlkOK F ρ Im ad n w (segB ty h wd x) := by
 cases x with
 | cells ty' cs =>
   rcases Jt ty h wd ty' cs with e | ⟨N, e, c3, c4, c5⟩
   ·rw [e]; exact hx
   ·rw [e]
    have hden : (E.app .x 0 7 (.lit (.i .i64) (N : Nat) :: List.replicate wd (.lit (.i .i64) 0))).den F ρ = cd (List.replicate N (List.replicate wd 0)) := by
     rw [AU hB]
     have e1 : (E.lit (.i .i64) (N : Nat)).den F ρ = (N : Int) := by
      show IntKind.i64.wrap (N : Int) = N
      exact C1 (by unfold maxLen; omega)
     have e2 : (List.replicate wd (E.lit (.i .i64) 0)).map (E.den F ρ) = List.replicate wd 0 := by
      rw [List.map_replicate]
      rfl
     rw [List.map_cons, e1, e2]
     show cd (List.replicate ((N : Int)).toNat _) = _
     rw [Int.toNat_natCast]
    show isCd _ /\ _ /\ _
    rw [hden, Af]
    refine ⟨A6 _, fun r hr => ?_, ?_⟩
    ·rw [(List.mem_replicate.1 hr).2]; exact VU wd
    ·rw [VT, <- c4, <- P9 (F := F) (ρ := ρ) (ad := ad) c3, WH]
     exact hx
 | _ => exact hx
theorem RB {n ty h wd : Nat} {x : Blk} : mutB F ρ ad n (segB ty h wd x) = mutB F ρ ad n x := by
 cases x with
 | cells ty' cs =>
   rcases Jt ty h wd ty' cs with e | ⟨N, e, _⟩ <;> rw [e] <;> rfl
 | _ => rfl
theorem XN {p : Nat -> Prop} {ty h wd : Nat} {x : Blk} (hx : SV.okL p x.cs) : SV.okL p (segB ty h wd x).cs := by
 cases x with
 | cells ty' cs =>
   rcases Jt ty h wd ty' cs with e | ⟨N, e, _⟩
   ·rw [e]; exact hx
   ·rw [e]; exact E1 hx h
 | _ => exact hx
theorem VV (f : E × Blk -> E × Blk) (m : Mem) (n : Nat) : Mem.at (m.map (Option.map f)) n = (m.at n).map f := by
 simp only [Mem.at, List.getD_eq_getElem?_getD, List.getElem?_map]
 cases m[n]? <;> rfl
theorem Rel.segM (hB : BI F) : ∀ (l : List (Nat × Nat × Nat)) {m : Mem}, Rel F ρ w0 M0 Im0 ad m w -> Rel F ρ w0 M0 Im0 ad (Ew.segM m l) w
 | [], _, hR => hR
 | (ty, h, wd) :: r, m, hR => by
   refine Rel.segM hB r ?_
   obtain ⟨hM, Im, h1, h2, hI⟩ := hR
   have key : ∀ {n : Nat} {g : E} {x : Blk}, Mem.at (m.map (Option.map fun x => (x.1, segB ty h wd x.2))) n = some (g, x) -> ∃ y, m.at n = some (g, y) /\ x = segB ty h wd y := fun {n g x} hn => by
    rw [VV] at hn
    obtain ⟨y, hy, e⟩ := Option.map_eq_some_iff.1 hn
    injection e with e1 e2
    exact ⟨y.2, by rw [hy, <- e1], e2.symm⟩
   have hal : al (m.map (Option.map fun x => (x.1, segB ty h wd x.2))) = al m := by
    funext n
    unfold al
    rw [VV, Option.isSome_map]
   refine ⟨hM, Im, h1, h2, ⟨fun n g x hn hg => ?_, fun n g x hn => ?_, fun n k g x g' y b hn hg hk hg' hb hb' => ?_, hI.im, hI.fr⟩⟩
   ·obtain ⟨y, hy, rfl⟩ := key hn
    obtain ⟨i1, i2⟩ := hI.ent n g y hy hg
    exact ⟨XM hB i1, fun b hb => i2 b (by rw [<- RB]; exact hb)⟩
   ·obtain ⟨y, hy, rfl⟩ := key hn
    rw [hal]
    exact XN (hI.ok n g y hy)
   ·obtain ⟨x', hx, rfl⟩ := key hn
    obtain ⟨y', hy, rfl⟩ := key hk
    rw [RB] at hb hb'
    exact hI.inj n k g x' g' y' b hx hg hy hg' hb hb'
end
def evE (P : Program) (G : Glob) (T : Tab) (LT : Nat -> BO) (N n : Nat) (e : Ent) : Option (E × List E) :=
 match evFn P G T LT N n e.f e.pgen.1 (start e 0) with
 | some (ob, v, m') => match Ia e (shareL (segM m' (RA e.rs)) (W8 m' v ++ W9 e m' v)) v with
   | some (g, es) => some (andB ob g, es)
   | none => none
 | none => none
def tmL (le : LEnt) : Tm := (List.range le.nt).map fun i => match le.sl.findIdx? (· == i) with
 | some k => le.ent.pgen.1[k]?
 | none => some (.oq (le.ent.nn + i))
def Lq : List Lab -> Lab -> Option (List SV)
 | [], _ => none
 | [k], x => if k = x then some [] else none
 | k :: k' :: ls, x => if k = x then some (.sc (mkB true) :: List.replicate ls.length (.sc (mkB false))) else (Lq (k' :: ls) x).map fun r => .sc (mkB false) :: r
def keepB (so wr : List Nat) (s0 s : Tm) : Bool := (List.range s0.length).all fun k => so.contains k || wr.contains k || match s0.at k, s.at k with
 | some v, some u => v.same u
 | _, _ => false
def CM (le : LEnt) (s : St) (lab : Lab) : Option (E × List E) :=
 match Lq le.labs lab, Jq s.1 le.so with
 | some bs, some us => if s.1.length = le.nt /\ keepB le.so le.wr (tmL le) s.1 = true then Ia le.ent (shareL s.2 (W8 s.2 (.tup us) ++ W9 le.ent s.2 (.tup (bs ++ us)))) (.tup (bs ++ us)) else none
 | _, _ => none
def iteE (c a b : E) : E := bif a.same b then a else match c.lit? with
 | some n => bif i2b n then a else b
 | none => .ite c a b
def endsM (le : LEnt) (d : DT) : List (Lab × St) -> E × Option (List E)
 | [] => (mkB true, none)
 | (lab, s) :: r => match CM le s lab with
   | some (g, es) => match endsM le d r with
     | (g2, none) => (andB (impB (d.is lab) g) g2, some es)
     | (g2, some es2) => (andB (impB (d.is lab) g) g2, some (List.zipWith (iteE (d.is lab)) es es2))
   | none => match endsM le d r with
     | (g2, o) => (andB (Ao (d.is lab)) g2, o)
def evL (P : Program) (G : Glob) (T : Tab) (call : Into) (N : Nat) (L : BO) (le : LEnt) (body : Code) : Option (E × List E) :=
 match AK P G T call N L body (tmL le, start le.ent le.nt) with
 | some r => match Kg (Jr le) r with
   | some q => match endsM le q.2.1 q.2.2 with
     | (g, some es) => some (andB q.1 g, es)
     | _ => none
   | none => none
 | none => none
def evP (P : Program) (G : Glob) (T : Tab) (call : Into) (N : Nat) (L : BO) (le : LEnt) (c : Code) : Option (E × List E) :=
 match AK P G T call N L c (tmL le, start le.ent le.nt) with
 | some r => match endsM le r.2.1 r.2.2 with
   | (g, some es) => some (andB r.1 g, es)
   | _ => none
 | none => none
section
variable {P : Program} {ρ : Nat -> Int} {G : Glob} {T : Tab} {l : Tabs} {w0 w w' : World} {M0 Im0 Im : Nat -> Prop} {ad ad' hs : Nat -> Hd} {m m2 m' : Mem} {tm : Tm} {en : Env} {a : Act}
theorem Km {e : Ent} {v : SV} {r : E × List E} (h : Ia e m' v = some r) : DB e = true := by
 unfold Ia at h
 split at h
 ·split at h
  ·split at h
   ·rename_i hc
    have hc := hc.1
    simp only [Bool.and_eq_true] at hc
    exact hc.2
   ·cases h
  ·cases h
 ·cases h
theorem Fc {fn : Nat -> List Int -> Int} {xs : List Int} : ∀ (ks : List K) (j : Nat) (ys : List Int), ys.length = ks.length -> (∀ (i : Nat) (k : K) (y : Int), ks[i]? = some k -> ys[i]? = some y -> k.norm (fn (j + i) xs) = y) -> Am fn xs j ks = ys
 | [], j, [], _, _ => rfl
 | [], j, _ :: _, h, _ => by simp at h
 | _ :: _, j, [], h, _ => by simp at h
 | k :: ks, j, y :: ys, hl, h => by
   simp only [Am]
   have h0 := h 0 k y rfl rfl
   rw [Nat.add_zero] at h0
   rw [h0, Fc ks (j + 1) ys (by simpa using hl) fun i k y h1 h2 => by
    have := h (i + 1) k y (by simpa using h1) (by simpa using h2)
    rwa [show j + 1 + i = j + (i + 1) by omega]]
theorem Kn (hm : P.follows .mixedOrders = true) (hS : CC P G l T) {LT : Nat -> BO} (hLT : LTOK P G l LT) {N n : Nat} {e : Ent} {ob : E} {es : List E} (h : evE P G T LT N n e = some (ob, es))
 (hu : ∀ xs, fits e.pks xs -> e.pre xs -> ∃ ρ : Nat -> Int, (∀ i, i < e.np -> ρ i = env xs i) /\ ob.tt l.F ρ = true /\ ∀ (i : Nat) (k : K), e.oks[i]? = some k -> k.norm (e.fn i xs) = (es.getD i (mkB false)).den l.F ρ) : EntryOK P G e := by
 unfold evE at h
 split at h
 ·rename_i ob1 v m1 hev
  split at h
  ·rename_i g es' hma
   simp only [oJ, pJ] at h
   obtain ⟨rfl, rfl⟩ := h
   intro xs hfit hpre w M0 Im0 hs hM hG hE
   obtain ⟨ρ, hρ, u1, u2⟩ := hu xs hfit hpre
   obtain ⟨t1, t2⟩ := AE u1
   obtain ⟨r1, r2, r3⟩ := Hx (ad := hs) l 0 (Km hma) hρ hfit hM hE fun _ _ => rfl
   obtain ⟨k1, k2, k3⟩ := DK (l := l) hma
   rw [<- r2]
   refine (EP (l := l) (ρ := ρ) hm hS hG hLT n e.f _ _ _ _ _ hev t1 hs w r1 r3).mono ?_
   rintro en w' ⟨ad', rfl, a2, a3, a4⟩
   have hys : Am e.fn xs 0 e.oks = es'.map (E.den l.F ρ) := by
    refine Fc _ _ _ (by rw [<- k1]; simp) fun i k y h1 h2 => ?_
    rw [Nat.zero_add, u2 i k h1]
    rw [List.getElem?_map] at h2
    obtain ⟨x, hx, rfl⟩ := Option.map_eq_some_iff.1 h2
    simp [List.getD, hx]
   obtain ⟨hs', Im', q1, q2, q3, q4, q5⟩ := k3 hρ hfit hys t2 ((a2.segM (Tabs.BI l) _).shareL _) fun j hj => (a3.same j ((C5 e 0 j).2 (by omega))).symm
   exact ⟨hs', Im', q1, q2, q3, by rw [q4], q5⟩
  ·cases h
 ·cases h
theorem WI (hm : P.follows .mixedOrders = true) (hS : CC P G l T) {LT : Nat -> BO} (hLT : LTOK P G l LT) {N n : Nat} {e : Ent} {ob : E} {es : List E} (h : evE P G T LT N n e = some (ob, es))
 (hu : ∀ xs, fits e.pks xs -> e.pre xs -> ob.tt l.F (env xs) = true /\ ∀ (i : Nat) (k : K), e.oks[i]? = some k -> k.norm (e.fn i xs) = (es.getD i (mkB false)).den l.F (env xs)) : EntryOK P G e :=
 Kn hm hS hLT h fun xs hf hp => ⟨env xs, fun _ _ => rfl, hu xs hf hp⟩
theorem Gn {F : Fam} {ad : Nat -> Hd} (us : List Value) : ∀ {ls : List Lab} {x : Lab} {bs : List SV}, Lq ls x = some bs -> labV ls (SV.concL F ρ ad bs ++ us) = some (x, us) /\ ∀ p, SV.okL p bs
 | [], x, bs, h => by simp [Lq] at h
 | [k], x, bs, h => by
   simp only [Lq] at h
   split at h
   ·rename_i hk
    simp only [oJ] at h; subst h
    subst hk
    exact ⟨rfl, fun _ => trivial⟩
   ·cases h
 | k :: k' :: ls, x, bs, h => by
   have ht : (SV.sc (mkB true)).conc F ρ ad = .bool true := by simp only [SV.conc, E.val_b (Ak true), MD]
   have hf : (SV.sc (mkB false)).conc F ρ ad = .bool false := by simp only [SV.conc, E.val_b (Ak false), MD]
   simp only [Lq] at h
   split at h
   ·rename_i hk
    simp only [oJ] at h; subst h
    subst hk
    have falses : ∀ (ls : List Lab) (k : Lab), ∃ y, labV (k :: ls) (SV.concL F ρ ad (List.replicate ls.length (.sc (mkB false))) ++ us) = some (y, us) := by
     intro ls
     induction ls with
     | nil => intro k; exact ⟨k, rfl⟩
     | cons k2 ls ih =>
       intro k
       obtain ⟨y, hy⟩ := ih k2
       refine ⟨y, ?_⟩
       simp only [List.length_cons, List.replicate_succ, SV.concL, hf, List.cons_append, labV, hy, Option.map_some, cond_false]
    obtain ⟨y, hy⟩ := falses ls k'
    refine ⟨?_, fun p => ⟨trivial, ?_⟩⟩
    ·simp only [SV.concL, ht, List.cons_append, labV, hy, Option.map_some, cond_true]
    ·generalize ls.length = n
     induction n with
     | zero => trivial
     | succ n ih => rw [List.replicate_succ]; exact ⟨trivial, ih⟩
   ·obtain ⟨r, hr, rfl⟩ := Option.map_eq_some_iff.1 h
    obtain ⟨i1, i2⟩ := Gn (F := F) (ad := ad) us hr
    refine ⟨?_, fun p => ⟨trivial, i2 p⟩⟩
    simp only [SV.concL, hf, List.cons_append, labV, i1, Option.map_some, cond_false]
theorem WJ (c a b : E) (F : Fam) : (iteE c a b).den F ρ = bif c.tt F ρ then a.den F ρ else b.den F ρ := by
 unfold iteE
 cases hs : a.same b
 ·simp only [cond_false]
  split
  ·rename_i n hn
   rw [lit?_tt hn]
   cases i2b n <;> rfl
  ·simp only [E.den, E.tt]
 ·rw [E.same_eq _ _ hs]
  cases c.tt F ρ <;> rfl
theorem SP {le : LEnt} {s : St} {lab : Lab} {g : E} {es : List E} (h : CM le s lab = some (g, es)) : es.length = le.ent.oks.length := by
 unfold CM at h
 split at h
 ·split at h
  ·rw [<- (DK (l := []) h).1]; simp
  ·cases h
 ·cases h
theorem Gp {le : LEnt} {d : DT} {F : Fam} : ∀ {ss : List (Lab × St)}, (∀ es, (endsM le d ss).2 = some es -> es.length = le.ent.oks.length) /\ ((endsM le d ss).1.tt F ρ = true -> ∀ s, lk (d.eval F ρ) ss = some s ->
 ∃ es g1 es1, (endsM le d ss).2 = some es /\ CM le s (d.eval F ρ) = some (g1, es1) /\ g1.tt F ρ = true /\ es.map (E.den F ρ) = es1.map (E.den F ρ)) /\ ((endsM le d ss).2 ≠ none -> DB le.ent = true)
 | [] => ⟨fun es h => by simp [endsM] at h, fun _ s h => by simp [lk] at h, fun h => absurd rfl h⟩
 | (lab, s0) :: r => by
   obtain ⟨i1, i2, i3⟩ := Gp (le := le) (d := d) (F := F) (ss := r)
   cases hm : CM le s0 lab with
   | none =>
     have he : endsM le d ((lab, s0) :: r) = (andB (Ao (d.is lab)) (endsM le d r).1, (endsM le d r).2) := by simp only [endsM, hm]
     rw [he]
     refine ⟨i1, fun ht s hs => ?_, i3⟩
     obtain ⟨t1, t2⟩ := AE ht
     simp only [lk] at hs
     split at hs
     ·rename_i hk
      rw [(Ag _ F ρ).1, DT.is_true hk.symm] at t1
      simp at t1
     ·exact i2 t2 s hs
   | some z =>
     obtain ⟨g1, es1⟩ := z
     have hl1 := SP hm
     have hst : DB le.ent = true := by
      unfold CM at hm
      split at hm
      ·split at hm
       ·exact Km hm
       ·cases hm
      ·cases hm
     cases ho : (endsM le d r).2 with
     | none =>
       have he : endsM le d ((lab, s0) :: r) = (andB (impB (d.is lab) g1) (endsM le d r).1, some es1) := by
        simp only [endsM, hm]
        split
        ·rename_i g2 h2; rw [h2]
        ·rename_i g2 e2 h2; rw [h2] at ho; cases ho
       rw [he]
       refine ⟨fun es h => by simp only [oJ] at h; subst h; exact hl1, fun ht s hs => ?_, fun _ => hst⟩
       obtain ⟨t1, t2⟩ := AE ht
       simp only [lk] at hs
       split at hs
       ·rename_i hk
        simp only [oJ] at hs; subst hs
        exact ⟨es1, g1, es1, rfl, by rw [<- hk]; exact hm, GA t1 (DT.is_true hk.symm), rfl⟩
       ·obtain ⟨es, _, _, h, _⟩ := i2 t2 s hs
        rw [ho] at h; cases h
     | some es2 =>
       have he : endsM le d ((lab, s0) :: r) = (andB (impB (d.is lab) g1) (endsM le d r).1, some (List.zipWith (iteE (d.is lab)) es1 es2)) := by
        simp only [endsM, hm]
        split
        ·rename_i g2 h2; rw [h2] at ho; cases ho
        ·rename_i g2 e2 h2; rw [h2] at ho ⊢; simp only [oJ] at ho; subst ho; rfl
       have l2 := i1 es2 ho
       have hz : (List.zipWith (iteE (d.is lab)) es1 es2).map (E.den F ρ) = bif (d.is lab).tt F ρ then es1.map (E.den F ρ) else es2.map (E.den F ρ) := by
        have : ∀ (u v : List E), u.length = v.length -> (List.zipWith (iteE (d.is lab)) u v).map (E.den F ρ) = bif (d.is lab).tt F ρ then u.map (E.den F ρ) else v.map (E.den F ρ) := by
         intro u
         induction u with
         | nil => intro v hv; cases v with
           | nil => cases (d.is lab).tt F ρ <;> rfl
           | cons _ _ => simp at hv
         | cons x u ih => intro v hv; cases v with
           | nil => simp at hv
           | cons y v =>
             simp only [List.zipWith_cons_cons, List.map_cons, WJ, ih v (by simpa using hv)]
             cases (d.is lab).tt F ρ <;> rfl
        exact this es1 es2 (by omega)
       rw [he]
       refine ⟨fun es h => by simp only [oJ] at h; subst h; simp [hl1, l2], fun ht s hs => ?_, fun _ => hst⟩
       obtain ⟨t1, t2⟩ := AE ht
       simp only [lk] at hs
       split at hs
       ·rename_i hk
        simp only [oJ] at hs; subst hs
        exact ⟨_, g1, es1, rfl, by rw [<- hk]; exact hm, GA t1 (DT.is_true hk.symm), by rw [hz, DT.is_true hk.symm]; rfl⟩
       ·rename_i hk
        obtain ⟨es, g3, es3, h1, a1, a2, a3⟩ := i2 t2 s hs
        rw [ho] at h1
        simp only [oJ] at h1
        subst h1
        exact ⟨_, g3, es3, rfl, a1, a2, by rw [hz, DT.is_false (fun e => hk e.symm)]; exact a3⟩
def enL (le : LEnt) (mu : List Int -> Nat) (n : Nat) : Ent := { le.ent with pre := fun xs => le.ent.pre xs /\ mu xs < n }
theorem WK (hm : P.follows .mixedOrders = true) {body : Code} {le : LEnt} {l0 : Tabs} {call : Into} {N : Nat} {L : BO} (mu : List Int -> Nat)
 (hS : ∀ n, CC P G (enL le mu n :: l0) T) (hI : ∀ n ρ w0 M0 Im0, GOK G Im0 w0 -> DJ P (enL le mu n :: l0) ρ w0 M0 Im0 call) (hL : ∀ n, GB P G (enL le mu n :: l0) L body)
 {ob : E} {es : List E} (h : evL P G T call N L le body = some (ob, es))
 (hu : ∀ n xs, fits le.ent.pks xs -> le.ent.pre xs -> mu xs <= n -> ∃ ρ : Nat -> Int, (∀ i, i < le.ent.np -> ρ i = env xs i) /\ ob.tt (Tabs.F (enL le mu n :: l0)) ρ = true /\ ∀ (i : Nat) (k : K), le.ent.oks[i]? = some k -> k.norm (le.ent.fn i xs) = (es.getD i (mkB false)).den (Tabs.F (enL le mu n :: l0)) ρ) :
 Kf P G body le := by
 have main : ∀ n, Lo G { le with ent := enL le mu n } fun Q => Code.rounds P body Q n := by
  intro n
  induction n with
  | zero => intro xs hfit hpre; exact absurd hpre.2 (Nat.not_lt_zero _)
  | succ n ih =>
    intro xs hfit hpre w M0 Im hs hM hG hE a hdef hsz hsl Q hQ
    obtain ⟨hpre1, hpre2⟩ := hpre
    obtain ⟨ρ, hρ, u1, u2⟩ := hu n xs hfit hpre1 (by omega)
    obtain ⟨l, hl⟩ : ∃ l : Tabs, l = enL le mu n :: l0 := ⟨_, rfl⟩
    have hS' := hS n
    have hI' := hI n
    have hL' := hL n
    rw [<- hl] at u1 u2 hS' hI' hL'
    unfold evL at h
    split at h
    ·rename_i r hr
     split at h
     ·rename_i q hq
      split at h
      ·rename_i g es' hends
       simp only [oJ, pJ] at h
       obtain ⟨rfl, rfl⟩ := h
       obtain ⟨t1, t2⟩ := AE u1
       obtain ⟨elen0, espec0, hst0⟩ := Gp (F := l.F) (ρ := ρ) (le := le) (d := q.2.1) (ss := q.2.2)
       rw [hends] at elen0 espec0 hst0
       have elen := elen0 es' rfl
       have espec : g.tt l.F ρ = true -> ∀ s, lk (q.2.1.eval l.F ρ) q.2.2 = some s -> ∃ g1 es1, CM le s (q.2.1.eval l.F ρ) = some (g1, es1) /\ g1.tt l.F ρ = true /\ es'.map (E.den l.F ρ) = es1.map (E.den l.F ρ) := fun ht s hs => by
        obtain ⟨es, g1, es1, h1, h2, h3, h4⟩ := espec0 ht s hs
        simp only [oJ] at h1
        subst h1
        exact ⟨g1, es1, h2, h3, h4⟩
       have hst : DB le.ent = true := hst0 (by simp)
       let ad0 : Nat -> Hd := fun j => if j < le.ent.nn then hs j else { blk := 0, v := a.tmps.getD (j - le.ent.nn) undef }
       obtain ⟨r1, r2, r3⟩ := Hx (ad := ad0) l le.nt hst hρ hfit hM hE fun j hj => if_pos hj
       have hT0 : RelT l.F ρ ad0 (start le.ent le.nt) (tmL le) a := by
        refine ⟨hdef, by simp [tmL]; exact hsz, fun i v hv => ?_⟩
        simp only [Tm.at, tmL, List.getD, List.getElem?_map] at hv
        by_cases hi : i < le.nt
        ·rw [List.getElem?_range hi] at hv
         simp only [Option.map_some, Option.getD_some] at hv
         split at hv
         ·rename_i k hk
          have hk2 := List.findIdx?_eq_some_iff_getElem.1 hk
          obtain ⟨hk3, hk4, _⟩ := hk2
          have hski : le.sl[k]? = some i := by rw [List.getElem?_eq_getElem hk3]; simpa using hk4
          have h1 := hsl k i hski
          change a.tmps[i]? = (SV.concL F0 (env xs) hs le.ent.pgen.1)[k]? at h1
          rw [<- r2, Ae, List.getElem?_map, hv, Option.map_some] at h1
          exact ⟨h1, Dr r3 hv⟩
         ·simp only [oJ] at hv
          subst hv
          have hsz' : a.tmps.size = le.nt := hsz
          have hia : i < a.tmps.size := by rw [hsz']; exact hi
          refine ⟨?_, (C5 le.ent le.nt _).2 (by omega)⟩
          simp only [SV.conc, ad0]
          rw [if_neg (by omega), show le.ent.nn + i - le.ent.nn = i by omega]
          simp [Array.getD, hia]
        ·rw [List.getElem?_eq_none (by simpa using hi)] at hv
         simp at hv
       have hget : l.get (enL le mu n).key = some (enL le mu n) := by
        rw [hl]; simp [Tabs.get]
       have hA : After l.F ρ w M0 Im ad0 (start le.ent le.nt) q.2 Q := by
        intro s ad' a' w' hlk hRs hx
        obtain ⟨g1, es1, m1, m2, m3⟩ := espec t2 s hlk
        have m1' := m1
        unfold CM at m1'
        split at m1'
        ·rename_i bs us hbs hus
         split at m1'
         ·rename_i hkeep
          obtain ⟨hlen, hkeep⟩ := hkeep
          obtain ⟨b1, b2, b3⟩ := DK (l := l) m1'
          have hys : Am le.ent.fn xs 0 le.ent.oks = es1.map (E.den l.F ρ) := by
           rw [<- m3]
           refine Fc _ _ _ (by simp [elen]) fun i k y h1 h2 => ?_
           rw [Nat.zero_add, u2 i k h1]
           rw [List.getElem?_map] at h2
           obtain ⟨x, hx, rfl⟩ := Option.map_eq_some_iff.1 h2
           simp [List.getD, hx]
          obtain ⟨hs', Im', q1, q2, q3, q4, q5⟩ := b3 (hs := hs) hρ hfit hys m2 (hRs.2.shareL _) fun j hj => by
           rw [<- hx.same j ((C5 le.ent le.nt j).2 (by omega))]
           exact if_pos hj
          obtain ⟨g1', g2'⟩ := EM hus
          have hbits := Gn (F := l.F) (ρ := ρ) (ad := ad') (SV.concL l.F ρ ad' us) hbs
          refine hQ a' w' hs' Im' (SV.concL l.F ρ ad' (bs ++ us)) (q.2.1.eval l.F ρ) (SV.concL l.F ρ ad' us) q1 q2 q3 q5 ?_ ?_ ?_ ?_ ?_ hRs.1.defers
          ·show (BN le.ent.ogen.1).conc _ _ _ = _
           rw [show Am (enL le mu (n+1)).fn xs 0 (enL le mu (n+1)).oks = es1.map (E.den l.F ρ) from hys]
           rw [hys] at q4
           rw [<- q4]
           simp only [SV.conc]
          ·rw [show SV.concL l.F ρ ad' (bs ++ us) = SV.concL l.F ρ ad' bs ++ SV.concL l.F ρ ad' us by rw [Ae, Ae, Ae, List.map_append]]
           exact hbits.1
          ·intro i t hi
           have hv := g2' i t hi
           have hil : i < us.length := by have := (List.getElem?_eq_some_iff.1 hi).1; change i < le.so.length at this; omega
           rw [List.getElem?_eq_getElem hil] at hv
           rw [(hRs.1.slot t _ hv).1, Ae, List.getElem?_map, List.getElem?_eq_getElem hil, Option.map_some]
          ·intro k hk1 hk2
           have hsz' : a.tmps.size = le.nt := hsz
           by_cases hkn : k < le.nt
           ·have hkk := List.all_eq_true.1 hkeep k (List.mem_range.2 (by simp [tmL]; exact hkn))
            have c1 : le.so.contains k = false := by simpa using hk1
            have c2 : le.wr.contains k = false := by simpa using hk2
            rw [c1, c2, Bool.false_or, Bool.false_or] at hkk
            split at hkk
            ·rename_i v u hv0 hv1
             have := SV.same_eq _ _ hkk
             subst this
             obtain ⟨e1, e2⟩ := hT0.slot k v hv0
             rw [(hRs.1.slot k v hv1).1, e1, SV.conc_congr hx.same v e2]
            ·cases hkk
           ·have h1 : a'.tmps.size = le.nt := by rw [<- hlen]; exact hRs.1.size
            rw [Array.getElem?_eq_none (by omega), Array.getElem?_eq_none (by omega)]
          ·have h1 : a'.tmps.size = le.nt := by rw [<- hlen]; exact hRs.1.size
           have hsz' : a.tmps.size = le.nt := hsz
           omega
         ·cases m1'
        ·cases m1'
       show Code.rounds P body Q (n + 1) a w
       rw [rounds_succ]
       obtain ⟨v1, v2⟩ := EN (l := l) (ρ := ρ) (w0 := w) (M0 := M0) (Im0 := Im) (ad := ad0) (K := Code.rounds P body Q n) (g := q.1) (o := q.2) (f := Jr le) hq t1 hA fun s1 g2 o2 ad' a' w' h2 ht2 hR' hA' =>
        FF (le := { le with ent := enL le mu n }) (C := fun Q => Code.rounds P body Q n) hget ih hG (g := g2) (o := o2) h2 ht2 hR' hA'
       exact EO hm hS' hG (hI' ρ w M0 Im hG) body L _ r.1 r.2 ad0 a w _ hL' hr v1 ⟨hT0, r1⟩ v2
      ·cases h
     ·cases h
    ·cases h
 intro xs hfit hpre w M0 Im hs hM hG hE a hdef hsz hsl Q hQ
 exact wp_loop_rounds (mu xs + 1) (main (mu xs + 1) xs hfit ⟨hpre, Nat.lt_succ_self _⟩ w M0 Im hs hM hG hE a hdef hsz hsl Q hQ)
theorem XO (hm : P.follows .mixedOrders = true) {body : Code} {le : LEnt} {l0 : Tabs} {call : Into} {N : Nat} {L : BO} (mu : List Int -> Nat)
 (hS : ∀ n, CC P G (enL le mu n :: l0) T) (hI : ∀ n ρ w0 M0 Im0, GOK G Im0 w0 -> DJ P (enL le mu n :: l0) ρ w0 M0 Im0 call) (hL : ∀ n, GB P G (enL le mu n :: l0) L body)
 {ob : E} {es : List E} (h : evL P G T call N L le body = some (ob, es))
 (hu : ∀ n xs, fits le.ent.pks xs -> le.ent.pre xs -> mu xs <= n -> ob.tt (Tabs.F (enL le mu n :: l0)) (env xs) = true /\ ∀ (i : Nat) (k : K), le.ent.oks[i]? = some k -> k.norm (le.ent.fn i xs) = (es.getD i (mkB false)).den (Tabs.F (enL le mu n :: l0)) (env xs)) :
 Kf P G body le := WK hm mu hS hI hL h fun n xs hf hp hmu => ⟨env xs, fun _ _ => rfl, hu n xs hf hp hmu⟩
theorem VW (hm : P.follows .mixedOrders = true) {c : Code} {le : LEnt} {call : Into} {N : Nat} {L : BO}
 (hS' : CC P G l T) (hI' : ∀ ρ w0 M0 Im0, GOK G Im0 w0 -> DJ P l ρ w0 M0 Im0 call) (hL' : GB P G l L c)
 {ob : E} {es : List E} (h : evP P G T call N L le c = some (ob, es))
 (hu : ∀ xs, fits le.ent.pks xs -> le.ent.pre xs -> ∃ ρ : Nat -> Int, (∀ i, i < le.ent.np -> ρ i = env xs i) /\ ob.tt l.F ρ = true /\ ∀ (i : Nat) (k : K), le.ent.oks[i]? = some k -> k.norm (le.ent.fn i xs) = (es.getD i (mkB false)).den l.F ρ) :
 CodeOK P G c le := by
 intro xs hfit hpre w M0 Im hs hM hG hE a hdef hsz hsl Q hQ
 obtain ⟨ρ, hρ, u1, u2⟩ := hu xs hfit hpre
 unfold evP at h
 split at h
 ·rename_i r hr
  split at h
  ·rename_i g es' hends
   simp only [oJ, pJ] at h
   obtain ⟨rfl, rfl⟩ := h
   obtain ⟨t1, t2⟩ := AE u1
   obtain ⟨elen0, espec0, hst0⟩ := Gp (F := l.F) (ρ := ρ) (le := le) (d := r.2.1) (ss := r.2.2)
   rw [hends] at elen0 espec0 hst0
   have elen := elen0 es' rfl
   have espec : g.tt l.F ρ = true -> ∀ s, lk (r.2.1.eval l.F ρ) r.2.2 = some s -> ∃ g1 es1, CM le s (r.2.1.eval l.F ρ) = some (g1, es1) /\ g1.tt l.F ρ = true /\ es'.map (E.den l.F ρ) = es1.map (E.den l.F ρ) := fun ht s hs => by
    obtain ⟨es, g1, es1, h1, h2, h3, h4⟩ := espec0 ht s hs
    simp only [oJ] at h1
    subst h1
    exact ⟨g1, es1, h2, h3, h4⟩
   have hst : DB le.ent = true := hst0 (by simp)
   let ad0 : Nat -> Hd := fun j => if j < le.ent.nn then hs j else { blk := 0, v := a.tmps.getD (j - le.ent.nn) undef }
   obtain ⟨r1, r2, r3⟩ := Hx (ad := ad0) l le.nt hst hρ hfit hM hE fun j hj => if_pos hj
   have hT0 : RelT l.F ρ ad0 (start le.ent le.nt) (tmL le) a := by
    refine ⟨hdef, by simp [tmL]; exact hsz, fun i v hv => ?_⟩
    simp only [Tm.at, tmL, List.getD, List.getElem?_map] at hv
    by_cases hi : i < le.nt
    ·rw [List.getElem?_range hi] at hv
     simp only [Option.map_some, Option.getD_some] at hv
     split at hv
     ·rename_i k hk
      have hk2 := List.findIdx?_eq_some_iff_getElem.1 hk
      obtain ⟨hk3, hk4, _⟩ := hk2
      have hski : le.sl[k]? = some i := by rw [List.getElem?_eq_getElem hk3]; simpa using hk4
      have h1 := hsl k i hski
      change a.tmps[i]? = (SV.concL F0 (env xs) hs le.ent.pgen.1)[k]? at h1
      rw [<- r2, Ae, List.getElem?_map, hv, Option.map_some] at h1
      exact ⟨h1, Dr r3 hv⟩
     ·simp only [oJ] at hv
      subst hv
      have hsz' : a.tmps.size = le.nt := hsz
      have hia : i < a.tmps.size := by rw [hsz']; exact hi
      refine ⟨?_, (C5 le.ent le.nt _).2 (by omega)⟩
      simp only [SV.conc, ad0]
      rw [if_neg (by omega), show le.ent.nn + i - le.ent.nn = i by omega]
      simp [Array.getD, hia]
    ·rw [List.getElem?_eq_none (by simpa using hi)] at hv
     simp at hv
   have hA : After l.F ρ w M0 Im ad0 (start le.ent le.nt) r.2 Q := by
    intro s ad' a' w' hlk hRs hx
    obtain ⟨g1, es1, m1, m2, m3⟩ := espec t2 s hlk
    have m1' := m1
    unfold CM at m1'
    split at m1'
    ·rename_i bs us hbs hus
     split at m1'
     ·rename_i hkeep
      obtain ⟨hlen, hkeep⟩ := hkeep
      obtain ⟨b1, b2, b3⟩ := DK (l := l) m1'
      have hys : Am le.ent.fn xs 0 le.ent.oks = es1.map (E.den l.F ρ) := by
       rw [<- m3]
       refine Fc _ _ _ (by simp [elen]) fun i k y h1 h2 => ?_
       rw [Nat.zero_add, u2 i k h1]
       rw [List.getElem?_map] at h2
       obtain ⟨x, hx, rfl⟩ := Option.map_eq_some_iff.1 h2
       simp [List.getD, hx]
      obtain ⟨hs', Im', q1, q2, q3, q4, q5⟩ := b3 (hs := hs) hρ hfit hys m2 (hRs.2.shareL _) fun j hj => by
       rw [<- hx.same j ((C5 le.ent le.nt j).2 (by omega))]
       exact if_pos hj
      obtain ⟨g1', g2'⟩ := EM hus
      have hbits := Gn (F := l.F) (ρ := ρ) (ad := ad') (SV.concL l.F ρ ad' us) hbs
      refine hQ a' w' hs' Im' (SV.concL l.F ρ ad' (bs ++ us)) (r.2.1.eval l.F ρ) (SV.concL l.F ρ ad' us) q1 q2 q3 q5 ?_ ?_ ?_ ?_ ?_ hRs.1.defers
      ·show (BN le.ent.ogen.1).conc _ _ _ = _
       rw [show Am (le.ent).fn xs 0 (le.ent).oks = es1.map (E.den l.F ρ) from hys]
       rw [hys] at q4
       rw [<- q4]
       simp only [SV.conc]
      ·rw [show SV.concL l.F ρ ad' (bs ++ us) = SV.concL l.F ρ ad' bs ++ SV.concL l.F ρ ad' us by rw [Ae, Ae, Ae, List.map_append]]
       exact hbits.1
      ·intro i t hi
       have hv := g2' i t hi
       have hil : i < us.length := by have := (List.getElem?_eq_some_iff.1 hi).1; change i < le.so.length at this; omega
       rw [List.getElem?_eq_getElem hil] at hv
       rw [(hRs.1.slot t _ hv).1, Ae, List.getElem?_map, List.getElem?_eq_getElem hil, Option.map_some]
      ·intro k hk1 hk2
       have hsz' : a.tmps.size = le.nt := hsz
       by_cases hkn : k < le.nt
       ·have hkk := List.all_eq_true.1 hkeep k (List.mem_range.2 (by simp [tmL]; exact hkn))
        have c1 : le.so.contains k = false := by simpa using hk1
        have c2 : le.wr.contains k = false := by simpa using hk2
        rw [c1, c2, Bool.false_or, Bool.false_or] at hkk
        split at hkk
        ·rename_i v u hv0 hv1
         have := SV.same_eq _ _ hkk
         subst this
         obtain ⟨e1, e2⟩ := hT0.slot k v hv0
         rw [(hRs.1.slot k v hv1).1, e1, SV.conc_congr hx.same v e2]
        ·cases hkk
       ·have h1 : a'.tmps.size = le.nt := by rw [<- hlen]; exact hRs.1.size
        rw [Array.getElem?_eq_none (by omega), Array.getElem?_eq_none (by omega)]
      ·have h1 : a'.tmps.size = le.nt := by rw [<- hlen]; exact hRs.1.size
       have hsz' : a.tmps.size = le.nt := hsz
       omega
     ·cases m1'
    ·cases m1'
   exact EO hm hS' hG (hI' ρ w M0 Im hG) c L _ r.1 r.2 ad0 a w _ hL' hr t1 ⟨hT0, r1⟩ hA
  ·cases h
 ·cases h
end
structure Ctx where
 fs : List Ent
 ls : List (Nat × List Bool × LEnt)
def Ctx.l (c : Ctx) : Tabs := c.fs ++ c.ls.map fun x => x.2.2.ent
def Ad (l : List Ent) : Tab := fun f => l.filter fun e => e.f == f
def eqP : List Bool -> List Bool -> Bool
 | [], [] => true
 | a :: l, b :: r => (a == b) && eqP l r
 | _, _ => false
theorem VX : ∀ {a b : List Bool}, eqP a b = true -> a = b
 | [], [], _ => rfl
 | [], _ :: _, h => by simp [eqP] at h
 | _ :: _, [], h => by simp [eqP] at h
 | a :: l, b :: r, h => by
   simp only [eqP, Bool.and_eq_true, beq_iff_eq] at h
   rw [h.1, VX h.2]
def ltOf (l : List (Nat × List Bool × LEnt)) : Nat -> BO := fun f p => (l.find? fun x => x.1 == f && eqP x.2.1 p).map fun x => x.2.2
def AC (P : Program) (f : Nat) (p : List Bool) : Code :=
 match P.funcs[f]? with
 | some fn => match fn.body with
   | some c => match AJ c p with
     | some (.loop b) => b
     | _ => .skip
   | none => .skip
 | none => .skip
def A7 (P : Program) (f : Nat) (p : List Bool) : Code :=
 match P.funcs[f]? with
 | some fn => match fn.body with
   | some c => (AJ c p).getD .skip
   | none => .skip
 | none => .skip
def Aq (P : Program) (G : Glob) (f : Nat) (p : List Bool) (le : LEnt) : Prop := CodeOK P G (A7 P f p) le
def CX : List Ent -> Bool
 | [] => true
 | e :: r => (!r.any fun x => x.key == e.key) && CX r
structure Ctx.OK (P : Program) (G : Glob) (c : Ctx) : Prop where
 keys : CX c.l = true
 fs : ∀ e ∈ c.fs, EntryOK P G e
 ls : ∀ x ∈ c.ls, Aq P G x.1 x.2.1 x.2.2
theorem Qa : ∀ {l : List Ent}, CX l = true -> ∀ e ∈ l, Tabs.get l e.key = some e
 | [], _, e, he => by cases he
 | x :: r, h, e, he => by
   simp only [CX, Bool.and_eq_true, Bool.not_eq_true', List.any_eq_false, beq_iff_eq] at h
   rcases List.mem_cons.1 he with rfl | he
   ·simp [Tabs.get]
   ·have hne : ¬ x.key = e.key := fun e' => h.1 e he e'.symm
    have := Qa h.2 e he
    simp only [Tabs.get] at this ⊢
    rw [List.find?_cons_of_neg (by simpa using hne)]
    exact this
section
variable {P : Program} {G : Glob} {c : Ctx}
theorem BW (hc : ∀ e ∈ c.fs, EntryOK P G e) {l : Tabs} (hl : ∀ e ∈ c.fs, l.get e.key = some e) : CC P G l (Ad c.fs) := by
 intro f e he
 simp only [Ad, List.mem_filter, beq_iff_eq] at he
 exact ⟨he.2, hl e he.1, hc e he.1⟩
theorem Ctx.OK.get (hc : c.OK P G) : ∀ e ∈ c.l, c.l.get e.key = some e := Qa hc.keys
theorem Ctx.OK.getF (hc : c.OK P G) : ∀ e ∈ c.fs, c.l.get e.key = some e := fun e he => hc.get e (List.mem_append_left _ he)
theorem Ctx.OK.getL (hc : c.OK P G) : ∀ x ∈ c.ls, c.l.get x.2.2.ent.key = some x.2.2.ent := fun x hx => hc.get _ (List.mem_append_right _ (List.mem_map.2 ⟨x, hx, rfl⟩))
theorem GC (hc : ∀ x ∈ c.ls, Aq P G x.1 x.2.1 x.2.2) {l : Tabs} (hl : ∀ x ∈ c.ls, l.get x.2.2.ent.key = some x.2.2.ent) : LTOK P G l (ltOf c.ls) := by
 intro f fn cd hf hb p le h body hbody
 unfold ltOf at h
 obtain ⟨x, hx, rfl⟩ := Option.map_eq_some_iff.1 h
 have hp := List.find?_some hx
 simp only [Bool.and_eq_true, beq_iff_eq] at hp
 obtain ⟨rfl, hp⟩ := hp
 have hp := VX hp
 have hm := List.mem_of_find?_eq_some hx
 refine ⟨hl x hm, ?_⟩
 have := hc x hm
 have hbd : A7 P x.1 x.2.1 = body := by
  unfold A7
  rw [hp]
  simp only [hf, hb, hbody, Option.getD_some]
 unfold Aq at this
 rw [hbd] at this
 exact this
theorem Ctx.OK.entry (hc : c.OK P G) (hm : P.follows .mixedOrders = true) {N n : Nat} {e : Ent} {ob : E} {es : List E} (h : evE P G (Ad c.fs) (ltOf c.ls) N n e = some (ob, es))
 (hu : ∀ xs, fits e.pks xs -> e.pre xs -> ob.tt c.l.F (env xs) = true /\ ∀ (i : Nat) (k : K), e.oks[i]? = some k -> k.norm (e.fn i xs) = (es.getD i (mkB false)).den c.l.F (env xs)) : EntryOK P G e :=
 WI hm (BW hc.fs hc.getF) (GC hc.ls hc.getL) h hu
def subL (l : List (Nat × List Bool × LEnt)) (f : Nat) (p : List Bool) : BO := fun q => ltOf l f (p ++ false :: q)
theorem Ju {p q : List Bool} {c b : Code} (h : AJ c p = some b) : AJ c (p ++ q) = AJ b q := by
 induction p generalizing c with
 | nil =>
   have : c = b := by cases c <;> simpa [AJ] using h
   subst this; rfl
 | cons x p ih =>
   cases c with
   | seq a d => cases x <;> exact ih (by simpa [AJ] using h)
   | cond o a d => cases x <;> exact ih (by simpa [AJ] using h)
   | block i a => exact ih (by simpa [AJ] using h)
   | loop a => exact ih (by simpa [AJ] using h)
   | _ => simp [AJ] at h
theorem Hy {l : Tabs} {e x : Ent} (h : l.get x.key = some x) (hk : (l.any fun y => y.key == e.key) = false) : Tabs.get (e :: l) x.key = some x := by
 have hx : x ∈ l := List.mem_of_find?_eq_some h
 have hne : ¬ e.key = x.key := fun e' => by
  rw [List.any_eq_false] at hk
  exact hk x hx (by simp [e'])
 simp only [Tabs.get] at h ⊢
 rw [List.find?_cons_of_neg (by simpa using hne)]
 exact h
theorem Ctx.OK.loop (hc : c.OK P G) (hm : P.follows .mixedOrders = true) {N n : Nat} {f : Nat} {p : List Bool} {le : LEnt} {ob : E} {es : List E} (mu : List Int -> Nat)
 (hk : (c.l.any fun y => y.key == le.ent.key) = false) (hb : ∃ fn cd b, P.funcs[f]? = some fn /\ fn.body = some cd /\ AJ cd p = some (.loop b))
 (h : evL P G (Ad c.fs) (evFn P G (Ad c.fs) (ltOf c.ls) N n) N (subL c.ls f p) le (AC P f p) = some (ob, es))
 (hu : ∀ n xs, fits le.ent.pks xs -> le.ent.pre xs -> mu xs <= n -> ob.tt (Tabs.F (enL le mu n :: c.l)) (env xs) = true /\ ∀ (i : Nat) (k : K), le.ent.oks[i]? = some k -> k.norm (le.ent.fn i xs) = (es.getD i (mkB false)).den (Tabs.F (enL le mu n :: c.l)) (env xs)) :
 Aq P G f p le := by
 obtain ⟨fn, cd, b, b1, b2, b3⟩ := hb
 have hcf : A7 P f p = .loop b := by unfold A7; simp only [b1, b2, b3, Option.getD_some]
 unfold Aq
 rw [hcf]
 show Kf P G b le
 have hbd : AC P f p = b := by unfold AC; simp only [b1, b2, b3]
 rw [hbd] at h
 have g1 : ∀ n, ∀ e ∈ c.fs, Tabs.get (enL le mu n :: c.l) e.key = some e := fun n e he => Hy (e := enL le mu n) (hc.getF e he) hk
 have g2 : ∀ n, ∀ x ∈ c.ls, Tabs.get (enL le mu n :: c.l) x.2.2.ent.key = some x.2.2.ent := fun n x hx => Hy (e := enL le mu n) (hc.getL x hx) hk
 have g3 : ∀ n, LTOK P G (enL le mu n :: c.l) (ltOf c.ls) := fun n => GC hc.ls (g2 n)
 refine XO hm mu (fun n => BW hc.fs (g1 n)) (fun n ρ w0 M0 Im0 hG => EP hm (BW hc.fs (g1 n)) hG (g3 n) _) (fun n => ?_) h hu
 intro q le' hq body hbody
 exact g3 n f fn cd b1 b2 (p ++ false :: q) le' hq body (by rw [Ju b3]; exact hbody)
def subP (l : List (Nat × List Bool × LEnt)) (f : Nat) (p : List Bool) : BO := fun q => match q with
 | [] => none
 | _ :: _ => ltOf l f (p ++ q)
theorem Ctx.OK.piece (hc : c.OK P G) (hm : P.follows .mixedOrders = true) {N n : Nat} {f : Nat} {p : List Bool} {le : LEnt} {ob : E} {es : List E}
 (hb : ∃ fn cd b, P.funcs[f]? = some fn /\ fn.body = some cd /\ AJ cd p = some b)
 (h : evP P G (Ad c.fs) (evFn P G (Ad c.fs) (ltOf c.ls) N n) N (subP c.ls f p) le (A7 P f p) = some (ob, es))
 (hu : ∀ xs, fits le.ent.pks xs -> le.ent.pre xs -> ∃ ρ : Nat -> Int, (∀ i, i < le.ent.np -> ρ i = env xs i) /\ ob.tt c.l.F ρ = true /\ ∀ (i : Nat) (k : K), le.ent.oks[i]? = some k -> k.norm (le.ent.fn i xs) = (es.getD i (mkB false)).den c.l.F ρ) :
 Aq P G f p le := by
 obtain ⟨fn, cd, b, b1, b2, b3⟩ := hb
 have hcf : A7 P f p = b := by unfold A7; simp only [b1, b2, b3, Option.getD_some]
 have g3 : LTOK P G c.l (ltOf c.ls) := GC hc.ls hc.getL
 refine VW hm (BW hc.fs hc.getF) (fun ρ w0 M0 Im0 hG => EP hm (BW hc.fs hc.getF) hG g3 _) ?_ h hu
 intro q le' hq body hbody
 rw [hcf] at hbody
 cases q with
 | nil => cases hq
 | cons x q => exact g3 f fn cd b1 b2 (p ++ x :: q) le' hq body (by rw [Ju b3]; exact hbody)
def AD (fn : Nat -> List Int -> Int) (xs : List Int) (F : Fam) (ρ : Nat -> Int) : Nat -> List K -> List E -> Prop
 | _, [], _ => True
 | j, k :: ks, es => k.norm (fn j xs) = (es.headD (mkB false)).den F ρ /\ AD fn xs F ρ (j + 1) ks es.tail
theorem FM {fn : Nat -> List Int -> Int} {xs : List Int} {F : Fam} {ρ : Nat -> Int} : ∀ {ks : List K} {es : List E} {j : Nat}, AD fn xs F ρ j ks es -> ∀ (i : Nat) (k : K), ks[i]? = some k -> k.norm (fn (j + i) xs) = (es.getD i (mkB false)).den F ρ
 | [], es, j, h, i, k, hi => by simp at hi
 | k' :: ks, es, j, h, 0, k, hi => by
   simp only [List.getElem?_cons_zero, oJ] at hi
   subst hi
   have := h.1
   cases es <;> simpa using this
 | k' :: ks, es, j, h, i + 1, k, hi => by
   have := FM h.2 i k (by simpa using hi)
   rw [show j + 1 + i = j + (i + 1) by omega] at this
   cases es with
   | nil => simpa using this
   | cons x es => simpa using this
theorem Ctx.OK.entryP (hc : c.OK P G) (hm : P.follows .mixedOrders = true) {N n : Nat} {e : Ent} {ob : E} {es : List E} (h : evE P G (Ad c.fs) (ltOf c.ls) N n e = some (ob, es)) (ks : List K) (hks : e.pks = ks) (os : List K) (hos : e.oks = os)
 (hu : ∀ xs, fits ks xs -> e.pre xs -> ob.tt c.l.F (env xs) = true /\ AD e.fn xs c.l.F (env xs) 0 os es) : EntryOK P G e := by
 subst hks; subst hos
 exact hc.entry hm h fun xs hf hp => ⟨(hu xs hf hp).1, fun i k hi => by simpa using FM (hu xs hf hp).2 i k hi⟩
theorem Ctx.OK.loopP (hc : c.OK P G) (hm : P.follows .mixedOrders = true) {N n : Nat} {f : Nat} {p : List Bool} {le : LEnt} {ob : E} {es : List E} (mu : List Int -> Nat)
 (hk : (c.l.any fun y => y.key == le.ent.key) = false) (hb : ∃ fn cd b, P.funcs[f]? = some fn /\ fn.body = some cd /\ AJ cd p = some (.loop b))
 (h : evL P G (Ad c.fs) (evFn P G (Ad c.fs) (ltOf c.ls) N n) N (subL c.ls f p) le (AC P f p) = some (ob, es)) (ks : List K) (hks : le.ent.pks = ks) (os : List K) (hos : le.ent.oks = os)
 (hu : ∀ n xs, fits ks xs -> le.ent.pre xs -> mu xs <= n -> ob.tt (Tabs.F (enL le mu n :: c.l)) (env xs) = true /\ AD le.ent.fn xs (Tabs.F (enL le mu n :: c.l)) (env xs) 0 os es) :
 Aq P G f p le := by
 subst hks; subst hos
 exact hc.loop hm mu hk hb h fun n xs hf hp hmu => ⟨(hu n xs hf hp hmu).1, fun i k hi => by simpa using FM (hu n xs hf hp hmu).2 i k hi⟩
theorem Ctx.OK.pieceP (hc : c.OK P G) (hm : P.follows .mixedOrders = true) {N n : Nat} {f : Nat} {p : List Bool} {le : LEnt} {ob : E} {es : List E}
 (hb : ∃ fn cd b, P.funcs[f]? = some fn /\ fn.body = some cd /\ AJ cd p = some b)
 (h : evP P G (Ad c.fs) (evFn P G (Ad c.fs) (ltOf c.ls) N n) N (subP c.ls f p) le (A7 P f p) = some (ob, es)) (ks : List K) (hks : le.ent.pks = ks) (os : List K) (hos : le.ent.oks = os)
 (hu : ∀ xs, fits ks xs -> le.ent.pre xs -> ob.tt c.l.F (env xs) = true /\ AD le.ent.fn xs c.l.F (env xs) 0 os es) :
 Aq P G f p le := by
 subst hks; subst hos
 exact hc.piece hm hb h fun xs hf hp => ⟨env xs, fun _ _ => rfl, (hu xs hf hp).1, fun i k hi => by simpa using FM (hu xs hf hp).2 i k hi⟩
theorem Ctx.OK.entryR (hc : c.OK P G) (hm : P.follows .mixedOrders = true) {N n : Nat} {e : Ent} {ob : E} {es : List E} (h : evE P G (Ad c.fs) (ltOf c.ls) N n e = some (ob, es)) (ks : List K) (hks : e.pks = ks) (os : List K) (hos : e.oks = os)
 (hu : ∀ xs, fits ks xs -> e.pre xs -> ∃ ρ : Nat -> Int, (∀ i, i < ks.length -> ρ i = env xs i) /\ ob.tt c.l.F ρ = true /\ AD e.fn xs c.l.F ρ 0 os es) : EntryOK P G e := by
 subst hks; subst hos
 refine Kn hm (BW hc.fs hc.getF) (GC hc.ls hc.getL) h fun xs hf hp => ?_
 obtain ⟨ρ, u1, u2, u3⟩ := hu xs hf hp
 exact ⟨ρ, u1, u2, fun i k hi => by simpa using FM u3 i k hi⟩
theorem Ctx.OK.addF (hc : c.OK P G) {e : Ent} (h : EntryOK P G e) (hk : (c.l.any fun y => y.key == e.key) = false) : Ctx.OK P G ⟨e :: c.fs, c.ls⟩ := by
 refine ⟨?_, fun x hx => ?_, hc.ls⟩
 ·show CX (e :: c.l) = true
  simp only [CX, hk, Bool.not_false, Bool.true_and]
  exact hc.keys
 ·rcases List.mem_cons.1 hx with rfl | hx
  ·exact h
  ·exact hc.fs x hx
theorem Qb : ∀ {a b : List Ent} {e : Ent}, CX (a ++ b) = true -> ((a ++ b).any fun y => y.key == e.key) = false -> CX (a ++ e :: b) = true
 | [], b, e, h, hk => by simp only [List.nil_append, CX, hk, Bool.not_false, Bool.true_and] at *; exact h
 | x :: a, b, e, h, hk => by
   simp only [List.cons_append, CX, Bool.and_eq_true, List.any_cons, Bool.or_eq_false_iff, Bool.not_eq_true'] at h hk ⊢
   refine ⟨?_, Qb h.2 hk.2⟩
   have h1 := h.1
   simp only [List.any_append, Bool.or_eq_false_iff, List.any_cons] at h1 ⊢
   refine ⟨h1.1, ?_, h1.2⟩
   have := hk.1
   simp only [beq_eq_false_iff_ne, ne_eq] at this ⊢
   exact fun e' => this e'.symm
theorem Ctx.OK.addL (hc : c.OK P G) {f : Nat} {p : List Bool} {le : LEnt} (h : Aq P G f p le) (hk : (c.l.any fun y => y.key == le.ent.key) = false) : Ctx.OK P G ⟨c.fs, (f, p, le) :: c.ls⟩ := by
 refine ⟨?_, hc.fs, fun x hx => ?_⟩
 ·show CX (c.fs ++ le.ent :: c.ls.map fun x => x.2.2.ent) = true
  exact Qb hc.keys hk
 ·rcases List.mem_cons.1 hx with rfl | hx
  ·exact h
  ·exact hc.ls x hx
theorem Ctx.OK.nil : Ctx.OK P G ⟨[], []⟩ := ⟨rfl, fun _ h => (by cases h), fun _ h => (by cases h)⟩
end
theorem i64w {z : Int} (h1 : -9223372036854775808 <= z) (h2 : z <= 9223372036854775807) : IntKind.i64.wrap z = z := by rw [IntKind.wrap_i64]; omega
theorem i64r {z : Int} (h : IntKind.i64.wrap z = z) : -9223372036854775808 <= z /\ z <= 9223372036854775807 := by rw [IntKind.wrap_i64] at h; omega
theorem VY (a b : E) (F : Fam) (ρ : Nat -> Int) : (E.and a b).tt F ρ = (a.tt F ρ && b.tt F ρ) := by simp [E.tt, E.den]
theorem tt_or (a b : E) (F : Fam) (ρ : Nat -> Int) : (E.or a b).tt F ρ = (a.tt F ρ || b.tt F ρ) := by simp [E.tt, E.den]
theorem Ye (a : E) (F : Fam) (ρ : Nat -> Int) : (E.not a).tt F ρ = !a.tt F ρ := by simp [E.tt, E.den]
theorem VZ (op : BinOp) (a b : E) (F : Fam) (ρ : Nat -> Int) : (E.cmp op a b).tt F ρ = cmpB op (a.den F ρ) (b.den F ρ) := by simp [E.tt, E.den]
theorem Yf (n : Int) (F : Fam) (ρ : Nat -> Int) : (E.lit .b n).tt F ρ = decide (n ≠ 0) := by
 by_cases h : n = 0 <;> simp [E.tt, E.den, K.norm, i2b, h]
theorem Yg (c a b : E) (F : Fam) (ρ : Nat -> Int) : (E.ite c a b).tt F ρ = bif c.tt F ρ then a.tt F ρ else b.tt F ρ := by
 simp only [E.tt, E.den]; cases i2b (c.den F ρ) <;> rfl
theorem XP (op : BinOp) (a b : E) (F : Fam) (ρ : Nat -> Int) : (E.cmp op a b).den F ρ = b2i (cmpB op (a.den F ρ) (b.den F ρ)) := rfl
theorem XQ (a : E) (F : Fam) (ρ : Nat -> Int) : (E.not a).den F ρ = b2i (!a.tt F ρ) := rfl
theorem XR (a b : E) (F : Fam) (ρ : Nat -> Int) : (E.and a b).den F ρ = b2i (a.tt F ρ && b.tt F ρ) := rfl
theorem Yh (a b : E) (F : Fam) (ρ : Nat -> Int) : (E.or a b).den F ρ = b2i (a.tt F ρ || b.tt F ρ) := rfl
theorem XS (c a b : E) (F : Fam) (ρ : Nat -> Int) : (E.ite c a b).den F ρ = bif c.tt F ρ then a.den F ρ else b.den F ρ := rfl
theorem XT (k : K) (n : Int) (F : Fam) (ρ : Nat -> Int) : (E.lit k n).den F ρ = k.norm n := rfl
theorem Te (k : K) (i : Nat) (F : Fam) (ρ : Nat -> Int) : (E.var k i).den F ρ = k.norm (ρ i) := rfl
theorem XU (op : BinOp) (k : IntKind) (a b : E) (F : Fam) (ρ : Nat -> Int) : (E.bin op k a b).den F ρ = binI op k (a.den F ρ) (b.den F ρ) := rfl
theorem Yi (op : BinOp) (k : IntKind) (a : E) (n : Int) (F : Fam) (ρ : Nat -> Int) : (E.dv op k a n).den F ρ = dvI op k (a.den F ρ) n := rfl
theorem Yj (op : BinOp) (k : IntKind) (a b : E) (F : Fam) (ρ : Nat -> Int) : (E.sh op k a b).den F ρ = shI op k (a.den F ρ) (b.den F ρ) := rfl
theorem WM (k : IntKind) (a : E) (F : Fam) (ρ : Nat -> Int) : (E.conv k a).den F ρ = k.wrap (a.den F ρ) := rfl
theorem Pf (k : K) (f j : Nat) (as : List E) (F : Fam) (ρ : Nat -> Int) : (E.app k f j as).den F ρ = k.norm (F f j (as.map (E.den F ρ))) := by simp only [E.den, Gu]
theorem Yk (f j : Nat) (as : List E) (F : Fam) (ρ : Nat -> Int) : (E.app .b f j as).tt F ρ = i2b (K.b.norm (F f j (as.map (E.den F ρ)))) := by simp only [E.tt, E.den, Gu]
theorem Yl (i : Nat) (F : Fam) (ρ : Nat -> Int) : (E.var .b i).tt F ρ = i2b (ρ i) := by
 by_cases h : ρ i = 0 <;> simp [E.tt, E.den, K.norm, i2b, h]
theorem Ab (k : IntKind) (n : Int) : K.norm (.i k) n = k.wrap n := rfl
theorem nb1 : K.b.norm 1 = 1 := rfl
theorem nb0 : K.b.norm 0 = 0 := rfl
theorem i2b1 : i2b 1 = true := rfl
theorem i2b0 : i2b 0 = false := rfl
theorem AR (n : Int) : K.norm .x n = n := rfl
theorem F_bi (l : Tabs) (j : Nat) (xs : List Int) : l.F 0 j xs = bi j xs := l.BI j xs
theorem F_fn {l : Tabs} (e : Ent) {key : Nat} (hk : e.key = key) (he : l.get key = some e) (h : key ≠ 0) {j : Nat} (hj : (j == preC) = false) (xs : List Int) : l.F key j xs = e.fn j xs := by
 subst hk
 exact Tabs.F_fn he h (by simpa using hj) xs
theorem Ym (le : LEnt) (mu : List Int -> Nat) (n : Nat) (l0 : Tabs) (hk : le.ent.key ≠ 0) : ∃ l : Tabs, enL le mu n :: l0 = l /\ (∀ j, (j == preC) = false -> ∀ xs, l.F le.ent.key j xs = le.ent.fn j xs) /\
 (∀ xs, le.ent.pre xs /\ mu xs < n -> i2b (K.b.norm (l.F le.ent.key 1000000 xs)) = true) /\
 ∀ e : Ent, l0.get e.key = some e -> e.key ≠ le.ent.key -> e.key ≠ 0 -> (∀ j, (j == preC) = false -> ∀ xs, l.F e.key j xs = e.fn j xs) /\ ∀ xs, e.pre xs -> i2b (K.b.norm (l.F e.key 1000000 xs)) = true := by
 have g : Tabs.get (enL le mu n :: l0) le.ent.key = some (enL le mu n) := by simp [Tabs.get, enL]
 refine ⟨_, rfl, fun j hj xs => F_fn (enL le mu n) rfl g hk hj xs, fun xs h => (Tabs.F_pre (e := enL le mu n) g hk rfl).2 h, fun e he h1 h2 => ?_⟩
 have ge : Tabs.get (enL le mu n :: l0) e.key = some e := by
  have : (le.ent.key == e.key) = false := by simpa using fun e' => h1 e'.symm
  simp only [Tabs.get, enL, List.find?_cons, this]
  exact he
 exact ⟨fun j hj xs => F_fn e rfl ge h2 hj xs, fun xs h => (Tabs.F_pre ge h2 rfl).2 h⟩
theorem ctx_F {l0 : Tabs} : ∃ l : Tabs, l0 = l /\ ∀ e : Ent, l0.get e.key = some e -> e.key ≠ 0 -> (∀ j, (j == preC) = false -> ∀ xs, l.F e.key j xs = e.fn j xs) /\ ∀ xs, e.pre xs -> i2b (K.b.norm (l.F e.key 1000000 xs)) = true :=
 ⟨_, rfl, fun e ge h2 => ⟨fun j hj xs => F_fn e rfl ge h2 hj xs, fun xs h => (Tabs.F_pre ge h2 rfl).2 h⟩⟩
theorem por (x y : Bool) : ((x || y) = true) = (x = false -> y = true) := by cases x <;> cases y <;> simp
theorem pnand (x y : Bool) : ((x && y) = false) = (x = true -> y = false) := by cases x <;> cases y <;> simp
theorem pand (x y : Bool) : ((x && y) = true) = (x = true /\ y = true) := by cases x <;> cases y <;> simp
theorem pnor (x y : Bool) : ((x || y) = false) = (x = false /\ y = false) := by cases x <;> cases y <;> simp
theorem pnot (x : Bool) : ((!x) = true) = (x = false) := by cases x <;> simp
theorem pnnot (x : Bool) : ((!x) = false) = (x = true) := by cases x <;> simp
theorem pcond (c x y : Bool) : ((bif c then x else y) = true) = ((c = true -> x = true) /\ (c = false -> y = true)) := by cases c <;> cases x <;> cases y <;> simp
theorem pncond (c x y : Bool) : ((bif c then x else y) = false) = ((c = true -> x = false) /\ (c = false -> y = false)) := by cases c <;> cases x <;> cases y <;> simp
theorem pdec (p : Prop) [Decidable p] : (decide p = true) = p := by simp
theorem pndec (p : Prop) [Decidable p] : (decide p = false) = ¬ p := by simp
theorem peq (x y : Int) : ((x == y) = true) = (x = y) := by simp
theorem pneq (x y : Int) : ((x == y) = false) = ¬ (x = y) := by simp
theorem pne (x y : Int) : ((x != y) = true) = ¬ (x = y) := by simp
theorem pnne (x y : Int) : ((x != y) = false) = (x = y) := by simp
theorem pgt (x y : Int) : (x > y) = (y < x) := rfl
theorem pge (x y : Int) : (x >= y) = (y <= x) := rfl
theorem u8w {z : Int} (h1 : 0 <= z) (h2 : z <= 255) : IntKind.u8.wrap z = z := by
 simp only [IntKind.wrap, IntKind.signed, IntKind.bits]; simp; omega
theorem u16w {z : Int} (h1 : 0 <= z) (h2 : z <= 65535) : IntKind.u16.wrap z = z := by
 simp only [IntKind.wrap, IntKind.signed, IntKind.bits]; simp; omega
theorem u32w {z : Int} (h1 : 0 <= z) (h2 : z <= 4294967295) : IntKind.u32.wrap z = z := by
 simp only [IntKind.wrap, IntKind.signed, IntKind.bits]; simp; omega
theorem u64w {z : Int} (h1 : 0 <= z) (h2 : z <= 18446744073709551615) : IntKind.u64.wrap z = z := by
 simp only [IntKind.wrap, IntKind.signed, IntKind.bits]; simp; omega
theorem u8r {z : Int} (h : IntKind.u8.wrap z = z) : 0 <= z /\ z <= 255 := by
 simp only [IntKind.wrap, IntKind.signed, IntKind.bits] at h; simp at h; omega
theorem dcond (c : Bool) (x y : Int) : (bif c then x else y) = if c = true then x else y := by cases c <;> rfl
open Classical in
theorem An {l0 : Tabs} : ∃ l : Tabs, l0 = l /\ ∀ e : Ent, l0.get e.key = some e -> e.key ≠ 0 -> (∀ j, (j == preC) = false -> ∀ xs, l.F e.key j xs = e.fn j xs) /\ ∀ xs, (i2b (K.b.norm (l.F e.key 1000000 xs)) = true) = e.pre xs :=
 ⟨_, rfl, fun e ge h2 => ⟨fun j hj xs => F_fn e rfl ge h2 hj xs, fun xs => propext (Tabs.F_pre ge h2 rfl)⟩⟩
theorem V1 (le : LEnt) (mu : List Int -> Nat) (n : Nat) (l0 : Tabs) (hk : le.ent.key ≠ 0) : ∃ l : Tabs, enL le mu n :: l0 = l /\ ((∀ j, (j == preC) = false -> ∀ xs, l.F le.ent.key j xs = le.ent.fn j xs) /\
 (∀ xs, (i2b (K.b.norm (l.F le.ent.key 1000000 xs)) = true) = (le.ent.pre xs /\ mu xs < n))) /\
 ∀ e : Ent, l0.get e.key = some e -> e.key ≠ le.ent.key -> e.key ≠ 0 -> (∀ j, (j == preC) = false -> ∀ xs, l.F e.key j xs = e.fn j xs) /\ ∀ xs, (i2b (K.b.norm (l.F e.key 1000000 xs)) = true) = e.pre xs := by
 have g : Tabs.get (enL le mu n :: l0) le.ent.key = some (enL le mu n) := by simp [Tabs.get, enL]
 refine ⟨_, rfl, ⟨fun j hj xs => F_fn (enL le mu n) rfl g hk hj xs, fun xs => propext (Tabs.F_pre (e := enL le mu n) g hk rfl)⟩, fun e he h1 h2 => ?_⟩
 have ge : Tabs.get (enL le mu n :: l0) e.key = some e := by
  have : (le.ent.key == e.key) = false := by simpa using fun e' => h1 e'.symm
  simp only [Tabs.get, enL, List.find?_cons, this]
  exact he
 exact ⟨fun j hj xs => F_fn e rfl ge h2 hj xs, fun xs => propext (Tabs.F_pre ge h2 rfl)⟩
def Ent.nm (e : Ent) : Ent := { e with key := e.key + 100000000 }
theorem Ent.nm_fn (e : Ent) : e.nm.fn = e.fn := rfl
theorem Ent.nm_pre (e : Ent) : e.nm.pre = e.pre := rfl
theorem EntryOK.nm {P : Program} {G : Glob} {e : Ent} (h : EntryOK P G e) : EntryOK P G e.nm := h
def LEnt.nm (le : LEnt) : LEnt := { le with ent := le.ent.nm }
theorem CodeOK.nm {P : Program} {G : Glob} {c : Code} {le : LEnt} (h : CodeOK P G c le) : CodeOK P G c le.nm := h
def Ctx.nm (c : Ctx) : Ctx := ⟨c.fs.map Ent.nm, c.ls.map fun x => (x.1, x.2.1, x.2.2.nm)⟩
theorem RC : ∀ {l : List Ent}, CX l = true -> CX (l.map Ent.nm) = true
 | [], _ => rfl
 | e :: r, h => by
   simp only [CX, Bool.and_eq_true, Bool.not_eq_true', List.any_eq_false, beq_iff_eq, List.map_cons] at h ⊢
   refine ⟨fun x hx => ?_, RC h.2⟩
   obtain ⟨y, hy, rfl⟩ := List.mem_map.1 hx
   have := h.1 y hy
   show ¬ y.key + 100000000 = e.key + 100000000
   omega
theorem Ctx.nm_l (c : Ctx) : c.nm.l = c.l.map Ent.nm := by
 simp only [Ctx.l, Ctx.nm, List.map_append, List.map_map]; rfl
theorem Ctx.OK.nm {P : Program} {G : Glob} {c : Ctx} (h : c.OK P G) : c.nm.OK P G := by
 refine ⟨?_, fun e he => ?_, fun x hx => ?_⟩
 ·rw [Ctx.nm_l]; exact RC h.keys
 ·obtain ⟨y, hy, rfl⟩ := List.mem_map.1 he
  exact (h.fs y hy).nm
 ·obtain ⟨y, hy, rfl⟩ := List.mem_map.1 hx
  exact CodeOK.nm (h.ls y hy)
mutual
def E.no (p : Nat -> Bool) : E -> Bool
 | .lit .. => true
 | .var _ i => !p i
 | .app _ _ _ as => E.noL p as
 | .bin _ _ a b => E.no p a && E.no p b
 | .dv _ _ a _ => E.no p a
 | .sh _ _ a b => E.no p a && E.no p b
 | .cmp _ a b => E.no p a && E.no p b
 | .conv _ a => E.no p a
 | .not a => E.no p a
 | .and a b => E.no p a && E.no p b
 | .or a b => E.no p a && E.no p b
 | .ite c a b => E.no p c && (E.no p a && E.no p b)
def E.noL (p : Nat -> Bool) : List E -> Bool
 | [] => true
 | e :: r => E.no p e && E.noL p r
end
mutual
theorem E.no_den {F : Fam} {p : Nat -> Bool} {ρ ρ' : Nat -> Int} (h : ∀ i, p i = false -> ρ i = ρ' i) : ∀ e : E, E.no p e = true -> e.den F ρ = e.den F ρ'
 | .lit .., _ => rfl
 | .var k i, hn => by simp only [E.no, Bool.not_eq_true'] at hn; simp only [E.den, h i hn]
 | .app k f j as, hn => by simp only [E.no] at hn; simp only [E.den, E.no_denL h as hn]
 | .bin op k a b, hn => by simp only [E.no, Bool.and_eq_true] at hn; simp only [E.den, E.no_den h a hn.1, E.no_den h b hn.2]
 | .dv op k a n, hn => by simp only [E.no] at hn; simp only [E.den, E.no_den h a hn]
 | .sh op k a b, hn => by simp only [E.no, Bool.and_eq_true] at hn; simp only [E.den, E.no_den h a hn.1, E.no_den h b hn.2]
 | .cmp op a b, hn => by simp only [E.no, Bool.and_eq_true] at hn; simp only [E.den, E.no_den h a hn.1, E.no_den h b hn.2]
 | .conv k a, hn => by simp only [E.no] at hn; simp only [E.den, E.no_den h a hn]
 | .not a, hn => by simp only [E.no] at hn; simp only [E.den, E.no_den h a hn]
 | .and a b, hn => by simp only [E.no, Bool.and_eq_true] at hn; simp only [E.den, E.no_den h a hn.1, E.no_den h b hn.2]
 | .or a b, hn => by simp only [E.no, Bool.and_eq_true] at hn; simp only [E.den, E.no_den h a hn.1, E.no_den h b hn.2]
 | .ite c a b, hn => by simp only [E.no, Bool.and_eq_true] at hn; simp only [E.den, E.no_den h c hn.1, E.no_den h a hn.2.1, E.no_den h b hn.2.2]
theorem E.no_denL {F : Fam} {p : Nat -> Bool} {ρ ρ' : Nat -> Int} (h : ∀ i, p i = false -> ρ i = ρ' i) : ∀ l : List E, E.noL p l = true -> E.denL F ρ l = E.denL F ρ' l
 | [], _ => rfl
 | e :: r, hn => by simp only [E.noL, Bool.and_eq_true] at hn; simp only [E.denL, E.no_den h e hn.1, E.no_denL h r hn.2]
end
def okD (np : Nat) : List (Nat × E) -> Bool
 | [] => true
 | x :: r => (decide (np <= x.1) && E.no (fun i => i == x.1 || r.any fun y => y.1 == i) x.2) && ((!r.any fun y => y.1 == x.1) && okD np r)
theorem V3 (F : Fam) (np : Nat) : ∀ (d : List (Nat × E)) (ρ0 : Nat -> Int), okD np d = true -> ∃ ρ : Nat -> Int, (∀ i, (d.any fun y => y.1 == i) = false -> ρ i = ρ0 i) /\ ∀ x ∈ d, ρ x.1 = x.2.den F ρ
 | [], ρ0, _ => ⟨ρ0, fun _ _ => rfl, fun x hx => by cases hx⟩
 | x :: r, ρ0, h => by
   simp only [okD, Bool.and_eq_true, decide_eq_true_eq, Bool.not_eq_true'] at h
   obtain ⟨⟨h1, h2⟩, h3, h4⟩ := h
   obtain ⟨ρ, q1, q2⟩ := V3 F np r (fun i => if i = x.1 then x.2.den F ρ0 else ρ0 i) h4
   have hx : ρ x.1 = x.2.den F ρ := by
    rw [q1 x.1 h3, if_pos rfl]
    refine E.no_den (fun i hi => ?_) _ h2
    simp only [Bool.or_eq_false_iff, beq_eq_false_iff_ne] at hi
    rw [q1 i hi.2, if_neg hi.1]
   refine ⟨ρ, fun i hi => ?_, fun y hy => ?_⟩
   ·simp only [List.any_cons, Bool.or_eq_false_iff, beq_eq_false_iff_ne] at hi
    rw [q1 i hi.2, if_neg (fun e => hi.1 e.symm)]
   ·rcases List.mem_cons.1 hy with rfl | hy
    ·exact hx
    ·exact q2 y hy
theorem V4 {np : Nat} : ∀ {d : List (Nat × E)}, okD np d = true -> ∀ i, i < np -> (d.any fun y => y.1 == i) = false
 | [], _, _, _ => rfl
 | x :: r, h, i, hi => by
   simp only [okD, Bool.and_eq_true, decide_eq_true_eq] at h
   simp only [List.any_cons, V4 h.2.2 i hi, Bool.or_false, beq_eq_false_iff_ne]
   have := h.1.1
   omega
theorem solve {F : Fam} (np : Nat) (d : List (Nat × E)) (h : okD np d = true) (xs : List Int) : ∃ ρ : Nat -> Int, (∀ i, i < np -> ρ i = env xs i) /\ ∀ x ∈ d, ρ x.1 = x.2.den F ρ := by
 obtain ⟨ρ, a, b⟩ := V3 F np d (env xs) h
 exact ⟨ρ, fun i hi => a i (V4 h i hi), b⟩
theorem ewA : (∀ (a b : E) (F : Fam) (ρ : Nat -> Int), (E.and a b).tt F ρ = (a.tt F ρ && b.tt F ρ)) /\
 (∀ (a b : E) (F : Fam) (ρ : Nat -> Int), (E.or a b).tt F ρ = (a.tt F ρ || b.tt F ρ)) /\
 (∀ (a : E) (F : Fam) (ρ : Nat -> Int), (E.not a).tt F ρ = !a.tt F ρ) /\
 (∀ (op : BinOp) (a b : E) (F : Fam) (ρ : Nat -> Int), (E.cmp op a b).tt F ρ = cmpB op (a.den F ρ) (b.den F ρ)) /\
 (∀ (n : Int) (F : Fam) (ρ : Nat -> Int), (E.lit .b n).tt F ρ = decide (n ≠ 0)) /\
 (∀ (c a b : E) (F : Fam) (ρ : Nat -> Int), (E.ite c a b).tt F ρ = bif c.tt F ρ then a.tt F ρ else b.tt F ρ) /\
 (∀ (i : Nat) (F : Fam) (ρ : Nat -> Int), (E.var .b i).tt F ρ = i2b (ρ i)) /\
 (∀ (f j : Nat) (as : List E) (F : Fam) (ρ : Nat -> Int), (E.app .b f j as).tt F ρ = i2b (K.b.norm (F f j (as.map (E.den F ρ))))) /\
 (∀ (op : BinOp) (a b : E) (F : Fam) (ρ : Nat -> Int), (E.cmp op a b).den F ρ = b2i (cmpB op (a.den F ρ) (b.den F ρ))) /\
 (∀ (a : E) (F : Fam) (ρ : Nat -> Int), (E.not a).den F ρ = b2i (!a.tt F ρ)) /\
 (∀ (a b : E) (F : Fam) (ρ : Nat -> Int), (E.and a b).den F ρ = b2i (a.tt F ρ && b.tt F ρ)) /\
 (∀ (a b : E) (F : Fam) (ρ : Nat -> Int), (E.or a b).den F ρ = b2i (a.tt F ρ || b.tt F ρ)) /\
 (∀ (c a b : E) (F : Fam) (ρ : Nat -> Int), (E.ite c a b).den F ρ = bif c.tt F ρ then a.den F ρ else b.den F ρ) /\
 (∀ (k : K) (n : Int) (F : Fam) (ρ : Nat -> Int), (E.lit k n).den F ρ = k.norm n) /\
 (∀ (k : K) (i : Nat) (F : Fam) (ρ : Nat -> Int), (E.var k i).den F ρ = k.norm (ρ i)) /\
 (∀ (op : BinOp) (k : IntKind) (a b : E) (F : Fam) (ρ : Nat -> Int), (E.bin op k a b).den F ρ = binI op k (a.den F ρ) (b.den F ρ)) /\
 (∀ (op : BinOp) (k : IntKind) (a : E) (n : Int) (F : Fam) (ρ : Nat -> Int), (E.dv op k a n).den F ρ = dvI op k (a.den F ρ) n) /\
 (∀ (op : BinOp) (k : IntKind) (a b : E) (F : Fam) (ρ : Nat -> Int), (E.sh op k a b).den F ρ = shI op k (a.den F ρ) (b.den F ρ)) /\
 (∀ (k : IntKind) (a : E) (F : Fam) (ρ : Nat -> Int), (E.conv k a).den F ρ = k.wrap (a.den F ρ)) /\
 (∀ (k : K) (f j : Nat) (as : List E) (F : Fam) (ρ : Nat -> Int), (E.app k f j as).den F ρ = k.norm (F f j (as.map (E.den F ρ)))) /\
 (∀ (k : IntKind) (n : Int), K.norm (.i k) n = k.wrap n) /\
 (∀ (n : Int), K.norm .x n = n) /\
 (∀ (b : Bool), K.b.norm (b2i b) = b2i b) /\
 (K.b.norm 1 = 1) /\
 (K.b.norm 0 = 0) /\
 (i2b 1 = true) /\
 (i2b 0 = false) /\
 (∀ (b : Bool), i2b (b2i b) = b) /\
 (∀ (l : Tabs) (j : Nat) (xs : List Int), l.F 0 j xs = bi j xs) /\
 (∀ (l : RL), dc (cd l) = l) :=
 ⟨@VY, @tt_or, @Ye, @VZ, @Yf, @Yg, @Yl, @Yk, @XP, @XQ, @XR, @Yh, @XS, @XT, @Te, @XU, @Yi, @Yj, @WM, @Pf, @Ab, @AR, @DX, @nb1, @nb0, @i2b1, @i2b0, @Ld, @F_bi, @Af⟩
theorem ewB : (∀ (x y : Bool), ((x || y) = true) = (x = false -> y = true)) /\
 (∀ (x y : Bool), ((x && y) = false) = (x = true -> y = false)) /\
 (∀ (x y : Bool), ((x && y) = true) = (x = true /\ y = true)) /\
 (∀ (x y : Bool), ((x || y) = false) = (x = false /\ y = false)) /\
 (∀ (x : Bool), ((!x) = true) = (x = false)) /\
 (∀ (x : Bool), ((!x) = false) = (x = true)) /\
 (∀ (c x y : Bool), ((bif c then x else y) = true) = ((c = true -> x = true) /\ (c = false -> y = true))) /\
 (∀ (c x y : Bool), ((bif c then x else y) = false) = ((c = true -> x = false) /\ (c = false -> y = false))) /\
 (∀ (x y : Int), ((x == y) = true) = (x = y)) /\
 (∀ (x y : Int), ((x == y) = false) = ¬ (x = y)) /\
 (∀ (x y : Int), ((x != y) = true) = ¬ (x = y)) /\
 (∀ (x y : Int), ((x != y) = false) = (x = y)) /\
 (∀ (x y : Int), (x > y) = (y < x)) /\
 (∀ (x y : Int), (x >= y) = (y <= x)) /\
 (∀ (c : Bool) (x y : Int), (bif c then x else y) = if c = true then x else y) /\
 (∀ (e : Ent), e.nm.fn = e.fn) /\
 (∀ (e : Ent), e.nm.pre = e.pre) /\
 (∀ {z : Int} (h1 : -9223372036854775808 <= z) (h2 : z <= 9223372036854775807), IntKind.i64.wrap z = z) /\
 (∀ {z : Int} (h1 : 0 <= z) (h2 : z <= 255), IntKind.u8.wrap z = z) /\
 (∀ {z : Int} (h1 : 0 <= z) (h2 : z <= 65535), IntKind.u16.wrap z = z) /\
 (∀ {z : Int} (h1 : 0 <= z) (h2 : z <= 4294967295), IntKind.u32.wrap z = z) /\
 (∀ {z : Int} (h1 : 0 <= z) (h2 : z <= 18446744073709551615), IntKind.u64.wrap z = z) :=
 ⟨@por, @pnand, @pand, @pnor, @pnot, @pnnot, @pcond, @pncond, @peq, @pneq, @pne, @pnne, @pgt, @pge, @dcond, @Ent.nm_fn, @Ent.nm_pre, @i64w, @u8w, @u16w, @u32w, @u64w⟩
theorem ewL : (∀ (f : E -> Int) (a : E) (l : List E), List.map f (a :: l) = f a :: List.map f l) /\ (∀ (f : E -> Int), List.map f [] = []) /\
 (∀ (a d : Int) (l : List Int) (n : Nat), (a :: l).getD (n + 1) d = l.getD n d) /\ (∀ (a d : Int) (l : List Int), (a :: l).getD 0 d = a) /\
 (∀ (a d : List Int) (l : RL) (n : Nat), (a :: l).getD (n + 1) d = l.getD n d) /\ (∀ (a d : List Int) (l : RL), (a :: l).getD 0 d = a) /\
 (∀ (a : Int) (l : List Int), (a :: l)[0]? = some a) /\ (∀ (a : Int) (l : List Int) (n : Nat), (a :: l)[n + 1]? = l[n]?) /\
 (∀ (a : E) (l : List E), (a :: l)[0]? = some a) /\ (∀ (a : E) (l : List E) (n : Nat), (a :: l)[n + 1]? = l[n]?) /\
 (∀ (l : List Int), [] ++ l = l) /\ (∀ (a : Int) (l m : List Int), a :: l ++ m = a :: (l ++ m)) /\
 (∀ (l : RL), [] ++ l = l) /\ (∀ (a : List Int) (l m : RL), a :: l ++ m = a :: (l ++ m)) /\
 (Int.toNat 0 = 0) /\ (Int.toNat 1 = 1) /\ (∀ n : Nat, Int.toNat (n : Int) = n) /\ (∀ n : Nat, 0 + n = n) :=
 ⟨fun _ _ _ => rfl, fun _ => rfl, fun _ _ _ _ => List.getD_cons_succ, fun _ _ _ => List.getD_cons_zero, fun _ _ _ _ => List.getD_cons_succ, fun _ _ _ => List.getD_cons_zero,
  fun _ _ => rfl, fun _ _ _ => rfl, fun _ _ => rfl, fun _ _ _ => rfl, fun _ => rfl, fun _ _ _ => rfl, fun _ => rfl, fun _ _ _ => rfl, rfl, rfl, fun _ => rfl, Nat.zero_add⟩
theorem ewM : (∀ (p : Prop) [Decidable p], (decide p = true) = p) /\ (∀ (p : Prop) [Decidable p], (decide p = false) = ¬ p) /\
 (∀ {a b : Int}, ¬ a < b ↔ b <= a) /\ (∀ {a b : Int}, ¬ a <= b ↔ b < a) /\ (∀ p : Prop, (True /\ p) = p) /\ (∀ p : Prop, (p /\ True) = p) /\ (∀ p : Prop, (False /\ p) = False) /\ (∀ p : Prop, (p /\ False) = False) /\
 (∀ p : Prop, (True -> p) = p) /\ (∀ p : Prop, (p -> True) = True) /\ (∀ p : Prop, (False -> p) = True) /\ ((¬ True) = False) /\ ((¬ False) = True) /\
 (∀ l : RL, l.take l.length = l) /\ (∀ l : RL, l.drop 0 = l) :=
 ⟨pdec, pndec, Int.not_lt, Int.not_le, true_and, and_true, false_and, and_false, fun p => by simp, fun p => by simp, fun p => by simp, not_true_eq_false, not_false_eq_true, fun _ => List.take_length, fun _ => rfl⟩
theorem ewE : preC = 1000000 /\ (∀ k x y, binI .add k x y = k.wrap (x + y)) /\ (∀ k x y, binI .sub k x y = k.wrap (x - y)) /\ (∀ k x y, binI .mul k x y = k.wrap (x * y)) /\ (∀ k x y, binI .and k x y = IW .and k x y) /\ (∀ k x y, binI .or k x y = IW .or k x y) /\ (∀ k x y, binI .xor k x y = IW .xor k x y) /\
  (∀ k x y, dvI .quo k x y = k.wrap (x.tdiv y)) /\ (∀ k x y, dvI .rem k x y = x.tmod y) /\ (∀ k x y, shI .shl k x y = k.wrap (x * 2 ^ (min y.toNat k.bits))) /\ (∀ k x y, shI .shr k x y = x.fdiv (2 ^ (min y.toNat k.bits))) /\
  (∀ x y, cmpB .eql x y = (x == y)) /\ (∀ x y, cmpB .neq x y = (x != y)) /\ (∀ x y, cmpB .lss x y = decide (x < y)) /\ (∀ x y, cmpB .leq x y = decide (x <= y)) /\ (∀ x y, cmpB .gtr x y = decide (x > y)) /\ (∀ x y, cmpB .geq x y = decide (x >= y)) /\
  (∀ xs i, env xs i = xs.getD i 0) /\ (∀ c, bi 0 [c] = ((dc c).length : Int)) /\ (∀ c i j, bi 1 [c, i, j] = ((dc c).getD i.toNat []).getD j.toNat 0) /\ bi 2 [] = cd [] /\ (∀ c row, bi 3 (c :: row) = cd (dc c ++ [row])) /\ (∀ c d, bi 4 [c, d] = cd (dc c ++ dc d)) /\
  (∀ c a b, bi 5 [c, a, b] = cd (((dc c).take b.toNat).drop a.toNat)) /\ (∀ c i j vs, bi 6 (c :: i :: j :: vs) = cd ((dc c).set i.toNat (splR ((dc c).getD i.toNat []) j.toNat vs))) /\ (∀ n row, bi 7 (n :: row) = cd (List.replicate n.toNat row)) /\
  (∀ c n row, bi 12 (c :: n :: row) = cd (List.replicate (dc c).length row)) /\ (∀ x y, bi 20 [x, y] = x.tdiv y) /\ (∀ x y, bi 21 [x, y] = x.tmod y) :=
  ⟨rfl, fun _ _ _ => rfl, fun _ _ _ => rfl, fun _ _ _ => rfl, fun _ _ _ => rfl, fun _ _ _ => rfl, fun _ _ _ => rfl, fun _ _ _ => rfl, fun _ _ _ => rfl, fun _ _ _ => rfl, fun _ _ _ => rfl, fun _ _ => rfl, fun _ _ => rfl, fun _ _ => rfl, fun _ _ => rfl, fun _ _ => rfl, fun _ _ => rfl, fun _ _ => rfl,
  fun _ => rfl, fun _ _ _ => rfl, rfl, fun _ _ => rfl, fun _ _ => rfl, fun _ _ _ => rfl, fun _ _ _ _ => rfl, fun _ _ => rfl, fun _ _ _ => rfl, fun _ _ => rfl, fun _ _ => rfl⟩
theorem ewQ : (∀ (h : Decidable True) (a b : Int), @ite Int True h a b = a) /\ (∀ (h : Decidable False) (a b : Int), @ite Int False h a b = b) /\ (∀ (h : Decidable True) (a b : Prop), @ite Prop True h a b = a) /\ (∀ (h : Decidable False) (a b : Prop), @ite Prop False h a b = b) /\ (∀ p : Prop, (p -> True) = True) /\ (∀ α : Type, (α -> True) = True) /\ (∀ a b : Int, (a ≠ b) = ¬ a = b) /\ (∀ a b : Nat, (a ≠ b) = ¬ a = b) :=
  ⟨fun _ _ _ => if_pos trivial, fun _ _ _ => if_neg id, fun _ _ _ => if_pos trivial, fun _ _ _ => if_neg id, fun _ => eq_true fun _ => trivial, fun _ => eq_true fun _ => trivial, fun _ _ => rfl, fun _ _ => rfl⟩
def enH (le : LEnt) (φ : Nat -> List Int -> Int) (mu : List Int -> Nat) (n : Nat) : Ent := { le.ent with fn := φ, pre := fun xs => le.ent.pre xs /\ mu xs < n }
theorem H1 {f g : Nat -> List Int -> Int} {xs : List Int} (h : ∀ j, f j xs = g j xs) : ∀ {ks : List K} {j : Nat}, Am f xs j ks = Am g xs j ks
 | [], _ => rfl
 | k :: ks, j => by simp only [Am, h j, H1 h (ks := ks) (j := j + 1)]
section
variable {P : Program} {ρ : Nat -> Int} {G : Glob} {T : Tab} {l : Tabs} {w0 w w' : World} {M0 Im0 Im : Nat -> Prop} {ad ad' hs : Nat -> Hd} {m m2 m' : Mem} {tm : Tm} {en : Env} {a : Act}
theorem WN (hm : P.follows .mixedOrders = true) {body : Code} {le : LEnt} {l0 : Tabs} {call : Into} {N : Nat} {L : BO} (mu : List Int -> Nat) (ψ : Nat -> Nat -> List Int -> Int) (hψ : ∀ n j xs, mu xs < n -> ψ n j xs = le.ent.fn j xs)
 (hS : ∀ φ n, CC P G (enH le φ mu n :: l0) T) (hI : ∀ φ n ρ w0 M0 Im0, GOK G Im0 w0 -> DJ P (enH le φ mu n :: l0) ρ w0 M0 Im0 call) (hL : ∀ φ n, GB P G (enH le φ mu n :: l0) L body)
 {ob : E} {es : List E} (h : evL P G T call N L le body = some (ob, es))
 (hu : ∀ xs, fits le.ent.pks xs -> le.ent.pre xs -> ∃ ρ : Nat -> Int, (∀ i, i < le.ent.np -> ρ i = env xs i) /\ ob.tt (Tabs.F (enH le (ψ (mu xs)) mu (mu xs) :: l0)) ρ = true /\ ∀ (i : Nat) (k : K), le.ent.oks[i]? = some k -> k.norm (le.ent.fn i xs) = (es.getD i (mkB false)).den (Tabs.F (enH le (ψ (mu xs)) mu (mu xs) :: l0)) ρ) :
 Kf P G body le := by
 have main : ∀ n, Lo G { le with ent := enL le mu n } fun Q => Code.rounds P body Q n := by
  intro n
  induction n with
  | zero => intro xs hfit hpre; exact absurd hpre.2 (Nat.not_lt_zero _)
  | succ n ih =>
    intro xs hfit hpre w M0 Im hs hM hG hE a hdef hsz hsl Q hQ
    obtain ⟨hpre1, hpre2⟩ := hpre
    obtain ⟨ρ, hρ, u1, u2⟩ := hu xs hfit hpre1
    obtain ⟨m, hm0⟩ : ∃ m, m = mu xs := ⟨_, rfl⟩
    rw [<- hm0] at u1 u2
    have hmn : m <= n := by omega
    obtain ⟨l, hl⟩ : ∃ l : Tabs, l = enH le (ψ m) mu m :: l0 := ⟨_, rfl⟩
    have hS' := hS (ψ m) m
    have hI' := hI (ψ m) m
    have hL' := hL (ψ m) m
    have ih' : Lo G { le with ent := enH le (ψ m) mu m } fun Q => Code.rounds P body Q n := by
     intro xs hfit hpre w M0 Im hs hM hG hE a hdef hsz hsl Q hQ
     have hp2 : le.ent.pre xs /\ mu xs < m := hpre
     refine ih xs hfit ⟨hp2.1, by have := hp2.2; omega⟩ w M0 Im hs hM hG hE a hdef hsz hsl Q ?_
     have eo : Am (ψ m) xs 0 le.ent.oks = Am le.ent.fn xs 0 le.ent.oks := H1 fun j => hψ m j xs hp2.2
     intro a' w' hs' Im' Vs lab us q1 q2 q3 q4 q5
     refine hQ a' w' hs' Im' Vs lab us q1 q2 q3 ?_ ?_
     ·show RelE F0 (env (xs ++ Am (ψ m) xs 0 le.ent.oks)) w M0 Im' hs' le.ent.oents w'
      rw [eo]; exact q4
     ·show (BN le.ent.ogen.1).conc F0 (env (xs ++ Am (ψ m) xs 0 le.ent.oks)) hs' = .tuple Vs.toArray
      rw [eo]; exact q5
    rw [<- hl] at u1 u2 hS' hI' hL'
    unfold evL at h
    split at h
    ·rename_i r hr
     split at h
     ·rename_i q hq
      split at h
      ·rename_i g es' hends
       simp only [oJ, pJ] at h
       obtain ⟨rfl, rfl⟩ := h
       obtain ⟨t1, t2⟩ := AE u1
       obtain ⟨elen0, espec0, hst0⟩ := Gp (F := l.F) (ρ := ρ) (le := le) (d := q.2.1) (ss := q.2.2)
       rw [hends] at elen0 espec0 hst0
       have elen := elen0 es' rfl
       have espec : g.tt l.F ρ = true -> ∀ s, lk (q.2.1.eval l.F ρ) q.2.2 = some s -> ∃ g1 es1, CM le s (q.2.1.eval l.F ρ) = some (g1, es1) /\ g1.tt l.F ρ = true /\ es'.map (E.den l.F ρ) = es1.map (E.den l.F ρ) := fun ht s hs => by
        obtain ⟨es, g1, es1, h1, h2, h3, h4⟩ := espec0 ht s hs
        simp only [oJ] at h1
        subst h1
        exact ⟨g1, es1, h2, h3, h4⟩
       have hst : DB le.ent = true := hst0 (by simp)
       let ad0 : Nat -> Hd := fun j => if j < le.ent.nn then hs j else { blk := 0, v := a.tmps.getD (j - le.ent.nn) undef }
       obtain ⟨r1, r2, r3⟩ := Hx (ad := ad0) l le.nt hst hρ hfit hM hE fun j hj => if_pos hj
       have hT0 : RelT l.F ρ ad0 (start le.ent le.nt) (tmL le) a := by
        refine ⟨hdef, by simp [tmL]; exact hsz, fun i v hv => ?_⟩
        simp only [Tm.at, tmL, List.getD, List.getElem?_map] at hv
        by_cases hi : i < le.nt
        ·rw [List.getElem?_range hi] at hv
         simp only [Option.map_some, Option.getD_some] at hv
         split at hv
         ·rename_i k hk
          have hk2 := List.findIdx?_eq_some_iff_getElem.1 hk
          obtain ⟨hk3, hk4, _⟩ := hk2
          have hski : le.sl[k]? = some i := by rw [List.getElem?_eq_getElem hk3]; simpa using hk4
          have h1 := hsl k i hski
          change a.tmps[i]? = (SV.concL F0 (env xs) hs le.ent.pgen.1)[k]? at h1
          rw [<- r2, Ae, List.getElem?_map, hv, Option.map_some] at h1
          exact ⟨h1, Dr r3 hv⟩
         ·simp only [oJ] at hv
          subst hv
          have hsz' : a.tmps.size = le.nt := hsz
          have hia : i < a.tmps.size := by rw [hsz']; exact hi
          refine ⟨?_, (C5 le.ent le.nt _).2 (by omega)⟩
          simp only [SV.conc, ad0]
          rw [if_neg (by omega), show le.ent.nn + i - le.ent.nn = i by omega]
          simp [Array.getD, hia]
        ·rw [List.getElem?_eq_none (by simpa using hi)] at hv
         simp at hv
       have hget : l.get (enH le (ψ m) mu m).key = some (enH le (ψ m) mu m) := by
        rw [hl]; simp [Tabs.get]
       have hA : After l.F ρ w M0 Im ad0 (start le.ent le.nt) q.2 Q := by
        intro s ad' a' w' hlk hRs hx
        obtain ⟨g1, es1, m1, m2, m3⟩ := espec t2 s hlk
        have m1' := m1
        unfold CM at m1'
        split at m1'
        ·rename_i bs us hbs hus
         split at m1'
         ·rename_i hkeep
          obtain ⟨hlen, hkeep⟩ := hkeep
          obtain ⟨b1, b2, b3⟩ := DK (l := l) m1'
          have hys : Am le.ent.fn xs 0 le.ent.oks = es1.map (E.den l.F ρ) := by
           rw [<- m3]
           refine Fc _ _ _ (by simp [elen]) fun i k y h1 h2 => ?_
           rw [Nat.zero_add, u2 i k h1]
           rw [List.getElem?_map] at h2
           obtain ⟨x, hx, rfl⟩ := Option.map_eq_some_iff.1 h2
           simp [List.getD, hx]
          obtain ⟨hs', Im', q1, q2, q3, q4, q5⟩ := b3 (hs := hs) hρ hfit hys m2 (hRs.2.shareL _) fun j hj => by
           rw [<- hx.same j ((C5 le.ent le.nt j).2 (by omega))]
           exact if_pos hj
          obtain ⟨g1', g2'⟩ := EM hus
          have hbits := Gn (F := l.F) (ρ := ρ) (ad := ad') (SV.concL l.F ρ ad' us) hbs
          refine hQ a' w' hs' Im' (SV.concL l.F ρ ad' (bs ++ us)) (q.2.1.eval l.F ρ) (SV.concL l.F ρ ad' us) q1 q2 q3 q5 ?_ ?_ ?_ ?_ ?_ hRs.1.defers
          ·show (BN le.ent.ogen.1).conc _ _ _ = _
           rw [show Am (enL le mu (n+1)).fn xs 0 (enL le mu (n+1)).oks = es1.map (E.den l.F ρ) from hys]
           rw [hys] at q4
           rw [<- q4]
           simp only [SV.conc]
          ·rw [show SV.concL l.F ρ ad' (bs ++ us) = SV.concL l.F ρ ad' bs ++ SV.concL l.F ρ ad' us by rw [Ae, Ae, Ae, List.map_append]]
           exact hbits.1
          ·intro i t hi
           have hv := g2' i t hi
           have hil : i < us.length := by have := (List.getElem?_eq_some_iff.1 hi).1; change i < le.so.length at this; omega
           rw [List.getElem?_eq_getElem hil] at hv
           rw [(hRs.1.slot t _ hv).1, Ae, List.getElem?_map, List.getElem?_eq_getElem hil, Option.map_some]
          ·intro k hk1 hk2
           have hsz' : a.tmps.size = le.nt := hsz
           by_cases hkn : k < le.nt
           ·have hkk := List.all_eq_true.1 hkeep k (List.mem_range.2 (by simp [tmL]; exact hkn))
            have c1 : le.so.contains k = false := by simpa using hk1
            have c2 : le.wr.contains k = false := by simpa using hk2
            rw [c1, c2, Bool.false_or, Bool.false_or] at hkk
            split at hkk
            ·rename_i v u hv0 hv1
             have := SV.same_eq _ _ hkk
             subst this
             obtain ⟨e1, e2⟩ := hT0.slot k v hv0
             rw [(hRs.1.slot k v hv1).1, e1, SV.conc_congr hx.same v e2]
            ·cases hkk
           ·have h1 : a'.tmps.size = le.nt := by rw [<- hlen]; exact hRs.1.size
            rw [Array.getElem?_eq_none (by omega), Array.getElem?_eq_none (by omega)]
          ·have h1 : a'.tmps.size = le.nt := by rw [<- hlen]; exact hRs.1.size
           have hsz' : a.tmps.size = le.nt := hsz
           omega
         ·cases m1'
        ·cases m1'
       show Code.rounds P body Q (n + 1) a w
       rw [rounds_succ]
       obtain ⟨v1, v2⟩ := EN (l := l) (ρ := ρ) (w0 := w) (M0 := M0) (Im0 := Im) (ad := ad0) (K := Code.rounds P body Q n) (g := q.1) (o := q.2) (f := Jr le) hq t1 hA fun s1 g2 o2 ad' a' w' h2 ht2 hR' hA' =>
        FF (le := { le with ent := enH le (ψ m) mu m }) (C := fun Q => Code.rounds P body Q n) hget ih' hG (g := g2) (o := o2) h2 ht2 hR' hA'
       exact EO hm hS' hG (hI' ρ w M0 Im hG) body L _ r.1 r.2 ad0 a w _ hL' hr v1 ⟨hT0, r1⟩ v2
      ·cases h
     ·cases h
    ·cases h
 intro xs hfit hpre w M0 Im hs hM hG hE a hdef hsz hsl Q hQ
 exact wp_loop_rounds (mu xs + 1) (main (mu xs + 1) xs hfit ⟨hpre, Nat.lt_succ_self _⟩ w M0 Im hs hM hG hE a hdef hsz hsl Q hQ)
end
def dEl : List (Nat × E) -> E
 | [] => mkB true
 | x :: r => .and (.cmp .eql (.var x.2.kind x.1) x.2) (dEl r)
def dE (d : List (Nat × E)) (i n : Nat) : E := dEl ((d.drop i).take n)
def Xa : E -> Bool
 | .app .. => true
 | _ => false
theorem V5 {F : Fam} {ρ : Nat -> Int} : ∀ {d : List (Nat × E)}, (d.all fun x => Xa x.2) = true -> (∀ x ∈ d, ρ x.1 = x.2.den F ρ) -> (dEl d).tt F ρ = true
 | [], _, _ => rfl
 | x :: r, ha, h => by
   simp only [List.all_cons, Bool.and_eq_true] at ha
   rw [dEl, VY, V5 ha.2 fun y hy => h y (List.mem_cons_of_mem _ hy), Bool.and_true, VZ, Te, h x (List.mem_cons_self ..)]
   obtain ⟨i, e⟩ := x
   cases e with
   | app k f j as =>
     simp only [E.kind, Pf, K.norm_norm, cmpB, beq_self_eq_true]
   | _ => cases ha.1
theorem AL {F : Fam} {ρ : Nat -> Int} {d : List (Nat × E)} (ha : (d.all fun x => Xa x.2) = true) (h : ∀ x ∈ d, ρ x.1 = x.2.den F ρ) (i n : Nat) : (dE d i n).tt F ρ = true := by
 refine V5 ?_ fun x hx => h x (List.mem_of_mem_drop (List.mem_of_mem_take hx))
 rw [List.all_eq_true] at ha ⊢
 exact fun x hx => ha x (List.mem_of_mem_drop (List.mem_of_mem_take hx))
theorem FC {l : Tabs} {k0 k : Nat} {f : Nat -> List Int -> Int} {p : List Int -> Prop} (hk : k0 = k) (h : (∀ j, (j == preC) = false -> ∀ xs, l.F k0 j xs = f j xs) /\ (∀ xs, (i2b (K.b.norm (l.F k0 1000000 xs)) = true) = p xs)) :
 (∀ xs, l.F k 0 xs = f 0 xs) /\ (∀ xs, l.F k 1 xs = f 1 xs) /\ (∀ xs, l.F k 2 xs = f 2 xs) /\ (∀ xs, l.F k 3 xs = f 3 xs) /\ (∀ xs, l.F k 4 xs = f 4 xs) /\ (∀ xs, l.F k 5 xs = f 5 xs) /\ (∀ xs, l.F k 6 xs = f 6 xs) /\ (∀ xs, l.F k 7 xs = f 7 xs) /\ (∀ xs, l.F k 8 xs = f 8 xs) /\ (∀ xs, l.F k 9 xs = f 9 xs) /\ (∀ xs, l.F k 10 xs = f 10 xs) /\ (∀ xs, l.F k 11 xs = f 11 xs) /\ (∀ xs, l.F k 12 xs = f 12 xs) /\ (∀ xs, l.F k 13 xs = f 13 xs) /\ (∀ xs, l.F k 14 xs = f 14 xs) /\ (∀ xs, l.F k 15 xs = f 15 xs) /\ (∀ xs, (i2b (K.b.norm (l.F k 1000000 xs)) = true) = p xs) := by
 subst hk
 exact ⟨h.1 0 rfl, h.1 1 rfl, h.1 2 rfl, h.1 3 rfl, h.1 4 rfl, h.1 5 rfl, h.1 6 rfl, h.1 7 rfl, h.1 8 rfl, h.1 9 rfl, h.1 10 rfl, h.1 11 rfl, h.1 12 rfl, h.1 13 rfl, h.1 14 rfl, h.1 15 rfl, h.2⟩
theorem nmd {F : Fam} {ρ : Nat -> Int} {d : List (Nat × E)} (h : ∀ x ∈ d, ρ x.1 = x.2.den F ρ) (n : Nat) {i : Nat} {k : K} {f j : Nat} {as : List E} (hn : d[n]? = some (i, .app k f j as)) : ∃ v, ρ i = v /\ v = k.norm (F f j (as.map (E.den F ρ))) /\ k.norm v = v := by
 have e := h _ (List.mem_of_getElem? hn)
 simp only [Pf] at e
 exact ⟨_, rfl, e, by rw [e]; exact K.norm_norm _ _⟩
theorem Aa {k : K} {ks : List K} {xs : List Int} (h : fits (k :: ks) xs) : ∃ x r, xs = x :: r /\ k.norm x = x /\ fits ks r := by
 cases xs with
 | nil => exact h.elim
 | cons x r => exact ⟨x, r, rfl, h.1, h.2⟩
theorem Ah {xs : List Int} (h : fits [] xs) : xs = [] := by
 cases xs with
 | nil => rfl
 | cons x r => exact h.elim
def esB : List K -> List E -> Bool
 | [], [] => true
 | k :: ks, e :: es => decide (e.kind = k) && e.sound && esB ks es
 | _, _ => false
theorem Ib : ∀ {ks : List K} {es : List E}, esB ks es = true -> es.length = ks.length /\ ∀ (F : Fam) (ρ : Nat -> Int) (i : Nat) (k : K), ks[i]? = some k -> k.norm ((es.getD i (mkB false)).den F ρ) = (es.getD i (mkB false)).den F ρ
 | [], [], _ => ⟨rfl, fun _ _ i k h => by simp at h⟩
 | [], _ :: _, h => by simp [esB] at h
 | _ :: _, [], h => by simp [esB] at h
 | k :: ks, e :: es, h => by
   simp only [esB, Bool.and_eq_true, decide_eq_true_eq] at h
   obtain ⟨⟨rfl, h2⟩, h3⟩ := h
   obtain ⟨i1, i2⟩ := Ib h3
   refine ⟨by simp [i1], fun F ρ i k hi => ?_⟩
   cases i with
   | zero =>
     simp only [List.getElem?_cons_zero, oJ] at hi
     subst hi
     simpa using E.den_norm F ρ e h2
   | succ i => simpa using i2 F ρ i k (by simpa using hi)
abbrev Post := List Int -> List Int -> Prop
def Fnd (F : Fam) (np : Nat) (ob : E) (es : List E) (Q : Post) (xs : List Int) (ρ : Nat -> Int) : Prop :=
 (∀ i, i < np -> ρ i = env xs i) /\ ob.tt F ρ = true /\ Q xs (es.map (E.den F ρ))
open Classical in
noncomputable def fnR (F : Fam) (np : Nat) (ob : E) (es : List E) (Q : Post) (j : Nat) (xs : List Int) : Int :=
 if h : ∃ ρ : Nat -> Int, Fnd F np ob es Q xs ρ then (es.getD j (mkB false)).den F h.choose else 0
theorem RD {F : Fam} {np : Nat} {ob : E} {es : List E} {Q : Post} {xs : List Int} (h : ∃ ρ : Nat -> Int, Fnd F np ob es Q xs ρ) : ∃ ρ, Fnd F np ob es Q xs ρ /\ ∀ j, fnR F np ob es Q j xs = (es.getD j (mkB false)).den F ρ :=
 ⟨h.choose, h.choose_spec, fun j => dif_pos h⟩
def PostOK (e : Ent) (Q : Post) : Prop := ∀ xs, fits e.pks xs -> e.pre xs -> Q xs (Am e.fn xs 0 e.oks)
def Xb : K -> Int -> Int -> Prop
 | .b, v, z => v = K.b.norm z
 | .i k, v, z => v = k.wrap z
 | .x, v, z => v = z
theorem T9 {k : K} {v z : Int} (h : Xb k v z) : v = k.norm z := by cases k <;> exact h
def AZ (fn : Nat -> List Int -> Int) (xs : List Int) : Nat -> List K -> List Int -> Prop
 | _, [], [] => True
 | j, k :: ks, v :: vs => Xb k v (fn j xs) /\ AZ fn xs (j + 1) ks vs
 | _, _, _ => False
theorem RE {fn : Nat -> List Int -> Int} {xs : List Int} : ∀ {ks : List K} {vs : List Int} {j : Nat}, AZ fn xs j ks vs -> vs = Am fn xs j ks
 | [], [], _, _ => rfl
 | [], _ :: _, _, h => h.elim
 | _ :: _, [], _, h => h.elim
 | k :: ks, v :: vs, j, h => by
   rw [Am, <- T9 h.1, <- RE h.2]
theorem PostOK.use {e : Ent} {Q : Post} (h : PostOK e Q) {xs vs : List Int} {ks os : List K} (hks : e.pks = ks) (hos : e.oks = os) (ho : AZ e.fn xs 0 os vs) (hf : fits ks xs) (hp : e.pre xs) : Q xs vs := by
 subst hks; subst hos
 rw [RE ho]; exact h xs hf hp
theorem Mq {F : Fam} {ρ : Nat -> Int} {fn : Nat -> List Int -> Int} {xs : List Int} {ks : List K} {es : List E} (hb : esB ks es = true) (h : ∀ j, fn j xs = (es.getD j (mkB false)).den F ρ) : Am fn xs 0 ks = es.map (E.den F ρ) := by
 obtain ⟨b1, b2⟩ := Ib hb
 refine Fc _ _ _ (by simp [b1]) fun i k y h1 h2 => ?_
 rw [Nat.zero_add, h i, b2 F ρ i k h1]
 rw [List.getElem?_map] at h2
 obtain ⟨x, hx, rfl⟩ := Option.map_eq_some_iff.1 h2
 simp [List.getD, hx]
def Ent.fw (e : Ent) (f : Nat -> List Int -> Int) : Ent := { e with fn := f }
def LEnt.fw (le : LEnt) (f : Nat -> List Int -> Int) : LEnt := { le with ent := le.ent.fw f }
theorem ewR : (∀ le : LEnt, le.nm.ent.fn = le.ent.fn) /\ (∀ le : LEnt, le.nm.ent.pre = le.ent.pre) /\ (∀ (e : Ent) (f : Nat -> List Int -> Int), (e.fw f).pre = e.pre) /\ (∀ (e : LEnt) (f : Nat -> List Int -> Int), (e.fw f).ent.pre = e.ent.pre) := ⟨fun _ => rfl, fun _ => rfl, fun _ _ => rfl, fun _ _ => rfl⟩
section
variable {P : Program} {G : Glob} {c : Ctx}
theorem Ctx.OK.entryH (hc : c.OK P G) (hm : P.follows .mixedOrders = true) {N n : Nat} {e : Ent} {ob : E} {es : List E} {Q : Post} (h : evE P G (Ad c.fs) (ltOf c.ls) N n (e.fw (fnR c.l.F e.np ob es Q)) = some (ob, es)) (hb : esB e.oks es = true) (ks : List K) (hks : e.pks = ks)
 (hu : ∀ xs, fits ks xs -> e.pre xs -> ∃ ρ : Nat -> Int, (∀ i, i < ks.length -> ρ i = env xs i) /\ ob.tt c.l.F ρ = true /\ Q xs (es.map (E.den c.l.F ρ))) : EntryOK P G (e.fw (fnR c.l.F e.np ob es Q)) /\ PostOK (e.fw (fnR c.l.F e.np ob es Q)) Q := by
 subst hks
 have key : ∀ xs, fits e.pks xs -> e.pre xs -> ∃ ρ, Fnd c.l.F e.np ob es Q xs ρ /\ ∀ j, fnR c.l.F e.np ob es Q j xs = (es.getD j (mkB false)).den c.l.F ρ := fun xs hf hp => RD (hu xs hf hp)
 refine ⟨Kn hm (BW hc.fs hc.getF) (GC hc.ls hc.getL) h fun xs hf hp => ?_, fun xs hf hp => ?_⟩
 ·obtain ⟨ρ, ⟨f1, f2, _⟩, f4⟩ := key xs hf hp
  refine ⟨ρ, f1, f2, fun i k hi => ?_⟩
  show k.norm (fnR c.l.F e.np ob es Q i xs) = _
  rw [f4 i]; exact (Ib hb).2 _ _ i k hi
 ·obtain ⟨ρ, ⟨_, _, f3⟩, f4⟩ := key xs hf hp
  show Q xs (Am (fnR c.l.F e.np ob es Q) xs 0 e.oks)
  rw [Mq hb f4]; exact f3
theorem Ctx.OK.pieceH (hc : c.OK P G) (hm : P.follows .mixedOrders = true) {N n : Nat} {f : Nat} {p : List Bool} {le : LEnt} {ob : E} {es : List E} {Q : Post}
 (hp : ∃ fn cd b, P.funcs[f]? = some fn /\ fn.body = some cd /\ AJ cd p = some b)
 (h : evP P G (Ad c.fs) (evFn P G (Ad c.fs) (ltOf c.ls) N n) N (subP c.ls f p) (le.fw (fnR c.l.F le.ent.np ob es Q)) (A7 P f p) = some (ob, es)) (hb : esB le.ent.oks es = true) (ks : List K) (hks : le.ent.pks = ks)
 (hu : ∀ xs, fits ks xs -> le.ent.pre xs -> ∃ ρ : Nat -> Int, (∀ i, i < ks.length -> ρ i = env xs i) /\ ob.tt c.l.F ρ = true /\ Q xs (es.map (E.den c.l.F ρ))) :
 Aq P G f p (le.fw (fnR c.l.F le.ent.np ob es Q)) /\ PostOK (le.fw (fnR c.l.F le.ent.np ob es Q)).ent Q := by
 subst hks
 have key : ∀ xs, fits le.ent.pks xs -> le.ent.pre xs -> ∃ ρ, Fnd c.l.F le.ent.np ob es Q xs ρ /\ ∀ j, fnR c.l.F le.ent.np ob es Q j xs = (es.getD j (mkB false)).den c.l.F ρ := fun xs hf hp => RD (hu xs hf hp)
 refine ⟨hc.piece hm hp h fun xs hf hp => ?_, fun xs hf hp => ?_⟩
 ·obtain ⟨ρ, ⟨f1, f2, _⟩, f4⟩ := key xs hf hp
  refine ⟨ρ, f1, f2, fun i k hi => ?_⟩
  show k.norm (fnR c.l.F le.ent.np ob es Q i xs) = _
  rw [f4 i]; exact (Ib hb).2 _ _ i k hi
 ·obtain ⟨ρ, ⟨_, _, f3⟩, f4⟩ := key xs hf hp
  show Q xs (Am (fnR c.l.F le.ent.np ob es Q) xs 0 le.ent.oks)
  rw [Mq hb f4]; exact f3
noncomputable def psiL (le : LEnt) (l0 : Tabs) (ob : E) (es : List E) (Q : Post) (mu : List Int -> Nat) : Nat -> Nat -> List Int -> Int
 | 0, _, _ => 0
 | n + 1, j, xs => if mu xs < n then psiL le l0 ob es Q mu n j xs else fnR (Tabs.F (enH le (psiL le l0 ob es Q mu n) mu n :: l0)) le.ent.np ob es Q j xs
noncomputable def fnL (le : LEnt) (l0 : Tabs) (ob : E) (es : List E) (Q : Post) (mu : List Int -> Nat) (j : Nat) (xs : List Int) : Int := psiL le l0 ob es Q mu (mu xs + 1) j xs
theorem Pg {le : LEnt} {l0 : Tabs} {ob : E} {es : List E} {Q : Post} {mu : List Int -> Nat} : ∀ (n j : Nat) (xs : List Int), mu xs < n -> psiL le l0 ob es Q mu n j xs = fnL le l0 ob es Q mu j xs
 | 0, _, _, h => absurd h (Nat.not_lt_zero _)
 | n + 1, j, xs, h => by
   by_cases hc : mu xs < n
   ·rw [psiL, if_pos hc]; exact Pg n j xs hc
   ·have e : n = mu xs := by omega
    rw [e]; rfl
theorem Yn {le : LEnt} {l0 : Tabs} {ob : E} {es : List E} {Q : Post} {mu : List Int -> Nat} (j : Nat) (xs : List Int) : fnL le l0 ob es Q mu j xs = fnR (Tabs.F (enH le (psiL le l0 ob es Q mu (mu xs)) mu (mu xs) :: l0)) le.ent.np ob es Q j xs := by
 rw [fnL, psiL, if_neg (Nat.lt_irrefl _)]
theorem Ctx.OK.loopH (hc : c.OK P G) (hm : P.follows .mixedOrders = true) {N n : Nat} {f : Nat} {p : List Bool} {le : LEnt} {ob : E} {es : List E} {Q : Post} {mu : List Int -> Nat}
 (hk : (c.l.any fun y => y.key == le.ent.key) = false) (hp : ∃ fn cd b, P.funcs[f]? = some fn /\ fn.body = some cd /\ AJ cd p = some (.loop b))
 (h : evL P G (Ad c.fs) (evFn P G (Ad c.fs) (ltOf c.ls) N n) N (subL c.ls f p) (le.fw (fnL le c.l ob es Q mu)) (AC P f p) = some (ob, es)) (hb : esB le.ent.oks es = true) (ks : List K) (hks : le.ent.pks = ks)
 (hu : ∀ xs, fits ks xs -> le.ent.pre xs -> ∀ φ : Nat -> List Int -> Int, (∀ ys, fits ks ys -> le.ent.pre ys -> mu ys < mu xs -> Q ys (Am φ ys 0 le.ent.oks)) ->
  ∃ ρ : Nat -> Int, (∀ i, i < ks.length -> ρ i = env xs i) /\ ob.tt (Tabs.F (enH le φ mu (mu xs) :: c.l)) ρ = true /\ Q xs (es.map (E.den (Tabs.F (enH le φ mu (mu xs) :: c.l)) ρ))) :
 Aq P G f p (le.fw (fnL le c.l ob es Q mu)) /\ PostOK (le.fw (fnL le c.l ob es Q mu)).ent Q := by
 subst hks
 have hpost : ∀ m xs, mu xs = m -> fits le.ent.pks xs -> le.ent.pre xs -> Q xs (Am (fnL le c.l ob es Q mu) xs 0 le.ent.oks) /\ ∃ ρ, Fnd (Tabs.F (enH le (psiL le c.l ob es Q mu (mu xs)) mu (mu xs) :: c.l)) le.ent.np ob es Q xs ρ /\
  ∀ j, fnL le c.l ob es Q mu j xs = (es.getD j (mkB false)).den (Tabs.F (enH le (psiL le c.l ob es Q mu (mu xs)) mu (mu xs) :: c.l)) ρ := by
  intro m
  induction m using Nat.strongRecOn with
  | _ m ih =>
    intro xs hm' hf hp'
    obtain ⟨ρ, ⟨f1, f2, f3⟩, f4⟩ := RD (hu xs hf hp' (psiL le c.l ob es Q mu (mu xs)) fun ys hy1 hy2 hy3 => by
     rw [H1 fun j => Pg (mu xs) j ys hy3]
     exact (ih (mu ys) (by omega) ys rfl hy1 hy2).1)
    have f5 : ∀ j, fnL le c.l ob es Q mu j xs = (es.getD j (mkB false)).den (Tabs.F (enH le (psiL le c.l ob es Q mu (mu xs)) mu (mu xs) :: c.l)) ρ := fun j => (Yn j xs).trans (f4 j)
    refine ⟨?_, ρ, ⟨f1, f2, f3⟩, f5⟩
    rw [Mq hb f5]; exact f3
 refine ⟨?_, fun xs hf hp' => (hpost _ xs rfl hf hp').1⟩
 obtain ⟨fn, cd, b, b1, b2, b3⟩ := hp
 have hcf : A7 P f p = .loop b := by unfold A7; simp only [b1, b2, b3, Option.getD_some]
 unfold Aq
 rw [hcf]
 show Kf P G b (le.fw (fnL le c.l ob es Q mu))
 have hbd : AC P f p = b := by unfold AC; simp only [b1, b2, b3]
 rw [hbd] at h
 have g1 : ∀ φ n, ∀ e ∈ c.fs, Tabs.get (enH (le.fw (fnL le c.l ob es Q mu)) φ mu n :: c.l) e.key = some e := fun φ n e he => Hy (e := enH (le.fw (fnL le c.l ob es Q mu)) φ mu n) (hc.getF e he) hk
 have g2 : ∀ φ n, ∀ x ∈ c.ls, Tabs.get (enH (le.fw (fnL le c.l ob es Q mu)) φ mu n :: c.l) x.2.2.ent.key = some x.2.2.ent := fun φ n x hx => Hy (e := enH (le.fw (fnL le c.l ob es Q mu)) φ mu n) (hc.getL x hx) hk
 have g3 : ∀ φ n, LTOK P G (enH (le.fw (fnL le c.l ob es Q mu)) φ mu n :: c.l) (ltOf c.ls) := fun φ n => GC hc.ls (g2 φ n)
 refine WN hm mu (psiL le c.l ob es Q mu) (fun n j xs h => Pg n j xs h) (fun φ n => BW hc.fs (g1 φ n)) (fun φ n ρ w0 M0 Im0 hG => EP hm (BW hc.fs (g1 φ n)) hG (g3 φ n) _) (fun φ n => ?_) h fun xs hf hp' => ?_
 ·intro q le' hq body hbody
  exact g3 φ n f fn cd b1 b2 (p ++ false :: q) le' hq body (by rw [Ju b3]; exact hbody)
 ·obtain ⟨_, ρ, ⟨f1, f2, _⟩, f5⟩ := hpost _ xs rfl hf hp'
  refine ⟨ρ, f1, f2, fun i k hi => ?_⟩
  show k.norm (fnL le c.l ob es Q mu i xs) = _
  rw [f5 i]; exact (Ib hb).2 _ _ i k hi
theorem Bj (le : LEnt) (φ : Nat -> List Int -> Int) (mu : List Int -> Nat) (n : Nat) (l0 : Tabs) (hk : le.ent.key ≠ 0) : ∃ l : Tabs, enH le φ mu n :: l0 = l /\ ((∀ j, (j == preC) = false -> ∀ xs, l.F le.ent.key j xs = φ j xs) /\
 (∀ xs, (i2b (K.b.norm (l.F le.ent.key 1000000 xs)) = true) = (le.ent.pre xs /\ mu xs < n))) /\
 ∀ e : Ent, l0.get e.key = some e -> e.key ≠ le.ent.key -> e.key ≠ 0 -> (∀ j, (j == preC) = false -> ∀ xs, l.F e.key j xs = e.fn j xs) /\ ∀ xs, (i2b (K.b.norm (l.F e.key 1000000 xs)) = true) = e.pre xs := by
 have g : Tabs.get (enH le φ mu n :: l0) le.ent.key = some (enH le φ mu n) := by simp [Tabs.get, enH]
 refine ⟨_, rfl, ⟨fun j hj xs => F_fn (enH le φ mu n) rfl g hk hj xs, fun xs => propext (Tabs.F_pre (e := enH le φ mu n) g hk rfl)⟩, fun e he h1 h2 => ?_⟩
 have ge : Tabs.get (enH le φ mu n :: l0) e.key = some e := by
  have : (le.ent.key == e.key) = false := by simpa using fun e' => h1 e'.symm
  simp only [Tabs.get, enH, List.find?_cons, this]
  exact he
 exact ⟨fun j hj xs => F_fn e rfl ge h2 hj xs, fun xs => propext (Tabs.F_pre ge h2 rfl)⟩
end
end Go.Proofs.Ytfhheeoejncfgaa.Ew
namespace Go.Proofs.Ytfhheeoejncfgaa.Ew.Ar
open Go Go.RowKit Go.ChangeShapes Go.WideShapes Go.Proofs.Ytfhheeoejncfgaa.Ew
def vals : List K -> List Int -> List Value
 | k :: ks, x :: xs => k.val x :: vals ks xs
 | _, _ => []
theorem B3 : ∀ {ks ls : List K} {xs ys : List Int}, fits ks xs -> fits ls ys -> fits (ks ++ ls) (xs ++ ys)
 | [], _, [], _, _, h => h
 | [], _, _ :: _, _, h, _ => h.elim
 | _ :: _, _, [], _, h, _ => h.elim
 | _ :: _, _, _ :: _, _, h, h' => ⟨h.1, B3 h.2 h'⟩
def G3 (leaf : TypeId -> Option (List K)) (P : Program) : List (TypeId × Nat) -> Nat -> Option (List K)
 | [], _ => some []
 | (t, o) :: r, off => if o = off then
  match leaf t with
  | some ks => if P.cellsOf t = ks.length then (G3 leaf P r (off + ks.length)).map (ks ++ ·) else none
  | none => none
   else none
def EH (P : Program) : Nat -> TypeId -> Option (List K)
 | 0, _ => none
 | n + 1, t => match P.underlying t with
   | some .bool => some [.b]
   | some (.int k) => some [.i k]
   | some (.struct fs) => match G3 (EH P n) P (fs.toList.map fun f => (f.type, f.offset)) 0 with
     | some ks => if P.cellsOf t = ks.length then some ks else none
     | none => none
   | some (.array m e) => match G3 (EH P n) P ((List.range m).map fun i => (e, i * P.cellsOf e)) 0 with
     | some ks => if P.cellsOf t = ks.length then some ks else none
     | none => none
   | _ => none
section
variable {H : Type} {enc : TypeId × Value -> H} {P : Program} {w : World} {base : Nat} {spare : Nat -> Bool} {held : Bool}
theorem Ua {f : Func} {s : ChangeSpec} {apart fresh handsOn again : Bool} {W W' : World} {args : Array Value} {v : Value} {ds gs : List (DataW H)} {before pa pv : List MemPlace}
 (hW : DataW.Whole enc P f.params.toList s.vars apart W args.toList ds gs before)
 (hres : ∀ (b : Nat) (sp : Nat -> Bool) (hd : Bool), DataW.TrodAll enc P W' b sp hd f.resultTypes.toList (v.resultList f.resultTypes.size) (s.fn H (ds ++ gs)).results [])
 (hargs : ∀ sp : Nat -> Bool, (∀ p ∈ before, sp p.block = true) -> DataW.TrodAll enc P W' 0 sp true f.params.toList args.toList (s.fn H (ds ++ gs)).args pa)
 (hvars : ∀ sp : Nat -> Bool, (∀ p ∈ before, sp p.block = true) -> DataW.TrodVars enc P W' sp s.vars (s.fn H (ds ++ gs)).vars pv)
 (hps : before = pa ++ pv) (hb : Below W.heap.size W W')
 (hok : ∀ (j : Nat) (t : TypeId) (r : Value), f.resultTypes[j]? = some t -> (v.resultList f.resultTypes.size)[j]? = some r -> Value.okWide P W' .any 0 t r) :
 s.post enc P f apart fresh handsOn again W args v W' := by
 have hlt : ∀ p ∈ before, p.block < W.heap.size := fun p hp => hW.lt p hp
 have hold : ∀ p ∈ before, (fun b => decide (b < W.heap.size)) p.block = true := fun p hp => by simpa using hlt p hp
 refine ⟨ds, gs, before, [], pa, pv, hW, hres _ _ _, hargs _ hold, hvars _ hold, World.keptBut_mono (fun p hp => ⟨hp, ?_⟩) (hb.frame (· ∈ before)), fun _ => ?_⟩
 ·rw [hps, List.mem_append] at hp
  exact Or.inr hp
 ·obtain ⟨_, _, _, _, _, hz, hn⟩ := hW
  refine ⟨hok, _, _, ([] ++ pa) ++ pv, ⟨[] ++ pa, pv, trodAll_append (hargs _ (fun _ _ => rfl)) (hres _ _ _), hvars _ (fun _ _ => rfl), rfl, ?_, ?_⟩, ?_⟩
  ·intro b off hp
   have hin : MemPlace.cell b off ∈ before := by rw [hps]; simpa using hp
   rw [hb.frozen (hlt _ hin)]
   exact hz b off hin
  ·intro ha
   have := hn ha
   rw [hps] at this
   simpa using this
  ·intro p hp _
   rw [hps]
   simpa using hp
theorem V6 {e : Ent} (h : EntryOK P (fun _ _ => none) e) {xs : List Int} (hf : fits e.pks xs) (hp : e.pre xs) (ho : e.os = []) (hr : e.rs = .lt .b 1) {W : World} {hs : Nat -> Hd} {args : Array Value}
 (ha : (SV.concL F0 (env xs) hs e.pgen.1).toArray = args) (hE : RelE F0 (env xs) W (fun _ => False) (fun b => b < W.heap.size) hs e.pgen.2 W) : Calls P e.f args W fun en W' => en = .returned (.bool true) /\ Below W.heap.size W W' := by
 subst ha
 refine (h xs hf hp W (fun _ => False) (fun b => b < W.heap.size) hs (fun b hb => hb.elim) (fun F ρ b off v hv => by cases hv) hE).mono ?_
 rintro en w' ⟨hs', Im', _, _, _, rfl, hR⟩
 refine ⟨?_, hR.fr.toBelow⟩
 congr 1
 unfold Ent.ogen Ent.outL
 rw [ho, hr]
 simp [Sh.genL, Sh.gen, BN, SV.conc, E.val, E.kind, E.tt, E.den, K.norm, i2b]
theorem WO {W : World} {ρ : Nat -> Int} {hs : Nat -> Hd} : RelE F0 ρ W (fun _ => False) (fun b => b < W.heap.size) hs [] W :=
 ⟨(fun x hx => by cases hx), (fun x hx => by cases hx), (fun b hb => hb), Fr.refl _ _⟩
end
end Go.Proofs.Ytfhheeoejncfgaa.Ew.Ar
namespace Go.Proofs.Ytfhheeoejncfgaa.Ew
open Go Go.RowKit
noncomputable section
def rowsOK (ks : List K) (l : RL) : Prop := ∀ r ∈ l, fits ks r
theorem RG {ks : List K} {c i : Int} (h : rowsOK ks (dc c)) (h0 : 0 <= i) (h1 : i < ((dc c).length : Int)) : ∃ r, (dc c).getD i.toNat [] = r /\ fits ks r /\ r ∈ dc c /\ (dc c).drop i.toNat = r :: (dc c).drop (i + 1).toNat := by
 have hl : i.toNat < (dc c).length := by omega
 refine ⟨(dc c)[i.toNat], by simp [List.getD, hl], h _ (List.getElem_mem hl), List.getElem_mem hl, ?_⟩
 rw [List.drop_eq_getElem_cons hl, show (i + 1).toNat = i.toNat + 1 by omega]
theorem V7 {xs : List Int} (h : xs.length = 2) : ∃ a b, xs = [a, b] := by
 match xs, h with
 | [a, b], _ => exact ⟨a, b, rfl⟩
def gC (T : RL) (i j : Nat) : Int := (T.getD i []).getD j 0
def setC (T : RL) (i j : Nat) (vs : List Int) : RL := T.set i (splR (T.getD i []) j vs)
theorem C6 (T : RL) (i j : Nat) (vs : List Int) : (setC T i j vs).length = T.length := by simp [setC]
theorem RH (T : RL) {i : Nat} (a j : Nat) (vs : List Int) (hi : i < T.length) : (setC T i j vs).getD a [] = if a = i then splR (T.getD i []) j vs else T.getD a [] := by
 unfold setC
 simp only [List.getD_eq_getElem?_getD, List.getElem?_set]
 by_cases h : a = i
 ·subst h; simp [hi]
 ·have h' : ¬ i = a := fun e => h e.symm
  simp [h, h']
theorem WP {r vs : List Int} {j : Nat} (h : j + vs.length <= r.length) : (splR r j vs).length = r.length := by
 unfold splR; simp; omega
theorem WQ {r vs : List Int} {j : Nat} (h : j + vs.length <= r.length) (b : Nat) : (splR r j vs).getD b 0 = if b < j then r.getD b 0 else if b < j + vs.length then vs.getD (b - j) 0 else r.getD b 0 := by
 unfold splR
 simp only [List.getD_eq_getElem?_getD]
 by_cases h1 : b < j
 ·rw [if_pos h1, List.append_assoc, List.getElem?_append_left (by simp; omega), List.getElem?_take, if_pos h1]
 ·rw [if_neg h1]
  by_cases h2 : b < j + vs.length
  ·rw [if_pos h2, List.append_assoc, List.getElem?_append_right (by simp; omega), List.getElem?_append_left (by simp; omega)]
   congr 2; simp; omega
  ·rw [if_neg h2, List.getElem?_append_right (by simp; omega), List.getElem?_drop]
   congr 2; simp; omega
theorem V8 {T : RL} {i j : Nat} {vs : List Int} (hi : i < T.length) (hj : j + vs.length <= (T.getD i []).length) (a b : Nat) :
 gC (setC T i j vs) a b = if a = i /\ j <= b /\ b < j + vs.length then vs.getD (b - j) 0 else gC T a b := by
 unfold gC
 rw [RH T a j vs hi]
 by_cases h : a = i
 ·subst h
  rw [if_pos rfl, WQ hj]
  by_cases h1 : b < j
  ·rw [if_pos h1, if_neg (by omega)]
  ·rw [if_neg h1]
   by_cases h2 : b < j + vs.length
   ·rw [if_pos h2, if_pos ⟨rfl, by omega, h2⟩]
   ·rw [if_neg h2, if_neg (by omega)]
 ·rw [if_neg h, if_neg (by omega)]
theorem XV {T : RL} {i j : Nat} {v : Int} (hi : i < T.length) (hj : j < (T.getD i []).length) (a b : Nat) :
 gC (setC T i j [v]) a b = if a = i /\ b = j then v else gC T a b := by
 rw [V8 hi (by simp only [List.length_cons, List.length_nil]; omega)]
 by_cases h : a = i /\ b = j
 ·rw [if_pos h, if_pos ⟨h.1, by omega, by simp; omega⟩, h.2]; simp
 ·rw [if_neg h, if_neg]
  simp only [List.length_cons, List.length_nil]; omega
def Wid (T : RL) (n w : Nat) : Prop := T.length = n /\ ∀ i < n, (T.getD i []).length = w
theorem Wid.set {T : RL} {n w i j : Nat} {vs : List Int} (h : Wid T n w) (hi : i < n) (hj : j + vs.length <= w) : Wid (setC T i j vs) n w := by
 obtain ⟨h1, h2⟩ := h
 refine ⟨by rw [C6, h1], fun a ha => ?_⟩
 rw [RH T a j vs (by omega)]
 split
 ·rw [WP (by rw [h2 i hi]; exact hj), h2 i hi]
 ·exact h2 a ha
theorem Wid.c {T : RL} {n w i j : Nat} {vs : List Int} (h : Wid T n w) (hi : i < n) (hj : j + vs.length <= w) (a b : Nat) : gC (setC T i j vs) a b = if a = i /\ j <= b /\ b < j + vs.length then vs.getD (b - j) 0 else gC T a b :=
 V8 (by rw [h.1]; exact hi) (by rw [h.2 i hi]; exact hj) a b
theorem Wid.c1 {T : RL} {n w i j : Nat} {v : Int} (h : Wid T n w) (hi : i < n) (hj : j < w) (a b : Nat) : gC (setC T i j [v]) a b = if a = i /\ b = j then v else gC T a b :=
 XV (by rw [h.1]; exact hi) (by rw [h.2 i hi]; exact hj) a b
def headP : List Nat -> Int
 | [] => 0
 | a :: _ => (a : Int) + 1
def lastP (l : List Nat) : Int := headP l.reverse
theorem Bh (l : List Nat) (a : Nat) : lastP (l ++ [a]) = (a : Int) + 1 := by simp [lastP, headP]
theorem V9 : lastP [] = 0 := rfl
theorem DC (l : List Nat) : l = [] \/ ∃ m a, l = m ++ [a] := by
 rcases List.eq_nil_or_concat l with h | ⟨m, a, h⟩
 ·exact Or.inl h
 ·exact Or.inr ⟨m, a, by rw [h]; simp⟩
def uQ (Q : Nat -> List Nat) (k : Nat) (l : List Nat) : Nat -> List Nat := fun m => if m = k then l else Q m
theorem AH (Q : Nat -> List Nat) (k : Nat) (l : List Nat) : uQ Q k l k = l := if_pos rfl
theorem AV (Q : Nat -> List Nat) {k m : Nat} (l : List Nat) (h : m ≠ k) : uQ Q k l m = Q m := if_neg h
structure Lk (T S : RL) (Q : Nat -> List Nat) (cap : Nat) : Prop where
 tw : Wid T cap 5
 sw : Wid S 2049 3
 qc : ∀ k, ∀ i ∈ Q k, i < cap
 qk : ∀ k, 2049 <= k -> Q k = []
 nd : ∀ k, (Q k).Nodup
 dj : ∀ k m i, i ∈ Q k -> i ∈ Q m -> k = m
 hd : ∀ k < 2049, gC S k 0 = headP (Q k) /\ gC S k 1 = lastP (Q k) /\ gC S k 2 = ((Q k).length : Int)
 ch : ∀ k A i B, Q k = A ++ i :: B -> gC T i 2 = lastP A /\ gC T i 3 = headP B
def dropT (T : RL) (i : Nat) : RL :=
 let p := gC T i 2
 let n := gC T i 3
 let T1 := if 0 < p then setC T (p - 1).toNat 3 [n] else T
 let T2 := if 0 < n then setC T1 (n - 1).toNat 2 [p] else T1
 setC T2 i 0 [0, 0, 0, 0, 0]
def dropS (S : RL) (k : Nat) (p n : Int) : RL :=
 let S1 := if 0 < p then S else setC S k 0 [n]
 let S2 := if 0 < n then S1 else setC S1 k 1 [p]
 setC S2 k 2 [gC S2 k 2 - 1]
theorem Lk.q_lt {T S : RL} {Q : Nat -> List Nat} {cap k i : Nat} (h : Lk T S Q cap) (hi : i ∈ Q k) : k < 2049 := by
 by_cases hk : k < 2049
 ·exact hk
 ·rw [h.qk k (by omega)] at hi; cases hi
theorem Jv {T S : RL} {Q : Nat -> List Nat} {cap k i : Nat} {A B : List Nat} (h : Lk T S Q cap) (hq : Q k = A ++ i :: B) :
 Wid (dropT T i) cap 5 /\ ∀ y j, gC (dropT T i) y j = if y = i /\ j < 5 then 0 else if lastP A = (y : Int) + 1 /\ j = 3 then headP B else if headP B = (y : Int) + 1 /\ j = 2 then lastP A else gC T y j := by
 obtain ⟨c1, c2⟩ := h.ch k A i B hq
 have hic : i < cap := h.qc k i (by rw [hq]; simp)
 have hA : ∀ a ∈ A, a < cap := fun a ha => h.qc k a (by rw [hq]; simp [ha])
 have hB : ∀ a ∈ B, a < cap := fun a ha => h.qc k a (by rw [hq]; simp [ha])
 have hnd := h.nd k
 rw [hq] at hnd
 have hpA : lastP A = 0 \/ ∃ a, a ∈ A /\ lastP A = (a : Int) + 1 := by
  rcases DC A with rfl | ⟨m, a, rfl⟩
  ·exact Or.inl rfl
  ·exact Or.inr ⟨a, by simp, Bh m a⟩
 have hpB : headP B = 0 \/ ∃ a, a ∈ B /\ headP B = (a : Int) + 1 := by
  cases B with
  | nil => exact Or.inl rfl
  | cons b r => exact Or.inr ⟨b, by simp, rfl⟩
 obtain ⟨T1, e1⟩ : ∃ T1, T1 = if 0 < lastP A then setC T (lastP A - 1).toNat 3 [headP B] else T := ⟨_, rfl⟩
 have s1 : Wid T1 cap 5 /\ ∀ y j, gC T1 y j = if lastP A = (y : Int) + 1 /\ j = 3 then headP B else gC T y j := by
  rw [e1]
  rcases hpA with e | ⟨a, ha, e⟩
  ·rw [e, if_neg (by decide)]
   exact ⟨h.tw, fun y j => by rw [if_neg (by omega)]⟩
  ·rw [e, if_pos (by omega), show ((a : Int) + 1 - 1).toNat = a by omega]
   refine ⟨h.tw.set (hA a ha) (by simp), fun y j => ?_⟩
   rw [h.tw.c1 (hA a ha) (by decide)]
   by_cases hy : y = a /\ j = 3
   ·rw [if_pos hy, if_pos (by omega)]
   ·rw [if_neg hy, if_neg (by omega)]
 obtain ⟨T2, e2⟩ : ∃ T2, T2 = if 0 < headP B then setC T1 (headP B - 1).toNat 2 [lastP A] else T1 := ⟨_, rfl⟩
 have s2 : Wid T2 cap 5 /\ ∀ y j, gC T2 y j = if headP B = (y : Int) + 1 /\ j = 2 then lastP A else gC T1 y j := by
  rw [e2]
  rcases hpB with e | ⟨a, ha, e⟩
  ·rw [e, if_neg (by decide)]
   exact ⟨s1.1, fun y j => by rw [if_neg (by omega)]⟩
  ·rw [e, if_pos (by omega), show ((a : Int) + 1 - 1).toNat = a by omega]
   refine ⟨s1.1.set (hB a ha) (by simp), fun y j => ?_⟩
   rw [s1.1.c1 (hB a ha) (by decide)]
   by_cases hy : y = a /\ j = 2
   ·rw [if_pos hy, if_pos (by omega)]
   ·rw [if_neg hy, if_neg (by omega)]
 have e3 : dropT T i = setC T2 i 0 [0, 0, 0, 0, 0] := by
  unfold dropT
  simp only [c1, c2]
  rw [e2, e1]
 rw [e3]
 refine ⟨s2.1.set hic (by simp), fun y j => ?_⟩
 rw [s2.1.c hic (by simp)]
 by_cases hy : y = i /\ j < 5
 ·rw [if_pos (by simpa using hy), if_pos hy]
  match j, hy.2 with
  | 0, _ | 1, _ | 2, _ | 3, _ | 4, _ => rfl
 ·rw [if_neg (by simpa using hy), if_neg hy, s2.2, s1.2]
  by_cases g1 : headP B = (y : Int) + 1 /\ j = 2
  ·rw [if_pos g1, if_neg (by omega), if_pos g1]
  ·rw [if_neg g1]
   by_cases g2 : lastP A = (y : Int) + 1 /\ j = 3
   ·rw [if_pos g2, if_pos g2]
   ·rw [if_neg g2, if_neg g2, if_neg g1]
theorem Ub {S : RL} {k : Nat} {p n : Int} (h : Wid S 2049 3) (hk : k < 2049) (hp : 0 <= p) (hn : 0 <= n) :
 Wid (dropS S k p n) 2049 3 /\ ∀ m j, gC (dropS S k p n) m j = if m = k /\ j = 2 then gC S k 2 - 1 else if m = k /\ j = 1 /\ n = 0 then p else if m = k /\ j = 0 /\ p = 0 then n else gC S m j := by
 obtain ⟨S1, e1⟩ : ∃ S1, S1 = if 0 < p then S else setC S k 0 [n] := ⟨_, rfl⟩
 have s1 : Wid S1 2049 3 /\ ∀ m j, gC S1 m j = if m = k /\ j = 0 /\ p = 0 then n else gC S m j := by
  rw [e1]
  by_cases hp0 : 0 < p
  ·rw [if_pos hp0]
   exact ⟨h, fun m j => by rw [if_neg (by omega)]⟩
  ·rw [if_neg hp0]
   refine ⟨h.set hk (by simp), fun m j => ?_⟩
   rw [h.c1 hk (by decide)]
   by_cases g : m = k /\ j = 0
   ·rw [if_pos g, if_pos (by omega)]
   ·rw [if_neg g, if_neg (by omega)]
 obtain ⟨S2, e2⟩ : ∃ S2, S2 = if 0 < n then S1 else setC S1 k 1 [p] := ⟨_, rfl⟩
 have s2 : Wid S2 2049 3 /\ ∀ m j, gC S2 m j = if m = k /\ j = 1 /\ n = 0 then p else gC S1 m j := by
  rw [e2]
  by_cases hn0 : 0 < n
  ·rw [if_pos hn0]
   exact ⟨s1.1, fun m j => by rw [if_neg (by omega)]⟩
  ·rw [if_neg hn0]
   refine ⟨s1.1.set hk (by simp), fun m j => ?_⟩
   rw [s1.1.c1 hk (by decide)]
   by_cases g : m = k /\ j = 1
   ·rw [if_pos g, if_pos (by omega)]
   ·rw [if_neg g, if_neg (by omega)]
 have e3 : dropS S k p n = setC S2 k 2 [gC S2 k 2 - 1] := by
  unfold dropS
  rw [e2, e1]
 rw [e3]
 refine ⟨s2.1.set hk (by simp), fun m j => ?_⟩
 rw [s2.1.c1 hk (by decide)]
 by_cases g : m = k /\ j = 2
 ·rw [if_pos g, if_pos g, s2.2, if_neg (by omega), s1.2, if_neg (by omega)]
 ·rw [if_neg g, if_neg g, s2.2, s1.2]
theorem Ca (l : List Nat) : 0 <= headP l := by cases l <;> simp [headP]; omega
theorem AF (l : List Nat) : 0 <= lastP l := Ca _
theorem Ko {l : List Nat} {y : Nat} (h : headP l = (y : Int) + 1) : y ∈ l := by
 cases l with
 | nil => simp [headP] at h; omega
 | cons a r => simp only [headP] at h; have : a = y := by omega
               subst this; simp
theorem BX {l : List Nat} {y : Nat} (h : lastP l = (y : Int) + 1) : y ∈ l := by
 have := Ko h
 simpa using this
theorem Hz {A : List Nat} (B : List Nat) (h : A ≠ []) : headP (A ++ B) = headP A := by
 cases A with
 | nil => exact absurd rfl h
 | cons a r => rfl
theorem BD (A : List Nat) {B : List Nat} (h : B ≠ []) : lastP (A ++ B) = lastP B := by
 rcases DC B with rfl | ⟨m, a, rfl⟩
 ·exact absurd rfl h
 ·rw [<- List.append_assoc, Bh, Bh]
theorem EQ (i : Nat) {B : List Nat} (h : B ≠ []) : lastP (i :: B) = lastP B := BD [i] h
theorem Nn {l : List Nat} : headP l = 0 ↔ l = [] := by
 cases l with
 | nil => simp [headP]
 | cons a r => simp [headP]; omega
theorem Jw {l : List Nat} : lastP l = 0 ↔ l = [] := by
 unfold lastP; rw [Nn]; simp
theorem Lk.drop {T S : RL} {Q : Nat -> List Nat} {cap k i : Nat} {A B : List Nat} (h : Lk T S Q cap) (hq : Q k = A ++ i :: B) :
 Lk (dropT T i) (dropS S k (gC T i 2) (gC T i 3)) (uQ Q k (A ++ B)) cap := by
 obtain ⟨t1, t2⟩ := Jv h hq
 obtain ⟨c1, c2⟩ := h.ch k A i B hq
 have hk := h.q_lt (k := k) (i := i) (by rw [hq]; simp)
 obtain ⟨s1, s2⟩ := Ub h.sw hk (p := gC T i 2) (n := gC T i 3) (by rw [c1]; exact AF _) (by rw [c2]; exact Ca _)
 have hnd := h.nd k
 rw [hq] at hnd
 obtain ⟨n1, n2, n3⟩ := List.nodup_append.1 hnd
 obtain ⟨n4, n5⟩ := List.nodup_cons.1 n2
 have hiA : i ∉ A := fun hA => n3 i hA i (by simp) rfl
 have hAB : ∀ x, x ∈ A -> x ∈ B -> False := fun x hA hB => n3 x hA x (by simp [hB]) rfl
 have q2 : ∀ y, y ≠ i -> gC (dropT T i) y 2 = if headP B = (y : Int) + 1 then lastP A else gC T y 2 := fun y hy => by rw [t2]; simp [hy]
 have q3 : ∀ y, y ≠ i -> gC (dropT T i) y 3 = if lastP A = (y : Int) + 1 then headP B else gC T y 3 := fun y hy => by rw [t2]; simp [hy]
 have sub : ∀ m x, x ∈ uQ Q k (A ++ B) m -> x ∈ Q m /\ x ≠ i := fun m x hx => by
  by_cases hm : m = k
  ·subst hm
   rw [AH] at hx
   rcases List.mem_append.1 hx with hx | hx
   ·exact ⟨by rw [hq]; simp [hx], fun e => hiA (e ▸ hx)⟩
   ·exact ⟨by rw [hq]; simp [hx], fun e => n4 (e ▸ hx)⟩
  ·rw [AV Q _ hm] at hx
   exact ⟨hx, fun e => hm (h.dj m k i (e ▸ hx) (by rw [hq]; simp))⟩
 refine ⟨t1, s1, fun m x hx => h.qc m x (sub m x hx).1, fun m hm => ?_, fun m => ?_, fun m m' x h1 h2 => h.dj _ _ x (sub m x h1).1 (sub m' x h2).1, fun m hm => ?_, fun m A' y B' hy => ?_⟩
 ·rw [AV Q _ (by omega)]; exact h.qk m hm
 ·by_cases hm : m = k
  ·subst hm
   rw [AH]
   exact List.Nodup.sublist (List.Sublist.append (List.Sublist.refl A) (List.sublist_cons_self i B)) hnd
  ·rw [AV Q _ hm]; exact h.nd m
 ·by_cases hmk : m = k
  ·subst hmk
   obtain ⟨d0, d1, d2⟩ := h.hd m hm
   rw [AH, s2, s2, s2]
   rw [hq] at d0 d1 d2
   refine ⟨?_, ?_, ?_⟩
   ·rw [if_neg (by omega), if_neg (by omega)]
    by_cases hA : A = []
    ·subst hA
     rw [if_pos ⟨rfl, rfl, by rw [c1]; rfl⟩, c2]; rfl
    ·rw [if_neg (fun g => hA (Jw.1 (by rw [<- c1]; exact g.2.2))), d0, Hz _ hA, Hz _ hA]
   ·rw [if_neg (by omega)]
    by_cases hB : B = []
    ·subst hB
     rw [if_pos ⟨rfl, rfl, by rw [c2]; rfl⟩, c1, List.append_nil]
    ·rw [if_neg (fun g => hB (Nn.1 (by rw [<- c2]; exact g.2.2))), if_neg (by omega), d1, BD _ (by simp), BD _ hB, EQ _ hB]
   ·rw [if_pos ⟨rfl, rfl⟩, d2]; simp; omega
  ·rw [AV Q _ hmk, s2, s2, s2]
   simp only [hmk, false_and, if_false]
   exact h.hd m hm
 ·by_cases hm : m = k
  ·subst hm
   rw [AH] at hy
   have alpha : ∀ C, B = C ++ y :: B' -> A' = A ++ C -> gC (dropT T i) y 2 = lastP A' /\ gC (dropT T i) y 3 = headP B' := fun C e1 e2 => by
    have hyB : y ∈ B := by rw [e1]; simp
    have hyi : y ≠ i := fun e => n4 (e ▸ hyB)
    obtain ⟨o1, o2⟩ := h.ch m (A ++ i :: C) y B' (by rw [hq, e1]; simp)
    rw [q2 y hyi, q3 y hyi, if_neg (c := lastP A = (y : Int) + 1) (fun g => hAB y (BX g) hyB)]
    refine ⟨?_, o2⟩
    cases C with
    | nil => rw [if_pos (by rw [e1]; rfl), e2, List.append_nil]
    | cons c C' =>
      have hcy : c ≠ y := by
       intro e
       rw [e1, e] at n5
       simp at n5
      rw [if_neg (fun g => hcy (by rw [e1] at g; simp only [List.cons_append, headP] at g; omega)), o1, e2, BD _ (by simp), BD _ (by simp), EQ _ (by simp)]
   rcases List.append_eq_append_iff.1 hy with ⟨C, e1, e2⟩ | ⟨C, e1, e2⟩
   ·exact alpha C e2 e1
   ·cases C with
    | nil => exact alpha [] (by simpa using e2.symm) (by simpa using e1.symm)
    | cons c C' =>
      simp only [List.cons_append, List.cons.injEq] at e2
      obtain ⟨rfl, e2⟩ := e2
      have hyA : y ∈ A := by rw [e1]; simp
      have hyi : y ≠ i := fun e => hiA (e ▸ hyA)
      obtain ⟨o1, o2⟩ := h.ch m A' y (C' ++ i :: B) (by rw [hq, e1]; simp)
      rw [q2 y hyi, q3 y hyi, if_neg (c := headP B = (y : Int) + 1) (fun g => hAB y hyA (Ko g))]
      refine ⟨o1, ?_⟩
      cases C' with
      | nil => rw [if_pos (by rw [e1, Bh]), e2]; rfl
      | cons c' C'' =>
        have hl : lastP A ≠ (y : Int) + 1 := fun g => by
         rw [e1, BD _ (by simp), EQ _ (by simp)] at g
         have hm' := BX g
         rw [e1] at n1
         have := (List.nodup_append.1 n1).2.1
         exact (List.nodup_cons.1 this).1 hm'
        rw [if_neg hl, o2, e2]; rfl
  ·rw [AV Q _ hm] at hy
   have hyQ : y ∈ Q m := by rw [hy]; simp
   have hne : ∀ x, x ∈ Q m -> x ∈ Q k -> False := fun x h1 h2 => hm (h.dj m k x h1 h2)
   have hyi : y ≠ i := fun e => hne y hyQ (by rw [hq, e]; simp)
   rw [q2 y hyi, q3 y hyi, if_neg (c := headP B = (y : Int) + 1) (fun g => hne y hyQ (by rw [hq]; simp [Ko g])), if_neg (c := lastP A = (y : Int) + 1) (fun g => hne y hyQ (by rw [hq]; simp [BX g]))]
   exact h.ch m A' y B' hy
def putT (T : RL) (i : Nat) (lv ix d la : Int) : RL :=
 let T1 := setC (setC T i 0 [lv, ix]) i 4 [d]
 let T2 := setC (setC T1 i 2 [la]) i 3 [0]
 if 0 < la then setC T2 (la - 1).toNat 3 [(i : Int) + 1] else T2
def putS (S : RL) (k i : Nat) : RL :=
 let S1 := if 0 < gC S k 1 then S else setC S k 0 [(i : Int) + 1]
 let S2 := setC S1 k 1 [(i : Int) + 1]
 setC S2 k 2 [gC S2 k 2 + 1]
theorem Qc {T : RL} {cap i : Nat} {lv ix d la : Int} (h : Wid T cap 5) (hi : i < cap) (hla : la = 0 \/ ∃ a : Nat, a < cap /\ a ≠ i /\ la = (a : Int) + 1) :
 Wid (putT T i lv ix d la) cap 5 /\ ∀ y j, gC (putT T i lv ix d la) y j = if y = i /\ j < 5 then [lv, ix, la, 0, d].getD j 0 else if la = (y : Int) + 1 /\ j = 3 then (i : Int) + 1 else gC T y j := by
 have w1 := h.set (vs := [lv, ix]) (j := 0) hi (by simp)
 have w2 := w1.set (vs := [d]) (j := 4) hi (by simp)
 have w3 := w2.set (vs := [la]) (j := 2) hi (by simp)
 have w4 := w3.set (vs := [0]) (j := 3) hi (by simp)
 have g4 : ∀ y j, gC (setC (setC (setC (setC T i 0 [lv, ix]) i 4 [d]) i 2 [la]) i 3 [0]) y j = if y = i /\ j < 5 then [lv, ix, la, 0, d].getD j 0 else gC T y j := fun y j => by
  rw [w3.c1 hi (by decide), w2.c1 hi (by decide), w1.c1 hi (by decide), h.c hi (by simp)]
  by_cases hy : y = i
  ·subst hy
   match j with
   | 0 | 1 | 2 | 3 | 4 => simp
   | j + 5 =>
     rw [if_neg (by omega), if_neg (by omega), if_neg (by omega), if_neg (by simp), if_neg (by omega)]
  ·simp [hy]
 unfold putT
 simp only
 rcases hla with rfl | ⟨a, ha, hai, rfl⟩
 ·rw [if_neg (by decide)]
  refine ⟨w4, fun y j => ?_⟩
  rw [g4, if_neg (c := (0 : Int) = (y : Int) + 1 /\ j = 3) (by omega)]
 ·rw [if_pos (by omega), show ((a : Int) + 1 - 1).toNat = a by omega]
  refine ⟨w4.set ha (by simp), fun y j => ?_⟩
  rw [w4.c1 ha (by decide), g4]
  by_cases hy : y = a /\ j = 3
  ·rw [if_pos hy, if_neg (by omega), if_pos (by omega)]
  ·rw [if_neg hy]
   by_cases hz : y = i /\ j < 5
   ·rw [if_pos hz, if_pos hz]
   ·rw [if_neg hz, if_neg hz, if_neg (by omega)]
theorem Wa {S : RL} {k i : Nat} (h : Wid S 2049 3) (hk : k < 2049) (hla : 0 <= gC S k 1) :
 Wid (putS S k i) 2049 3 /\ ∀ m j, gC (putS S k i) m j = if m = k /\ j = 2 then gC S k 2 + 1 else if m = k /\ j = 1 then (i : Int) + 1 else if m = k /\ j = 0 /\ gC S k 1 = 0 then (i : Int) + 1 else gC S m j := by
 obtain ⟨S1, e1⟩ : ∃ S1, S1 = if 0 < gC S k 1 then S else setC S k 0 [(i : Int) + 1] := ⟨_, rfl⟩
 have s1 : Wid S1 2049 3 /\ ∀ m j, gC S1 m j = if m = k /\ j = 0 /\ gC S k 1 = 0 then (i : Int) + 1 else gC S m j := by
  rw [e1]
  by_cases hp0 : 0 < gC S k 1
  ·rw [if_pos hp0]
   exact ⟨h, fun m j => by rw [if_neg (by omega)]⟩
  ·rw [if_neg hp0]
   refine ⟨h.set hk (by simp), fun m j => ?_⟩
   rw [h.c1 hk (by decide)]
   by_cases g : m = k /\ j = 0
   ·rw [if_pos g, if_pos (by omega)]
   ·rw [if_neg g, if_neg (by omega)]
 have w2 := s1.1.set (vs := [(i : Int) + 1]) (j := 1) hk (by simp)
 have e3 : putS S k i = setC (setC S1 k 1 [(i : Int) + 1]) k 2 [gC (setC S1 k 1 [(i : Int) + 1]) k 2 + 1] := by
  unfold putS
  rw [e1]
 rw [e3]
 refine ⟨w2.set hk (by simp), fun m j => ?_⟩
 rw [w2.c1 hk (by decide), s1.1.c1 hk (by decide), s1.1.c1 hk (by decide), s1.2, s1.2]
 by_cases g : m = k /\ j = 2
 ·rw [if_pos g, if_pos g, if_neg (by omega), if_neg (by omega)]
 ·rw [if_neg g, if_neg g]
theorem Lk.put {T S : RL} {Q : Nat -> List Nat} {cap k i : Nat} {lv ix d : Int} (h : Lk T S Q cap) (hk : k < 2049) (hi : i < cap) (hn : ∀ m, i ∉ Q m) :
 Lk (putT T i lv ix d (gC S k 1)) (putS S k i) (uQ Q k (Q k ++ [i])) cap := by
 obtain ⟨d0, d1, d2⟩ := h.hd k hk
 have hla : gC S k 1 = 0 \/ ∃ a : Nat, a < cap /\ a ≠ i /\ gC S k 1 = (a : Int) + 1 := by
  rw [d1]
  rcases DC (Q k) with e | ⟨m, a, e⟩
  ·exact Or.inl (by rw [e]; rfl)
  ·have ha : a ∈ Q k := by rw [e]; simp
   exact Or.inr ⟨a, h.qc k a ha, fun x => hn k (x ▸ ha), by rw [e, Bh]⟩
 obtain ⟨t1, t2⟩ := Qc (lv := lv) (ix := ix) (d := d) h.tw hi hla
 obtain ⟨s1, s2⟩ := Wa (i := i) h.sw hk (by rw [d1]; exact AF _)
 have sub : ∀ m x, x ∈ uQ Q k (Q k ++ [i]) m -> x ∈ Q m \/ (x = i /\ m = k) := fun m x hx => by
  by_cases hm : m = k
  ·subst hm
   rw [AH] at hx
   rcases List.mem_append.1 hx with hx | hx
   ·exact Or.inl hx
   ·exact Or.inr ⟨by simpa using hx, rfl⟩
  ·rw [AV Q _ hm] at hx; exact Or.inl hx
 refine ⟨t1, s1, fun m x hx => ?_, fun m hm => ?_, fun m => ?_, fun m m' x h1 h2 => ?_, fun m hm => ?_, fun m A' y B' hy => ?_⟩
 ·rcases sub m x hx with h1 | ⟨rfl, _⟩
  ·exact h.qc m x h1
  ·exact hi
 ·rw [AV Q _ (by omega)]; exact h.qk m hm
 ·by_cases hm : m = k
  ·subst hm
   rw [AH]
   refine List.nodup_append.2 ⟨h.nd m, by simp, fun a ha b hb e => ?_⟩
   have : b = i := by simpa using hb
   exact hn m (by rw [<- this, <- e]; exact ha)
  ·rw [AV Q _ hm]; exact h.nd m
 ·rcases sub m x h1 with g1 | ⟨e1, g1⟩
  ·rcases sub m' x h2 with g2 | ⟨e2, g2⟩
   ·exact h.dj m m' x g1 g2
   ·exact absurd (e2 ▸ g1) (hn m)
  ·rcases sub m' x h2 with g2 | ⟨e2, g2⟩
   ·exact absurd (e1 ▸ g2) (hn m')
   ·rw [g1, g2]
 ·by_cases hmk : m = k
  ·subst hmk
   rw [AH, s2, s2, s2]
   refine ⟨?_, ?_, ?_⟩
   ·rw [if_neg (by omega), if_neg (by omega)]
    by_cases hA : Q m = []
    ·rw [if_pos ⟨rfl, rfl, by rw [d1, hA]; rfl⟩, hA]; rfl
    ·rw [if_neg (fun g => hA (Jw.1 (by rw [<- d1]; exact g.2.2))), d0, Hz _ hA]
   ·rw [if_neg (by omega), if_pos ⟨rfl, rfl⟩, Bh]
   ·rw [if_pos ⟨rfl, rfl⟩, d2]; simp
  ·rw [AV Q _ hmk, s2, s2, s2]
   simp only [hmk, false_and, if_false]
   exact h.hd m hm
 ·have q2 : y ≠ i -> gC (putT T i lv ix d (gC S k 1)) y 2 = gC T y 2 := fun hyi => by rw [t2]; simp [hyi]
  have q3 : y ≠ i -> gC (putT T i lv ix d (gC S k 1)) y 3 = if gC S k 1 = (y : Int) + 1 then (i : Int) + 1 else gC T y 3 := fun hyi => by rw [t2]; simp [hyi]
  by_cases hm : m = k
  ·subst hm
   rw [AH] at hy
   rcases DC B' with rfl | ⟨B'', z, rfl⟩
   ·have e := List.append_inj_right' hy rfl
    have e' := List.append_inj_left' hy rfl
    have : i = y := by simpa using e
    subst this
    rw [t2, t2, if_pos ⟨rfl, by decide⟩, if_pos ⟨rfl, by decide⟩, <- e', d1]
    exact ⟨rfl, rfl⟩
   ·have hy' : Q m ++ [i] = (A' ++ y :: B'') ++ [z] := by rw [hy]; simp
    have e' := List.append_inj_left' hy' rfl
    have e : i = z := by simpa using List.append_inj_right' hy' rfl
    subst e
    have hyQ : y ∈ Q m := by rw [e']; simp
    have hyi : y ≠ i := fun e => hn m (e ▸ hyQ)
    obtain ⟨o1, o2⟩ := h.ch m A' y B'' e'
    rw [q2 hyi, q3 hyi, d1]
    refine ⟨o1, ?_⟩
    cases B'' with
    | nil => rw [if_pos (by rw [e', Bh])]; rfl
    | cons c C =>
      have hl : lastP (Q m) ≠ (y : Int) + 1 := fun g => by
       rw [e', BD _ (by simp), EQ _ (by simp)] at g
       have hm' := BX g
       have := h.nd m
       rw [e'] at this
       exact (List.nodup_cons.1 (List.nodup_append.1 this).2.1).1 hm'
      rw [if_neg hl, o2]; rfl
  ·rw [AV Q _ hm] at hy
   have hyQ : y ∈ Q m := by rw [hy]; simp
   have hyi : y ≠ i := fun e => hn m (e ▸ hyQ)
   rw [q2 hyi, q3 hyi, if_neg (fun g => hm (h.dj m k y hyQ (BX (by rw [<- d1]; exact g))))]
   exact h.ch m A' y B' hy
def joinT (T : RL) (f bl : Int) : RL := setC (if 0 < bl then setC T (bl - 1).toNat 3 [f] else T) (f - 1).toNat 2 [bl]
def joinS (S : RL) (k : Nat) : RL :=
 let S1 := if 0 < gC S 2048 1 then S else setC S 2048 0 [gC S k 0]
 let S2 := setC S1 2048 1 [gC S k 1]
 setC (setC S2 2048 2 [gC S2 2048 2 + gC S k 2]) k 0 [0, 0, 0]
theorem Lk.join {T S : RL} {Q : Nat -> List Nat} {cap k : Nat} (h : Lk T S Q cap) (hk : k < 2048) (hne : Q k ≠ []) :
 Lk (joinT T (gC S k 0) (gC S 2048 1)) (joinS S k) (uQ (uQ Q 2048 (Q 2048 ++ Q k)) k []) cap := by
 obtain ⟨d0, d1, d2⟩ := h.hd k (by omega)
 obtain ⟨b0, b1, b2⟩ := h.hd 2048 (by omega)
 obtain ⟨f, F, hF⟩ : ∃ f F, Q k = f :: F := by
  cases hq : Q k with
  | nil => exact absurd hq hne
  | cons f F => exact ⟨f, F, rfl⟩
 have ef : gC S k 0 = (f : Int) + 1 := by rw [d0, hF]; rfl
 have hfk : f ∈ Q k := by rw [hF]; simp
 have hfc := h.qc k f hfk
 have dis : ∀ x, x ∈ Q k -> x ∈ Q 2048 -> False := fun x h1 h2 => by have := h.dj _ _ x h1 h2; omega
 have t : Wid (joinT T (gC S k 0) (gC S 2048 1)) cap 5 /\ ∀ y j, gC (joinT T (gC S k 0) (gC S 2048 1)) y j = if y = f /\ j = 2 then lastP (Q 2048) else if lastP (Q 2048) = (y : Int) + 1 /\ j = 3 then (f : Int) + 1 else gC T y j := by
  unfold joinT
  rw [ef, b1, show ((f : Int) + 1 - 1).toNat = f by omega]
  rcases DC (Q 2048) with e | ⟨m, a, e⟩
  ·rw [e, V9, if_neg (by decide)]
   refine ⟨h.tw.set hfc (by simp), fun y j => ?_⟩
   rw [h.tw.c1 hfc (by decide), if_neg (c := (0 : Int) = (y : Int) + 1 /\ j = 3) (by omega)]
  ·have ha : a ∈ Q 2048 := by rw [e]; simp
   rw [e, Bh, if_pos (by omega), show ((a : Int) + 1 - 1).toNat = a by omega]
   have w := h.tw.set (vs := [(f : Int) + 1]) (j := 3) (h.qc _ a ha) (by simp)
   refine ⟨w.set hfc (by simp), fun y j => ?_⟩
   rw [w.c1 hfc (by decide), h.tw.c1 (h.qc _ a ha) (by decide)]
   by_cases g : y = a /\ j = 3
   ·rw [if_neg (c := y = f /\ j = 2) (by omega), if_pos g, if_neg (c := y = f /\ j = 2) (by omega), if_pos (by omega)]
   ·rw [if_neg (c := y = a /\ j = 3) g, if_neg (c := (a : Int) + 1 = (y : Int) + 1 /\ j = 3) (by omega)]
 obtain ⟨t1, t2⟩ := t
 have sS : Wid (joinS S k) 2049 3 /\ ∀ m j, gC (joinS S k) m j = if m = k /\ j < 3 then 0 else if m = 2048 /\ j = 2 then gC S 2048 2 + gC S k 2 else if m = 2048 /\ j = 1 then gC S k 1 else if m = 2048 /\ j = 0 /\ gC S 2048 1 = 0 then gC S k 0 else gC S m j := by
  obtain ⟨S1, e1⟩ : ∃ S1, S1 = if 0 < gC S 2048 1 then S else setC S 2048 0 [gC S k 0] := ⟨_, rfl⟩
  have s1 : Wid S1 2049 3 /\ ∀ m j, gC S1 m j = if m = 2048 /\ j = 0 /\ gC S 2048 1 = 0 then gC S k 0 else gC S m j := by
   rw [e1]
   have hla : 0 <= gC S 2048 1 := by rw [b1]; exact AF _
   by_cases hp0 : 0 < gC S 2048 1
   ·rw [if_pos hp0]
    exact ⟨h.sw, fun m j => by rw [if_neg (by omega)]⟩
   ·rw [if_neg hp0]
    refine ⟨h.sw.set (by omega) (by simp), fun m j => ?_⟩
    rw [h.sw.c1 (by omega) (by decide)]
    by_cases g : m = 2048 /\ j = 0
    ·rw [if_pos g, if_pos (by omega)]
    ·rw [if_neg g, if_neg (by omega)]
  have w2 := s1.1.set (i := 2048) (vs := [gC S k 1]) (j := 1) (by omega) (by simp)
  have w3 := w2.set (i := 2048) (vs := [gC (setC S1 2048 1 [gC S k 1]) 2048 2 + gC S k 2]) (j := 2) (by omega) (by simp)
  have e3 : joinS S k = setC (setC (setC S1 2048 1 [gC S k 1]) 2048 2 [gC (setC S1 2048 1 [gC S k 1]) 2048 2 + gC S k 2]) k 0 [0, 0, 0] := by
   unfold joinS
   rw [e1]
  rw [e3]
  refine ⟨w3.set (by omega) (by simp), fun m j => ?_⟩
  rw [w3.c (by omega) (by simp), w2.c1 (by omega) (by decide), s1.1.c1 (by omega) (by decide), s1.1.c1 (by omega) (by decide), s1.2, s1.2]
  by_cases g : m = k /\ j < 3
  ·rw [if_pos (by simpa using g), if_pos g]
   match j, g.2 with
   | 0, _ | 1, _ | 2, _ => rfl
  ·rw [if_neg (by simpa using g), if_neg g]
   by_cases g2 : m = 2048 /\ j = 2
   ·rw [if_pos g2, if_pos g2, if_neg (by omega), if_neg (by omega)]
   ·rw [if_neg g2, if_neg g2]
 obtain ⟨s1, s2⟩ := sS
 have hU : ∀ m, uQ (uQ Q 2048 (Q 2048 ++ Q k)) k [] m = if m = k then [] else if m = 2048 then Q 2048 ++ Q k else Q m := fun m => rfl
 have sub : ∀ m x, x ∈ uQ (uQ Q 2048 (Q 2048 ++ Q k)) k [] m -> m ≠ k /\ ((m = 2048 /\ (x ∈ Q 2048 \/ x ∈ Q k)) \/ (m ≠ 2048 /\ x ∈ Q m)) := fun m x hx => by
  rw [hU] at hx
  by_cases hm : m = k
  ·rw [if_pos hm] at hx; cases hx
  ·rw [if_neg hm] at hx
   refine ⟨hm, ?_⟩
   by_cases hm' : m = 2048
   ·rw [if_pos hm'] at hx
    exact Or.inl ⟨hm', List.mem_append.1 hx⟩
   ·rw [if_neg hm'] at hx; exact Or.inr ⟨hm', hx⟩
 have ndB : (Q 2048 ++ Q k).Nodup := List.nodup_append.2 ⟨h.nd _, h.nd _, fun a ha b hb e => dis b hb (e ▸ ha)⟩
 refine ⟨t1, s1, fun m x hx => ?_, fun m hm => ?_, fun m => ?_, fun m m' x h1 h2 => ?_, fun m hm => ?_, fun m A' y B' hy => ?_⟩
 ·rcases (sub m x hx).2 with ⟨_, h1 | h1⟩ | ⟨_, h1⟩ <;> exact h.qc _ x h1
 ·rw [hU, if_neg (by omega), if_neg (by omega)]; exact h.qk m hm
 ·rw [hU]
  by_cases hm : m = k
  ·rw [if_pos hm]; exact List.nodup_nil
  ·rw [if_neg hm]
   by_cases hm' : m = 2048
   ·rw [if_pos hm']; exact ndB
   ·rw [if_neg hm']; exact h.nd m
 ·obtain ⟨n1, g1⟩ := sub m x h1
  obtain ⟨n2, g2⟩ := sub m' x h2
  rcases g1 with ⟨e1, g1 | g1⟩ | ⟨e1, g1⟩ <;> rcases g2 with ⟨e2, g2 | g2⟩ | ⟨e2, g2⟩
  ·rw [e1, e2]
  ·rw [e1, e2]
  ·exact absurd (h.dj _ _ x g1 g2).symm e2
  ·rw [e1, e2]
  ·rw [e1, e2]
  ·exact absurd (h.dj _ _ x g1 g2).symm n2
  ·exact absurd (h.dj _ _ x g1 g2) e1
  ·exact absurd (h.dj _ _ x g1 g2) n1
  ·exact h.dj _ _ x g1 g2
 ·rw [hU, s2, s2, s2]
  by_cases hmk : m = k
  ·rw [if_pos hmk, if_pos ⟨hmk, by decide⟩, if_pos ⟨hmk, by decide⟩, if_pos ⟨hmk, by decide⟩]
   exact ⟨rfl, rfl, rfl⟩
  ·simp only [hmk, false_and, if_false]
   by_cases hm' : m = 2048
   ·subst hm'
    simp only [true_and, if_true]
    refine ⟨?_, ?_, ?_⟩
    ·rw [if_neg (by omega), if_neg (by omega)]
     by_cases hA : Q 2048 = []
     ·rw [if_pos (by rw [b1, hA]; rfl), d0, hA]; rfl
     ·rw [if_neg (fun g => hA (Jw.1 (by rw [<- b1]; exact g))), b0, Hz _ hA]
    ·rw [if_neg (by omega), d1, BD _ hne]
    ·rw [b2, d2]; simp
   ·simp only [hm', false_and, if_false]
    exact h.hd m hm
 ·rw [hU] at hy
  by_cases hm : m = k
  ·rw [if_pos hm] at hy; simp at hy
  ·rw [if_neg hm] at hy
   have q2 : gC (joinT T (gC S k 0) (gC S 2048 1)) y 2 = if y = f then lastP (Q 2048) else gC T y 2 := by rw [t2]; simp
   have q3 : gC (joinT T (gC S k 0) (gC S 2048 1)) y 3 = if lastP (Q 2048) = (y : Int) + 1 then (f : Int) + 1 else gC T y 3 := by rw [t2]; simp
   rw [q2, q3]
   by_cases hm' : m = 2048
   ·rw [if_pos hm'] at hy
    have inK : ∀ C, Q k = C ++ y :: B' -> A' = Q 2048 ++ C -> (if y = f then lastP (Q 2048) else gC T y 2) = lastP A' /\ (if lastP (Q 2048) = (y : Int) + 1 then (f : Int) + 1 else gC T y 3) = headP B' := fun C e1 e2 => by
     have hyk : y ∈ Q k := by rw [e1]; simp
     obtain ⟨o1, o2⟩ := h.ch k C y B' e1
     rw [if_neg (c := lastP (Q 2048) = (y : Int) + 1) (fun g => dis y hyk (BX g))]
     refine ⟨?_, o2⟩
     cases C with
     | nil =>
       have : f = y := by rw [hF] at e1; simpa using (List.cons.inj e1).1
       rw [if_pos this.symm, e2, List.append_nil]
     | cons c C' =>
       have hfc : f = c := by rw [hF] at e1; exact (List.cons.inj e1).1
       have hne' : ¬ y = f := fun e => by
        have := h.nd k
        rw [e1, <- hfc, <- e] at this
        simp at this
       rw [if_neg hne', o1, e2, BD _ (by simp)]
    rcases List.append_eq_append_iff.1 hy with ⟨C, e1, e2⟩ | ⟨C, e1, e2⟩
    ·exact inK C e2 e1
    ·cases C with
     | nil => exact inK [] (by simpa using e2.symm) (by simpa using e1.symm)
     | cons c C' =>
       simp only [List.cons_append, List.cons.injEq] at e2
       obtain ⟨rfl, e2⟩ := e2
       have hyB : y ∈ Q 2048 := by rw [e1]; simp
       obtain ⟨o1, o2⟩ := h.ch 2048 A' y C' e1
       have hyf : ¬ y = f := fun e => dis f hfk (e ▸ hyB)
       rw [if_neg hyf]
       refine ⟨o1, ?_⟩
       cases C' with
       | nil => rw [if_pos (by rw [e1, Bh]), e2, List.nil_append, hF]; rfl
       | cons c' C'' =>
         have hl : lastP (Q 2048) ≠ (y : Int) + 1 := fun g => by
          rw [e1, BD _ (by simp), EQ _ (by simp)] at g
          have hm' := BX g
          have := h.nd 2048
          rw [e1] at this
          exact (List.nodup_cons.1 (List.nodup_append.1 this).2.1).1 hm'
         rw [if_neg hl, o2, e2]; rfl
   ·rw [if_neg hm'] at hy
    have hyQ : y ∈ Q m := by rw [hy]; simp
    rw [if_neg (c := y = f) (fun e => hm (h.dj m k y hyQ (e ▸ hfk))), if_neg (c := lastP (Q 2048) = (y : Int) + 1) (fun g => hm' (h.dj m 2048 y hyQ (BX g)))]
    exact h.ch m A' y B' hy
end
end Go.Proofs.Ytfhheeoejncfgaa.Ew

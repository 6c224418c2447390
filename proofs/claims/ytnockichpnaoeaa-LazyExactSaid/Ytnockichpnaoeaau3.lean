/- Texts that the claim needs, set narrow. -/
import Derived.Test.Ytnockichpnaoeaau2
import Derived.ProofKit
import Derived.OpenShut
import Derived.Deep.Slices
import Derived.Below
import Derived.DataShut
import Derived.ChangeSame
set_option linter.unusedVariables false
set_option linter.unusedSimpArgs false
set_option maxHeartbeats 8000000
namespace Go.Proofs.Ytnockichpnaoeaa.Ew
open Go Go.RowKit
inductive W where
 | val (v : SV)
 | dx (g : E) (x : X)
 | call (g : E) (f : Nat) (args : List SV)
 deriving Repr, Inhabited
def Ki (P : Program) (cs : List E) (en : Env) (o : Oper) : Option W :=
 match pick? o.op with
 | some (c, a, b) => (MM cs en c a b).map .val
 | none => match RX P (getC cs en) o with
   | some (g, .old (.call f args)) => some (.call g f args)
   | some (g, x) => some (.dx g x)
   | none => none
def D8 : List SV -> E
 | [] => mkB true
 | v :: r => mkAnd (BB v).1 (D8 r)
def GR (fo : Bool) (args : List SV) : List SV := bif fo then args.map fun v => (BB v).2 else args
def MQ (T : Tab) (m : Mem) (nm f : Nat) (args : List SV) (k : Nat) (fo : Bool) : Option (E × SV × Mem) :=
 match (T f)[k % 1000]? with
 | some e => (Pe (decide (1000 <= k)) e m nm (GR fo args)).map fun r => (mkAnd (bif fo then D8 args else mkB true) r.1, r.2.1, r.2.2)
 | none => none
def fpK (T : Tab) (m : Mem) (nm f : Nat) (args : List SV) (k : Nat) (fo : Bool) : FP :=
 match (T f)[k % 1000]? with
 | some e => fpCX (decide (1000 <= k)) e m nm (GR fo args)
 | none => ([], [])
def VP (T : Tab) (m : Mem) (nm f : Nat) (args : List SV) : Option (Nat × Bool) :=
 (((List.range (T f).length).map fun k => (k, false)) ++ ((List.range (T f).length).map fun k => (k + 1000, false)) ++ ((List.range (T f).length).map fun k => (k, true)) ++ ((List.range (T f).length).map fun k => (k + 1000, true))).find? fun c => (MQ T m nm f args c.1 c.2).isSome
abbrev Ch := Option (Nat × Bool)
def runW (P : Program) (G : Glob) (T : Tab) (m : Mem) (nm : Nat) (ch : Ch) : W -> Option (E × SV × Mem)
 | .val v => some (mkB true, v, m)
 | .dx g x => (applyX P G m nm x).bind fun r => if r.1.kind = .b then some (mkAnd g r.1, r.2.1, r.2.2) else none
 | .call g f args => match ch with
   | some (k, fo) => (MQ T m nm f args k fo).map fun r => (mkAnd g r.1, r.2.1, r.2.2)
   | none => none
def fpW (T : Tab) (m : Mem) (nm : Nat) (ch : Ch) : W -> FP
 | .val _ => ([], [])
 | .dx _ x => fpX nm x
 | .call _ f args => match ch with
   | some (k, fo) => fpK T m nm f args k fo
   | none => ([], [])
section
variable {P : Program} {ρ : Nat -> Int} {G : Glob} {T : Tab} {l : Tabs} {w0 w : World} {M0 Im0 : Nat -> Prop} {ad : Nat -> Hd} {m m2 m' : Mem} {tm : Tm} {en : Env} {a : Act}
theorem H8 {F : Fam} : ∀ (args : List SV), (D8 args).kind = .b /\ ((D8 args).tt F ρ = true -> SV.concL F ρ ad (args.map fun v => (BB v).2) = SV.concL F ρ ad args)
 | [] => ⟨rfl, fun _ => rfl⟩
 | v :: r => by
   obtain ⟨i1, i2⟩ := H8 (F := F) r
   have h := Ab (BB v).1 (D8 r) (BO v) i1 F ρ
   refine ⟨h.2, fun ht => ?_⟩
   simp only [D8] at ht
   rw [h.1, Bool.and_eq_true] at ht
   simp only [List.map_cons, SV.concL, i2 ht.2]
   rw [(B1 (F := F) (ρ := ρ) (ad := ad) (p := fun _ => True) v).1 ht.1]
theorem Jq {F : Fam} {fo : Bool} {args : List SV} (h : (bif fo then D8 args else mkB true).tt F ρ = true) : SV.concL F ρ ad (GR fo args) = SV.concL F ρ ad args := by
 cases fo
 ·rfl
 ·exact (H8 args).2 h
theorem L8 {nm : Nat} {ch : Ch} {W : W} {g : E} {v : SV} (h : runW P G T m nm ch W = some (g, v, m')) :
 Loc (fun m => runW P G T m nm ch W) m (fpW T m nm ch W) g v m' /\ ∀ m2, Agree ((fpW T m nm ch W).1 ++ (fpW T m nm ch W).2) m m2 -> fpW T m2 nm ch W = fpW T m nm ch W := by
 have wrap : ∀ {f : Mem -> Option (E × SV × Mem)} {q : E -> E} {g0 : E} {v : SV} {m' : Mem} {fp : FP}, Loc f m fp g0 v m' -> Loc (fun m => (f m).map fun r => (q r.1, r.2.1, r.2.2)) m fp (q g0) v m' := fun {f q g0 v m' fp} hL =>
  ⟨hL.len, hL.frame, fun m2 hl ha => by
   obtain ⟨m2', r1, r2, r3, r4⟩ := hL.loc m2 hl ha
   exact ⟨m2', by simp only [r1, Option.map_some], r2, r3, r4⟩⟩
 cases W with
 | val u =>
   simp only [runW, oJ, pJ] at h
   obtain ⟨rfl, rfl, rfl⟩ := h
   exact ⟨Loc.read fun _ _ _ => rfl, fun _ _ => rfl⟩
 | dx g0 x =>
   simp only [runW] at h
   obtain ⟨⟨g1, v1, m1⟩, h1, h2⟩ := Option.bind_eq_some_iff.1 h
   split at h2
   ·rename_i hk
    simp only [oJ, pJ] at h2
    obtain ⟨rfl, rfl, rfl⟩ := h2
    have hL := Sc h1
    refine ⟨⟨hL.len, hL.frame, fun m2 hl ha => ?_⟩, fun _ _ => rfl⟩
    obtain ⟨m2', r1, r2, r3, r4⟩ := hL.loc m2 hl ha
    refine ⟨m2', ?_, r2, r3, r4⟩
    simp only at hk
    simp only [runW, r1, Option.bind_some, if_pos hk]
   ·cases h2
 | call g0 f args =>
   simp only [runW] at h
   split at h
   ·rename_i k fo
    obtain ⟨⟨g1, v1, m1⟩, h1, h2⟩ := Option.map_eq_some_iff.1 h
    simp only [pJ] at h2
    obtain ⟨rfl, rfl, rfl⟩ := h2
    unfold MQ at h1
    split at h1
    ·rename_i e he
     obtain ⟨⟨g3, v3, m3⟩, h3, h4⟩ := Option.map_eq_some_iff.1 h1
     simp only [pJ] at h4
     obtain ⟨rfl, rfl, rfl⟩ := h4
     obtain ⟨c1, c2⟩ := Um h3
     have hf : ∀ m, fpW T m nm (some (k, fo)) (.call g0 f args) = fpCX (decide (1000 <= k)) e m nm (GR fo args) := fun m => by simp only [fpW, fpK, he]
     rw [hf]
     refine ⟨?_, fun m2 ha => by rw [hf]; exact c2 m2 ha⟩
     have := wrap (q := fun g => mkAnd g0 g) (wrap (q := fun g => mkAnd (bif fo then D8 args else mkB true) g) c1)
     refine ⟨this.len, this.frame, fun m2 hl ha => ?_⟩
     obtain ⟨m2', r1, r2, r3, r4⟩ := this.loc m2 hl ha
     refine ⟨m2', ?_, r2, r3, r4⟩
     simp only [runW, MQ, he]
     exact r1
    ·cases h1
   ·cases h
theorem MR (hS : Dy P G l T) (hG : GOK G Im0 w0) (hT : RelV l.F ρ ad m en a) (hR : Rel l.F ρ w0 M0 Im0 ad m w) {cs : List E} (hc : holds l.F ρ cs = true) {nm : Nat} {ch : Ch} {o : Oper} {W : W} (hp : Ki P cs en o = some W) {g : E} {v : SV}
 (h : runW P G T m nm ch W = some (g, v, m')) : g.kind = .b /\ (g.tt l.F ρ = true -> ∀ (K : Act -> World -> Prop) (Q : Exit -> Act -> World -> Prop),
  (∀ ad' w', Rel l.F ρ w0 M0 Im0 ad' m' w' -> Ext ad ad' m m' -> v.ok (al m') -> K (a.put o.dst (v.conc l.F ρ ad')) w') -> o.wp P a w K Q) := by
 have hB := l.BI
 unfold Ki at hp
 split at hp
 ·rename_i x y z hpk
  obtain ⟨u, h1, rfl⟩ := Option.map_eq_some_iff.1 hp
  simp only [runW, oJ, pJ] at h
  obtain ⟨rfl, rfl, rfl⟩ := h
  refine ⟨rfl, fun _ K Q hK => ?_⟩
  have ho : o.op = .pick x y z := by
   unfold pick? at hpk
   split at hpk
   ·rename_i heq; simp only [oJ, pJ] at hpk; obtain ⟨rfl, rfl, rfl⟩ := hpk; exact heq
   ·cases hpk
  obtain ⟨hrun, i3⟩ := R8 (P := P) (w := w) hT hc h1 ho
  unfold Oper.wp
  rw [hrun]
  exact hK ad w hR (Ext.refl _ _) i3
 ·split at hp
  ·rename_i g0 f args hds
   simp only [oJ] at hp
   subst hp
   obtain ⟨j1, j2⟩ := JV l.BI (P := P) (w := w) (F := l.F) (ρ := ρ) (ad := ad) (p := al m) (ev := a.eval) (fun x s hx => Ca hT hc hx) hds
   simp only [runW] at h
   split at h
   ·rename_i k fo
    obtain ⟨⟨g1, v1, m1⟩, h1, h2⟩ := Option.map_eq_some_iff.1 h
    simp only [pJ] at h2
    obtain ⟨rfl, rfl, rfl⟩ := h2
    unfold MQ at h1
    split at h1
    ·rename_i e he
     obtain ⟨⟨g3, v3, m3⟩, h3, h4⟩ := Option.map_eq_some_iff.1 h1
     simp only [pJ] at h4
     obtain ⟨rfl, rfl, rfl⟩ := h4
     obtain ⟨t1, t2, t3⟩ := hS f e (List.mem_of_getElem? he)
     obtain ⟨c1, c2⟩ := Rb t2 t3 hG hR h3
     have fk : (bif fo then D8 args else mkB true).kind = .b := by
      cases fo
      ·rfl
      ·exact (H8 (F := l.F) (ρ := ρ) (ad := ad) args).1
     have a1 := Ab _ g3 fk c1 l.F ρ
     have a2 := Ab g0 _ j1 a1.2 l.F ρ
     refine ⟨a2.2, fun ht K Q hK => ?_⟩
     rw [a2.1, a1.1, Bool.and_eq_true, Bool.and_eq_true] at ht
     obtain ⟨d1, d2⟩ := j2 ht.1
     have hcall := c2 ht.2.2
     rw [Jq ht.2.1, t1] at hcall
     unfold Oper.wp
     rw [d1]
     simp only [X.run, D.run, Oper.upon]
     refine hcall.mono ?_
     rintro en' w' ⟨ad', rfl, r2, r3, r4⟩
     exact hK ad' w' r2 r3 r4
    ·cases h1
   ·cases h
  ·rename_i g0 x hnc hds
   simp only [oJ] at hp
   subst hp
   obtain ⟨j1, j2⟩ := JV l.BI (P := P) (w := w) (F := l.F) (ρ := ρ) (ad := ad) (p := al m) (ev := a.eval) (fun x s hx => Ca hT hc hx) hds
   simp only [runW] at h
   obtain ⟨⟨g1, v1, m1⟩, h1, h2⟩ := Option.bind_eq_some_iff.1 h
   split at h2
   ·rename_i hk
    simp only [oJ, pJ] at h2
    obtain ⟨rfl, rfl, rfl⟩ := h2
    simp only at hk
    have a2 := Ab g0 g1 j1 hk l.F ρ
    refine ⟨a2.2, fun ht K Q hK => ?_⟩
    rw [a2.1, Bool.and_eq_true] at ht
    obtain ⟨d1, d2⟩ := j2 ht.1
    obtain ⟨e1, e2⟩ := PQ (P := P) hB hG hR d2 h1
    obtain ⟨ad', w', c1, c2, c3, c4⟩ := e2 ht.2
    unfold Oper.wp
    rw [d1]
    rcases c1 with c1 | ⟨c1, cu⟩
    ·rw [c1]; exact hK ad' w' c2 c3 c4
    ·rw [c1]
     have := hK ad' w' c2 c3 c4
     rw [cu] at this
     exact this
   ·cases h2
  ·cases hp
end
def conjE : List E -> E
 | [] => mkB true
 | c :: r => mkAnd c (conjE r)
def bAll (cs : List E) : Bool := cs.all fun c => decide (c.kind = .b)
theorem MS {F : Fam} {ρ : Nat -> Int} : ∀ {cs : List E}, bAll cs = true -> (conjE cs).kind = .b /\ (conjE cs).tt F ρ = holds F ρ cs
 | [], _ => ⟨rfl, by simp [conjE, holds]⟩
 | c :: r, h => by
   simp only [bAll, List.all_cons, Bool.and_eq_true, decide_eq_true_eq] at h
   obtain ⟨i1, i2⟩ := MS (F := F) (ρ := ρ) (cs := r) h.2
   have := Ab c (conjE r) h.1 i1 F ρ
   exact ⟨this.2, by simp only [conjE, this.1, i2, holds, List.all_cons]⟩
inductive PL where
 | put (v : SV)
 | run (cs : Option (List E)) (w : W)
 deriving Repr, Inhabited
def GS (P : Program) (ops : Array Oper) (o : Oper) (en : Env) : Option PL :=
 match PW ops en o with
 | some .no => some (.put .und)
 | some .yes => (Ki P [] en o).map (.run none)
 | some (.cond cs) => (Ki P cs en o).map (.run (some cs))
 | none => none
def mergeOn (c : E) (m' : Mem) (W : List Nat) (m : Mem) : Mem := zipR (fun n x y => bif W.contains n then AP c x y else y) 0 m' m
theorem H9 (c : E) (m' : Mem) (W : List Nat) (m : Mem) : (mergeOn c m' W m).length = m.length := Jk _ _ _
theorem FA (c : E) (m' : Mem) (W : List Nat) (m : Mem) (hl : m'.length = m.length) (n : Nat) : (mergeOn c m' W m).at n = if n ∈ W then AP c (m'.at n) (m.at n) else m.at n := by
 by_cases hn : n < m.length
 ·unfold mergeOn
  rw [K8 _ _ _ _ hn, Nat.zero_add]
  by_cases hw : n ∈ W <;> simp [hw]
 ·have e1 : m'.at n = none := by simp [Mem.at, List.getD, List.getElem?_eq_none (show m'.length <= n by omega)]
  have e2 : m.at n = none := by simp [Mem.at, List.getD, List.getElem?_eq_none (show m.length <= n by omega)]
  have e3 : (mergeOn c m' W m).at n = none := by simp [Mem.at, List.getD, List.getElem?_eq_none (show (mergeOn c m' W m).length <= n by rw [H9]; omega)]
  rw [e1, e2, e3]
  simp [AP]
def refsW (m' : Mem) (v : SV) (W : List Nat) : List Nat := allN v ++ W.flatMap fun n => match m'.at n with
 | some (_, b) => allNL b.cs
 | _ => []
def ET (P : Program) (G : Glob) (T : Tab) (m : Mem) (nm : Nat) (ch : Ch) : PL -> Option (E × SV × Mem)
 | .put v => some (mkB true, v, m)
 | .run none w => runW P G T m nm ch w
 | .run (some cs) w => match runW P G T m nm ch w with
   | some (g, v, m') => if bAll cs = true /\ g.kind = .b /\ ((refsW m' v (fpW T m nm ch w).2).all fun n => (m'.at n).isSome) = true then
    some (mkOr (Am (conjE cs)) g, .gd cs v, mergeOn (conjE cs) m' (fpW T m nm ch w).2 m) else none
   | none => none
def fpPL (P : Program) (G : Glob) (T : Tab) (m : Mem) (nm : Nat) (ch : Ch) : PL -> FP
 | .put _ => ([], [])
 | .run none w => fpW T m nm ch w
 | .run (some _) w => match runW P G T m nm ch w with
   | some (_, v, m') => ((fpW T m nm ch w).1 ++ refsW m' v (fpW T m nm ch w).2, (fpW T m nm ch w).2)
   | none => ([], [])
section
variable {P : Program} {ρ : Nat -> Int} {G : Glob} {T : Tab} {l : Tabs} {w0 w : World} {M0 Im0 : Nat -> Prop} {ad : Nat -> Hd} {m m2 m' : Mem} {tm : Tm} {en : Env} {a : Act}
theorem Rc {m' m2' : Mem} (v : SV) {W : List Nat} (h : ∀ n ∈ W, m2'.at n = m'.at n) : refsW m2' v W = refsW m' v W := by
 unfold refsW
 congr 1
 have : ∀ (W : List Nat), (∀ n ∈ W, m2'.at n = m'.at n) -> (W.flatMap fun n => match m2'.at n with | some (_, b) => allNL b.cs | _ => []) = W.flatMap fun n => match m'.at n with | some (_, b) => allNL b.cs | _ => [] := by
  intro W
  induction W with
  | nil => intro _; rfl
  | cons n W ih =>
    intro h
    rw [List.flatMap_cons, List.flatMap_cons, ih fun k hk => h k (List.mem_cons_of_mem _ hk), h n (List.mem_cons_self ..)]
 exact this W h
theorem OS {nm : Nat} {ch : Ch} {pl : PL} {g : E} {v : SV} (h : ET P G T m nm ch pl = some (g, v, m')) :
 Loc (fun m => ET P G T m nm ch pl) m (fpPL P G T m nm ch pl) g v m' /\ ∀ m2, m2.length = m.length -> Agree ((fpPL P G T m nm ch pl).1 ++ (fpPL P G T m nm ch pl).2) m m2 -> fpPL P G T m2 nm ch pl = fpPL P G T m nm ch pl := by
 cases pl with
 | put u =>
   simp only [ET, oJ, pJ] at h
   obtain ⟨rfl, rfl, rfl⟩ := h
   exact ⟨Loc.read fun _ _ _ => rfl, fun _ _ _ => rfl⟩
 | run cs w =>
   cases cs with
   | none =>
     obtain ⟨h1, h2⟩ := L8 h
     exact ⟨h1, fun m2 _ ha => h2 m2 ha⟩
   | some cs =>
     simp only [ET] at h
     split at h
     ·rename_i g1 v1 m1 hr
      split at h
      ·rename_i hc
       simp only [oJ, pJ] at h
       obtain ⟨rfl, rfl, rfl⟩ := h
       obtain ⟨hL, hF⟩ := L8 hr
       have hfp : fpPL P G T m nm ch (.run (some cs) w) = ((fpW T m nm ch w).1 ++ refsW m1 v1 (fpW T m nm ch w).2, (fpW T m nm ch w).2) := by simp only [fpPL, hr]
       rw [hfp]
       have step : ∀ m2, m2.length = m.length -> Agree (((fpW T m nm ch w).1 ++ refsW m1 v1 (fpW T m nm ch w).2) ++ (fpW T m nm ch w).2) m m2 -> fpW T m2 nm ch w = fpW T m nm ch w /\ ∃ m2', runW P G T m2 nm ch w = some (g1, v1, m2') /\ m2'.length = m2.length /\ (∀ n ∈ (fpW T m nm ch w).2, m2'.at n = m1.at n) /\ (∀ n, n ∉ (fpW T m nm ch w).2 -> m2'.at n = m2.at n) /\ refsW m2' v1 (fpW T m nm ch w).2 = refsW m1 v1 (fpW T m nm ch w).2 := fun m2 hl ha => by
        have ha' : Agree ((fpW T m nm ch w).1 ++ (fpW T m nm ch w).2) m m2 := fun n hn => by
         rcases List.mem_append.1 hn with hn | hn
         ·exact ha n (by simp [hn])
         ·exact ha n (by simp [hn])
        obtain ⟨m2', r1, r2, r3, r4⟩ := hL.loc m2 hl ha'
        exact ⟨hF m2 ha', m2', r1, r2, r3, r4, Rc v1 r3⟩
       refine ⟨⟨H9 _ _ _ _, fun n hn => by rw [FA _ _ _ _ hL.len, if_neg hn], fun m2 hl ha => ?_⟩, fun m2 hl ha => ?_⟩
       ·obtain ⟨f1, m2', r1, r2, r3, r4, r5⟩ := step m2 hl ha
        refine ⟨mergeOn (conjE cs) m2' (fpW T m nm ch w).2 m2, ?_, H9 _ _ _ _, fun n hn => ?_, fun n hn => by rw [FA _ _ _ _ r2, if_neg hn]⟩
        ·simp only [ET, r1, f1]
         rw [r5, if_pos]
         refine ⟨hc.1, hc.2.1, ?_⟩
         rw [List.all_eq_true]
         intro k hk
         have h0 := List.all_eq_true.1 hc.2.2 k hk
         by_cases hw : k ∈ (fpW T m nm ch w).2
         ·rw [r3 k hw]; exact h0
         ·rw [r4 k hw, ha k (by simp [hk]), <- hL.frame k hw]; exact h0
        ·rw [FA _ _ _ _ r2, FA _ _ _ _ hL.len, if_pos hn, if_pos hn, r3 n hn, ha n (by simp [hn])]
       ·obtain ⟨f1, m2', r1, r2, r3, r4, r5⟩ := step m2 hl ha
        simp only [fpPL, r1, f1, r5]
      ·cases h
     ·cases h
theorem Ia (hS : Dy P G l T) (hG : GOK G Im0 w0) {s : St} (hR : RelS l.F ρ w0 M0 Im0 ad s a w) (hE : RelV l.F ρ ad s.2 en a) {ops : Array Oper} {nm : Nat} {ch : Ch} {o : Oper} {pl : PL} (hp : GS P ops o en = some pl) {g : E} {v : SV}
 (h : ET P G T s.2 nm ch pl = some (g, v, m')) : g.kind = .b /\ (g.tt l.F ρ = true -> ∀ (K : Act -> World -> Prop) (Q : Exit -> Act -> World -> Prop),
  (∀ ad' a' w', RelS l.F ρ w0 M0 Im0 ad' (setT s.1 o.dst v, m') a' w' -> Ext ad ad' s.2 m' -> K a' w') ->
  if Region.wanted o (yielded ops a.tmps) = true then o.wp P a w K Q else K (a.put o.dst undef) w) := by
 obtain ⟨hT, hM⟩ := hR
 unfold GS at hp
 split at hp
 ·rename_i hg
  simp only [oJ] at hp
  subst hp
  simp only [ET, oJ, pJ] at h
  obtain ⟨rfl, rfl, rfl⟩ := h
  refine ⟨rfl, fun _ K Q hK => ?_⟩
  rw [Gg hE hg]
  simp only [Gd.tt, Bool.false_eq_true, if_false]
  exact hK ad _ w ⟨hT.put o.dst (v := .und) trivial, hM⟩ (Ext.refl _ _)
 ·rename_i hg
  obtain ⟨W, hW, rfl⟩ := Option.map_eq_some_iff.1 hp
  simp only [ET] at h
  obtain ⟨r1, r2⟩ := MR hS hG hE hM (cs := []) rfl hW h
  refine ⟨r1, fun ht K Q hK => ?_⟩
  rw [Gg hE hg]
  simp only [Gd.tt, if_true]
  exact r2 ht K Q fun ad' w' hr x hv => hK ad' _ w' ⟨(hT.ext x).put o.dst hv, hr⟩ x
 ·rename_i cs hg
  obtain ⟨W, hW, rfl⟩ := Option.map_eq_some_iff.1 hp
  have hwant := Gg hE hg
  simp only [ET] at h
  split at h
  ·rename_i g1 v1 m1 hr
   split at h
   ·rename_i hc
    simp only [oJ, pJ] at h
    obtain ⟨rfl, rfl, rfl⟩ := h
    obtain ⟨hb, hgk, hrefs⟩ := hc
    obtain ⟨c1, c2⟩ := MS (F := l.F) (ρ := ρ) hb
    have hor := Dt (Am (conjE cs)) g1 (Ag _ l.F ρ).2 hgk l.F ρ
    obtain ⟨hL, _⟩ := L8 hr
    have hPM : PM (conjE cs) m1 s.2 (mergeOn (conjE cs) m1 (fpW T s.2 nm ch W).2 s.2) := fun n => by
     rw [FA _ _ _ _ hL.len]
     by_cases hn : n ∈ (fpW T s.2 nm ch W).2
     ·rw [if_pos hn]; exact Or.inr rfl
     ·rw [if_neg hn]; exact Or.inl ⟨(hL.frame n hn).symm, rfl⟩
    have hal : ∀ k, al s.2 k \/ al m1 k -> al (mergeOn (conjE cs) m1 (fpW T s.2 nm ch W).2 s.2) k := fun k hk => by rw [hPM.al]; exact hk.symm
    have hal1 : ∀ k ∈ refsW m1 v1 (fpW T s.2 nm ch W).2, al m1 k := fun k hk => List.all_eq_true.1 hrefs k hk
    have hvok : v1.ok (al m1) := G5 v1 fun n hn => hal1 n (by simp [refsW, hn])
    have hok1 : ∀ n g x, m1.at n = some (g, x) -> SV.okL (al m1) x.cs \/ s.2.at n = some (g, x) := fun n g x hn => by
     by_cases hw : n ∈ (fpW T s.2 nm ch W).2
     ·left
      refine L7 x.cs fun k hk => hal1 k ?_
      unfold refsW
      exact List.mem_append_right _ (List.mem_flatMap.2 ⟨n, hw, by rw [hn]; exact hk⟩)
     ·right; rw [<- hL.frame n hw]; exact hn
    have keep1 : ∀ k, al s.2 k -> k ∉ (fpW T s.2 nm ch W).2 -> al m1 k := fun k hk hw => by unfold al at hk ⊢; rw [hL.frame k hw]; exact hk
    refine ⟨hor.2, fun ht K Q hK => ?_⟩
    rw [hor.1, Bool.or_eq_true, (Ag (conjE cs) l.F ρ).1, c2] at ht
    rcases Bool.eq_false_or_eq_true (holds l.F ρ cs) with hh | hh
    ·rw [if_pos (by rw [hwant]; exact hh)]
     have hgt : g1.tt l.F ρ = true := by
      rcases ht with ht | ht
      ·rw [hh] at ht; cases ht
      ·exact ht
     refine (MR hS hG hE hM hh hW hr).2 hgt K Q fun ad' w' hr' x hv => ?_
     have x' : Ext ad ad' s.2 (mergeOn (conjE cs) m1 (fpW T s.2 nm ch W).2 s.2) := ⟨x.same, fun k hk => hal k (Or.inl hk)⟩
     have hp' := (hT.ext x').put o.dst (v := .gd cs v1) (by simpa [SV.ok] using SV.ok_mono (fun k hk => hal k (Or.inr hk)) v1 hv)
     simp only [SV.conc] at hp'
     unfold holds at hh
     rw [hh] at hp'
     refine hK ad' _ w' ⟨hp', hPM.rel c1 (t := true) (by rw [c2]; exact hh) hr' fun n g x hn => ?_⟩ x'
     obtain ⟨_, Im, _, _, hI⟩ := hM
     exact hI.ok n g x hn
    ·rw [if_neg (by rw [hwant]; show ¬ holds l.F ρ cs = true; rw [hh]; exact Bool.false_ne_true)]
     have x' : Ext ad ad s.2 (mergeOn (conjE cs) m1 (fpW T s.2 nm ch W).2 s.2) := ⟨fun _ _ => rfl, fun k hk => hal k (Or.inl hk)⟩
     have hp' := (hT.ext x').put o.dst (v := .gd cs v1) (by simpa [SV.ok] using SV.ok_mono (fun k hk => hal k (Or.inr hk)) v1 hvok)
     have hh' := hh
     simp only [SV.conc] at hp'
     unfold holds at hh
     rw [hh] at hp'
     obtain ⟨_, Im, _, _, hI⟩ := id hM
     refine hK ad _ w ⟨hp', ?_⟩ x'
     refine (PM.rel' c1 hPM (by rw [c2]; exact hh') hM fun n g x hn => ?_)
     rcases hok1 n g x hn with h | h
     ·exact SV.okL_mono (fun k hk => hal k (Or.inr hk)) _ h
     ·exact SV.okL_mono (fun k hk => hal k (Or.inl hk)) _ (hI.ok n g x h)
   ·cases h
  ·cases h
 ·cases hp
end
def Ey (ops : Array Oper) (o : Oper) (tm : Tm) : Env := fun t => bif (o.looksAt ops).contains t then tm.at t else none
def Jr (P : Program) (ops : Array Oper) (i : Nat) (tm : Tm) : Option (PL × Option Nat) :=
 match ops[i]? with
 | some o => (GS P ops o (Ey ops o tm)).map fun p => (p, o.dst)
 | none => none
structure Rec where
 fp : FP
 ob : E
 ch : Ch
def WD : Nat := 8
def P3 (a b : FP) : Bool := (a.2.all fun n => !b.1.contains n && !b.2.contains n) && b.2.all fun n => !a.1.contains n && !a.2.contains n
def stI (P : Program) (G : Glob) (T : Tab) (ops : Array Oper) (base : Nat) (rs : List Rec) (i : Nat) (s : St) : Option St :=
 match Jr P ops i s.1, rs[i]? with
 | some (p, dst), some r => if fpPL P G T s.2 (base + WD * i) r.ch p = r.fp then
  match ET P G T s.2 (base + WD * i) r.ch p with
  | some (g, v, m') => if g.same r.ob = true then some (setT s.1 dst v, m') else none
  | none => none
   else none
 | _, _ => none
def GT (P : Program) (G : Glob) (T : Tab) (ops : Array Oper) (base : Nat) (rs : List Rec) : List Nat -> St -> Option St
 | [], s => some s
 | i :: r, s => match stI P G T ops base rs i s with
   | some s' => GT P G T ops base rs r s'
   | none => none
def Un (ops : Array Oper) (x y : Oper) : Bool :=
 (match x.dst with
  | some d => !(y.looksAt ops).contains d && decide (y.dst ≠ some d)
  | none => true) &&
 (match y.dst with
  | some d => !(x.looksAt ops).contains d
  | none => true)
def indep (ops : Array Oper) (rs : List Rec) (j i : Nat) : Bool :=
 match ops[j]?, ops[i]?, rs[j]?, rs[i]? with
 | some oj, some oi, some fj, some fi => P3 fj.fp fi.fp && Un ops oj oi
 | _, _, _, _ => false
section
variable {P : Program} {ρ : Nat -> Int} {G : Glob} {T : Tab} {l : Tabs} {w0 w : World} {M0 Im0 : Nat -> Prop} {ad : Nat -> Hd} {m m2 m' : Mem} {tm : Tm} {en : Env} {a : Act}
theorem OT {ops : Array Oper} {o : Oper} {tm : Tm} {d : Option Nat} {v : SV} (h : ∀ k, d = some k -> (o.looksAt ops).contains k = false) : Ey ops o (setT tm d v) = Ey ops o tm := by
 funext t
 unfold Ey
 cases ht : (o.looksAt ops).contains t
 ·rfl
 ·simp only [cond_true]
  cases d with
  | none => rfl
  | some k =>
    have : k ≠ t := by rintro rfl; rw [h k rfl] at ht; cases ht
    simp [setT, Tm.at, List.getD, List.getElem?_set, this]
theorem Uo {tm : Tm} {d d' : Option Nat} {v v' : SV} (h : d = none \/ d' = none \/ d ≠ d') : setT (setT tm d v) d' v' = setT (setT tm d' v') d v := by
 cases d <;> cases d' <;> simp only [setT]
 rename_i x y
 exact List.set_comm _ _ (by rcases h with h | h | h; cases h; cases h; exact fun e => h (by rw [e]))
theorem Mem.ext' (hl : m.length = m2.length) (h : ∀ n, m.at n = m2.at n) : m = m2 := by
 apply List.ext_getElem hl
 intro n h1 h2
 have := h n
 simpa [Mem.at, List.getD, h1, h2] using this
theorem Rd {a b : FP} (h : P3 a b = true) : (∀ n ∈ a.2, n ∉ b.1 /\ n ∉ b.2) /\ ∀ n ∈ b.2, n ∉ a.1 /\ n ∉ a.2 := by
 unfold P3 at h
 simp only [Bool.and_eq_true, List.all_eq_true, Bool.not_eq_true', List.contains_eq_mem, decide_eq_false_iff_not] at h
 exact h
theorem swap {ops : Array Oper} {base : Nat} {rs : List Rec} {j i : Nat} (hi : indep ops rs j i = true) {s s1 s2 : St}
 (h1 : stI P G T ops base rs j s = some s1) (h2 : stI P G T ops base rs i s1 = some s2) : ∃ s1', stI P G T ops base rs i s = some s1' /\ stI P G T ops base rs j s1' = some s2 := by
 unfold indep at hi
 split at hi
 ·rename_i oj oi rj ri hoj hoi hrj hri
  simp only [Bool.and_eq_true, Un] at hi
  obtain ⟨hdis, hx, hy⟩ := hi
  obtain ⟨dj, di⟩ := Rd hdis
  have hdd : oj.dst = none \/ oi.dst = none \/ oj.dst ≠ oi.dst := by
   cases hd : oj.dst with
   | none => exact Or.inl rfl
   | some d =>
     right; right
     rw [hd] at hx
     simp only [Bool.and_eq_true, decide_eq_true_eq] at hx
     exact fun e => hx.2 e.symm
  have e1 : ∀ (tm : Tm) (v : SV), Ey ops oi (setT tm oj.dst v) = Ey ops oi tm := fun tm v => OT fun k hk => by
   rw [hk] at hx
   simp only [Bool.and_eq_true, Bool.not_eq_true'] at hx
   exact hx.1
  have e2 : ∀ (tm : Tm) (v : SV), Ey ops oj (setT tm oi.dst v) = Ey ops oj tm := fun tm v => OT fun k hk => by
   rw [hk] at hy
   simp only [Bool.not_eq_true'] at hy
   exact hy
  unfold stI Jr at h1
  simp only [hoj, hrj] at h1
  cases hpj : GS P ops oj (Ey ops oj s.1) with
  | none => rw [hpj] at h1; cases h1
  | some p =>
    simp only [hpj, Option.map_some] at h1
    split at h1
    ·rename_i hcj
     split at h1
     ·rename_i gj vj mj hj
      split at h1
      ·rename_i hgj
       simp only [oJ] at h1; subst h1
       unfold stI Jr at h2
       simp only [hoi, hri, e1] at h2
       cases hpi : GS P ops oi (Ey ops oi s.1) with
       | none => rw [hpi] at h2; cases h2
       | some p' =>
         simp only [hpi, Option.map_some] at h2
         split at h2
         ·rename_i hci
          split at h2
          ·rename_i gi vi mi hii
           split at h2
           ·rename_i hgi
            simp only [oJ] at h2; subst h2
            obtain ⟨Lj, Fj⟩ := OS hj
            obtain ⟨Li, Fi⟩ := OS hii
            rw [hcj] at Lj Fj
            rw [hci] at Li Fi
            have ai : Agree (ri.fp.1 ++ ri.fp.2) mj s.2 := fun n hn => by
             refine (Lj.frame n fun hw => ?_).symm
             obtain ⟨d1, d2⟩ := dj n hw
             rcases List.mem_append.1 hn with hn | hn
             ·exact d1 hn
             ·exact d2 hn
            obtain ⟨m1, q1, q2, q3, q4⟩ := Li.loc s.2 Lj.len.symm ai
            have aj : Agree (rj.fp.1 ++ rj.fp.2) s.2 m1 := fun n hn => by
             refine q4 n fun hw => ?_
             obtain ⟨d1, d2⟩ := di n hw
             rcases List.mem_append.1 hn with hn | hn
             ·exact d1 hn
             ·exact d2 hn
            obtain ⟨m2, t1, t2, t3, t4⟩ := Lj.loc m1 q2 aj
            have hmm : m2 = mi := by
             refine Mem.ext' (by rw [t2, q2, Li.len, Lj.len]) fun n => ?_
             by_cases hw : n ∈ rj.fp.2
             ·rw [t3 n hw, Li.frame n (dj n hw).2]
             ·rw [t4 n hw]
              by_cases hv : n ∈ ri.fp.2
              ·exact q3 n hv
              ·rw [q4 n hv, Li.frame n hv, Lj.frame n hw]
            subst hmm
            refine ⟨(setT s.1 oi.dst vi, m1), ?_, ?_⟩
            ·unfold stI Jr
             simp only [hoi, hri, hpi, Option.map_some]
             rw [if_pos ((Fi s.2 Lj.len.symm ai).trans rfl)]
             simp only [q1, if_pos hgi]
            ·unfold stI Jr
             simp only [hoj, hrj, e2, hpj, Option.map_some]
             rw [if_pos ((Fj m1 q2 aj).trans rfl)]
             simp only [t1, if_pos hgj]
             rw [Uo hdd]
           ·cases h2
          ·cases h2
         ·cases h2
      ·cases h1
     ·cases h1
    ·cases h1
 ·cases hi
theorem RA {ops : Array Oper} {base : Nat} {rs : List Rec} {i : Nat} {post : List Nat} : ∀ (pre : List Nat) {s s' : St}, (∀ j ∈ pre, indep ops rs j i = true) ->
 GT P G T ops base rs (pre ++ i :: post) s = some s' -> ∃ s1, stI P G T ops base rs i s = some s1 /\ GT P G T ops base rs (pre ++ post) s1 = some s'
 | [], s, s', _, h => by
   simp only [List.nil_append, GT] at h
   split at h
   ·rename_i s1 h1; exact ⟨s1, h1, h⟩
   ·cases h
 | j :: pre, s, s', hp, h => by
   simp only [List.cons_append, GT] at h
   split at h
   ·rename_i s1 h1
    obtain ⟨s2, i1, i2⟩ := RA pre (fun k hk => hp k (by simp [hk])) h
    obtain ⟨s1', c1, c2⟩ := swap (hp j (by simp)) h1 i1
    refine ⟨s1', c1, ?_⟩
    simp only [List.cons_append, GT, c2]
    exact i2
   ·cases h
def Kj (o : Oper) (l : List Nat) : Nat := o.after.toList.foldl (fun s e => bif Region.binds .any e then s ||| (2 ^ e.on ||| l.getD e.on 0) else s) 0
def K9 (ops : List Oper) : List Nat -> List Nat := fun acc => match ops with
 | [] => acc
 | o :: r => K9 r (acc ++ [Kj o acc])
inductive Anc (ops : Array Oper) : Nat -> Nat -> Prop
 | one {i j : Nat} {o : Oper} {e : Edge} : ops[i]? = some o -> e ∈ o.after -> Region.binds .any e = true -> e.on = j -> Anc ops i j
 | more {i j : Nat} {o : Oper} {e : Edge} : ops[i]? = some o -> e ∈ o.after -> Region.binds .any e = true -> Anc ops e.on j -> Anc ops i j
theorem MT {l : List Nat} {j : Nat} : ∀ (es : List Edge) (s : Nat), (es.foldl (fun s e => bif Region.binds .any e then s ||| (2 ^ e.on ||| l.getD e.on 0) else s) s).testBit j = true ->
 s.testBit j = true \/ ∃ e ∈ es, Region.binds .any e = true /\ (e.on = j \/ (l.getD e.on 0).testBit j = true)
 | [], s, h => Or.inl h
 | e :: es, s, h => by
   simp only [List.foldl_cons] at h
   rcases MT es _ h with h1 | ⟨e', h1, h2, h3⟩
   ·cases hb : Region.binds .any e
    ·rw [hb] at h1; exact Or.inl h1
    ·rw [hb] at h1
     simp only [cond_true, Nat.testBit_or, Bool.or_eq_true, Nat.testBit_two_pow, decide_eq_true_eq] at h1
     rcases h1 with h1 | h1 | h1
     ·exact Or.inl h1
     ·exact Or.inr ⟨e, by simp, hb, Or.inl h1⟩
     ·exact Or.inr ⟨e, by simp, hb, Or.inr h1⟩
   ·exact Or.inr ⟨e', by simp [h1], h2, h3⟩
theorem MU (ops : Array Oper) : ∀ (r : List Oper) (acc : List Nat), (∀ k, r[k]? = ops[acc.length + k]?) -> (∀ i j, (acc.getD i 0).testBit j = true -> Anc ops i j) ->
 ∀ i j, ((K9 r acc).getD i 0).testBit j = true -> Anc ops i j
 | [], acc, _, h => h
 | o :: r, acc, hr, h => by
   unfold K9
   have h0 : ops[acc.length]? = some o := by simpa using (hr 0).symm
   refine MU ops r _ (fun k => by have := hr (k + 1); simpa [Nat.add_assoc, Nat.add_comm 1 k] using this) ?_
   intro i j hij
   by_cases hi : i < acc.length
   ·rw [show (acc ++ [Kj o acc]).getD i 0 = acc.getD i 0 by simp [List.getD, List.getElem?_append_left hi]] at hij
    exact h i j hij
   ·by_cases hi' : i = acc.length
    ·subst hi'
     rw [show (acc ++ [Kj o acc]).getD acc.length 0 = Kj o acc by simp [List.getD]] at hij
     rcases MT _ _ hij with h1 | ⟨e, h1, h2, h3⟩
     ·simp at h1
     ·rcases h3 with h3 | h3
      ·exact .one h0 (by simpa using h1) h2 h3
      ·exact .more h0 (by simpa using h1) h2 (h e.on j h3)
    ·rw [show (acc ++ [Kj o acc]).getD i 0 = 0 by rw [List.getD, List.getElem?_eq_none (by simp; omega)]; rfl] at hij
     simp at hij
def Uq (ops : Array Oper) (listed : Array Bool) : Prop := ∀ k o, listed.getD k false = true -> ops[k]? = some o -> ∀ e ∈ o.after, Region.binds .any e = true -> listed.getD e.on false = true
theorem Anc.listed {ops : Array Oper} {listed : Array Bool} (hc : Uq ops listed) {i j : Nat} (h : Anc ops i j) : (∀ o, ops[i]? = some o -> ∀ e ∈ o.after, Region.binds .any e = true -> listed.getD e.on false = true) -> listed.getD j false = true := by
 induction h with
 | one h1 h2 h3 h4 => intro hx; subst h4; exact hx _ h1 _ h2 h3
 | more h1 h2 h3 _ ih => intro hx; exact ih fun o ho e he hb => hc _ o (hx _ h1 _ h2 h3) ho e he hb
def La (ops : List Oper) (i : Nat) : Bool := match ops with
 | [] => true
 | o :: r => (o.after.toList.all fun e => !Region.binds .any e || decide (e.on < i)) && La r (i + 1)
theorem MV {ops : Array Oper} : ∀ (r : List Oper) (i : Nat), (∀ k, r[k]? = ops[i + k]?) -> La r i = true -> ∀ k o, i <= k -> ops[k]? = some o -> ∀ e ∈ o.after, Region.binds .any e = true -> e.on < k
 | [], i, hr, _, k, o, hk, ho, _, _, _ => by
   have := hr (k - i)
   rw [show i + (k - i) = k by omega, ho] at this
   simp at this
 | x :: r, i, hr, hb, k, o, hk, ho, e, he, hbe => by
   simp only [La, Bool.and_eq_true] at hb
   by_cases hki : k = i
   ·subst hki
    have hx : o = x := by have := hr 0; simp only [List.getElem?_cons_zero, Nat.add_zero] at this; rw [ho] at this; exact (Option.some.inj this).symm
    subst hx
    have := List.all_eq_true.1 hb.1 e (by simpa using he)
    rw [hbe] at this
    simpa using this
   ·exact MV r (i + 1) (fun k => by have := hr (k + 1); simpa [Nat.add_assoc, Nat.add_comm 1 k] using this) hb.2 k o (by omega) ho e he hbe
def MW (ops : Array Oper) (rs : List Rec) (ms : List Nat) : Bool :=
 (List.range ops.size).all fun i => (List.range i).all fun j => (ms.getD i 0).testBit j || indep ops rs j i
def recsRun (P : Program) (G : Glob) (T : Tab) (ops : Array Oper) (base : Nat) : List Nat -> St -> Option (List Rec)
 | [], _ => some []
 | i :: r, s => match Jr P ops i s.1 with
   | some (p, dst) =>
     let ch : Ch := match p with
      | .run _ (.call _ f args) => VP T s.2 (base + WD * i) f args
      | _ => none
     match ET P G T s.2 (base + WD * i) ch p with
     | some (g, v, m') => match recsRun P G T ops base r (setT s.1 dst v, m') with
       | some l => some (⟨fpPL P G T s.2 (base + WD * i) ch p, g, ch⟩ :: l)
       | none => none
     | none => none
   | none => none
def obsE : List Rec -> E
 | [] => mkB true
 | r :: l => mkAnd r.ob (obsE l)
def P4 (P : Program) (G : Glob) (T : Tab) (ops : Array Oper) (s : St) : Option (E × St) :=
 let s0 : St := (s.1, s.2 ++ List.replicate (WD * ops.size) none)
 match recsRun P G T ops s.2.length (List.range ops.size) s0 with
 | some rs => bif La ops.toList 0 && MW ops rs (K9 ops.toList []) && rs.all fun r => decide (r.ob.kind = .b) then
  (GT P G T ops s.2.length rs (List.range ops.size) s0).map fun s' => (obsE rs, s')
   else none
 | none => none
theorem OU {F : Fam} : ∀ {rs : List Rec}, (rs.all fun r => decide (r.ob.kind = .b)) = true -> (obsE rs).kind = .b /\ ((obsE rs).tt F ρ = true -> ∀ r ∈ rs, r.ob.tt F ρ = true)
 | [], _ => ⟨rfl, fun _ r hr => by cases hr⟩
 | r :: l, h => by
   simp only [List.all_cons, Bool.and_eq_true, decide_eq_true_eq] at h
   obtain ⟨i1, i2⟩ := OU (F := F) (rs := l) h.2
   have := Ab r.ob (obsE l) h.1 i1 F ρ
   refine ⟨this.2, fun ht x hx => ?_⟩
   simp only [obsE] at ht
   rw [this.1, Bool.and_eq_true] at ht
   rcases List.mem_cons.1 hx with rfl | hx
   ·exact ht.1
   ·exact i2 ht.2 x hx
theorem HP (m : Mem) (n k : Nat) : Mem.at (m ++ List.replicate n none) k = m.at k := by
 simp only [Mem.at, List.getD]
 rcases Nat.lt_or_ge k m.length with h | h
 ·rw [List.getElem?_append_left h]
 ·rw [List.getElem?_append_right h, List.getElem?_eq_none h, List.getElem?_replicate]
  split <;> rfl
theorem Dv (m : Mem) (n : Nat) : al (m ++ List.replicate n none) = al m := by funext k; simp [al, HP]
theorem Rel.extend {F : Fam} (h : Rel F ρ w0 M0 Im0 ad m w) (n : Nat) : Rel F ρ w0 M0 Im0 ad (m ++ List.replicate n none) w := by
 obtain ⟨hM, Im, h1, h2, hI⟩ := h
 refine ⟨hM, Im, h1, h2, fun k g x hk hg => ?_, fun k g x hk => ?_, fun k k' g x g' y b a1 a2 a3 a4 a5 a6 => ?_, hI.im, hI.fr⟩
 ·rw [HP] at hk; exact hI.ent k g x hk hg
 ·rw [HP] at hk; rw [Dv]; exact hI.ok k g x hk
 ·rw [HP] at a1 a3; exact hI.inj k k' g x g' y b a1 a2 a3 a4 a5 a6
theorem RelS.extend {F : Fam} {s : St} (h : RelS F ρ w0 M0 Im0 ad s a w) (n : Nat) : RelS F ρ w0 M0 Im0 ad (s.1, s.2 ++ List.replicate n none) a w :=
 ⟨⟨h.1.defers, h.1.size, fun i v hv => by simp only [Dv]; exact h.1.slot i v hv⟩, h.2.extend n⟩
theorem Rel.drew {F : Fam} (h : Rel F ρ w0 M0 Im0 ad m w) : Rel F ρ w0 M0 Im0 ad m { w with drawn := w.drawn + 1 } := by
 obtain ⟨hM, Im, h1, h2, hI⟩ := h
 exact ⟨hM, Im, h1, h2, hI.refl_w rfl (hI.fr.trans (Fr.drew M0 w) fun b _ hb => hb)⟩
theorem Ur {F : Fam} {ops : Array Oper} {o : Oper} (hT : RelT F ρ ad m tm a) : RelV F ρ ad m (Ey ops o tm) a := fun i v hv => by
 unfold Ey at hv
 cases hc : (o.looksAt ops).contains i
 ·rw [hc] at hv; cases hv
 ·rw [hc] at hv; exact hT.slot i v hv
def rem (ops : Array Oper) (listed : Array Bool) : List Nat := (List.range ops.size).filter fun i => !listed.getD i true
theorem Us (hS : Dy P G l T) (hG : GOK G Im0 w0) {ops : Array Oper} {base : Nat} {rs : List Rec} (hobs : ∀ r ∈ rs, r.ob.tt l.F ρ = true) {Q : Exit -> Act -> World -> Prop} (hback : La ops.toList 0 = true) (hpairs : MW ops rs (K9 ops.toList []) = true)
 {s' : St} : ∀ (fuel : Nat) (listed : Array Bool) (s : St) (a : Act) (w : World) (ad : Nat -> Hd), listed.size = ops.size -> Uq ops listed -> (rem ops listed).length = fuel ->
 GT P G T ops base rs (rem ops listed) s = some s' -> RelS l.F ρ w0 M0 Im0 ad s a w -> (∀ ad' a' w', RelS l.F ρ w0 M0 Im0 ad' s' a' w' -> Ext ad ad' s.2 s'.2 -> Q .normal a' w') -> wpAny P .any ops Q fuel listed a w := by
 have hanc := MU ops ops.toList [] (fun k => by simp) (fun i j h => by simp at h)
 have hb := MV (ops := ops) ops.toList 0 (fun k => by simp) hback
 have noready : ∀ listed : Array Bool, listed.size = ops.size -> Region.ready .any ops listed = [] -> rem ops listed = [] := by
  intro listed hsz hr
  cases hrem : rem ops listed with
  | nil => rfl
  | cons i r =>
    exfalso
    have hmem : i ∈ rem ops listed := by rw [hrem]; simp
    simp only [rem, List.mem_filter, List.mem_range, Bool.not_eq_true'] at hmem
    have hsorted : (rem ops listed).Pairwise (· < ·) := List.Pairwise.filter _ List.pairwise_lt_range
    rw [hrem] at hsorted
    have hmin : ∀ k, k < i -> k ∉ rem ops listed := fun k hk hkm => by
     rw [hrem] at hkm
     rcases List.mem_cons.1 hkm with rfl | hkm
     ·omega
     ·have := (List.pairwise_cons.1 hsorted).1 k hkm; omega
    have : i ∈ Region.ready .any ops listed := by
     rw [mem_ready]
     refine ⟨hmem.2, ops[i], by simp [hmem.1], fun e he hbe => ?_⟩
     have hlt := hb i ops[i] (Nat.zero_le _) (by simp [hmem.1]) e he hbe
     have := hmin e.on hlt
     simp only [rem, List.mem_filter, List.mem_range, Bool.not_eq_true', not_and, Bool.not_eq_false] at this
     have := this (by omega)
     have hl : e.on < listed.size := by omega
     simpa [hl] using this
    rw [hr] at this
    cases this
 intro fuel
 induction fuel with
 | zero =>
   intro listed s a w ad hsz hcl hlen hfold hR hQ
   have hnil : rem ops listed = [] := List.eq_nil_of_length_eq_zero hlen
   rw [hnil] at hfold
   simp only [GT, oJ] at hfold
   subst hfold
   refine ⟨?_, hQ ad a w hR (Ext.refl _ _)⟩
   cases hr : Region.ready .any ops listed with
   | nil => rfl
   | cons i r =>
     exfalso
     have hi : i ∈ Region.ready .any ops listed := by rw [hr]; simp
     obtain ⟨h1, o, ho, _⟩ := mem_ready.1 hi
     have : i ∈ rem ops listed := by
      simp only [rem, List.mem_filter, List.mem_range, Bool.not_eq_true']
      exact ⟨(Array.getElem?_eq_some_iff.1 ho).1, h1⟩
     rw [hnil] at this
     cases this
 | succ fuel ih =>
   intro listed s a w ad hsz hcl hlen hfold hR hQ
   refine ⟨fun hr => ?_, fun i hi => ?_⟩
   ·have := noready listed hsz hr
    rw [this] at hlen
    simp at hlen
   ·obtain ⟨hun, o, ho, hall⟩ := mem_ready.1 hi
    have hisz : i < ops.size := (Array.getElem?_eq_some_iff.1 ho).1
    have hmem : i ∈ rem ops listed := by
     simp only [rem, List.mem_filter, List.mem_range, Bool.not_eq_true']
     exact ⟨hisz, hun⟩
    have hnd : (rem ops listed).Nodup := List.Pairwise.filter _ List.nodup_range
    have hsorted : (rem ops listed).Pairwise (· < ·) := List.Pairwise.filter _ List.pairwise_lt_range
    obtain ⟨pre, post, hnot, hsplit, herase⟩ := List.exists_erase_eq hmem
    have hrem' : rem ops (listed.setIfInBounds i true) = pre ++ post := by
     rw [<- herase, List.Nodup.erase_eq_filter hnd]
     unfold rem
     rw [List.filter_filter]
     apply List.filter_congr
     intro k hk
     by_cases hki : i = k
     ·subst hki
      have : i < listed.size := by omega
      simp [this]
     ·rw [getD_set_ne true hki]
      have : (k != i) = true := by simp; exact fun e => hki e.symm
      rw [this, Bool.true_and]
    have hindep : ∀ j ∈ pre, indep ops rs j i = true := fun j hj => by
     have hjm : j ∈ rem ops listed := by rw [hsplit]; simp [hj]
     have hjm' := hjm
     simp only [rem, List.mem_filter, List.mem_range, Bool.not_eq_true'] at hjm'
     have hlt : j < i := by
      rw [hsplit] at hsorted
      exact (List.pairwise_append.1 hsorted).2.2 j hj i (by simp)
     unfold MW at hpairs
     have h1 := List.all_eq_true.1 (List.all_eq_true.1 hpairs i (List.mem_range.2 hisz)) j (List.mem_range.2 hlt)
     simp only [Bool.or_eq_true] at h1
     rcases h1 with h1 | h1
     ·exfalso
      have h2 := (hanc i j h1).listed hcl (fun o' ho' e he hbe => hall e (by rw [ho] at ho'; cases ho'; exact he) hbe)
      have hl : j < listed.size := by omega
      have := hjm'.2
      simp [hl] at h2 this
      rw [h2] at this
      cases this
     ·exact h1
    rw [hsplit] at hfold
    obtain ⟨s1, c1, c2⟩ := RA pre hindep hfold
    rw [<- hrem'] at c2
    unfold stI Jr at c1
    rw [ho] at c1
    simp only at c1
    cases hp : GS P ops o (Ey ops o s.1) with
    | none => rw [hp] at c1; cases c1
    | some p =>
      simp only [hp, Option.map_some] at c1
      split at c1
      ·rename_i p' dst' r hpe hr
       simp only [oJ, pJ] at hpe
       obtain ⟨rfl, rfl⟩ := hpe
       split at c1
       ·split at c1
        ·rename_i g v m' hrun
         split at c1
         ·rename_i hgs
          simp only [oJ] at c1
          subst c1
          have hgt : g.tt l.F ρ = true := by rw [E.same_eq _ _ hgs]; exact hobs r (List.mem_of_getElem? hr)
          refine wpOp_step ho fun K' hK' => ?_
          refine (Ia hS hG hR (Ur hR.1) hp hrun).2 hgt _ _ fun ad' a' w' hR' hx => hK' a' w' ?_
          refine ih _ (setT s.1 o.dst v, m') a' w' ad' (by simp [hsz]) ?_ ?_ c2 hR' fun ad'' a'' w'' hR'' hx' => hQ ad'' a'' w'' hR'' (hx.trans hx')
          ·intro k o' hk ho' e he hbe
           by_cases hki : i = k
           ·subst hki
            rw [ho] at ho'; cases ho'
            exact getD_set_true (hall e he hbe)
           ·rw [getD_set_ne false hki] at hk
            exact getD_set_true (hcl k o' hk ho' e he hbe)
          ·rw [hrem']
           have : (rem ops listed).length = pre.length + post.length + 1 := by rw [hsplit]; simp; omega
           simp; omega
         ·cases c1
        ·cases c1
       ·cases c1
      ·cases c1
theorem Sd (hm : P.follows .mixedOrders = true) (hS : Dy P G l T) (hG : GOK G Im0 w0) {ops : Array Oper} {id : Nat} {s s' : St} {ob : E} (h : P4 P G T ops s = some (ob, s')) : ob.kind = .b /\ (ob.tt l.F ρ = true -> ∀ {ad : Nat -> Hd} {a : Act} {w : World}, RelS l.F ρ w0 M0 Im0 ad s a w -> ∀ {Q : Exit -> Act -> World -> Prop},
 (∀ ad' a' w', RelS l.F ρ w0 M0 Im0 ad' s' a' w' -> Ext ad ad' s.2 s'.2 -> Q .normal a' w') -> (Code.region id ops true).wp P Q a w) := by
 unfold P4 at h
 simp only at h
 split at h
 ·rename_i rs hrs
  cases hb : La ops.toList 0 && MW ops rs (K9 ops.toList []) && rs.all fun r => decide (r.ob.kind = .b)
  ·rw [hb] at h; cases h
  ·rw [hb] at h
   simp only [cond_true] at h
   obtain ⟨s1, hfo, he⟩ := Option.map_eq_some_iff.1 h
   simp only [pJ] at he
   obtain ⟨rfl, rfl⟩ := he
   simp only [Bool.and_eq_true] at hb
   obtain ⟨o1, o2⟩ := OU (F := l.F) (ρ := ρ) hb.2
   refine ⟨o1, fun ht {ad a w} hR {Q} hQ => ?_⟩
   have hrem : rem ops (Array.replicate ops.size false) = List.range ops.size := by
    unfold rem
    rw [List.filter_eq_self]
    intro i hi
    have := List.mem_range.1 hi
    simp [this]
   have hR0 := hR.extend (WD * ops.size)
   refine wp_region_any hm (Us hS hG (o2 ht) hb.1.1 hb.1.2 ops.size _ (s.1, s.2 ++ List.replicate (WD * ops.size) none) a _ ad (by simp) ?_ (by rw [hrem]; simp) (by rw [hrem]; exact hfo) ⟨hR0.1, hR0.2.drew⟩ ?_)
   ·intro k o hk
    exfalso
    rcases Nat.lt_or_ge k ops.size with h' | h'
    ·simp [h'] at hk
    ·simp [h'] at hk
   ·intro ad' a' w' hR' hx
    refine hQ ad' a' w' hR' ⟨fun k hk => hx.same k ?_, fun k hk => hx.keep k ?_⟩ <;> simpa [Dv] using hk
 ·cases h
end
def andB (a b : E) : E := if a.kind = .b /\ b.kind = .b then mkAnd a b else mkB false
def impB (c b : E) : E := if c.kind = .b /\ b.kind = .b then mkOr (Am c) b else mkB false
theorem AU {a b : E} {F : Fam} {ρ : Nat -> Int} (h : (andB a b).tt F ρ = true) : a.tt F ρ = true /\ b.tt F ρ = true := by
 unfold andB at h; split at h
 ·rename_i hk; rw [(Ab a b hk.1 hk.2 F ρ).1, Bool.and_eq_true] at h; exact h
 ·simp at h
theorem G6 {c b : E} {F : Fam} {ρ : Nat -> Int} (h : (impB c b).tt F ρ = true) (hc : c.tt F ρ = true) : b.tt F ρ = true := by
 unfold impB at h; split at h
 ·rename_i hk
  rw [(Dt (Am c) b (Ag c F ρ).2 hk.2 F ρ).1, (Ag c F ρ).1, hc, Bool.or_eq_true] at h
  rcases h with h | h
  ·cases h
  ·exact h
 ·simp at h
abbrev Into := Nat -> List SV -> Mem -> Option (E × SV × Mem)
def chOf (T : Tab) (m : Mem) (nm : Nat) : PL -> Ch
 | .run _ (.call _ f args) => VP T m nm f args
 | _ => none
def VQ (P : Program) (G : Glob) (T : Tab) (m : Mem) (nm : Nat) (pl : PL) : Option (E × SV × Mem) := ET P G T m nm (chOf T m nm pl) pl
def Se (call : Into) (f : Nat) (args : List SV) (m : Mem) : Option (E × SV × Mem) :=
 match call f args m with
 | some r => some r
 | none => bif SV.sameL args (GR true args) then none else (call f (GR true args) m).map fun r => (andB (D8 args) r.1, r.2.1, r.2.2)
def P5 (P : Program) (G : Glob) (T : Tab) (call : Into) (ops : Array Oper) (o : Oper) (s : St) : Option (E × St) :=
 match GS P ops o s.1.at with
 | some pl => match VQ P G T s.2 s.2.length pl with
   | some (g, v, m') => some (g, setT s.1 o.dst v, m')
   | none => match VQ P G T (s.2 ++ List.replicate WD none) s.2.length pl with
     | some (g, v, m') => some (g, setT s.1 o.dst v, m')
     | none => match pl with
       | .run none (.call g f args) => match Se call f args s.2 with
         | some (g2, v, m') => some (andB g g2, setT s.1 o.dst v, m')
         | none => none
       | _ => none
 | none => none
def MX (P : Program) (G : Glob) (T : Tab) (call : Into) (ops : Array Oper) : List Oper -> St -> Option (E × St)
 | [], s => some (mkB true, s)
 | o :: r, s => match P5 P G T call ops o s with
   | some (g, s1) => match MX P G T call ops r s1 with
     | some (g2, s2) => some (andB g g2, s2)
     | none => none
   | none => none
def Sf (s : St) (c : Operand) : Option E :=
 match getC [] s.1.at c with
 | some (.sc e) => if e.kind = .b then some e else none
 | _ => none
section
variable {P : Program} {ρ : Nat -> Int} {G : Glob} {T : Tab} {l : Tabs} {w0 w : World} {M0 Im0 : Nat -> Prop} {ad : Nat -> Hd} {m m2 m' : Mem} {tm : Tm} {en : Env} {a : Act}
def EI (P : Program) (l : Tabs) (ρ : Nat -> Int) (w0 : World) (M0 Im0 : Nat -> Prop) (call : Into) : Prop :=
 ∀ f args m ob v m', call f args m = some (ob, v, m') -> ob.tt l.F ρ = true -> ∀ ad w, Rel l.F ρ w0 M0 Im0 ad m w -> SV.okL (al m) args ->
   Calls P f (SV.concL l.F ρ ad args).toArray w fun e w' => ∃ ad', e = .returned (v.conc l.F ρ ad') /\ Rel l.F ρ w0 M0 Im0 ad' m' w' /\ Ext ad ad' m m' /\ v.ok (al m')
theorem P8 {p : Nat -> Prop} {F : Fam} {ρ : Nat -> Int} {ad : Nat -> Hd} : ∀ {args : List SV}, SV.okL p args -> SV.okL p (GR true args)
 | [], _ => trivial
 | v :: r, h => ⟨(B1 (F := F) (ρ := ρ) (ad := ad) v).2 h.1, P8 (F := F) (ρ := ρ) (ad := ad) (args := r) h.2⟩
theorem Vv {call : Into} (hI : EI P l ρ w0 M0 Im0 call) : EI P l ρ w0 M0 Im0 (Se call) := by
 intro f args m ob v m' h ht ad w hR hok
 unfold Se at h
 split at h
 ·rename_i r hr
  simp only [oJ] at h; subst h
  exact hI f args m _ _ _ hr ht ad w hR hok
 ·cases hs : SV.sameL args (GR true args)
  ·rw [hs] at h
   obtain ⟨⟨o2, v2, m2⟩, h2, h3⟩ := Option.map_eq_some_iff.1 h
   simp only [pJ] at h3
   obtain ⟨rfl, rfl, rfl⟩ := h3
   obtain ⟨t1, t2⟩ := AU ht
   have := hI f _ m _ _ _ h2 t2 ad w hR (P8 (F := l.F) (ρ := ρ) (ad := ad) hok)
   rw [Jq (fo := true) t1] at this
   exact this
  ·rw [hs] at h; cases h
theorem Sg {s : St} (hE : RelV l.F ρ ad s.2 en a) {ops : Array Oper} {o : Oper} {g : E} {f : Nat} {args : List SV} (hp : GS P ops o en = some (.run none (.call g f args))) (hg : g.tt l.F ρ = true) :
 Region.wanted o (yielded ops a.tmps) = true /\ (execOp a.eval o).run P w = .ok (.enter f (SV.concL l.F ρ ad args).toArray) w /\ SV.okL (al s.2) args := by
 unfold GS at hp
 split at hp
 ·simp at hp
 ·rename_i hgd
  obtain ⟨W, hW, he⟩ := Option.map_eq_some_iff.1 hp
  simp only [PL.run.injEq, true_and] at he
  subst he
  refine ⟨by rw [Gg hE hgd]; rfl, ?_⟩
  unfold Ki at hW
  split at hW
  ·obtain ⟨u, h1, h2⟩ := Option.map_eq_some_iff.1 hW; cases h2
  ·split at hW
   ·rename_i g0 f' args' hds
    simp only [oJ, W.call.injEq] at hW
    obtain ⟨rfl, rfl, rfl⟩ := hW
    obtain ⟨j1, j2⟩ := JV l.BI (P := P) (w := w) (F := l.F) (ρ := ρ) (ad := ad) (p := al s.2) (ev := a.eval) (fun x s hx => Ca hE (cs := []) rfl hx) hds
    obtain ⟨d1, d2⟩ := j2 hg
    exact ⟨by rw [d1]; rfl, d2⟩
   ·simp at hW
   ·cases hW
 ·obtain ⟨W, hW, he⟩ := Option.map_eq_some_iff.1 hp
  simp at he
 ·cases hp
theorem P9 (hS : Dy P G l T) (hG : GOK G Im0 w0) {call : Into} (hI : EI P l ρ w0 M0 Im0 call) {ops : Array Oper} {o : Oper} {s s' : St} {g : E} (h : P5 P G T call ops o s = some (g, s')) (ht : g.tt l.F ρ = true)
 (hR : RelS l.F ρ w0 M0 Im0 ad s a w) {K : Act -> World -> Prop} {Q : Exit -> Act -> World -> Prop} (hK : ∀ ad' a' w', RelS l.F ρ w0 M0 Im0 ad' s' a' w' -> Ext ad ad' s.2 s'.2 -> K a' w') :
 if Region.wanted o (yielded ops a.tmps) = true then o.wp P a w K Q else K (a.put o.dst undef) w := by
 unfold P5 at h
 split at h
 ·rename_i pl hp
  split at h
  ·rename_i g1 v m' hr
   simp only [oJ, pJ] at h
   obtain ⟨rfl, rfl⟩ := h
   exact (Ia hS hG hR hR.1.envV hp hr).2 ht K Q hK
  ·split at h
   ·rename_i g1 v m' hr
    simp only [oJ, pJ] at h
    obtain ⟨rfl, rfl⟩ := h
    have hR' := hR.extend WD
    exact (Ia hS hG hR' hR'.1.envV hp hr).2 ht K Q fun ad' a' w' h1 h2 => hK ad' a' w' h1 ⟨fun k hk => h2.same k (by simpa [Dv] using hk), fun k hk => h2.keep k (by simpa [Dv] using hk)⟩
   ·split at h
    ·rename_i g1 f args hn1 hn2
     split at h
     ·rename_i g2 v m' hc
      simp only [oJ, pJ] at h
      obtain ⟨rfl, rfl⟩ := h
      obtain ⟨t1, t2⟩ := AU ht
      obtain ⟨p1, p2, p3⟩ := Sg (w := w) hR.1.envV hp t1
      rw [if_pos p1]
      unfold Oper.wp
      rw [p2]
      simp only [Oper.upon]
      refine (Vv hI f args s.2 _ _ _ hc t2 ad w hR.2 p3).mono ?_
      rintro e w' ⟨ad', rfl, r2, r3, r4⟩
      exact hK ad' _ w' ⟨(hR.1.ext r3).put o.dst r4, r2⟩ r3
     ·cases h
    ·cases h
 ·cases h
theorem LL (hS : Dy P G l T) (hG : GOK G Im0 w0) {call : Into} (hI : EI P l ρ w0 M0 Im0 call) {ops : Array Oper} {Q : Exit -> Act -> World -> Prop} : ∀ (os : List Oper) (s s' : St) (g : E) (ad : Nat -> Hd) (a : Act) (w : World),
 MX P G T call ops os s = some (g, s') -> g.tt l.F ρ = true -> RelS l.F ρ w0 M0 Im0 ad s a w -> (∀ ad' a' w', RelS l.F ρ w0 M0 Im0 ad' s' a' w' -> Ext ad ad' s.2 s'.2 -> Q .normal a' w') -> wpList P ops Q os a w
 | [], s, s', g, ad, a, w, h, ht, hR, hQ => by
   simp only [MX, oJ, pJ] at h
   obtain ⟨rfl, rfl⟩ := h
   exact hQ ad a w hR (Ext.refl _ _)
 | o :: r, s, s', g, ad, a, w, h, ht, hR, hQ => by
   simp only [MX] at h
   split at h
   ·rename_i g1 s1 h1
    split at h
    ·rename_i g2 s2 h2
     simp only [oJ, pJ] at h
     obtain ⟨rfl, rfl⟩ := h
     obtain ⟨t1, t2⟩ := AU ht
     have := P9 (K := wpList P ops Q r) (Q := Q) hS hG hI h1 t1 hR fun ad' a' w' hR' hx => LL hS hG hI r s1 _ g2 ad' a' w' h2 t2 hR' fun ad'' a'' w'' hR'' hx' => hQ ad'' a'' w'' hR'' (hx.trans hx')
     unfold wpList
     by_cases hw : Region.wanted o (yielded ops a.tmps) = true
     ·rw [if_pos hw] at this ⊢; exact .inl this
     ·rw [if_neg hw] at this ⊢; exact this
    ·cases h
   ·cases h
theorem Si {F : Fam} (hT : RelT F ρ ad m tm a) {c : Operand} {e : E} (h : Sf (tm, m) c = some e) : e.kind = .b /\ a.eval c = .bool (e.tt F ρ) := by
 unfold Sf at h
 split at h
 ·rename_i e' h1
  split at h
  ·rename_i hk
   simp only [oJ] at h; subst h
   obtain ⟨i1, _⟩ := Ca hT.envV (cs := []) rfl h1
   exact ⟨hk, by rw [i1]; simp [SV.conc, E.val_b hk]⟩
  ·cases h
 ·cases h
end
structure LEnt where
 ent : Ent
 sl : List Nat
 so : List Nat
 wr : List Nat
 labs : List Lab
 nt : Nat
 shr : List Nat
def dtOf : List Lab -> List SV -> Option (DT × List SV)
 | [], _ => none
 | [l], vs => some (.leaf l, vs)
 | l :: k :: ls, .sc e :: vs => if e.kind = .b then (dtOf (k :: ls) vs).map fun r => (.br e (.leaf l) r.1, r.2) else none
 | _ :: _ :: _, _ => none
def labV : List Lab -> List Value -> Option (Lab × List Value)
 | [], _ => none
 | [l], vs => some (l, vs)
 | l :: k :: ls, .bool b :: vs => (labV (k :: ls) vs).map fun r => (bif b then l else r.1, r.2)
 | _ :: _ :: _, _ => none
def Js : List Nat -> List SV -> Tm -> Option Tm
 | [], [], tm => some tm
 | t :: ts, v :: vs, tm => if t < tm.length /\ !ts.contains t = true then Js ts vs (tm.set t (some v)) else none
 | _, _, _ => none
def clrSl : List Nat -> Tm -> Tm
 | [], tm => tm
 | t :: ts, tm => clrSl ts (tm.set t none)
def Jt (tm : Tm) : List Nat -> Option (List SV)
 | [] => some []
 | t :: ts => match tm.at t, Jt tm ts with
   | some v, some l => some (v :: l)
   | _, _ => none
def MY (e : Ent) (m : Mem) (nm : Nat) (args : List SV) (fo : Bool) : Option (E × SV × Mem) :=
 (ES e m nm (GR fo args)).map fun r => (andB (bif fo then D8 args else mkB true) r.1, r.2.1, r.2.2)
def Ut (e : Ent) (m : Mem) (nm : Nat) (args : List SV) : Option (E × SV × Mem) :=
 match MY e m nm args false with
 | some r => some r
 | none => MY e m nm args true
def shrN (tm : Tm) (l : List Nat) : List Nat := l.filterMap fun t => match tm.at t with
 | some (.ls n _) => some n
 | _ => none
def Sj : List Sh -> List SV -> List Nat
 | .lst _ _ false :: l, .ls n _ :: vs => n :: Sj l vs
 | _ :: l, _ :: vs => Sj l vs
 | _, _ => []
def objN (m : Mem) : List Sh -> List SV -> List Nat
 | .obj _ cs :: l, .ptr n 0 :: vs => (match m.at n with
   | some (_, .cells _ us) => Sj cs us
   | _ => []) ++ objN m l vs
 | _ :: l, _ :: vs => objN m l vs
 | _, _ => []
def Ju (le : LEnt) (s : St) : Option (E × Out) :=
 match (if s.1.length = le.nt then Jt s.1 le.sl else none) with
 | some args => match Ut le.ent (shareL s.2 (shrN s.1 le.shr ++ objN s.2 le.ent.ps args) ++ List.replicate (Sh.nnL le.ent.outL) none) s.2.length args with
   | some (g, .tup vs, m') => match dtOf le.labs vs with
     | some (d, us) => match Js le.so us (clrSl le.wr s.1) with
       | some tm' => some (g, d, le.labs.map fun l => (l, (tm', m')))
       | none => none
     | none => none
   | _ => none
 | none => none
def Lb (G : Glob) (le : LEnt) (C : (Exit -> Act -> World -> Prop) -> Act -> World -> Prop) : Prop :=
 ∀ xs, fits le.ent.pks xs -> le.ent.pre xs -> ∀ (w : World) (M0 Im : Nat -> Prop) (hs : Nat -> Hd), (∀ b, M0 b -> ¬ Im b /\ b < w.heap.size) -> GOK G Im w -> RelE F0 (env xs) w M0 Im hs le.ent.pgen.2 w ->
   ∀ a : Act, a.defers = [] -> a.tmps.size = le.nt -> (∀ (i t : Nat), le.sl[i]? = some t -> a.tmps[t]? = (SV.concL F0 (env xs) hs le.ent.pgen.1)[i]?) -> ∀ Q : Exit -> Act -> World -> Prop,
     (∀ (a' : Act) (w' : World) (hs' : Nat -> Hd) (Im' : Nat -> Prop) (Vs : List Value) (lab : Lab) (us : List Value), (∀ j, j < le.ent.nn -> hs' j = hs j) -> (∀ b, Im b -> Im' b) -> (∀ b, Im' b -> Im b \/ M0 b \/ w.heap.size <= b) ->
      RelE F0 (env (xs ++ Ai le.ent.fn xs 0 le.ent.oks)) w M0 Im' hs' le.ent.oents w' ->
      (B3 le.ent.ogen.1).conc F0 (env (xs ++ Ai le.ent.fn xs 0 le.ent.oks)) hs' = .tuple Vs.toArray -> labV le.labs Vs = some (lab, us) ->
      (∀ (i t : Nat), le.so[i]? = some t -> a'.tmps[t]? = us[i]?) -> (∀ k, k ∉ le.so -> k ∉ le.wr -> a'.tmps[k]? = a.tmps[k]?) -> a'.tmps.size = a.tmps.size -> a'.defers = [] -> Q lab.exit a' w') ->
     C Q a w
def CodeOK (P : Program) (G : Glob) (c : Code) (le : LEnt) : Prop := Lb G le fun Q => c.wp P Q
def Kk (P : Program) (G : Glob) (body : Code) (le : LEnt) : Prop := Lb G le fun Q => (Code.loop body).wp P Q
section
variable {P : Program} {ρ : Nat -> Int} {G : Glob} {T : Tab} {l : Tabs} {w0 w : World} {M0 Im0 : Nat -> Prop} {ad : Nat -> Hd} {m m2 m' : Mem} {tm : Tm} {en : Env} {a : Act}
theorem OV {F : Fam} : ∀ {ls : List Lab} {vs us : List SV} {d : DT}, dtOf ls vs = some (d, us) -> labV ls (SV.concL F ρ ad vs) = some (d.eval F ρ, SV.concL F ρ ad us) /\ (∀ p, SV.okL p vs -> SV.okL p us) /\ d.eval F ρ ∈ ls
 | [], vs, us, d, h => by simp [dtOf] at h
 | [k], vs, us, d, h => by
   simp only [dtOf, oJ, pJ] at h
   obtain ⟨rfl, rfl⟩ := h
   exact ⟨rfl, fun _ h => h, by simp [DT.eval]⟩
 | k :: k' :: ls, [], us, d, h => by simp [dtOf] at h
 | k :: k' :: ls, v :: vs, us, d, h => by
   cases v with
   | sc e =>
     simp only [dtOf] at h
     split at h
     ·rename_i hk
      obtain ⟨⟨d', us'⟩, h1, h2⟩ := Option.map_eq_some_iff.1 h
      simp only [pJ] at h2
      obtain ⟨rfl, rfl⟩ := h2
      obtain ⟨i1, i2, i3⟩ := OV (F := F) h1
      refine ⟨?_, fun p hp => i2 p hp.2, ?_⟩
      ·simp only [SV.concL, SV.conc, E.val_b hk, labV, i1, Option.map_some, DT.eval]
      ·simp only [DT.eval]
       cases e.tt F ρ
       ·simp only [cond_false]; exact List.mem_cons_of_mem _ i3
       ·simp
     ·cases h
   | _ => simp [dtOf] at h
theorem MZ : ∀ (ts : List Nat) (tm : Tm), (clrSl ts tm).length = tm.length /\ ∀ k v, (clrSl ts tm).at k = some v -> tm.at k = some v /\ k ∉ ts
 | [], tm => ⟨rfl, fun k v h => ⟨h, by simp⟩⟩
 | t :: ts, tm => by
   obtain ⟨i1, i2⟩ := MZ ts (tm.set t none)
   refine ⟨by simp only [clrSl, i1, List.length_set], fun k v h => ?_⟩
   obtain ⟨j1, j2⟩ := i2 k v h
   by_cases hk : t = k
   ·subst hk
    exfalso
    simp only [Tm.at, List.getD, List.getElem?_set] at j1
    by_cases hl : t < tm.length <;> simp [hl] at j1
   ·refine ⟨by simpa [Tm.at, List.getD, List.getElem?_set, hk] using j1, ?_⟩
    simp only [List.mem_cons, not_or]
    exact ⟨fun e => hk e.symm, j2⟩
theorem M2 : ∀ {ts : List Nat} {vs : List SV} {tm tm' : Tm}, Js ts vs tm = some tm' -> tm'.length = tm.length /\ vs.length = ts.length /\ (∀ k, k ∉ ts -> tm'.at k = tm.at k) /\ ∀ (i t : Nat), ts[i]? = some t -> tm'.at t = vs[i]?
 | [], [], tm, tm', h => by
   simp only [Js, oJ] at h; subst h
   exact ⟨rfl, rfl, fun _ _ => rfl, fun i t h => by simp at h⟩
 | [], _ :: _, tm, tm', h => by simp [Js] at h
 | _ :: _, [], tm, tm', h => by simp [Js] at h
 | t :: ts, v :: vs, tm, tm', h => by
   simp only [Js] at h
   split at h
   ·rename_i hc
    obtain ⟨i1, i2, i3, i4⟩ := M2 h
    have hnot : t ∉ ts := by have := hc.2; simpa using this
    refine ⟨by simpa using i1, by simp [i2], fun k hk => ?_, fun i k hi => ?_⟩
    ·simp only [List.mem_cons, not_or] at hk
     rw [i3 k hk.2]
     have : ¬ t = k := fun e => hk.1 e.symm
     simp [Tm.at, List.getD, List.getElem?_set, this]
    ·cases i with
     | zero =>
       simp only [List.getElem?_cons_zero, oJ] at hi
       subst hi
       rw [i3 t hnot]
       simp [Tm.at, List.getD, List.getElem?_set, hc.1]
     | succ i =>
       simp only [List.getElem?_cons_succ] at hi ⊢
       exact i4 i k hi
   ·cases h
theorem FB : ∀ {ts : List Nat} {vs : List SV}, Jt tm ts = some vs -> vs.length = ts.length /\ ∀ (i t : Nat), ts[i]? = some t -> tm.at t = vs[i]?
 | [], vs, h => by simp only [Jt, oJ] at h; subst h; exact ⟨rfl, fun i t h => by simp at h⟩
 | t :: ts, vs, h => by
   simp only [Jt] at h
   split at h
   ·rename_i v l h1 h2
    simp only [oJ] at h; subst h
    obtain ⟨i1, i2⟩ := FB h2
    refine ⟨by simp [i1], fun i k hi => ?_⟩
    cases i with
    | zero => simp only [List.getElem?_cons_zero, oJ] at hi ⊢; subst hi; exact h1
    | succ i => simp only [List.getElem?_cons_succ] at hi ⊢; exact i2 i k hi
   ·cases h
theorem Sk {e : Ent} (he : l.get e.key = some e) (hG : GOK G Im0 w0) (hR : Rel l.F ρ w0 M0 Im0 ad m w) {nm : Nat} {args : List SV} {fo : Bool} {g : E} {v : SV}
 (h : MY e m nm args fo = some (g, v, m')) (ht : g.tt l.F ρ = true) : ∃ (xs : List Int) (hs : Nat -> Hd) (M1 Im : Nat -> Prop), fits e.pks xs /\ e.pre xs /\ SV.concL l.F ρ ad args = SV.concL F0 (env xs) hs e.pgen.1 /\
  (∀ b, M1 b -> ¬ Im b /\ b < w.heap.size) /\ GOK G Im w /\ RelE F0 (env xs) w M1 Im hs e.pgen.2 w /\
  ∀ (w' : World) (hs' : Nat -> Hd) (Im' : Nat -> Prop), (∀ j, j < e.nn -> hs' j = hs j) -> (∀ b, Im b -> Im' b) -> (∀ b, Im' b -> Im b \/ M1 b \/ w.heap.size <= b) -> RelE F0 (env (xs ++ Ai e.fn xs 0 e.oks)) w M1 Im' hs' e.oents w' ->
    ∃ ad', v.conc l.F ρ ad' = (B3 e.ogen.1).conc F0 (env (xs ++ Ai e.fn xs 0 e.oks)) hs' /\ Rel l.F ρ w0 M0 Im0 ad' m' w' /\ Ext ad ad' m m' /\ v.ok (al m') := by
 unfold MY at h
 obtain ⟨⟨g1, v1, m1⟩, h1, h2⟩ := Option.map_eq_some_iff.1 h
 simp only [pJ] at h2
 obtain ⟨rfl, rfl, rfl⟩ := h2
 obtain ⟨t1, t2⟩ := AU ht
 have := (MK he hG hR h1).2 t2
 rw [Jq t1] at this
 exact this
theorem Gh {le : LEnt} {C : (Exit -> Act -> World -> Prop) -> Act -> World -> Prop} (he : l.get le.ent.key = some le.ent) (hL : Lb G le C) (hG : GOK G Im0 w0) {s : St} {g : E} {o : Out} (h : Ju le s = some (g, o)) (ht : g.tt l.F ρ = true) (hR : RelS l.F ρ w0 M0 Im0 ad s a w) {Q : Exit -> Act -> World -> Prop}
 (hA : After l.F ρ w0 M0 Im0 ad s.2 o Q) : C Q a w := by
 unfold Ju at h
 split at h
 ·rename_i args hargs
  have hnt : s.1.length = le.nt /\ Jt s.1 le.sl = some args := by
   split at hargs
   ·rename_i h; exact ⟨h, hargs⟩
   ·cases hargs
  obtain ⟨hnt, hargs⟩ := hnt
  split at h
  ·rename_i g1 vs m' hcall
   split at h
   ·rename_i d us hd
    split at h
    ·rename_i tm' hset
     simp only [oJ, pJ] at h
     obtain ⟨rfl, rfl⟩ := h
     have hR1 : RelS l.F ρ w0 M0 Im0 ad (s.1, shareL s.2 (shrN s.1 le.shr ++ objN s.2 le.ent.ps args)) a w := ⟨⟨hR.1.defers, hR.1.size, fun i v hv => ⟨(hR.1.slot i v hv).1, SV.ok_mono (fun k hk => (Du _ _ _).2 hk) v (hR.1.slot i v hv).2⟩⟩, Rel.shareL _ hR.2⟩
     have hR' := hR1.extend (Sh.nnL le.ent.outL)
     have hcore : ∃ fo, MY le.ent (shareL s.2 (shrN s.1 le.shr ++ objN s.2 le.ent.ps args) ++ List.replicate (Sh.nnL le.ent.outL) none) s.2.length args fo = some (g1, .tup vs, m') := by
      unfold Ut at hcall
      split at hcall
      ·rename_i r hr
       simp only [oJ] at hcall; subst hcall
       exact ⟨_, hr⟩
      ·exact ⟨_, hcall⟩
     obtain ⟨fo, hcf⟩ := hcore
     obtain ⟨xs, hs, M1, Im, a1, a2, a3, a4, a5, a6, a7⟩ := Sk he hG hR'.2 hcf ht
     obtain ⟨g1, g2⟩ := FB hargs
     refine hL xs a1 a2 w M1 Im hs a4 a5 a6 a hR.1.defers (by rw [<- hnt]; exact hR.1.size) (fun i t hi => ?_) Q ?_
     ·rw [<- a3]
      have hv := g2 i t hi
      have hil : i < args.length := by have := (List.getElem?_eq_some_iff.1 hi).1; omega
      rw [List.getElem?_eq_getElem hil] at hv
      rw [(hR.1.slot t _ hv).1, Ae, List.getElem?_map, List.getElem?_eq_getElem hil, Option.map_some]
     ·intro a' w' hs' Im' Vs lab uv q1 q2 q3 q4 q5 q6 q7 q8 q9 q10
      obtain ⟨ad', r1, r2, r3, r4⟩ := a7 w' hs' Im' q1 q2 q3 q4
      rw [<- r1] at q5
      simp only [SV.conc, Value.tuple.injEq] at q5
      have hVs : Vs = SV.concL l.F ρ ad' vs := by
       have := congrArg Array.toList q5
       simpa using this.symm
      subst hVs
      obtain ⟨l1, l2, l3⟩ := OV (F := l.F) (ρ := ρ) (ad := ad') hd
      rw [l1] at q6
      simp only [oJ, pJ] at q6
      obtain ⟨rfl, rfl⟩ := q6
      obtain ⟨s1, s2, s3, s4⟩ := M2 hset
      obtain ⟨c1, c2⟩ := MZ le.wr s.1
      have hx : Ext ad ad' s.2 m' := ⟨fun k hk => r3.same k (by rw [Dv, Du]; exact hk), fun k hk => r3.keep k (by rw [Dv, Du]; exact hk)⟩
      refine hA (tm', m') ad' a' w' ?_ ⟨⟨q10, ?_, fun k v hv => ?_⟩, r2⟩ hx
      ·have : ∀ (ls : List Lab) (x : Lab), x ∈ ls -> lk x (ls.map fun l => (l, (tm', m'))) = some (tm', m') := by
        intro ls x hx
        induction ls with
        | nil => cases hx
        | cons k ls ih =>
          simp only [List.map_cons, lk]
          split
          ·rfl
          ·rename_i hne
           rcases List.mem_cons.1 hx with h | h
           ·exact (hne h.symm).elim
           ·exact ih h
       exact this le.labs _ l3
      ·show a'.tmps.size = tm'.length
       rw [s1, c1, q9]; exact hR.1.size
      ·have hokus := l2 _ r4
       change tm'.at k = some v at hv
       by_cases hk : k ∈ le.so
       ·obtain ⟨i, hi, hik⟩ := List.getElem_of_mem hk
        have hik' : le.so[i]? = some k := by rw [List.getElem?_eq_getElem hi, hik]
        have h1 := s4 i k hik'
        rw [hv] at h1
        have h2 := q7 i k hik'
        rw [Ae, List.getElem?_map, <- h1, Option.map_some] at h2
        exact ⟨h2, Em hokus h1.symm⟩
       ·rw [s3 k hk] at hv
        obtain ⟨j1, j2⟩ := c2 k v hv
        obtain ⟨k1, k2⟩ := hR.1.slot k v j1
        exact ⟨by rw [q8 k hk j2, k1, SV.conc_congr hx.same v k2], SV.ok_mono hx.keep v k2⟩
    ·cases h
   ·cases h
  ·cases h
 ·cases h
end
abbrev Cn := List Bool -> Option LEnt
def A9 : Code -> List Bool -> Option Code
 | .seq x y, b :: p => bif b then A9 y p else A9 x p
 | .cond _ x y, b :: p => bif b then A9 y p else A9 x p
 | .block _ c, _ :: p => A9 c p
 | .loop c, _ :: p => A9 c p
 | c, [] => some c
 | _, _ :: _ => none
def Kl (f : St -> Option (E × Out)) (r : E × Out) : Option (E × Out) :=
 match lk .nrm r.2.2 with
 | none => some r
 | some s1 => match f s1 with
   | some q => match Ry r.2 q.2 with
     | some o => some (andB r.1 (impB (r.2.1.is .nrm) q.1), o)
     | none => none
   | none => none
def Km (f : St -> Option (E × Out)) : Nat -> St -> Option (E × Out)
 | 0, _ => none
 | n + 1, s => match f s with
   | some r => Kl (Km f n) r
   | none => none
def padTo (m : Mem) (o : Option (E × Out)) : Nat :=
 match o with
 | some r => r.2.2.foldl (fun k x => max k x.2.2.length) m.length - m.length
 | none => 0
def brE (e : E) (x y : Option (E × Out)) : Option (E × Out) :=
 match x, y with
 | some ox, some oy => match R9 e ox.2 oy.2 with
   | some o => some (andB (impB e ox.1) (impB (Am e) oy.1), o)
   | none => none
 | some ox, none => some (andB e ox.1, ox.2)
 | none, some oy => some (andB (Am e) oy.1, oy.2)
 | none, none => none
def AZ (P : Program) (G : Glob) (T : Tab) (call : Into) (N : Nat) : Cn -> Code -> St -> Option (E × Out)
 | _, .skip, s => some (mkB true, .leaf .nrm, [(.nrm, s)])
 | _, .label _, s => some (mkB true, .leaf .nrm, [(.nrm, s)])
 | _, .region _ ops true, s => match P4 P G T ops s with
   | some (g, s') => some (g, .leaf .nrm, [(.nrm, s')])
   | none => none
 | _, .region _ ops false, s => match MX P G T call ops ops.toList s with
   | some (g, s') => some (g, .leaf .nrm, [(.nrm, s')])
   | none => none
 | L, .seq x y, s => match L [] with
   | some le => Ju le s
   | none => match AZ P G T call N (fun p => L (false :: p)) x s with
     | some r => Kl (AZ P G T call N (fun p => L (true :: p)) y) r
     | none => none
 | L, .cond c x y, s => match Sf s c with
   | some e => match e.lit? with
     | some n => bif i2b n then AZ P G T call N (fun p => L (false :: p)) x s else AZ P G T call N (fun p => L (true :: p)) y s
     | none => match AZ P G T call N (fun p => L (false :: p)) x s with
       | ox => brE e ox (AZ P G T call N (fun p => L (true :: p)) y (s.1, s.2 ++ List.replicate (padTo s.2 ox) none))
   | none => none
 | L, .block id body, s => match AZ P G T call N (fun p => L (false :: p)) body s with
   | some r => match PZ id r.2 with
     | some o => some (r.1, o)
     | none => none
   | none => none
 | L, .loop body, s => match L [] with
   | some le => Ju le s
   | none => Km (AZ P G T call N (fun p => L (false :: p)) body) N s
 | _, .exit id, s => some (mkB true, .leaf (.ex id), [(.ex id, s)])
 | _, .ret, s => some (mkB true, .leaf .ret, [(.ret, s)])
 | _, _, _ => none
def resS (P : Program) (s : St) : List ResultVar -> Option (E × List SV)
 | [] => some (mkB true, [])
 | .tmp t :: r => match getC [] s.1.at (.tmp t), resS P s r with
   | some v, some l => some (l.1, v :: l.2)
   | _, _ => none
 | .cell t ty :: r => match getC [] s.1.at (.tmp t), GG P ty, szOf P ty with
   | some (.ptr n off), some ag, some sz => match blkC s.2 n with
     | some (g, _, cs) => match rdC cs off sz ag, resS P s r with
       | some v, some l => some (andB g l.1, v :: l.2)
       | _, _ => none
     | none => none
   | _, _, _ => none
def Pf : List SV -> SV
 | [v] => v
 | l => .tup l
def Qa (P : Program) (fn : Func) (s : St) : Option (E × SV × Mem) := (resS P s fn.results.toList).map fun l => (l.1, Pf l.2, s.2)
def Il : List (Lab × St) -> Bool
 | [] => true
 | (l, _) :: r => (decide (l = .nrm) || decide (l = .ret)) && Il r
def Sl (m : Mem) (o : Out) : Option St :=
 bif Il o.2 then
  match lk .ret o.2, lk .nrm o.2 with
  | some s, none => some s
  | none, some s => some s
  | some s, some s' => G3 (o.1.is .ret) s s'
  | none, none => none
 else none
def tm0 (n : Nat) (args : List SV) : Tm := args.map some ++ List.replicate (n - args.length) (some .und)
def evFn (P : Program) (G : Glob) (T : Tab) (LT : Nat -> Cn) (N : Nat) : Nat -> Into
 | 0, _, _, _ => none
 | n + 1, f, args, m => match P.funcs[f]? with
   | some fn => match fn.body with
     | some c => match AZ P G T (evFn P G T LT N n) N (LT f) c (tm0 fn.ntmps args, m) with
       | some r => match Sl m r.2 with
         | some s => match Qa P fn s with
           | some q => some (andB r.1 q.1, q.2)
           | none => none
         | none => none
       | none => none
     | none => none
   | none => none
section
variable {P : Program} {ρ : Nat -> Int} {G : Glob} {T : Tab} {l : Tabs} {w0 w : World} {M0 Im0 : Nat -> Prop} {ad : Nat -> Hd} {m m2 m' : Mem} {tm : Tm} {en : Env} {a : Act}
def G7 (P : Program) (G : Glob) (l : Tabs) (L : Cn) (c : Code) : Prop :=
 ∀ p le, L p = some le -> ∀ body, A9 c p = some body -> l.get le.ent.key = some le.ent /\ CodeOK P G body le
theorem FD {f : St -> Option (E × Out)} {r : E × Out} {s0 : Mem} {g : E} {o : Out} (h : Kl f r = some (g, o)) (ht : g.tt l.F ρ = true) {Q : Exit -> Act -> World -> Prop} {K : Act -> World -> Prop}
 (hA : After l.F ρ w0 M0 Im0 ad s0 o Q)
 (hK : ∀ s1 g2 o2 ad' a' w', f s1 = some (g2, o2) -> g2.tt l.F ρ = true -> RelS l.F ρ w0 M0 Im0 ad' s1 a' w' -> After l.F ρ w0 M0 Im0 ad' s1.2 o2 Q -> K a' w') :
 r.1.tt l.F ρ = true /\ After l.F ρ w0 M0 Im0 ad s0 r.2 (Exit.then K Q) := by
 unfold Kl at h
 split at h
 ·rename_i hn
  simp only [oJ] at h; subst h
  refine ⟨ht, fun q ad' a' w' hq hR' hx => ?_⟩
  have hne : o.1.eval l.F ρ ≠ .nrm := fun e => by rw [e, hn] at hq; cases hq
  have := hA q ad' a' w' hq hR' hx
  cases hl : o.1.eval l.F ρ with
  | nrm => exact (hne hl).elim
  | ret => rw [hl] at this; exact this
  | ex id => rw [hl] at this; exact this
 ·rename_i s1 hn
  split at h
  ·rename_i q0 hq0
   split at h
   ·rename_i o' ho'
    simp only [oJ, pJ] at h
    obtain ⟨rfl, rfl⟩ := h
    obtain ⟨t1, t2⟩ := AU ht
    obtain ⟨j1, j2⟩ := After.join ho' hA
    refine ⟨t1, fun q ad' a' w' hq hR' hx => ?_⟩
    by_cases he : r.2.1.eval l.F ρ = .nrm
    ·rw [he] at hq ⊢
     rw [hn] at hq
     simp only [oJ] at hq
     subst hq
     refine hK s1 q0.1 q0.2 ad' a' w' hq0 (G6 t2 (DT.is_true he)) hR' fun q' ad'' a'' w'' hq' hR'' hx' => ?_
     exact j2 he q' ad'' a'' w'' hq' hR'' (hx.trans hx')
    ·have := j1 he q ad' a' w' hq hR' hx
     cases hl : r.2.1.eval l.F ρ with
     | nrm => exact (he hl).elim
     | ret => rw [hl] at this; exact this
     | ex id => rw [hl] at this; exact this
   ·cases h
  ·cases h
theorem Uu {e : E} {x y : Option (E × Out)} {s0 : Mem} {g : E} {o : Out} (h : brE e x y = some (g, o)) (ht : g.tt l.F ρ = true) {Q : Exit -> Act -> World -> Prop} (hA : After l.F ρ w0 M0 Im0 ad s0 o Q) :
 (e.tt l.F ρ = true -> ∃ g1 o1, x = some (g1, o1) /\ g1.tt l.F ρ = true /\ After l.F ρ w0 M0 Im0 ad s0 o1 Q) /\ (e.tt l.F ρ = false -> ∃ g1 o1, y = some (g1, o1) /\ g1.tt l.F ρ = true /\ After l.F ρ w0 M0 Im0 ad s0 o1 Q) := by
 have hnot : e.tt l.F ρ = false -> (Am e).tt l.F ρ = true := fun h => by rw [(Ag e l.F ρ).1, h]; rfl
 unfold brE at h
 split at h
 ·rename_i ox oy
  split at h
  ·rename_i o' ho'
   simp only [oJ, pJ] at h
   obtain ⟨rfl, rfl⟩ := h
   obtain ⟨t1, t2⟩ := AU ht
   obtain ⟨j1, j2⟩ := After.br ho' hA
   exact ⟨fun he => ⟨ox.1, ox.2, rfl, G6 t1 he, j1 he⟩, fun he => ⟨oy.1, oy.2, rfl, G6 t2 (hnot he), j2 he⟩⟩
  ·cases h
 ·rename_i ox
  simp only [oJ, pJ] at h
  obtain ⟨rfl, rfl⟩ := h
  obtain ⟨t1, t2⟩ := AU ht
  exact ⟨fun _ => ⟨ox.1, ox.2, rfl, t2, hA⟩, fun he => by rw [t1] at he; cases he⟩
 ·rename_i oy
  simp only [oJ, pJ] at h
  obtain ⟨rfl, rfl⟩ := h
  obtain ⟨t1, t2⟩ := AU ht
  rw [(Ag e l.F ρ).1] at t1
  exact ⟨fun he => (by rw [he] at t1; cases t1), fun _ => ⟨oy.1, oy.2, rfl, t2, hA⟩⟩
 ·cases h
theorem FE (hm : P.follows .mixedOrders = true) (hS : Dy P G l T) (hG : GOK G Im0 w0) {call : Into} (hI : EI P l ρ w0 M0 Im0 call) {N : Nat} : ∀ (c : Code) (L : Cn) (s : St) (g : E) (o : Out) (ad : Nat -> Hd) (a : Act) (w : World) (Q : Exit -> Act -> World -> Prop),
 G7 P G l L c -> AZ P G T call N L c s = some (g, o) -> g.tt l.F ρ = true -> RelS l.F ρ w0 M0 Im0 ad s a w -> After l.F ρ w0 M0 Im0 ad s.2 o Q -> c.wp P Q a w := by
 intro c
 induction c with
 | skip =>
   intro L s g o ad a w Q hL h ht hR hA
   simp only [AZ, oJ, pJ] at h
   obtain ⟨rfl, rfl⟩ := h
   exact wp_skip (hA s ad a w (by simp [lk, DT.eval]) hR (Ext.refl _ _))
 | label k =>
   intro L s g o ad a w Q hL h ht hR hA
   simp only [AZ, oJ, pJ] at h
   obtain ⟨rfl, rfl⟩ := h
   exact wp_label (hA s ad a w (by simp [lk, DT.eval]) hR (Ext.refl _ _))
 | region id ops draw =>
   intro L s g o ad a w Q hL h ht hR hA
   cases draw with
   | true =>
     simp only [AZ] at h
     split at h
     ·rename_i g1 s' h1
      simp only [oJ, pJ] at h
      obtain ⟨rfl, rfl⟩ := h
      exact (Sd hm hS hG h1).2 ht hR fun ad' a' w' hR' hx => hA s' ad' a' w' (by simp [lk, DT.eval]) hR' hx
     ·cases h
   | false =>
     simp only [AZ] at h
     split at h
     ·rename_i g1 s' h1
      simp only [oJ, pJ] at h
      obtain ⟨rfl, rfl⟩ := h
      exact wp_region_list (LL hS hG hI ops.toList s s' g1 ad a w h1 ht hR fun ad' a' w' hR' hx => hA s' ad' a' w' (by simp [lk, DT.eval]) hR' hx)
     ·cases h
 | seq x y ihx ihy =>
   intro L s g o ad a w Q hL h ht hR hA
   simp only [AZ] at h
   split at h
   ·rename_i le hle
    obtain ⟨l1, l2⟩ := hL [] le hle (.seq x y) rfl
    exact Gh l1 l2 hG h ht hR hA
   split at h
   ·rename_i r hr
    obtain ⟨t1, t2⟩ := FD (K := y.wp P Q) h ht hA fun s1 g2 o2 ad' a' w' h2 ht2 hR' hA' => ihy _ s1 g2 o2 ad' a' w' Q (fun p le hp body hb => hL (true :: p) le hp body hb) h2 ht2 hR' hA'
    exact wp_seq (ihx _ s r.1 r.2 ad a w _ (fun p le hp body hb => hL (false :: p) le hp body hb) hr t1 hR t2)
   ·cases h
 | cond c x y ihx ihy =>
   intro L s g o ad a w Q hL h ht hR hA
   simp only [AZ] at h
   split at h
   ·rename_i e he
    obtain ⟨hk, hev⟩ := Si hR.1 he
    split at h
    ·rename_i n hn
     have htn := lit?_tt hn l.F ρ
     rw [htn] at hev
     cases hi : i2b n
     ·rw [hi] at h hev
      exact wp_cond (t := false) hev (ihy _ s g o ad a w Q (fun p le hp body hb => hL (true :: p) le hp body hb) h ht hR hA)
     ·rw [hi] at h hev
      exact wp_cond (t := true) hev (ihx _ s g o ad a w Q (fun p le hp body hb => hL (false :: p) le hp body hb) h ht hR hA)
    ·obtain ⟨j1, j2⟩ := Uu h ht hA
     rcases Bool.eq_false_or_eq_true (e.tt l.F ρ) with hte | hte
     ·rw [hte] at hev
      obtain ⟨g1, o1, k1, k2, k3⟩ := j1 hte
      exact wp_cond (t := true) hev (ihx _ s g1 o1 ad a w Q (fun p le hp body hb => hL (false :: p) le hp body hb) k1 k2 hR k3)
     ·rw [hte] at hev
      obtain ⟨g1, o1, k1, k2, k3⟩ := j2 hte
      refine wp_cond (t := false) hev (ihy _ _ g1 o1 ad a w Q (fun p le hp body hb => hL (true :: p) le hp body hb) k1 k2 (hR.extend _) fun q ad' a' w' hq hR' hx => k3 q ad' a' w' hq hR' ⟨fun k hk => hx.same k ?_, fun k hk => hx.keep k ?_⟩) <;> simpa [Dv] using hk
   ·cases h
 | block id body ih =>
   intro L s g o ad a w Q hL h ht hR hA
   simp only [AZ] at h
   split at h
   ·rename_i r hr
    split at h
    ·rename_i o' ho'
     simp only [oJ, pJ] at h
     obtain ⟨rfl, rfl⟩ := h
     exact wp_block (ih _ s r.1 r.2 ad a w _ (fun p le hp body hb => hL (false :: p) le hp body hb) hr ht hR (After.rel ho' hA))
    ·cases h
   ·cases h
 | loop body ih =>
   intro L s g o ad a w Q hL h ht hR hA
   simp only [AZ] at h
   split at h
   ·rename_i le hle
    obtain ⟨l1, l2⟩ := hL [] le hle (.loop body) rfl
    exact Gh l1 l2 hG h ht hR hA
   ·refine wp_loop_rounds N ?_
    have key : ∀ (n : Nat) (s : St) (g : E) (o : Out) (ad : Nat -> Hd) (a : Act) (w : World), Km (AZ P G T call N (fun p => L (false :: p)) body) n s = some (g, o) -> g.tt l.F ρ = true -> RelS l.F ρ w0 M0 Im0 ad s a w -> After l.F ρ w0 M0 Im0 ad s.2 o Q -> Code.rounds P body Q n a w := by
     intro n
     induction n with
     | zero => intro s g o ad a w h; simp [Km] at h
     | succ n ihn =>
       intro s g o ad a w h ht hR hA
       simp only [Km] at h
       split at h
       ·rename_i r hr
        rw [rounds_succ]
        obtain ⟨t1, t2⟩ := FD (K := Code.rounds P body Q n) h ht hA fun s1 g2 o2 ad' a' w' h2 ht2 hR' hA' => ihn s1 g2 o2 ad' a' w' h2 ht2 hR' hA'
        exact ih _ s r.1 r.2 ad a w _ (fun p le hp body hb => hL (false :: p) le hp body hb) hr t1 hR t2
       ·cases h
    exact key N s g o ad a w h ht hR hA
 | exit id =>
   intro L s g o ad a w Q hL h ht hR hA
   simp only [AZ, oJ, pJ] at h
   obtain ⟨rfl, rfl⟩ := h
   exact wp_exit (hA s ad a w (by simp [lk, DT.eval]) hR (Ext.refl _ _))
 | ret =>
   intro L s g o ad a w Q hL h ht hR hA
   simp only [AZ, oJ, pJ] at h
   obtain ⟨rfl, rfl⟩ := h
   exact wp_ret (hA s ad a w (by simp [lk, DT.eval]) hR (Ext.refl _ _))
 | _ => intro L s g o ad a w Q hL h; simp [AZ] at h
def resM (a : Act) : ResultVar -> Sem Value
 | .tmp t => pure (a.tmps.getD t undef)
 | .cell t ty => do loadVar ty (<- asAddr (a.tmps.getD t undef))
theorem L9 {F : Fam} (hR : RelS F ρ w0 M0 Im0 ad (tm, m) a w) : ∀ (rs : List ResultVar) (q : E × List SV), resS P (tm, m) rs = some q -> q.1.tt F ρ = true ->
 (rs.mapM (resM a)).run P w = .ok (SV.concL F ρ ad q.2) w /\ SV.okL (al m) q.2
 | [], q, h, ht => by simp only [resS, oJ] at h; subst h; exact ⟨rfl, trivial⟩
 | .tmp t :: r, q, h, ht => by
   simp only [resS] at h
   split at h
   ·rename_i v l' h1 h2
    simp only [oJ] at h; subst h
    obtain ⟨i1, i2⟩ := Ca hR.1.envV (cs := []) rfl h1
    obtain ⟨j1, j2⟩ := L9 hR r l' h2 ht
    have i1' : a.tmps.getD t undef = v.conc F ρ ad := i1
    refine ⟨?_, i2, j2⟩
    simp only [List.mapM_cons, Sem.run_bind, Sem.run_pure, Result.andThen_ok, resM, j1, i1', SV.concL]
   ·cases h
 | .cell t ty :: r, q, h, ht => by
   simp only [resS] at h
   split at h
   ·rename_i n off ag sz h1 h2 h3
    split at h
    ·rename_i g ty' cs h4
     split at h
     ·rename_i v l' h5 h6
      simp only [oJ] at h; subst h
      obtain ⟨t1, t2⟩ := AU ht
      obtain ⟨i1, i2⟩ := Ca hR.1.envV (cs := []) rfl h1
      obtain ⟨j1, j2⟩ := L9 hR r l' h6 t2
      obtain ⟨_, Im, _, _, hI⟩ := hR.2
      obtain ⟨b1, b2⟩ := B6 h4
      have hh : w.heap[(ad n).blk]? = some (.cells (SV.concL F ρ ad cs).toArray ty' (0, 0)) := (hI.ent n g _ b1 t1).1
      have hcell : ∀ j u, (SV.concL F ρ ad cs)[j]? = some u -> w.cell? ⟨(ad n).blk, 0 + j, none⟩ = some u := fun j u hu => by
       rw [Nat.zero_add, Bj hh]; simpa using hu
      obtain ⟨k1, k2⟩ := FN (P := P) hcell h5
      rw [Nat.zero_add] at k1
      have i1' : a.tmps.getD t undef = .pointer (some ⟨(ad n).blk, off, none⟩) := i1
      refine ⟨?_, k2 _ (hI.ok n g _ b1), j2⟩
      have hl := Eo (P := P) (w := w) (b := (ad n).blk) (off := off) h2 h3
      rw [k1] at hl
      simp only [Instr.loadAt, Instr.sureAddr, Sem.run_bind, Sem.run_pure, Result.andThen_ok] at hl
      have hlv : (loadVar ty ⟨(ad n).blk, off, none⟩).run P w = .ok (v.conc F ρ ad) w := by
       cases hx : (loadVar ty ⟨(ad n).blk, off, none⟩).run P w with
       | ok x w' =>
         rw [hx] at hl
         simp only [Result.andThen_ok, Result.ok.injEq, Next.value.injEq] at hl
         rw [hl.1, hl.2]
       | halt x w' => rw [hx] at hl; cases hl
      have ha : asAddr (.pointer (some ⟨(ad n).blk, off, none⟩)) = (pure ⟨(ad n).blk, off, none⟩ : Sem Addr) := rfl
      simp only [List.mapM_cons, Sem.run_bind, Sem.run_pure, Result.andThen_ok, resM, j1, i1', SV.concL, ha, hlv]
     ·cases h
    ·cases h
   ·cases h
theorem Re {F : Fam} (hR : RelS F ρ w0 M0 Im0 ad (tm, m) a w) {fn : Func} {g : E} {v : SV} {m' : Mem} (h : Qa P fn (tm, m) = some (g, v, m')) (ht : g.tt F ρ = true) :
 m' = m /\ (results fn a.tmps).run P w = .ok (v.conc F ρ ad) w /\ v.ok (al m) := by
 unfold Qa at h
 obtain ⟨q, h1, h2⟩ := Option.map_eq_some_iff.1 h
 obtain ⟨gq, l⟩ := q
 simp only [pJ] at h2
 obtain ⟨rfl, rfl, rfl⟩ := h2
 obtain ⟨j1, j2⟩ := L9 hR fn.results.toList _ h1 ht
 simp only at j1 j2
 have htu : (Pf l).conc F ρ ad = if hs : (SV.concL F ρ ad l).toArray.size = 1 then (SV.concL F ρ ad l).toArray[0] else .tuple (SV.concL F ρ ad l).toArray := by
  unfold Pf
  split
  ·simp [SV.concL]
  ·rename_i hne
   rw [dif_neg]
   ·rfl
   ·intro hs
    rw [Ae, List.size_toArray, List.length_map] at hs
    obtain ⟨v, hv⟩ := List.length_eq_one_iff.1 hs
    exact hne v hv
 refine ⟨rfl, ?_, ?_⟩
 ·rw [htu]
  have hres : results fn a.tmps = (do let vs <- fn.results.mapM (resM a); pure (if h : vs.size = 1 then vs[0] else .tuple vs)) := by
   unfold results
   congr 2
  rw [hres, Array.mapM_eq_mapM_toList]
  simp only [Sem.run_bind, Sem.run_map, Sem.run_pure]
  rw [j1]
  rfl
 ·unfold Pf
  split
  ·exact j2.1
  ·simp only [SV.ok]; exact j2
theorem Kn : ∀ {xs : List (Lab × St)}, Il xs = true -> ∀ l q, lk l xs = some q -> l = .nrm \/ l = .ret
 | [], _, l, q, h => by simp [lk] at h
 | (k, s) :: r, h, l, q, hq => by
   simp only [Il, Bool.and_eq_true, Bool.or_eq_true, decide_eq_true_eq] at h
   simp only [lk] at hq
   split at hq
   ·rename_i hk; subst hk; exact h.1
   ·exact Kn h.2 l q hq
theorem Wy {F : Fam} {args : List SV} {n : Nat} (hok : SV.okL (al m) args) : RelT F ρ ad m (tm0 n args) { tmps := (SV.concL F ρ ad args).toArray ++ Array.replicate (n - (SV.concL F ρ ad args).toArray.size) undef, defers := [] } := by
 refine ⟨rfl, by simp [Ae, tm0], fun i u hu => ?_⟩
 simp only [Tm.at, List.getD, tm0] at hu
 by_cases hi : i < args.length
 ·rw [List.getElem?_append_left (by simpa using hi)] at hu
  simp only [List.getElem?_map, List.getElem?_eq_getElem hi, Option.map_some, Option.getD_some, oJ] at hu
  subst hu
  refine ⟨?_, Em hok (List.getElem?_eq_getElem hi)⟩
  simp only [Ae, Array.getElem?_append, List.size_toArray, List.length_map, hi, if_true]
  simp [hi]
 ·rw [List.getElem?_append_right (by simpa using hi), List.getElem?_replicate] at hu
  split at hu
  ·rename_i hlt
   simp only [Option.getD_some, oJ] at hu
   subst hu
   refine ⟨?_, trivial⟩
   simp only [List.length_map] at hlt
   simp only [Ae, List.size_toArray, List.length_map, Array.getElem?_append]
   rw [if_neg hi]
   simp [Array.getElem?_replicate, hlt, SV.conc]
  ·simp at hu
theorem Sm {F : Fam} {o : Out} {s : St} (h : Sl m o = some s) {q : St} (hq : lk (o.1.eval F ρ) o.2 = some q) : (o.1.eval F ρ = .nrm \/ o.1.eval F ρ = .ret) /\ (∀ ad a w, RelS F ρ w0 M0 Im0 ad q a w -> RelS F ρ w0 M0 Im0 ad s a w) /\ ∀ k, al q.2 k -> al s.2 k := by
 unfold Sl at h
 cases hor : Il o.2
 ·rw [hor] at h; cases h
 ·rw [hor] at h
  simp only [cond_true] at h
  have hlab := Kn hor _ _ hq
  refine ⟨hlab, ?_⟩
  split at h
  ·rename_i s' h1 h2
   simp only [oJ] at h; subst h
   rcases hlab with hl | hl
   ·rw [hl, h2] at hq; cases hq
   ·rw [hl, h1] at hq
    simp only [oJ] at hq; subst hq
    exact ⟨fun _ _ _ h => h, fun _ h => h⟩
  ·rename_i s' h1 h2
   simp only [oJ] at h; subst h
   rcases hlab with hl | hl
   ·rw [hl, h2] at hq
    simp only [oJ] at hq; subst hq
    exact ⟨fun _ _ _ h => h, fun _ h => h⟩
   ·rw [hl, h1] at hq; cases hq
  ·rename_i s1 s2 h1 h2
   obtain ⟨k1, k2, k3⟩ := C0 (F := F) (ρ := ρ) (w0 := w0) (M0 := M0) (Im0 := Im0) h
   rcases hlab with hl | hl
   ·rw [hl, h2] at hq
    simp only [oJ] at hq; subst hq
    exact ⟨fun ad a w hR => k3 ad a w (DT.is_false (by rw [hl]; exact fun e => by cases e)) hR, fun k hk => k1 k (Or.inr hk)⟩
   ·rw [hl, h1] at hq
    simp only [oJ] at hq; subst hq
    exact ⟨fun ad a w hR => k2 ad a w (DT.is_true hl) hR, fun k hk => k1 k (Or.inl hk)⟩
  ·cases h
def LTOK (P : Program) (G : Glob) (l : Tabs) (LT : Nat -> Cn) : Prop := ∀ f fn c, P.funcs[f]? = some fn -> fn.body = some c -> G7 P G l (LT f) c
theorem FF (hm : P.follows .mixedOrders = true) (hS : Dy P G l T) (hG : GOK G Im0 w0) {LT : Nat -> Cn} (hLT : LTOK P G l LT) {N : Nat} : ∀ n, EI P l ρ w0 M0 Im0 (evFn P G T LT N n)
 | 0 => fun f args m ob v m' h => by simp [evFn] at h
 | n + 1 => fun f args m ob v m' h ht ad w hM hok => by
   simp only [evFn] at h
   split at h
   ·rename_i fn hf
    split at h
    ·rename_i c hc
     split at h
     ·rename_i r hr
      split at h
      ·rename_i s hs
       split at h
       ·rename_i q hq
        obtain ⟨gq, vq, mq⟩ := q
        simp only [oJ, pJ] at h
        obtain ⟨rfl, rfl, rfl⟩ := h
        obtain ⟨t1, t2⟩ := AU ht
        refine calls_of_wp hf hc ?_
        refine FE hm hS hG (FF hm hS hG hLT n) c (LT f) _ r.1 r.2 ad _ w _ (hLT f fn c hf hc) hr t1 ⟨Wy hok, hM⟩ ?_
        intro q0 ad' a' w' hq0 hR' hx
        obtain ⟨e1, e2, e3⟩ := Sm (w0 := w0) (M0 := M0) (Im0 := Im0) hs hq0
        have hRs := e2 ad' a' w' hR'
        obtain ⟨f1, f2, f3⟩ := Re (P := P) (tm := s.1) (m := s.2) hRs (fn := fn) hq t2
        subst f1
        have hb : a'.defers = [] /\ ∃ u, (results fn a'.tmps).run P w' = .ok u w' /\ (fun e w' => ∃ ad', e = Ending.returned (vq.conc l.F ρ ad') /\ Rel l.F ρ w0 M0 Im0 ad' s.2 w' /\ Ext ad ad' m s.2 /\ vq.ok (al s.2)) (.returned u) w' :=
         ⟨hRs.1.defers, _, f2, ad', rfl, hRs.2, ⟨hx.same, fun k hk => e3 k (hx.keep k hk)⟩, f3⟩
        rcases e1 with hl | hl <;> rw [hl] <;> exact hb
       ·cases h
      ·cases h
     ·cases h
    ·cases h
   ·cases h
end
def Gi (l : Ents) (n : Nat) : Mem := (List.range n).map fun j => (l.find? fun x => x.1 == j).map (·.2)
def start (e : Ent) (k : Nat) : Mem := Gi e.pgen.2 e.nn ++ List.replicate k (some (mkB true, .dead))
def Ez (e : Ent) : Bool := (Sh.refsL e.ps).all fun j => decide (j < e.nn)
def Ko (m : Mem) : List Ob -> Option (E × List SV)
 | [] => some (mkB true, [])
 | o :: r => match m.at o.j with
   | some (g, b) => match unO b with
     | some (ty', tl', vs) => if ty' = o.ty /\ tl' = o.tl /\ vs.length = o.cs.length then (Ko m r).map fun q => (andB g q.1, vs ++ q.2) else none
     | none => none
   | none => none
def FU : Blk -> Blk -> Bool
 | .cells ty cs, .cells ty' cs' => decide (ty = ty') && SV.sameL cs cs'
 | .lst ty row own le c, .lst ty' row' own' le' c' => decide (ty = ty') && decide (row = row') && decide (own = own') && le.same le' && c.same c'
 | .mp ks vs kag vag c, .mp ks' vs' kag' vag' c' => decide (ks = ks') && decide (vs = vs') && decide (kag = kag') && decide (vag = vag') && c.same c'
 | .seg ty cs ks c, .seg ty' cs' ks' c' => decide (ty = ty') && decide (ks = ks') && SV.sameL cs cs' && c.same c'
 | _, _ => false
def Lc (m : Mem) : Ents -> Option E
 | [] => some (mkB true)
 | x :: r => match m.at x.1 with
   | some (g, b) => if FU b x.2.2 = true then (Lc m r).map fun q => andB (impB x.2.1 g) q else none
   | none => none
def accN (n : Nat) : List Src := (List.range n).map Src.nm
def Io (off str : Nat) : SV -> SV
 | .ptr n o => if 0 < str /\ off <= o /\ (o - off) % str = 0 /\ (o - off) / str <= 1000000 then .pi n off str (.lit (.i .i64) ((o - off) / str : Nat)) else .ptr n o
 | .ite p a b => match Io off str a, Io off str b with
   | .pi n o s e, .pi n' o' s' e' => if n' = n /\ o' = o /\ s' = s /\ p.kind = .b /\ e.kind = .i .i64 /\ e'.kind = .i .i64 then .pi n o s (mkIte p e e') else .ite p a b
   | _, _ => .ite p a b
 | v => v
mutual
def fitV : Sh -> SV -> E × SV
 | .lt k n, .sc e => M3 k n e
 | .nul c, .ite p a b => Kp c p a b
 | .obj .., v => BB v
 | .seg .., v => BB v
 | .ref _, v => BB v
 | .pin _ off str, v => (mkB true, Io off str v)
 | .tup l, .tup vs => ((fitL l vs).1, .tup (fitL l vs).2)
 | .agg l, .agg vs => ((fitL l vs).1, .agg (fitL l vs).2)
 | _, v => (mkB true, v)
def fitL : List Sh -> List SV -> E × List SV
 | s :: l, v :: vs => (mkAnd (fitV s v).1 (fitL l vs).1, (fitV s v).2 :: (fitL l vs).2)
 | _, vs => (mkB true, vs)
def M3 (k : K) (n : Int) (e : E) : E × SV :=
 match e.lit? with
 | some _ => (mkB true, .sc e)
 | none => if e.kind = k then
  match k with
  | .b => (bif i2b n then e else Am e, .sc (.lit .b n))
  | .i _ => (mkCmp .eql e (.lit k n), .sc (.lit k n))
  | .x => (mkB true, .sc e)
   else (mkB true, .sc e)
def Kp (c : CV) (p : E) (a b : SV) : E × SV :=
 if p.kind = .b then
  match a, b with
  | .nilp c', _ => if c' = c then (p, .nilp c) else (mkB true, .ite p a b)
  | _, .nilp c' => if c' = c then (Am p, .nilp c) else (mkB true, .ite p a b)
  | _, _ => (mkB true, .ite p a b)
 else (mkB true, .ite p a b)
end
mutual
def svN : SV -> List Nat
 | .sv n _ _ _ _ => [n]
 | .fn _ cs | .agg cs | .tup cs => svNL cs
 | .gd _ v => svN v
 | .ite _ a b => svN a ++ svN b
 | _ => []
def svNL : List SV -> List Nat
 | [] => []
 | v :: r => svN v ++ svNL r
end
def VR (m : Mem) (v : SV) : List Nat := svN v ++ m.flatMap fun x => match x with
 | some (_, b) => svNL b.cs
 | none => []
mutual
def shNV (m : Mem) : Sh -> SV -> List Nat
 | .lst _ _ false, v => namesV v
 | .agg l, .agg vs => shNL m l vs
 | .tup l, .tup vs => shNL m l vs
 | .obj _ cs, .ptr n 0 => match m.at n with
   | some (_, .cells _ vs) => shNL m cs vs
   | _ => []
 | _, _ => []
def shNL (m : Mem) : List Sh -> List SV -> List Nat
 | s :: l, v :: vs => shNV m s v ++ shNL m l vs
 | _, _ => []
end
def VS (e : Ent) (m : Mem) (v : SV) : List Nat := match Ko m e.os with
 | some (_, V) => shNL m e.outL (V ++ [v])
 | none => []
def Ip (e : Ent) (m : Mem) (v : SV) : Option (E × List E) :=
 match Ko m e.os, Lc m (R5 e.kp e.pgen.2) with
 | some (g1, V), some g2 => match Sh.getL m e.outL (accN e.nn) (fitL e.outL (V ++ [v])).2 with
   | some (es, srcs, g3) => if (Gp ((mutJ e.oents).flatMap (srcOf (accN e.nn ++ srcs))) && (e.os.all fun o => decide (o.j < e.nn)) && Ez e) = true /\ ((fitL e.outL (V ++ [v])).2.map isXv = (V ++ [v]).map isXv) then some (andB g1 (andB g2 (andB (fitL e.outL (V ++ [v])).1 g3)), es) else none
   | none => none
 | _, _ => none
section
variable {P : Program} {ρ : Nat -> Int} {G : Glob} {T : Tab} {l : Tabs} {w0 w w' : World} {M0 Im0 Im : Nat -> Prop} {ad ad' hs : Nat -> Hd} {m m2 m' : Mem} {tm : Tm} {en : Env} {a : Act}
theorem Sn {F : Fam} {ad : Nat -> Hd} (k : K) (n : Int) (e : E) : (M3 k n e).1.kind = .b /\ ((M3 k n e).1.tt F ρ = true -> (SV.sc e).conc F ρ ad = (M3 k n e).2.conc F ρ ad) := by
 unfold M3
 split
 ·exact ⟨Ah _, fun _ => rfl⟩
 ·split
  ·rename_i hk
   split
   ·cases hn : i2b n
    ·simp only [cond_false]
     refine ⟨(Ag e F ρ).2, fun h => ?_⟩
     rw [(Ag e F ρ).1] at h
     have he : e.tt F ρ = false := by simpa using h
     simp only [SV.conc, E.val_b hk, E.val_b (show (E.lit .b n).kind = .b from rfl), he]
     congr 1
     simp only [E.tt, E.den, K.norm]
     simp only [i2b, Bool.not_eq_false', beq_iff_eq] at hn
     simp [hn, i2b]
    ·simp only [cond_true]
     refine ⟨hk, fun h => ?_⟩
     simp only [SV.conc, E.val_b hk, E.val_b (show (E.lit .b n).kind = .b from rfl), h]
     congr 1
     simp only [E.tt, E.den, K.norm]
     simp only [i2b, Bool.not_eq_true', beq_eq_false_iff_ne] at hn
     simp [hn, i2b]
   ·rename_i k'
    have hc := Ak .eql e (.lit (.i k') n) F ρ
    refine ⟨hc.2, fun h => ?_⟩
    rw [hc.1] at h
    have h' : e.den F ρ = (E.lit (.i k') n).den F ρ := by simpa [cmpB] using h
    simp only [SV.conc, E.val_i hk, E.val_i (show (E.lit (.i k') n).kind = .i k' from rfl), h']
   ·exact ⟨Ah _, fun _ => rfl⟩
  ·exact ⟨Ah _, fun _ => rfl⟩
theorem Rf {F : Fam} {ad : Nat -> Hd} (c : CV) (p : E) (a b : SV) : (Kp c p a b).1.kind = .b /\ ((Kp c p a b).1.tt F ρ = true -> (SV.ite p a b).conc F ρ ad = (Kp c p a b).2.conc F ρ ad) := by
 unfold Kp
 split
 ·rename_i hp
  split
  ·split
   ·rename_i hc
    subst hc
    exact ⟨hp, fun h => by simp only [SV.conc, h, cond_true]⟩
   ·exact ⟨Ah _, fun _ => rfl⟩
  ·split
   ·rename_i hc
    subst hc
    refine ⟨(Ag p F ρ).2, fun h => ?_⟩
    rw [(Ag p F ρ).1] at h
    have hf : p.tt F ρ = false := by simpa using h
    simp only [SV.conc, hf, cond_false]
   ·exact ⟨Ah _, fun _ => rfl⟩
  ·exact ⟨Ah _, fun _ => rfl⟩
 ·exact ⟨Ah _, fun _ => rfl⟩
theorem Ib {F : Fam} {ad : Nat -> Hd} (off str : Nat) : ∀ v : SV, v.conc F ρ ad = (Io off str v).conc F ρ ad
 | .ptr n o => by
   simp only [Io]
   split
   ·rename_i h
    obtain ⟨h1, h2, h3, h4⟩ := h
    simp only [SV.conc]
    have hd : ((E.lit (.i .i64) ((o - off) / str : Nat)).den F ρ).toNat = (o - off) / str := by
     simp only [E.den, K.norm]
     generalize (o - off) / str = q at h4 ⊢
     rw [IntKind.wrap_i64]; omega
    rw [hd, Nat.div_mul_cancel (Nat.dvd_of_mod_eq_zero h3), Nat.add_sub_cancel' h2]
   ·rfl
 | .ite p a b => by
   have ia := Ib (F := F) (ad := ad) off str a
   have ib := Ib (F := F) (ad := ad) off str b
   simp only [Io]
   split
   ·rename_i n o s e n' o' s' e' ha hb
    split
    ·rename_i h
     obtain ⟨rfl, rfl, rfl, hp, he, he'⟩ := h
     rw [ha] at ia
     rw [hb] at ib
     simp only [SV.conc, ia, ib, F3 hp he he']
     cases p.tt F ρ <;> rfl
    ·rfl
   ·rfl
 | .sc _ | .pi .. | .sl .. | .ls .. | .sv .. | .pe .. | .mp _ | .oq _ | .fn .. | .agg _ | .tup _ | .gd .. | .und | .nilp _ | .gl .. => rfl
mutual
theorem Uv {F : Fam} {ad : Nat -> Hd} : ∀ (s : Sh) (v : SV), (fitV s v).1.kind = .b /\ ((fitV s v).1.tt F ρ = true -> v.conc F ρ ad = (fitV s v).2.conc F ρ ad)
 | .lt k n, v => by
   cases v <;> first | exact ⟨Ah _, fun _ => rfl⟩ | (simp only [fitV]; exact Sn k n _)
 | .nul c, v => by
   cases v <;> first | exact ⟨Ah _, fun _ => rfl⟩ | (simp only [fitV]; exact Rf c _ _ _)
 | .obj ty cs, v => by simp only [fitV]; exact ⟨BO v, fun h => (B1 (p := fun _ => True) v).1 h⟩
 | .seg ty ks cs, v => by simp only [fitV]; exact ⟨BO v, fun h => (B1 (p := fun _ => True) v).1 h⟩
 | .lsn ty row, v => ⟨Ah _, fun _ => rfl⟩
 | .ref j, v => by simp only [fitV]; exact ⟨BO v, fun h => (B1 (p := fun _ => True) v).1 h⟩
 | .tup l, v => by
   cases v <;> first | exact ⟨Ah _, fun _ => rfl⟩ | skip
   rename_i vs
   obtain ⟨i1, i2⟩ := HQ (F := F) (ad := ad) l vs
   simp only [fitV]
   exact ⟨i1, fun h => by simp only [SV.conc, i2 h]⟩
 | .agg l, v => by
   cases v <;> first | exact ⟨Ah _, fun _ => rfl⟩ | skip
   rename_i vs
   obtain ⟨i1, i2⟩ := HQ (F := F) (ad := ad) l vs
   simp only [fitV]
   exact ⟨i1, fun h => by simp only [SV.conc, i2 h]⟩
 | .pin j off str, v => by simp only [fitV]; exact ⟨Ah _, fun _ => Ib off str v⟩
 | .sc _, v => by cases v <;> exact ⟨Ah _, fun _ => rfl⟩
 | .lst .., v => by cases v <;> exact ⟨Ah _, fun _ => rfl⟩
 | .fnc .., v => by cases v <;> exact ⟨Ah _, fun _ => rfl⟩
 | .opt _, v => by cases v <;> exact ⟨Ah _, fun _ => rfl⟩
 | .und, v => by cases v <;> exact ⟨Ah _, fun _ => rfl⟩
 | .mp .., v => by cases v <;> exact ⟨Ah _, fun _ => rfl⟩
theorem HQ {F : Fam} {ad : Nat -> Hd} : ∀ (l : List Sh) (vs : List SV), (fitL l vs).1.kind = .b /\ ((fitL l vs).1.tt F ρ = true -> SV.concL F ρ ad vs = SV.concL F ρ ad (fitL l vs).2)
 | [], vs => ⟨Ah _, fun _ => rfl⟩
 | s :: l, [] => ⟨Ah _, fun _ => rfl⟩
 | s :: l, v :: vs => by
   obtain ⟨i1, i2⟩ := Uv (F := F) (ad := ad) s v
   obtain ⟨j1, j2⟩ := HQ (F := F) (ad := ad) l vs
   have h := Ab (fitV s v).1 (fitL l vs).1 i1 j1 F ρ
   simp only [fitL]
   refine ⟨h.2, fun ht => ?_⟩
   rw [h.1, Bool.and_eq_true] at ht
   simp only [SV.concL, i2 ht.1, j2 ht.2]
end
theorem Qb (l : Ents) (n j : Nat) : (Gi l n).at j = if j < n then (l.find? fun x => x.1 == j).map (·.2) else none := by
 unfold Gi Mem.at
 by_cases h : j < n <;> simp [List.getD, h]
theorem Uw {l : Ents} {n j : Nat} {g : E} {b : Blk} (h : (Gi l n).at j = some (g, b)) : (j, g, b) ∈ l /\ j < n := by
 rw [Qb] at h
 split at h
 ·rename_i hj
  obtain ⟨x, hx, he⟩ := Option.map_eq_some_iff.1 h
  have h1 := List.mem_of_find?_eq_some hx
  have h2 := List.find?_some hx
  have h3 : x.1 = j := by simpa using h2
  obtain ⟨a, c⟩ := x
  simp only at h3 he
  subst h3 he
  exact ⟨h1, hj⟩
 ·cases h
theorem Ux (e : Ent) (k : Nat) : (start e k).length = e.nn + k := by simp [start, Gi]
theorem Jv {e : Ent} {k j : Nat} {g : E} {b : Blk} (h : (start e k).at j = some (g, b)) : ((j, g, b) ∈ e.pgen.2 /\ j < e.nn) \/ b = .dead := by
 have hl : (Gi e.pgen.2 e.nn).length = e.nn := by simp [Gi]
 by_cases hj : j < e.nn
 ·left
  refine Uw ?_
  rw [<- h]
  simp only [start, Mem.at, List.getD]
  rw [List.getElem?_append_left (by omega)]
 ·right
  simp only [start, Mem.at, List.getD] at h
  rw [List.getElem?_append_right (by omega), List.getElem?_replicate] at h
  split at h
  ·simp only [Option.getD_some, oJ, pJ] at h; exact h.2.symm
  ·simp at h
theorem D9 (e : Ent) (k j : Nat) : al (start e k) j ↔ j < e.nn + k := by
 have hl : (Gi e.pgen.2 e.nn).length = e.nn := by simp [Gi]
 constructor
 ·intro h
  obtain ⟨x, hx⟩ := Option.isSome_iff_exists.1 h
  have := Mem.at_lt hx
  rw [Ux] at this; exact this
 ·intro h
  unfold al
  by_cases hj : j < e.nn
  ·obtain ⟨x, x1, x2⟩ := D4 (ev := varE e.pks) (nv := id) e.ps (mkB true) 0 0 j (Nat.zero_le _) (by rw [Nat.zero_add]; exact hj)
   have h1 : (start e k).at j = (Gi e.pgen.2 e.nn).at j := by
    simp only [start, Mem.at, List.getD]
    rw [List.getElem?_append_left (by omega)]
   rw [h1, Qb, if_pos hj, Option.isSome_map, List.find?_isSome]
   exact ⟨x, x1, by simp [x2]⟩
  ·simp only [start, Mem.at, List.getD]
   rw [List.getElem?_append_right (by omega), List.getElem?_replicate, if_pos (by omega)]
   rfl
theorem RB (l : Tabs) {e : Ent} (hr : Ez e = true) {xs : List Int} (zs : List Int) {ρ : Nat -> Int} (hρ : ∀ i, i < e.np -> ρ i = env xs i) (hfit : fits e.pks xs) (had : ∀ j, j < e.nn -> ad j = hs j) :
 SV.concL l.F ρ ad e.pgen.1 = SV.concL F0 (env (xs ++ zs)) hs e.pgen.1 /\ ∀ x ∈ e.pgen.2, SameE l.F F0 ρ (env (xs ++ zs)) ad hs id id x x := by
 have hl := Ao hfit
 have tr : Tr e.nn l.F F0 ρ (env (xs ++ zs)) ad hs (varE e.pks) (varE e.pks) id id := by
  refine ⟨l.BI, Et, fun i => ?_, fun i => rfl, fun j hj => had j hj⟩
  unfold varE
  cases hk : e.pks[i]? with
  | none => simp
  | some k =>
    have hi := (List.getElem?_eq_some_iff.1 hk).1
    simp only [E.den, hρ i hi, env, Jg, hl, hi, if_true]
 obtain ⟨t1, t2⟩ := Eu tr e.ps (mkB true) (mkB true) 0 0 (Ah _) (Ah _) (by simp) (fun i k hi => by rw [Nat.zero_add]; exact Gq _ _ _ hi) (by rw [Nat.zero_add]; exact Nat.le_refl _) (fun j hj => by have := List.all_eq_true.1 hr j hj; simpa using this)
 exact ⟨t1, SameL.self t2⟩
theorem HR (l : Tabs) {e : Ent} (k : Nat) (hr : Ez e = true) {xs : List Int} {ρ : Nat -> Int} (hρ : ∀ i, i < e.np -> ρ i = env xs i) (hfit : fits e.pks xs) (hM : ∀ b, M0 b -> ¬ Im0 b /\ b < w.heap.size) (hE : RelE F0 (env xs) w M0 Im0 hs e.pgen.2 w) (had : ∀ j, j < e.nn -> ad j = hs j) :
 Rel l.F ρ w M0 Im0 ad (start e k) w /\ SV.concL l.F ρ ad e.pgen.1 = SV.concL F0 (env xs) hs e.pgen.1 /\ SV.okL (al (start e k)) e.pgen.1 := by
 obtain ⟨t1, t2⟩ := RB l hr [] hρ hfit had
 rw [List.append_nil] at t1 t2
 have hal : ∀ j, j < e.nn -> al (start e k) j := fun j hj => (D9 e k j).2 (by omega)
 obtain ⟨g1, g2⟩ := CZ (ev := varE e.pks) (nv := id) (p := al (start e k)) e.ps (mkB true) 0 0 (fun j _ hj => hal j (by rw [Nat.zero_add] at hj; exact hj)) (fun j hj => hal j (by have := List.all_eq_true.1 hr j hj; simpa using this))
 refine ⟨⟨hM, Im0, fun b hb => hb, fun b hb => Or.inl hb, ⟨fun n g x hn hg => ?_, fun n g x hn => ?_, fun n k' g x g' y b h1 h2 h3 h4 h5 h6 => ?_, hE.im, hE.fr⟩⟩, t1, g1⟩
 ·rcases Jv hn with ⟨h, _⟩ | rfl
  ·have s := t2 _ h
   obtain ⟨b1, b2⟩ := hE.ent _ h (by rw [<- s.gd]; exact hg)
   refine ⟨(s.ok Im0 w).2 b1, fun b hb => b2 b ?_⟩
   rw [<- hb]; exact s.mu.symm
  ·exact ⟨trivial, fun b hb => by simp [mutB] at hb⟩
 ·rcases Jv hn with ⟨h, _⟩ | h
  ·exact (g2 _ h).2
  ·rw [h]; trivial
 ·rcases Jv h1 with ⟨a1, _⟩ | rfl
  ·rcases Jv h3 with ⟨a2, _⟩ | rfl
   ·have s1 := t2 _ a1
    have s2 := t2 _ a2
    exact hE.inj _ a1 _ a2 (by rw [<- s1.gd]; exact h2) (by rw [<- s2.gd]; exact h4) b (by rw [<- h5]; exact s1.mu.symm) (by rw [<- h6]; exact s2.mu.symm)
   ·simp [mutB] at h6
  ·simp [mutB] at h5
theorem LN {F : Fam} {m : Mem} : ∀ {os : List Ob} {g : E} {V : List SV}, Ko m os = some (g, V) -> g.tt F ρ = true -> ∀ (vals : List SV), ∀ x ∈ objE os (V ++ vals), x.1 ∈ os.map (·.j) /\ ∃ g' b, m.at x.1 = some (g', b) /\ g'.tt F ρ = true /\ x.2.2 = b.nrm
 | [], g, V, h, ht, vals, x, hx => by cases hx
 | o :: r, g, V, h, ht, vals, x, hx => by
   simp only [Ko] at h
   split at h
   ·rename_i g1 b hm
    split at h
    ·rename_i ty' tl' vs hu
     split at h
     ·rename_i hc
      obtain ⟨rfl, rfl, hlen⟩ := hc
      obtain ⟨q, hq, he⟩ := Option.map_eq_some_iff.1 h
      simp only [pJ] at he
      obtain ⟨rfl, rfl⟩ := he
      obtain ⟨t1, t2⟩ := AU ht
      simp only [objE, List.append_assoc] at hx
      rw [List.take_left' hlen, List.drop_left' hlen] at hx
      rcases List.mem_cons.1 hx with rfl | hx
      ·exact ⟨by simp, g1, b, hm, t1, Wv hu⟩
      ·obtain ⟨a, b⟩ := LN (g := q.1) (V := q.2) hq t2 vals x hx
       exact ⟨List.mem_cons_of_mem _ a, b⟩
     ·cases h
    ·cases h
   ·cases h
theorem Uy {os : List Ob} {vs : List SV} : ∀ z ∈ objE os vs, z.2.1 = mkB true := by
 induction os generalizing vs with
 | nil => intro z hz; cases hz
 | cons o r ih =>
   intro z hz
   simp only [objE] at hz
   rcases List.mem_cons.1 hz with rfl | hz
   ·rfl
   ·exact ih z hz
theorem So : ∀ {a b : Blk}, FU a b = true -> a = b
 | .cells ty cs, b, h => by
   cases b <;> simp only [FU, Bool.false_eq_true, Bool.and_eq_true, decide_eq_true_eq] at h
   obtain ⟨rfl, h2⟩ := h
   rw [SV.sameL_eq _ _ h2]
 | .lst ty row own le c, b, h => by
   cases b <;> simp only [FU, Bool.false_eq_true, Bool.and_eq_true, decide_eq_true_eq] at h
   obtain ⟨⟨⟨⟨rfl, rfl⟩, rfl⟩, h4⟩, h5⟩ := h
   rw [E.same_eq _ _ h4, E.same_eq _ _ h5]
 | .mp ks vs kag vag c, b, h => by
   cases b <;> simp only [FU, Bool.false_eq_true, Bool.and_eq_true, decide_eq_true_eq] at h
   obtain ⟨⟨⟨⟨rfl, rfl⟩, rfl⟩, rfl⟩, h5⟩ := h
   rw [E.same_eq _ _ h5]
 | .seg ty cs ks c, b, h => by
   cases b <;> simp only [FU, Bool.false_eq_true, Bool.and_eq_true, decide_eq_true_eq] at h
   obtain ⟨⟨⟨rfl, rfl⟩, h3⟩, h4⟩ := h
   rw [SV.sameL_eq _ _ h3, E.same_eq _ _ h4]
 | .dead, b, h => by simp [FU] at h
theorem Kq {F : Fam} {m : Mem} : ∀ {l : Ents} {g : E}, Lc m l = some g -> g.tt F ρ = true -> ∀ x ∈ l, x.2.1.tt F ρ = true -> ∃ g', m.at x.1 = some (g', x.2.2) /\ g'.tt F ρ = true
 | [], g, h, ht, x, hx => by cases hx
 | y :: r, g, h, ht, x, hx => by
   simp only [Lc] at h
   split at h
   ·rename_i g1 b hm
    split at h
    ·rename_i hs
     obtain ⟨q, hq, rfl⟩ := Option.map_eq_some_iff.1 h
     obtain ⟨t1, t2⟩ := AU ht
     rcases List.mem_cons.1 hx with rfl | hx
     ·exact fun hg => ⟨g1, by rw [hm, So hs], G6 t1 hg⟩
     ·exact Kq hq t2 x hx
    ·cases h
   ·cases h
theorem EJ {e : Ent} {v : SV} {g : E} {es : List E} (h : Ip e m' v = some (g, es)) : es.map E.kind = e.oks /\ (∀ x ∈ es, x.kind ≠ .x -> x.sound = true) /\
 ∀ {xs ys : List Int} {ρ : Nat -> Int} {w w' : World} {M0 Im0 : Nat -> Prop} {hs ad' : Nat -> Hd}, (∀ i, i < e.np -> ρ i = env xs i) -> fits e.pks xs -> ys = es.map (E.den l.F ρ) -> g.tt l.F ρ = true -> Rel l.F ρ w M0 Im0 ad' m' w' -> (∀ j, j < e.nn -> ad' j = hs j) ->
   ∃ (hs' : Nat -> Hd) (Im' : Nat -> Prop), (∀ j, j < e.nn -> hs' j = hs j) /\ (∀ b, Im0 b -> Im' b) /\ (∀ b, Im' b -> Im0 b \/ M0 b \/ w.heap.size <= b) /\ v.conc l.F ρ ad' = (B3 e.ogen.1).conc F0 (env (xs ++ ys)) hs' /\ RelE F0 (env (xs ++ ys)) w M0 Im' hs' e.oents w' := by
 unfold Ip at h
 split at h
 ·rename_i g1 V g2 hobj hkept
  split at h
  ·rename_i es' srcs g3 hget
   split at h
   ·rename_i hc
    simp only [oJ, pJ] at h
    obtain ⟨rfl, rfl⟩ := h
    obtain ⟨hc, hfx⟩ := hc
    simp only [Bool.and_eq_true] at hc
    obtain ⟨⟨c1, c2⟩, c3⟩ := hc
    obtain ⟨k1, k2, k3, k4⟩ := Bw e.outL _ _ _ hget
    simp only at k1 k2 k3 k4
    refine ⟨k1, k4, fun {xs ys ρ w w' M0 Im0 hs ad'} hρ hfit hys ht hR had => ?_⟩
    obtain ⟨t1, t23⟩ := AU ht
    obtain ⟨t2, t34⟩ := AU t23
    obtain ⟨tf, t3⟩ := AU t34
    have hfit2 := (HQ (F := l.F) (ρ := ρ) (ad := ad') e.outL (V ++ [v])).2 tf
    obtain ⟨hM, Im, i1, i2, hI⟩ := hR
    have hyfit : fits e.oks ys := by rw [hys]; exact Rw k1 k4
    have hyl : ys.length = e.oks.length := Ao hyfit
    have hxl : xs.length = e.np := Ao hfit
    have hall : fits (e.pks ++ e.oks) (xs ++ ys) := B7 hfit hyfit
    have hS : ∃ S, S = accN e.nn ++ srcs := ⟨_, rfl⟩
    obtain ⟨S, hS⟩ := hS
    have hal : (accN e.nn).length = e.nn := by simp [accN]
    have hSlt : ∀ j, j < e.nn -> S[j]? = some (.nm j) := fun j hj => by
     rw [hS, List.getElem?_append_left (by omega)]
     simp [accN, hj]
    have hev : EvOK l.F ρ (env (xs ++ ys)) (varE (e.pks ++ e.oks)) e.np es' := fun i x hi => by
     have hil := (List.getElem?_eq_some_iff.1 hi).1
     have hkl : e.oks.length = es'.length := by rw [<- hyl, hys]; simp
     refine ⟨?_, ?_⟩
     ·rw [L5 hall, List.length_append, Jg, hxl, show e.pks.length = e.np from rfl, if_pos (by omega), if_neg (by omega), show e.np + i - e.np = i by omega, hys]
      simp [List.getD, hi]
     ·refine Gq _ _ _ ?_
      rw [List.getElem?_append_right (by rw [show e.pks.length = e.np from rfl]; omega), show e.pks.length = e.np from rfl, show e.np + i - e.np = i by omega]
      have : (es'.map E.kind)[i]? = some x.kind := by simp [hi]
      rw [k1] at this; exact this
    obtain ⟨p1, p2⟩ := B8 (F := l.F) (ρ := ρ) (ρ' := env (xs ++ ys)) (w0 := w) (w := w') (M0 := M0) (Im := Im) (ad := ad') (m := m') (ev := varE (e.pks ++ e.oks)) (S := S) (hs := fun j => match S[j]? with | some s => srcHd l.F ρ w' Im ad' m' s | none => default)
     l.BI hI (fun j s hj => by simp only [hj]) e.outL (accN e.nn) _ _ (mkB true) e.np hget (Ah _) (fun j s hj => by rw [Nat.zero_add, hS, List.getElem?_append_left (List.getElem?_eq_some_iff.1 hj).1]; exact hj) (fun j s hj => by rw [hS, List.getElem?_append_right (by omega)]; simpa using hj) hev t3
    generalize hhs : (fun j => match S[j]? with | some s => srcHd l.F ρ w' Im ad' m' s | none => default : Nat -> Hd) = hs' at p1 p2
    rw [hal] at p1 p2
    rw [<- hfit2] at p1
    change SV.concL l.F ρ ad' (V ++ [v]) = SV.concL F0 (env (xs ++ ys)) hs' e.ogen.1 at p1
    change ∀ x ∈ e.ogen.2, _ at p2
    have hisx : (V ++ [v]).map isXv = e.ogen.1.map isXv := hfx.symm.trans <| PV (m := m') (ev := varE (e.pks ++ e.oks)) (nv := id) e.outL (accN e.nn) _ _ (mkB true) e.np e.nn hget fun i k hi => by
     refine Gq _ _ _ ?_
     rw [List.getElem?_append_right (by rw [show e.pks.length = e.np from rfl]; omega), show e.pks.length = e.np from rfl, show e.np + i - e.np = i by omega]
     exact hi
    have hlt : ∀ j, j < e.nn -> hs' j = ad' j := fun j hj => by rw [<- hhs]; simp only [hSlt j hj]; rfl
    obtain ⟨q1, q2⟩ := RB (ad := ad') (hs := hs') l c3 ys hρ hfit fun j hj => (hlt j hj).symm
    have hsrc : ∀ j, j < e.nn -> srcOf S j = [j] := fun j hj => by simp [srcOf, hSlt j hj, Src.ns]
    have ogn : ∀ x ∈ e.ogen.2, e.nn <= x.1 := fun x hx => ((CZ (ev := varE (e.pks ++ e.oks)) (nv := id) (p := fun _ => True) e.outL (mkB true) e.np e.nn (fun _ _ _ => trivial) fun _ _ => trivial).2 x hx).1.1
    have core : ∀ z ∈ e.oents, z.2.1.tt F0 (env (xs ++ ys)) = true -> BlkOK F0 (env (xs ++ ys)) Im hs' z.1 w' z.2.2 /\
     ∀ b, mutB F0 (env (xs ++ ys)) hs' z.1 z.2.2 = some b -> ∃ n ∈ srcOf S z.1, ∃ g y, m'.at n = some (g, y) /\ g.tt l.F ρ = true /\ mutB l.F ρ ad' n y = some b := by
     intro z hz hg
     unfold Ent.oents at hz
     rcases List.mem_append.1 hz with hz | hz
     ·obtain ⟨j, g0, X⟩ := z
      have hg0 : g0 = mkB true := Uy _ hz
      subst hg0
      obtain ⟨ty, tl, vs', us', rfl, u1, u2, u3⟩ := J6 p1.symm hisx.symm j X hz
      obtain ⟨o1, g', b0, o2, o3, o4⟩ := LN (F := l.F) (ρ := ρ) hobj t1 [v] _ u1
      simp only at o1 o2 o4
      have hj : j < e.nn := by
       obtain ⟨o, ho1, ho2⟩ := List.mem_map.1 o1
       have := List.all_eq_true.1 c2 o ho1
       simp only [decide_eq_true_eq] at this
       omega
      have hb0 := (hI.ent j g' _ o2 o3).1
      have hnr := Blk.nrm_same (hb0.lenOK l.BI) ad' j
      have hb := (hnr.2 Im w').2 hb0
      rw [<- o4] at hb
      obtain ⟨s1, s2⟩ := PR (n := j) (j := j) (ty := ty) (tl := tl) Et l.BI u2 u3 (hlt j hj)
      refine ⟨(s2 Im w').2 hb, fun b hb' => ⟨j, by simp [hsrc j hj], g', _, o2, o3, ?_⟩⟩
      rw [<- hnr.1, <- o4, <- s1]; exact hb'
     ·rcases List.mem_append.1 hz with hz | hz
      ·have hz' := (List.mem_filter.1 hz).1
       have s := q2 z hz'
       obtain ⟨g', o1, o2⟩ := Kq (F := l.F) (ρ := ρ) hkept t2 z hz (by rw [s.gd]; exact hg)
       have hj : z.1 < e.nn := by
        have := ((CZ (ev := varE e.pks) (nv := id) (p := fun _ => True) e.ps (mkB true) 0 0 (fun _ _ _ => trivial) fun _ _ => trivial).2 z hz').1.2
        rw [Nat.zero_add] at this; exact this
       refine ⟨(s.ok Im w').1 (hI.ent z.1 g' _ o1 o2).1, fun b hb' => ⟨z.1, by simp [hsrc z.1 hj], g', _, o1, o2, ?_⟩⟩
       rw [<- hb']; exact s.mu
      ·have := p2 z hz hg
       exact ⟨this.ok, this.mu⟩
    refine ⟨hs', Im, fun j hj => (hlt j hj).trans (had j hj), i1, i2, ?_, ⟨fun z hz hg => ⟨(core z hz hg).1, fun b hb => ?_⟩, fun x hx y hy hgx hgy b hbx hby => ?_, hI.im, hI.fr⟩⟩
    ·have := MJ p1
     rw [<- this]
     congr 1
     simp [B3]
    ·obtain ⟨n, _, g', y, a1, a2, a3⟩ := (core z hz hg).2 b hb
     exact (hI.ent n g' y a1 a2).2 b a3
    ·obtain ⟨n, n1, g', y', a1, a2, a3⟩ := (core x hx hgx).2 b hbx
     obtain ⟨n', n1', g'', y'', a1', a2', a3'⟩ := (core y hy hgy).2 b hby
     have := hI.inj n n' g' y' g'' y'' b a1 a2 a1' a2' a3 a3'
     subst this
     rw [<- hS] at c1
     exact Ji c1 x.1 (Ht hx hbx) y.1 (Ht hy hby) n n1 n1'
   ·cases h
  ·cases h
 ·cases h
end
def zAll : List SV -> Bool
 | [] => true
 | .sc (.lit (.i .i64) 0) :: r => zAll r
 | _ => false
def zCnt : List SV -> Nat -> Option Nat
 | [], n => some n
 | .sc (.lit (.i .i64) 0) :: r, n => bif Nat.ble n 100000 then zCnt r (n + 1) else none
 | _, _ => none
theorem Wz {v : SV} {r : List SV} {n : Nat} (hv : v ≠ .sc (.lit (.i .i64) 0)) : zCnt (v :: r) n = none := by
 unfold zCnt
 split
 ·rename_i heq; cases heq
 ·exfalso; simp_all
 ·rfl
theorem OW : ∀ {l : List SV} {n k : Nat}, zCnt l n = some k -> zAll l = true /\ k = n + l.length
 | [], n, k, h => by simp only [zCnt, oJ] at h; exact ⟨rfl, h.symm⟩
 | v :: r, n, k, h => by
   by_cases hv : v = .sc (.lit (.i .i64) 0)
   ·subst hv
    rw [show zCnt (.sc (.lit (.i .i64) 0) :: r) n = bif Nat.ble n 100000 then zCnt r (n + 1) else none from rfl] at h
    cases hb : Nat.ble n 100000 with
    | false => rw [hb] at h; cases h
    | true =>
      rw [hb] at h
      obtain ⟨i1, i2⟩ := OW (l := r) (n := n + 1) h
      exact ⟨by simpa [zAll] using i1, by rw [i2, List.length_cons]; omega⟩
   ·rw [Wz hv] at h; cases h
def segC (ty' h w : Nat) (cs : List SV) : Option Nat -> Blk
 | some k => bif Nat.beq k (k / w * w) && Nat.ble k 100000 then .seg ty' (cs.take h) (List.replicate w (.i .i64)) (.app .x 0 7 (.lit (.i .i64) (k / w : Nat) :: List.replicate w (.lit (.i .i64) 0))) else .cells ty' cs
 | none => .cells ty' cs
def segB (ty h w : Nat) : Blk -> Blk
 | .cells ty' cs => bif Nat.beq ty' ty then segC ty' h w cs (zCnt (cs.drop h) 0) else .cells ty' cs
 | x => x
theorem Jw (ty h w ty' : Nat) (cs : List SV) : segB ty h w (.cells ty' cs) = .cells ty' cs \/ ∃ N, segB ty h w (.cells ty' cs) = .seg ty' (cs.take h) (List.replicate w (.i .i64)) (.app .x 0 7 (.lit (.i .i64) (N : Nat) :: List.replicate w (.lit (.i .i64) 0))) /\ zAll (cs.drop h) = true /\ (cs.drop h).length = N * w /\ N <= 100000 := by
 simp only [segB]
 cases Nat.beq ty' ty with
 | false => exact Or.inl rfl
 | true =>
   cases hz : zCnt (cs.drop h) 0 with
   | none => exact Or.inl rfl
   | some k =>
     cases hb : (Nat.beq k (k / w * w) && Nat.ble k 100000) with
     | false => left; simp only [segC, hb, cond_true, cond_false]
     | true =>
       right
       obtain ⟨i1, i2⟩ := OW hz
       simp only [Bool.and_eq_true] at hb
       have h1 := Nat.eq_of_beq_eq_true hb.1
       have h2 := Nat.le_of_ble_eq_true hb.2
       refine ⟨k / w, by simp only [segC, hb.1, hb.2, Bool.and_self, cond_true], i1, by omega, Nat.le_trans (Nat.div_le_self _ _) h2⟩
def segM (m : Mem) : List (Nat × Nat × Nat) -> Mem
 | [] => m
 | (ty, h, w) :: r => segM (m.map (Option.map fun x => (x.1, segB ty h w x.2))) r
mutual
def Qc : Sh -> List (Nat × Nat × Nat)
 | .seg ty ks cs => [(ty, cs.length, ks.length)]
 | .opt s => Qc s
 | .tup l => RC l
 | _ => []
def RC : List Sh -> List (Nat × Nat × Nat)
 | [] => []
 | s :: r => Qc s ++ RC r
end
section
variable {F : Fam} {ρ : Nat -> Int} {w0 w : World} {M0 Im0 Im : Nat -> Prop} {ad : Nat -> Hd} {m : Mem}
theorem OX : ∀ {l : List SV}, zAll l = true -> SV.concL F ρ ad l = List.replicate l.length (K.val (.i .i64) 0)
 | [], _ => rfl
 | v :: r, h => by
   unfold zAll at h
   split at h
   ·rename_i heq; cases heq
   ·rename_i r' heq
    injection heq with e1 e2
    subst e1 e2
    simp only [SV.concL, OX h, List.length_cons, List.replicate_succ]
    rfl
   ·cases h
theorem Uz (w n : Nat) : flatN (List.replicate w (K.i .i64)) (List.replicate n (List.replicate w 0)) = List.replicate (n * w) (K.val (.i .i64) 0) := by
 have hz : ∀ w, numV (List.replicate w (K.i .i64)) (List.replicate w 0) = List.replicate w (K.val (.i .i64) 0) := fun w => by
  induction w with
  | zero => rfl
  | succ w ih => simp only [List.replicate_succ, numV, List.zipWith_cons_cons]; rw [show List.zipWith K.val (List.replicate w (K.i .i64)) (List.replicate w 0) = _ from ih]
 unfold flatN
 induction n with
 | zero => simp
 | succ n ih =>
   rw [List.replicate_succ, List.map_cons, List.flatten_cons, ih, hz, List.replicate_append_replicate, Nat.succ_mul, Nat.add_comm w]
theorem UA (w : Nat) : fits (List.replicate w (K.i .i64)) (List.replicate w 0) := by
 induction w with
 | zero => trivial
 | succ w ih => exact ⟨EY .i64, ih⟩
theorem Vw (F : Fam) (ρ : Nat -> Int) (ad : Nat -> Hd) (l : List SV) (h : Nat) : SV.concL F ρ ad (l.take h) ++ SV.concL F ρ ad (l.drop h) = SV.concL F ρ ad l := by
 rw [Ae, Ae, Ae, <- List.map_append, List.take_append_drop]
theorem WA (hB : BI F) {n ty h wd : Nat} {x : Blk} (hx : BlkOK F ρ Im ad n w x) : BlkOK F ρ Im ad n w (segB ty h wd x) := by
 cases x with
 | cells ty' cs =>
   rcases Jw ty h wd ty' cs with e | ⟨N, e, c3, c4, c5⟩
   ·rw [e]; exact hx
   ·rw [e]
    have hden : (E.app .x 0 7 (.lit (.i .i64) (N : Nat) :: List.replicate wd (.lit (.i .i64) 0))).den F ρ = cd (List.replicate N (List.replicate wd 0)) := by
     rw [Bd hB]
     have e1 : (E.lit (.i .i64) (N : Nat)).den F ρ = (N : Int) := by
      show IntKind.i64.wrap (N : Int) = N
      exact BJ (by unfold maxLen; omega)
     have e2 : (List.replicate wd (E.lit (.i .i64) 0)).map (E.den F ρ) = List.replicate wd 0 := by
      rw [List.map_replicate]
      rfl
     rw [List.map_cons, e1, e2]
     show cd (List.replicate ((N : Int)).toNat _) = _
     rw [Int.toNat_natCast]
    show isCd _ /\ _ /\ _
    rw [hden, Ac]
    refine ⟨Bb _, fun r hr => ?_, ?_⟩
    ·rw [(List.mem_replicate.1 hr).2]; exact UA wd
    ·rw [Uz, <- c4, <- OX (F := F) (ρ := ρ) (ad := ad) c3, Vw]
     exact hx
 | _ => exact hx
theorem Qd {n ty h wd : Nat} {x : Blk} : mutB F ρ ad n (segB ty h wd x) = mutB F ρ ad n x := by
 cases x with
 | cells ty' cs =>
   rcases Jw ty h wd ty' cs with e | ⟨N, e, _⟩ <;> rw [e] <;> rfl
 | _ => rfl
theorem WB {p : Nat -> Prop} {ty h wd : Nat} {x : Blk} (hx : SV.okL p x.cs) : SV.okL p (segB ty h wd x).cs := by
 cases x with
 | cells ty' cs =>
   rcases Jw ty h wd ty' cs with e | ⟨N, e, _⟩
   ·rw [e]; exact hx
   ·rw [e]; exact FJ hx h
 | _ => exact hx
theorem UB (f : E × Blk -> E × Blk) (m : Mem) (n : Nat) : Mem.at (m.map (Option.map f)) n = (m.at n).map f := by
 simp only [Mem.at, List.getD_eq_getElem?_getD, List.getElem?_map]
 cases m[n]? <;> rfl
theorem Rel.segM (hB : BI F) : ∀ (l : List (Nat × Nat × Nat)) {m : Mem}, Rel F ρ w0 M0 Im0 ad m w -> Rel F ρ w0 M0 Im0 ad (Ew.segM m l) w
 | [], _, hR => hR
 | (ty, h, wd) :: r, m, hR => by
   refine Rel.segM hB r ?_
   obtain ⟨hM, Im, h1, h2, hI⟩ := hR
   have key : ∀ {n : Nat} {g : E} {x : Blk}, Mem.at (m.map (Option.map fun x => (x.1, segB ty h wd x.2))) n = some (g, x) -> ∃ y, m.at n = some (g, y) /\ x = segB ty h wd y := fun {n g x} hn => by
    rw [UB] at hn
    obtain ⟨y, hy, e⟩ := Option.map_eq_some_iff.1 hn
    injection e with e1 e2
    exact ⟨y.2, by rw [hy, <- e1], e2.symm⟩
   have hal : al (m.map (Option.map fun x => (x.1, segB ty h wd x.2))) = al m := by
    funext n
    unfold al
    rw [UB, Option.isSome_map]
   refine ⟨hM, Im, h1, h2, ⟨fun n g x hn hg => ?_, fun n g x hn => ?_, fun n k g x g' y b hn hg hk hg' hb hb' => ?_, hI.im, hI.fr⟩⟩
   ·obtain ⟨y, hy, rfl⟩ := key hn
    obtain ⟨i1, i2⟩ := hI.ent n g y hy hg
    exact ⟨WA hB i1, fun b hb => i2 b (by rw [<- Qd]; exact hb)⟩
   ·obtain ⟨y, hy, rfl⟩ := key hn
    rw [hal]
    exact WB (hI.ok n g y hy)
   ·obtain ⟨x', hx, rfl⟩ := key hn
    obtain ⟨y', hy, rfl⟩ := key hk
    rw [Qd] at hb hb'
    exact hI.inj n k g x' g' y' b hx hg hy hg' hb hb'
end
def evE (P : Program) (G : Glob) (T : Tab) (LT : Nat -> Cn) (N n : Nat) (e : Ent) : Option (E × List E) :=
 match evFn P G T LT N n e.f e.pgen.1 (start e 0) with
 | some (ob, v, m') => match Ip e (shareL (segM m' (Qc e.rs)) (VR m' v ++ VS e m' v)) v with
   | some (g, es) => some (andB ob g, es)
   | none => none
 | none => none
def tmL (le : LEnt) : Tm := (List.range le.nt).map fun i => match le.sl.findIdx? (· == i) with
 | some k => le.ent.pgen.1[k]?
 | none => some (.oq (le.ent.nn + i))
def Ld : List Lab -> Lab -> Option (List SV)
 | [], _ => none
 | [k], x => if k = x then some [] else none
 | k :: k' :: ls, x => if k = x then some (.sc (mkB true) :: List.replicate ls.length (.sc (mkB false))) else (Ld (k' :: ls) x).map fun r => .sc (mkB false) :: r
def keepB (so wr : List Nat) (s0 s : Tm) : Bool := (List.range s0.length).all fun k => so.contains k || wr.contains k || match s0.at k, s.at k with
 | some v, some u => v.same u
 | _, _ => false
def DD (le : LEnt) (s : St) (lab : Lab) : Option (E × List E) :=
 match Ld le.labs lab, Jt s.1 le.so with
 | some bs, some us => if s.1.length = le.nt /\ keepB le.so le.wr (tmL le) s.1 = true then Ip le.ent (shareL s.2 (VR s.2 (.tup us) ++ VS le.ent s.2 (.tup (bs ++ us)))) (.tup (bs ++ us)) else none
 | _, _ => none
def iteE (c a b : E) : E := bif a.same b then a else match c.lit? with
 | some n => bif i2b n then a else b
 | none => .ite c a b
def endsM (le : LEnt) (d : DT) : List (Lab × St) -> E × Option (List E)
 | [] => (mkB true, none)
 | (lab, s) :: r => match DD le s lab with
   | some (g, es) => match endsM le d r with
     | (g2, none) => (andB (impB (d.is lab) g) g2, some es)
     | (g2, some es2) => (andB (impB (d.is lab) g) g2, some (List.zipWith (iteE (d.is lab)) es es2))
   | none => match endsM le d r with
     | (g2, o) => (andB (Am (d.is lab)) g2, o)
def evL (P : Program) (G : Glob) (T : Tab) (call : Into) (N : Nat) (L : Cn) (le : LEnt) (body : Code) : Option (E × List E) :=
 match AZ P G T call N L body (tmL le, start le.ent le.nt) with
 | some r => match Kl (Ju le) r with
   | some q => match endsM le q.2.1 q.2.2 with
     | (g, some es) => some (andB q.1 g, es)
     | _ => none
   | none => none
 | none => none
def evP (P : Program) (G : Glob) (T : Tab) (call : Into) (N : Nat) (L : Cn) (le : LEnt) (c : Code) : Option (E × List E) :=
 match AZ P G T call N L c (tmL le, start le.ent le.nt) with
 | some r => match endsM le r.2.1 r.2.2 with
   | (g, some es) => some (andB r.1 g, es)
   | _ => none
 | none => none
section
variable {P : Program} {ρ : Nat -> Int} {G : Glob} {T : Tab} {l : Tabs} {w0 w w' : World} {M0 Im0 Im : Nat -> Prop} {ad ad' hs : Nat -> Hd} {m m2 m' : Mem} {tm : Tm} {en : Env} {a : Act}
theorem Kr {e : Ent} {v : SV} {r : E × List E} (h : Ip e m' v = some r) : Ez e = true := by
 unfold Ip at h
 split at h
 ·split at h
  ·split at h
   ·rename_i hc
    have hc := hc.1
    simp only [Bool.and_eq_true] at hc
    exact hc.2
   ·cases h
  ·cases h
 ·cases h
theorem FV {fn : Nat -> List Int -> Int} {xs : List Int} : ∀ (ks : List K) (j : Nat) (ys : List Int), ys.length = ks.length -> (∀ (i : Nat) (k : K) (y : Int), ks[i]? = some k -> ys[i]? = some y -> k.norm (fn (j + i) xs) = y) -> Ai fn xs j ks = ys
 | [], j, [], _, _ => rfl
 | [], j, _ :: _, h, _ => by simp at h
 | _ :: _, j, [], h, _ => by simp at h
 | k :: ks, j, y :: ys, hl, h => by
   simp only [Ai]
   have h0 := h 0 k y rfl rfl
   rw [Nat.add_zero] at h0
   rw [h0, FV ks (j + 1) ys (by simpa using hl) fun i k y h1 h2 => by
    have := h (i + 1) k y (by simpa using h1) (by simpa using h2)
    rwa [show j + 1 + i = j + (i + 1) by omega]]
theorem Ks (hm : P.follows .mixedOrders = true) (hS : Dy P G l T) {LT : Nat -> Cn} (hLT : LTOK P G l LT) {N n : Nat} {e : Ent} {ob : E} {es : List E} (h : evE P G T LT N n e = some (ob, es))
 (hu : ∀ xs, fits e.pks xs -> e.pre xs -> ∃ ρ : Nat -> Int, (∀ i, i < e.np -> ρ i = env xs i) /\ ob.tt l.F ρ = true /\ ∀ (i : Nat) (k : K), e.oks[i]? = some k -> k.norm (e.fn i xs) = (es.getD i (mkB false)).den l.F ρ) : EntryOK P G e := by
 unfold evE at h
 split at h
 ·rename_i ob1 v m1 hev
  split at h
  ·rename_i g es' hma
   simp only [oJ, pJ] at h
   obtain ⟨rfl, rfl⟩ := h
   intro xs hfit hpre w M0 Im0 hs hM hG hE
   obtain ⟨ρ, hρ, u1, u2⟩ := hu xs hfit hpre
   obtain ⟨t1, t2⟩ := AU u1
   obtain ⟨r1, r2, r3⟩ := HR (ad := hs) l 0 (Kr hma) hρ hfit hM hE fun _ _ => rfl
   obtain ⟨k1, k2, k3⟩ := EJ (l := l) hma
   rw [<- r2]
   refine (FF (l := l) (ρ := ρ) hm hS hG hLT n e.f _ _ _ _ _ hev t1 hs w r1 r3).mono ?_
   rintro en w' ⟨ad', rfl, a2, a3, a4⟩
   have hys : Ai e.fn xs 0 e.oks = es'.map (E.den l.F ρ) := by
    refine FV _ _ _ (by rw [<- k1]; simp) fun i k y h1 h2 => ?_
    rw [Nat.zero_add, u2 i k h1]
    rw [List.getElem?_map] at h2
    obtain ⟨x, hx, rfl⟩ := Option.map_eq_some_iff.1 h2
    simp [List.getD, hx]
   obtain ⟨hs', Im', q1, q2, q3, q4, q5⟩ := k3 hρ hfit hys t2 ((a2.segM (Tabs.BI l) _).shareL _) fun j hj => (a3.same j ((D9 e 0 j).2 (by omega))).symm
   exact ⟨hs', Im', q1, q2, q3, by rw [q4], q5⟩
  ·cases h
 ·cases h
theorem Vx (hm : P.follows .mixedOrders = true) (hS : Dy P G l T) {LT : Nat -> Cn} (hLT : LTOK P G l LT) {N n : Nat} {e : Ent} {ob : E} {es : List E} (h : evE P G T LT N n e = some (ob, es))
 (hu : ∀ xs, fits e.pks xs -> e.pre xs -> ob.tt l.F (env xs) = true /\ ∀ (i : Nat) (k : K), e.oks[i]? = some k -> k.norm (e.fn i xs) = (es.getD i (mkB false)).den l.F (env xs)) : EntryOK P G e :=
 Ks hm hS hLT h fun xs hf hp => ⟨env xs, fun _ _ => rfl, hu xs hf hp⟩
theorem GU {F : Fam} {ad : Nat -> Hd} (us : List Value) : ∀ {ls : List Lab} {x : Lab} {bs : List SV}, Ld ls x = some bs -> labV ls (SV.concL F ρ ad bs ++ us) = some (x, us) /\ ∀ p, SV.okL p bs
 | [], x, bs, h => by simp [Ld] at h
 | [k], x, bs, h => by
   simp only [Ld] at h
   split at h
   ·rename_i hk
    simp only [oJ] at h; subst h
    subst hk
    exact ⟨rfl, fun _ => trivial⟩
   ·cases h
 | k :: k' :: ls, x, bs, h => by
   have ht : (SV.sc (mkB true)).conc F ρ ad = .bool true := by simp only [SV.conc, E.val_b (Ah true), Mm]
   have hf : (SV.sc (mkB false)).conc F ρ ad = .bool false := by simp only [SV.conc, E.val_b (Ah false), Mm]
   simp only [Ld] at h
   split at h
   ·rename_i hk
    simp only [oJ] at h; subst h
    subst hk
    have falses : ∀ (ls : List Lab) (k : Lab), ∃ y, labV (k :: ls) (SV.concL F ρ ad (List.replicate ls.length (.sc (mkB false))) ++ us) = some (y, us) := by
     intro ls
     induction ls with
     | nil => intro k; exact ⟨k, rfl⟩
     | cons k2 ls ih =>
       intro k
       obtain ⟨y, hy⟩ := ih k2
       refine ⟨y, ?_⟩
       simp only [List.length_cons, List.replicate_succ, SV.concL, hf, List.cons_append, labV, hy, Option.map_some, cond_false]
    obtain ⟨y, hy⟩ := falses ls k'
    refine ⟨?_, fun p => ⟨trivial, ?_⟩⟩
    ·simp only [SV.concL, ht, List.cons_append, labV, hy, Option.map_some, cond_true]
    ·generalize ls.length = n
     induction n with
     | zero => trivial
     | succ n ih => rw [List.replicate_succ]; exact ⟨trivial, ih⟩
   ·obtain ⟨r, hr, rfl⟩ := Option.map_eq_some_iff.1 h
    obtain ⟨i1, i2⟩ := GU (F := F) (ad := ad) us hr
    refine ⟨?_, fun p => ⟨trivial, i2 p⟩⟩
    simp only [SV.concL, hf, List.cons_append, labV, i1, Option.map_some, cond_false]
theorem Vy (c a b : E) (F : Fam) : (iteE c a b).den F ρ = bif c.tt F ρ then a.den F ρ else b.den F ρ := by
 unfold iteE
 cases hs : a.same b
 ·simp only [cond_false]
  split
  ·rename_i n hn
   rw [lit?_tt hn]
   cases i2b n <;> rfl
  ·simp only [E.den, E.tt]
 ·rw [E.same_eq _ _ hs]
  cases c.tt F ρ <;> rfl
theorem Rg {le : LEnt} {s : St} {lab : Lab} {g : E} {es : List E} (h : DD le s lab = some (g, es)) : es.length = le.ent.oks.length := by
 unfold DD at h
 split at h
 ·split at h
  ·rw [<- (EJ (l := []) h).1]; simp
  ·cases h
 ·cases h
theorem GV {le : LEnt} {d : DT} {F : Fam} : ∀ {ss : List (Lab × St)}, (∀ es, (endsM le d ss).2 = some es -> es.length = le.ent.oks.length) /\ ((endsM le d ss).1.tt F ρ = true -> ∀ s, lk (d.eval F ρ) ss = some s ->
 ∃ es g1 es1, (endsM le d ss).2 = some es /\ DD le s (d.eval F ρ) = some (g1, es1) /\ g1.tt F ρ = true /\ es.map (E.den F ρ) = es1.map (E.den F ρ)) /\ ((endsM le d ss).2 ≠ none -> Ez le.ent = true)
 | [] => ⟨fun es h => by simp [endsM] at h, fun _ s h => by simp [lk] at h, fun h => absurd rfl h⟩
 | (lab, s0) :: r => by
   obtain ⟨i1, i2, i3⟩ := GV (le := le) (d := d) (F := F) (ss := r)
   cases hm : DD le s0 lab with
   | none =>
     have he : endsM le d ((lab, s0) :: r) = (andB (Am (d.is lab)) (endsM le d r).1, (endsM le d r).2) := by simp only [endsM, hm]
     rw [he]
     refine ⟨i1, fun ht s hs => ?_, i3⟩
     obtain ⟨t1, t2⟩ := AU ht
     simp only [lk] at hs
     split at hs
     ·rename_i hk
      rw [(Ag _ F ρ).1, DT.is_true hk.symm] at t1
      simp at t1
     ·exact i2 t2 s hs
   | some z =>
     obtain ⟨g1, es1⟩ := z
     have hl1 := Rg hm
     have hst : Ez le.ent = true := by
      unfold DD at hm
      split at hm
      ·split at hm
       ·exact Kr hm
       ·cases hm
      ·cases hm
     cases ho : (endsM le d r).2 with
     | none =>
       have he : endsM le d ((lab, s0) :: r) = (andB (impB (d.is lab) g1) (endsM le d r).1, some es1) := by
        simp only [endsM, hm]
        split
        ·rename_i g2 h2; rw [h2]
        ·rename_i g2 e2 h2; rw [h2] at ho; cases ho
       rw [he]
       refine ⟨fun es h => by simp only [oJ] at h; subst h; exact hl1, fun ht s hs => ?_, fun _ => hst⟩
       obtain ⟨t1, t2⟩ := AU ht
       simp only [lk] at hs
       split at hs
       ·rename_i hk
        simp only [oJ] at hs; subst hs
        exact ⟨es1, g1, es1, rfl, by rw [<- hk]; exact hm, G6 t1 (DT.is_true hk.symm), rfl⟩
       ·obtain ⟨es, _, _, h, _⟩ := i2 t2 s hs
        rw [ho] at h; cases h
     | some es2 =>
       have he : endsM le d ((lab, s0) :: r) = (andB (impB (d.is lab) g1) (endsM le d r).1, some (List.zipWith (iteE (d.is lab)) es1 es2)) := by
        simp only [endsM, hm]
        split
        ·rename_i g2 h2; rw [h2] at ho; cases ho
        ·rename_i g2 e2 h2; rw [h2] at ho ⊢; simp only [oJ] at ho; subst ho; rfl
       have l2 := i1 es2 ho
       have hz : (List.zipWith (iteE (d.is lab)) es1 es2).map (E.den F ρ) = bif (d.is lab).tt F ρ then es1.map (E.den F ρ) else es2.map (E.den F ρ) := by
        have : ∀ (u v : List E), u.length = v.length -> (List.zipWith (iteE (d.is lab)) u v).map (E.den F ρ) = bif (d.is lab).tt F ρ then u.map (E.den F ρ) else v.map (E.den F ρ) := by
         intro u
         induction u with
         | nil => intro v hv; cases v with
           | nil => cases (d.is lab).tt F ρ <;> rfl
           | cons _ _ => simp at hv
         | cons x u ih => intro v hv; cases v with
           | nil => simp at hv
           | cons y v =>
             simp only [List.zipWith_cons_cons, List.map_cons, Vy, ih v (by simpa using hv)]
             cases (d.is lab).tt F ρ <;> rfl
        exact this es1 es2 (by omega)
       rw [he]
       refine ⟨fun es h => by simp only [oJ] at h; subst h; simp [hl1, l2], fun ht s hs => ?_, fun _ => hst⟩
       obtain ⟨t1, t2⟩ := AU ht
       simp only [lk] at hs
       split at hs
       ·rename_i hk
        simp only [oJ] at hs; subst hs
        exact ⟨_, g1, es1, rfl, by rw [<- hk]; exact hm, G6 t1 (DT.is_true hk.symm), by rw [hz, DT.is_true hk.symm]; rfl⟩
       ·rename_i hk
        obtain ⟨es, g3, es3, h1, a1, a2, a3⟩ := i2 t2 s hs
        rw [ho] at h1
        simp only [oJ] at h1
        subst h1
        exact ⟨_, g3, es3, rfl, a1, a2, by rw [hz, DT.is_false (fun e => hk e.symm)]; exact a3⟩
def enL (le : LEnt) (mu : List Int -> Nat) (n : Nat) : Ent := { le.ent with pre := fun xs => le.ent.pre xs /\ mu xs < n }
theorem Vz (hm : P.follows .mixedOrders = true) {body : Code} {le : LEnt} {l0 : Tabs} {call : Into} {N : Nat} {L : Cn} (mu : List Int -> Nat)
 (hS : ∀ n, Dy P G (enL le mu n :: l0) T) (hI : ∀ n ρ w0 M0 Im0, GOK G Im0 w0 -> EI P (enL le mu n :: l0) ρ w0 M0 Im0 call) (hL : ∀ n, G7 P G (enL le mu n :: l0) L body)
 {ob : E} {es : List E} (h : evL P G T call N L le body = some (ob, es))
 (hu : ∀ n xs, fits le.ent.pks xs -> le.ent.pre xs -> mu xs <= n -> ∃ ρ : Nat -> Int, (∀ i, i < le.ent.np -> ρ i = env xs i) /\ ob.tt (Tabs.F (enL le mu n :: l0)) ρ = true /\ ∀ (i : Nat) (k : K), le.ent.oks[i]? = some k -> k.norm (le.ent.fn i xs) = (es.getD i (mkB false)).den (Tabs.F (enL le mu n :: l0)) ρ) :
 Kk P G body le := by
 have main : ∀ n, Lb G { le with ent := enL le mu n } fun Q => Code.rounds P body Q n := by
  intro n
  induction n with
  | zero => intro xs hfit hpre; exact absurd hpre.2 (Nat.not_lt_zero _)
  | succ n ih =>
    intro xs hfit hpre w M0 Im hs hM hG hE a hdef hsz hsl Q hQ
    obtain ⟨hpre1, hpre2⟩ := hpre
    obtain ⟨ρ, hρ, u1, u2⟩ := hu n xs hfit hpre1 (by omega)
    obtain ⟨l, hl⟩ : ∃ l : Tabs, l = enL le mu n :: l0 := ⟨_, rfl⟩
    have hS' := hS n
    have hI' := hI n
    have hL' := hL n
    rw [<- hl] at u1 u2 hS' hI' hL'
    unfold evL at h
    split at h
    ·rename_i r hr
     split at h
     ·rename_i q hq
      split at h
      ·rename_i g es' hends
       simp only [oJ, pJ] at h
       obtain ⟨rfl, rfl⟩ := h
       obtain ⟨t1, t2⟩ := AU u1
       obtain ⟨elen0, espec0, hst0⟩ := GV (F := l.F) (ρ := ρ) (le := le) (d := q.2.1) (ss := q.2.2)
       rw [hends] at elen0 espec0 hst0
       have elen := elen0 es' rfl
       have espec : g.tt l.F ρ = true -> ∀ s, lk (q.2.1.eval l.F ρ) q.2.2 = some s -> ∃ g1 es1, DD le s (q.2.1.eval l.F ρ) = some (g1, es1) /\ g1.tt l.F ρ = true /\ es'.map (E.den l.F ρ) = es1.map (E.den l.F ρ) := fun ht s hs => by
        obtain ⟨es, g1, es1, h1, h2, h3, h4⟩ := espec0 ht s hs
        simp only [oJ] at h1
        subst h1
        exact ⟨g1, es1, h2, h3, h4⟩
       have hst : Ez le.ent = true := hst0 (by simp)
       let ad0 : Nat -> Hd := fun j => if j < le.ent.nn then hs j else { blk := 0, v := a.tmps.getD (j - le.ent.nn) undef }
       obtain ⟨r1, r2, r3⟩ := HR (ad := ad0) l le.nt hst hρ hfit hM hE fun j hj => if_pos hj
       have hT0 : RelT l.F ρ ad0 (start le.ent le.nt) (tmL le) a := by
        refine ⟨hdef, by simp [tmL]; exact hsz, fun i v hv => ?_⟩
        simp only [Tm.at, tmL, List.getD, List.getElem?_map] at hv
        by_cases hi : i < le.nt
        ·rw [List.getElem?_range hi] at hv
         simp only [Option.map_some, Option.getD_some] at hv
         split at hv
         ·rename_i k hk
          have hk2 := List.findIdx?_eq_some_iff_getElem.1 hk
          obtain ⟨hk3, hk4, _⟩ := hk2
          have hski : le.sl[k]? = some i := by rw [List.getElem?_eq_getElem hk3]; simpa using hk4
          have h1 := hsl k i hski
          change a.tmps[i]? = (SV.concL F0 (env xs) hs le.ent.pgen.1)[k]? at h1
          rw [<- r2, Ae, List.getElem?_map, hv, Option.map_some] at h1
          exact ⟨h1, Em r3 hv⟩
         ·simp only [oJ] at hv
          subst hv
          have hsz' : a.tmps.size = le.nt := hsz
          have hia : i < a.tmps.size := by rw [hsz']; exact hi
          refine ⟨?_, (D9 le.ent le.nt _).2 (by omega)⟩
          simp only [SV.conc, ad0]
          rw [if_neg (by omega), show le.ent.nn + i - le.ent.nn = i by omega]
          simp [Array.getD, hia]
        ·rw [List.getElem?_eq_none (by simpa using hi)] at hv
         simp at hv
       have hget : l.get (enL le mu n).key = some (enL le mu n) := by
        rw [hl]; simp [Tabs.get]
       have hA : After l.F ρ w M0 Im ad0 (start le.ent le.nt) q.2 Q := by
        intro s ad' a' w' hlk hRs hx
        obtain ⟨g1, es1, m1, m2, m3⟩ := espec t2 s hlk
        have m1' := m1
        unfold DD at m1'
        split at m1'
        ·rename_i bs us hbs hus
         split at m1'
         ·rename_i hkeep
          obtain ⟨hlen, hkeep⟩ := hkeep
          obtain ⟨b1, b2, b3⟩ := EJ (l := l) m1'
          have hys : Ai le.ent.fn xs 0 le.ent.oks = es1.map (E.den l.F ρ) := by
           rw [<- m3]
           refine FV _ _ _ (by simp [elen]) fun i k y h1 h2 => ?_
           rw [Nat.zero_add, u2 i k h1]
           rw [List.getElem?_map] at h2
           obtain ⟨x, hx, rfl⟩ := Option.map_eq_some_iff.1 h2
           simp [List.getD, hx]
          obtain ⟨hs', Im', q1, q2, q3, q4, q5⟩ := b3 (hs := hs) hρ hfit hys m2 (hRs.2.shareL _) fun j hj => by
           rw [<- hx.same j ((D9 le.ent le.nt j).2 (by omega))]
           exact if_pos hj
          obtain ⟨g1', g2'⟩ := FB hus
          have hbits := GU (F := l.F) (ρ := ρ) (ad := ad') (SV.concL l.F ρ ad' us) hbs
          refine hQ a' w' hs' Im' (SV.concL l.F ρ ad' (bs ++ us)) (q.2.1.eval l.F ρ) (SV.concL l.F ρ ad' us) q1 q2 q3 q5 ?_ ?_ ?_ ?_ ?_ hRs.1.defers
          ·show (B3 le.ent.ogen.1).conc _ _ _ = _
           rw [show Ai (enL le mu (n+1)).fn xs 0 (enL le mu (n+1)).oks = es1.map (E.den l.F ρ) from hys]
           rw [hys] at q4
           rw [<- q4]
           simp only [SV.conc]
          ·rw [show SV.concL l.F ρ ad' (bs ++ us) = SV.concL l.F ρ ad' bs ++ SV.concL l.F ρ ad' us by rw [Ae, Ae, Ae, List.map_append]]
           exact hbits.1
          ·intro i t hi
           have hv := g2' i t hi
           have hil : i < us.length := by have := (List.getElem?_eq_some_iff.1 hi).1; change i < le.so.length at this; omega
           rw [List.getElem?_eq_getElem hil] at hv
           rw [(hRs.1.slot t _ hv).1, Ae, List.getElem?_map, List.getElem?_eq_getElem hil, Option.map_some]
          ·intro k hk1 hk2
           have hsz' : a.tmps.size = le.nt := hsz
           by_cases hkn : k < le.nt
           ·have hkk := List.all_eq_true.1 hkeep k (List.mem_range.2 (by simp [tmL]; exact hkn))
            have c1 : le.so.contains k = false := by simpa using hk1
            have c2 : le.wr.contains k = false := by simpa using hk2
            rw [c1, c2, Bool.false_or, Bool.false_or] at hkk
            split at hkk
            ·rename_i v u hv0 hv1
             have := SV.same_eq _ _ hkk
             subst this
             obtain ⟨e1, e2⟩ := hT0.slot k v hv0
             rw [(hRs.1.slot k v hv1).1, e1, SV.conc_congr hx.same v e2]
            ·cases hkk
           ·have h1 : a'.tmps.size = le.nt := by rw [<- hlen]; exact hRs.1.size
            rw [Array.getElem?_eq_none (by omega), Array.getElem?_eq_none (by omega)]
          ·have h1 : a'.tmps.size = le.nt := by rw [<- hlen]; exact hRs.1.size
           have hsz' : a.tmps.size = le.nt := hsz
           omega
         ·cases m1'
        ·cases m1'
       show Code.rounds P body Q (n + 1) a w
       rw [rounds_succ]
       obtain ⟨v1, v2⟩ := FD (l := l) (ρ := ρ) (w0 := w) (M0 := M0) (Im0 := Im) (ad := ad0) (K := Code.rounds P body Q n) (g := q.1) (o := q.2) (f := Ju le) hq t1 hA fun s1 g2 o2 ad' a' w' h2 ht2 hR' hA' =>
        Gh (le := { le with ent := enL le mu n }) (C := fun Q => Code.rounds P body Q n) hget ih hG (g := g2) (o := o2) h2 ht2 hR' hA'
       exact FE hm hS' hG (hI' ρ w M0 Im hG) body L _ r.1 r.2 ad0 a w _ hL' hr v1 ⟨hT0, r1⟩ v2
      ·cases h
     ·cases h
    ·cases h
 intro xs hfit hpre w M0 Im hs hM hG hE a hdef hsz hsl Q hQ
 exact wp_loop_rounds (mu xs + 1) (main (mu xs + 1) xs hfit ⟨hpre, Nat.lt_succ_self _⟩ w M0 Im hs hM hG hE a hdef hsz hsl Q hQ)
theorem WC (hm : P.follows .mixedOrders = true) {body : Code} {le : LEnt} {l0 : Tabs} {call : Into} {N : Nat} {L : Cn} (mu : List Int -> Nat)
 (hS : ∀ n, Dy P G (enL le mu n :: l0) T) (hI : ∀ n ρ w0 M0 Im0, GOK G Im0 w0 -> EI P (enL le mu n :: l0) ρ w0 M0 Im0 call) (hL : ∀ n, G7 P G (enL le mu n :: l0) L body)
 {ob : E} {es : List E} (h : evL P G T call N L le body = some (ob, es))
 (hu : ∀ n xs, fits le.ent.pks xs -> le.ent.pre xs -> mu xs <= n -> ob.tt (Tabs.F (enL le mu n :: l0)) (env xs) = true /\ ∀ (i : Nat) (k : K), le.ent.oks[i]? = some k -> k.norm (le.ent.fn i xs) = (es.getD i (mkB false)).den (Tabs.F (enL le mu n :: l0)) (env xs)) :
 Kk P G body le := Vz hm mu hS hI hL h fun n xs hf hp hmu => ⟨env xs, fun _ _ => rfl, hu n xs hf hp hmu⟩
theorem UC (hm : P.follows .mixedOrders = true) {c : Code} {le : LEnt} {call : Into} {N : Nat} {L : Cn}
 (hS' : Dy P G l T) (hI' : ∀ ρ w0 M0 Im0, GOK G Im0 w0 -> EI P l ρ w0 M0 Im0 call) (hL' : G7 P G l L c)
 {ob : E} {es : List E} (h : evP P G T call N L le c = some (ob, es))
 (hu : ∀ xs, fits le.ent.pks xs -> le.ent.pre xs -> ∃ ρ : Nat -> Int, (∀ i, i < le.ent.np -> ρ i = env xs i) /\ ob.tt l.F ρ = true /\ ∀ (i : Nat) (k : K), le.ent.oks[i]? = some k -> k.norm (le.ent.fn i xs) = (es.getD i (mkB false)).den l.F ρ) :
 CodeOK P G c le := by
 intro xs hfit hpre w M0 Im hs hM hG hE a hdef hsz hsl Q hQ
 obtain ⟨ρ, hρ, u1, u2⟩ := hu xs hfit hpre
 unfold evP at h
 split at h
 ·rename_i r hr
  split at h
  ·rename_i g es' hends
   simp only [oJ, pJ] at h
   obtain ⟨rfl, rfl⟩ := h
   obtain ⟨t1, t2⟩ := AU u1
   obtain ⟨elen0, espec0, hst0⟩ := GV (F := l.F) (ρ := ρ) (le := le) (d := r.2.1) (ss := r.2.2)
   rw [hends] at elen0 espec0 hst0
   have elen := elen0 es' rfl
   have espec : g.tt l.F ρ = true -> ∀ s, lk (r.2.1.eval l.F ρ) r.2.2 = some s -> ∃ g1 es1, DD le s (r.2.1.eval l.F ρ) = some (g1, es1) /\ g1.tt l.F ρ = true /\ es'.map (E.den l.F ρ) = es1.map (E.den l.F ρ) := fun ht s hs => by
    obtain ⟨es, g1, es1, h1, h2, h3, h4⟩ := espec0 ht s hs
    simp only [oJ] at h1
    subst h1
    exact ⟨g1, es1, h2, h3, h4⟩
   have hst : Ez le.ent = true := hst0 (by simp)
   let ad0 : Nat -> Hd := fun j => if j < le.ent.nn then hs j else { blk := 0, v := a.tmps.getD (j - le.ent.nn) undef }
   obtain ⟨r1, r2, r3⟩ := HR (ad := ad0) l le.nt hst hρ hfit hM hE fun j hj => if_pos hj
   have hT0 : RelT l.F ρ ad0 (start le.ent le.nt) (tmL le) a := by
    refine ⟨hdef, by simp [tmL]; exact hsz, fun i v hv => ?_⟩
    simp only [Tm.at, tmL, List.getD, List.getElem?_map] at hv
    by_cases hi : i < le.nt
    ·rw [List.getElem?_range hi] at hv
     simp only [Option.map_some, Option.getD_some] at hv
     split at hv
     ·rename_i k hk
      have hk2 := List.findIdx?_eq_some_iff_getElem.1 hk
      obtain ⟨hk3, hk4, _⟩ := hk2
      have hski : le.sl[k]? = some i := by rw [List.getElem?_eq_getElem hk3]; simpa using hk4
      have h1 := hsl k i hski
      change a.tmps[i]? = (SV.concL F0 (env xs) hs le.ent.pgen.1)[k]? at h1
      rw [<- r2, Ae, List.getElem?_map, hv, Option.map_some] at h1
      exact ⟨h1, Em r3 hv⟩
     ·simp only [oJ] at hv
      subst hv
      have hsz' : a.tmps.size = le.nt := hsz
      have hia : i < a.tmps.size := by rw [hsz']; exact hi
      refine ⟨?_, (D9 le.ent le.nt _).2 (by omega)⟩
      simp only [SV.conc, ad0]
      rw [if_neg (by omega), show le.ent.nn + i - le.ent.nn = i by omega]
      simp [Array.getD, hia]
    ·rw [List.getElem?_eq_none (by simpa using hi)] at hv
     simp at hv
   have hA : After l.F ρ w M0 Im ad0 (start le.ent le.nt) r.2 Q := by
    intro s ad' a' w' hlk hRs hx
    obtain ⟨g1, es1, m1, m2, m3⟩ := espec t2 s hlk
    have m1' := m1
    unfold DD at m1'
    split at m1'
    ·rename_i bs us hbs hus
     split at m1'
     ·rename_i hkeep
      obtain ⟨hlen, hkeep⟩ := hkeep
      obtain ⟨b1, b2, b3⟩ := EJ (l := l) m1'
      have hys : Ai le.ent.fn xs 0 le.ent.oks = es1.map (E.den l.F ρ) := by
       rw [<- m3]
       refine FV _ _ _ (by simp [elen]) fun i k y h1 h2 => ?_
       rw [Nat.zero_add, u2 i k h1]
       rw [List.getElem?_map] at h2
       obtain ⟨x, hx, rfl⟩ := Option.map_eq_some_iff.1 h2
       simp [List.getD, hx]
      obtain ⟨hs', Im', q1, q2, q3, q4, q5⟩ := b3 (hs := hs) hρ hfit hys m2 (hRs.2.shareL _) fun j hj => by
       rw [<- hx.same j ((D9 le.ent le.nt j).2 (by omega))]
       exact if_pos hj
      obtain ⟨g1', g2'⟩ := FB hus
      have hbits := GU (F := l.F) (ρ := ρ) (ad := ad') (SV.concL l.F ρ ad' us) hbs
      refine hQ a' w' hs' Im' (SV.concL l.F ρ ad' (bs ++ us)) (r.2.1.eval l.F ρ) (SV.concL l.F ρ ad' us) q1 q2 q3 q5 ?_ ?_ ?_ ?_ ?_ hRs.1.defers
      ·show (B3 le.ent.ogen.1).conc _ _ _ = _
       rw [show Ai (le.ent).fn xs 0 (le.ent).oks = es1.map (E.den l.F ρ) from hys]
       rw [hys] at q4
       rw [<- q4]
       simp only [SV.conc]
      ·rw [show SV.concL l.F ρ ad' (bs ++ us) = SV.concL l.F ρ ad' bs ++ SV.concL l.F ρ ad' us by rw [Ae, Ae, Ae, List.map_append]]
       exact hbits.1
      ·intro i t hi
       have hv := g2' i t hi
       have hil : i < us.length := by have := (List.getElem?_eq_some_iff.1 hi).1; change i < le.so.length at this; omega
       rw [List.getElem?_eq_getElem hil] at hv
       rw [(hRs.1.slot t _ hv).1, Ae, List.getElem?_map, List.getElem?_eq_getElem hil, Option.map_some]
      ·intro k hk1 hk2
       have hsz' : a.tmps.size = le.nt := hsz
       by_cases hkn : k < le.nt
       ·have hkk := List.all_eq_true.1 hkeep k (List.mem_range.2 (by simp [tmL]; exact hkn))
        have c1 : le.so.contains k = false := by simpa using hk1
        have c2 : le.wr.contains k = false := by simpa using hk2
        rw [c1, c2, Bool.false_or, Bool.false_or] at hkk
        split at hkk
        ·rename_i v u hv0 hv1
         have := SV.same_eq _ _ hkk
         subst this
         obtain ⟨e1, e2⟩ := hT0.slot k v hv0
         rw [(hRs.1.slot k v hv1).1, e1, SV.conc_congr hx.same v e2]
        ·cases hkk
       ·have h1 : a'.tmps.size = le.nt := by rw [<- hlen]; exact hRs.1.size
        rw [Array.getElem?_eq_none (by omega), Array.getElem?_eq_none (by omega)]
      ·have h1 : a'.tmps.size = le.nt := by rw [<- hlen]; exact hRs.1.size
       have hsz' : a.tmps.size = le.nt := hsz
       omega
     ·cases m1'
    ·cases m1'
   exact FE hm hS' hG (hI' ρ w M0 Im hG) c L _ r.1 r.2 ad0 a w _ hL' hr t1 ⟨hT0, r1⟩ hA
  ·cases h
 ·cases h
end
structure Ctx where
 fs : List Ent
 ls : List (Nat × List Bool × LEnt)
def Ctx.l (c : Ctx) : Tabs := c.fs ++ c.ls.map fun x => x.2.2.ent
def Af (l : List Ent) : Tab := fun f => l.filter fun e => e.f == f
def eqP : List Bool -> List Bool -> Bool
 | [], [] => true
 | a :: l, b :: r => (a == b) && eqP l r
 | _, _ => false
theorem UD : ∀ {a b : List Bool}, eqP a b = true -> a = b
 | [], [], _ => rfl
 | [], _ :: _, h => by simp [eqP] at h
 | _ :: _, [], h => by simp [eqP] at h
 | a :: l, b :: r, h => by
   simp only [eqP, Bool.and_eq_true, beq_iff_eq] at h
   rw [h.1, UD h.2]
def ltOf (l : List (Nat × List Bool × LEnt)) : Nat -> Cn := fun f p => (l.find? fun x => x.1 == f && eqP x.2.1 p).map fun x => x.2.2
def BQ (P : Program) (f : Nat) (p : List Bool) : Code :=
 match P.funcs[f]? with
 | some fn => match fn.body with
   | some c => match A9 c p with
     | some (.loop b) => b
     | _ => .skip
   | none => .skip
 | none => .skip
def Cr (P : Program) (f : Nat) (p : List Bool) : Code :=
 match P.funcs[f]? with
 | some fn => match fn.body with
   | some c => (A9 c p).getD .skip
   | none => .skip
 | none => .skip
def Bc (P : Program) (G : Glob) (f : Nat) (p : List Bool) (le : LEnt) : Prop := CodeOK P G (Cr P f p) le
def Dz : List Ent -> Bool
 | [] => true
 | e :: r => (!r.any fun x => x.key == e.key) && Dz r
structure Ctx.OK (P : Program) (G : Glob) (c : Ctx) : Prop where
 keys : Dz c.l = true
 fs : ∀ e ∈ c.fs, EntryOK P G e
 ls : ∀ x ∈ c.ls, Bc P G x.1 x.2.1 x.2.2
theorem OY : ∀ {l : List Ent}, Dz l = true -> ∀ e ∈ l, Tabs.get l e.key = some e
 | [], _, e, he => by cases he
 | x :: r, h, e, he => by
   simp only [Dz, Bool.and_eq_true, Bool.not_eq_true', List.any_eq_false, beq_iff_eq] at h
   rcases List.mem_cons.1 he with rfl | he
   ·simp [Tabs.get]
   ·have hne : ¬ x.key = e.key := fun e' => h.1 e he e'.symm
    have := OY h.2 e he
    simp only [Tabs.get] at this ⊢
    rw [List.find?_cons_of_neg (by simpa using hne)]
    exact this
section
variable {P : Program} {G : Glob} {c : Ctx}
theorem CK (hc : ∀ e ∈ c.fs, EntryOK P G e) {l : Tabs} (hl : ∀ e ∈ c.fs, l.get e.key = some e) : Dy P G l (Af c.fs) := by
 intro f e he
 simp only [Af, List.mem_filter, beq_iff_eq] at he
 exact ⟨he.2, hl e he.1, hc e he.1⟩
theorem Ctx.OK.get (hc : c.OK P G) : ∀ e ∈ c.l, c.l.get e.key = some e := OY hc.keys
theorem Ctx.OK.getF (hc : c.OK P G) : ∀ e ∈ c.fs, c.l.get e.key = some e := fun e he => hc.get e (List.mem_append_left _ he)
theorem Ctx.OK.getL (hc : c.OK P G) : ∀ x ∈ c.ls, c.l.get x.2.2.ent.key = some x.2.2.ent := fun x hx => hc.get _ (List.mem_append_right _ (List.mem_map.2 ⟨x, hx, rfl⟩))
theorem G8 (hc : ∀ x ∈ c.ls, Bc P G x.1 x.2.1 x.2.2) {l : Tabs} (hl : ∀ x ∈ c.ls, l.get x.2.2.ent.key = some x.2.2.ent) : LTOK P G l (ltOf c.ls) := by
 intro f fn cd hf hb p le h body hbody
 unfold ltOf at h
 obtain ⟨x, hx, rfl⟩ := Option.map_eq_some_iff.1 h
 have hp := List.find?_some hx
 simp only [Bool.and_eq_true, beq_iff_eq] at hp
 obtain ⟨rfl, hp⟩ := hp
 have hp := UD hp
 have hm := List.mem_of_find?_eq_some hx
 refine ⟨hl x hm, ?_⟩
 have := hc x hm
 have hbd : Cr P x.1 x.2.1 = body := by
  unfold Cr
  rw [hp]
  simp only [hf, hb, hbody, Option.getD_some]
 unfold Bc at this
 rw [hbd] at this
 exact this
theorem Ctx.OK.entry (hc : c.OK P G) (hm : P.follows .mixedOrders = true) {N n : Nat} {e : Ent} {ob : E} {es : List E} (h : evE P G (Af c.fs) (ltOf c.ls) N n e = some (ob, es))
 (hu : ∀ xs, fits e.pks xs -> e.pre xs -> ob.tt c.l.F (env xs) = true /\ ∀ (i : Nat) (k : K), e.oks[i]? = some k -> k.norm (e.fn i xs) = (es.getD i (mkB false)).den c.l.F (env xs)) : EntryOK P G e :=
 Vx hm (CK hc.fs hc.getF) (G8 hc.ls hc.getL) h hu
def subL (l : List (Nat × List Bool × LEnt)) (f : Nat) (p : List Bool) : Cn := fun q => ltOf l f (p ++ false :: q)
theorem Jx {p q : List Bool} {c b : Code} (h : A9 c p = some b) : A9 c (p ++ q) = A9 b q := by
 induction p generalizing c with
 | nil =>
   have : c = b := by cases c <;> simpa [A9] using h
   subst this; rfl
 | cons x p ih =>
   cases c with
   | seq a d => cases x <;> exact ih (by simpa [A9] using h)
   | cond o a d => cases x <;> exact ih (by simpa [A9] using h)
   | block i a => exact ih (by simpa [A9] using h)
   | loop a => exact ih (by simpa [A9] using h)
   | _ => simp [A9] at h
theorem HS {l : Tabs} {e x : Ent} (h : l.get x.key = some x) (hk : (l.any fun y => y.key == e.key) = false) : Tabs.get (e :: l) x.key = some x := by
 have hx : x ∈ l := List.mem_of_find?_eq_some h
 have hne : ¬ e.key = x.key := fun e' => by
  rw [List.any_eq_false] at hk
  exact hk x hx (by simp [e'])
 simp only [Tabs.get] at h ⊢
 rw [List.find?_cons_of_neg (by simpa using hne)]
 exact h
theorem Ctx.OK.loop (hc : c.OK P G) (hm : P.follows .mixedOrders = true) {N n : Nat} {f : Nat} {p : List Bool} {le : LEnt} {ob : E} {es : List E} (mu : List Int -> Nat)
 (hk : (c.l.any fun y => y.key == le.ent.key) = false) (hb : ∃ fn cd b, P.funcs[f]? = some fn /\ fn.body = some cd /\ A9 cd p = some (.loop b))
 (h : evL P G (Af c.fs) (evFn P G (Af c.fs) (ltOf c.ls) N n) N (subL c.ls f p) le (BQ P f p) = some (ob, es))
 (hu : ∀ n xs, fits le.ent.pks xs -> le.ent.pre xs -> mu xs <= n -> ob.tt (Tabs.F (enL le mu n :: c.l)) (env xs) = true /\ ∀ (i : Nat) (k : K), le.ent.oks[i]? = some k -> k.norm (le.ent.fn i xs) = (es.getD i (mkB false)).den (Tabs.F (enL le mu n :: c.l)) (env xs)) :
 Bc P G f p le := by
 obtain ⟨fn, cd, b, b1, b2, b3⟩ := hb
 have hcf : Cr P f p = .loop b := by unfold Cr; simp only [b1, b2, b3, Option.getD_some]
 unfold Bc
 rw [hcf]
 show Kk P G b le
 have hbd : BQ P f p = b := by unfold BQ; simp only [b1, b2, b3]
 rw [hbd] at h
 have g1 : ∀ n, ∀ e ∈ c.fs, Tabs.get (enL le mu n :: c.l) e.key = some e := fun n e he => HS (e := enL le mu n) (hc.getF e he) hk
 have g2 : ∀ n, ∀ x ∈ c.ls, Tabs.get (enL le mu n :: c.l) x.2.2.ent.key = some x.2.2.ent := fun n x hx => HS (e := enL le mu n) (hc.getL x hx) hk
 have g3 : ∀ n, LTOK P G (enL le mu n :: c.l) (ltOf c.ls) := fun n => G8 hc.ls (g2 n)
 refine WC hm mu (fun n => CK hc.fs (g1 n)) (fun n ρ w0 M0 Im0 hG => FF hm (CK hc.fs (g1 n)) hG (g3 n) _) (fun n => ?_) h hu
 intro q le' hq body hbody
 exact g3 n f fn cd b1 b2 (p ++ false :: q) le' hq body (by rw [Jx b3]; exact hbody)
def subP (l : List (Nat × List Bool × LEnt)) (f : Nat) (p : List Bool) : Cn := fun q => match q with
 | [] => none
 | _ :: _ => ltOf l f (p ++ q)
theorem Ctx.OK.piece (hc : c.OK P G) (hm : P.follows .mixedOrders = true) {N n : Nat} {f : Nat} {p : List Bool} {le : LEnt} {ob : E} {es : List E}
 (hb : ∃ fn cd b, P.funcs[f]? = some fn /\ fn.body = some cd /\ A9 cd p = some b)
 (h : evP P G (Af c.fs) (evFn P G (Af c.fs) (ltOf c.ls) N n) N (subP c.ls f p) le (Cr P f p) = some (ob, es))
 (hu : ∀ xs, fits le.ent.pks xs -> le.ent.pre xs -> ∃ ρ : Nat -> Int, (∀ i, i < le.ent.np -> ρ i = env xs i) /\ ob.tt c.l.F ρ = true /\ ∀ (i : Nat) (k : K), le.ent.oks[i]? = some k -> k.norm (le.ent.fn i xs) = (es.getD i (mkB false)).den c.l.F ρ) :
 Bc P G f p le := by
 obtain ⟨fn, cd, b, b1, b2, b3⟩ := hb
 have hcf : Cr P f p = b := by unfold Cr; simp only [b1, b2, b3, Option.getD_some]
 have g3 : LTOK P G c.l (ltOf c.ls) := G8 hc.ls hc.getL
 refine UC hm (CK hc.fs hc.getF) (fun ρ w0 M0 Im0 hG => FF hm (CK hc.fs hc.getF) hG g3 _) ?_ h hu
 intro q le' hq body hbody
 rw [hcf] at hbody
 cases q with
 | nil => cases hq
 | cons x q => exact g3 f fn cd b1 b2 (p ++ x :: q) le' hq body (by rw [Jx b3]; exact hbody)
def Aq (fn : Nat -> List Int -> Int) (xs : List Int) (F : Fam) (ρ : Nat -> Int) : Nat -> List K -> List E -> Prop
 | _, [], _ => True
 | j, k :: ks, es => k.norm (fn j xs) = (es.headD (mkB false)).den F ρ /\ Aq fn xs F ρ (j + 1) ks es.tail
theorem Gs {fn : Nat -> List Int -> Int} {xs : List Int} {F : Fam} {ρ : Nat -> Int} : ∀ {ks : List K} {es : List E} {j : Nat}, Aq fn xs F ρ j ks es -> ∀ (i : Nat) (k : K), ks[i]? = some k -> k.norm (fn (j + i) xs) = (es.getD i (mkB false)).den F ρ
 | [], es, j, h, i, k, hi => by simp at hi
 | k' :: ks, es, j, h, 0, k, hi => by
   simp only [List.getElem?_cons_zero, oJ] at hi
   subst hi
   have := h.1
   cases es <;> simpa using this
 | k' :: ks, es, j, h, i + 1, k, hi => by
   have := Gs h.2 i k (by simpa using hi)
   rw [show j + 1 + i = j + (i + 1) by omega] at this
   cases es with
   | nil => simpa using this
   | cons x es => simpa using this
theorem Ctx.OK.entryP (hc : c.OK P G) (hm : P.follows .mixedOrders = true) {N n : Nat} {e : Ent} {ob : E} {es : List E} (h : evE P G (Af c.fs) (ltOf c.ls) N n e = some (ob, es)) (ks : List K) (hks : e.pks = ks) (os : List K) (hos : e.oks = os)
 (hu : ∀ xs, fits ks xs -> e.pre xs -> ob.tt c.l.F (env xs) = true /\ Aq e.fn xs c.l.F (env xs) 0 os es) : EntryOK P G e := by
 subst hks; subst hos
 exact hc.entry hm h fun xs hf hp => ⟨(hu xs hf hp).1, fun i k hi => by simpa using Gs (hu xs hf hp).2 i k hi⟩
theorem Ctx.OK.loopP (hc : c.OK P G) (hm : P.follows .mixedOrders = true) {N n : Nat} {f : Nat} {p : List Bool} {le : LEnt} {ob : E} {es : List E} (mu : List Int -> Nat)
 (hk : (c.l.any fun y => y.key == le.ent.key) = false) (hb : ∃ fn cd b, P.funcs[f]? = some fn /\ fn.body = some cd /\ A9 cd p = some (.loop b))
 (h : evL P G (Af c.fs) (evFn P G (Af c.fs) (ltOf c.ls) N n) N (subL c.ls f p) le (BQ P f p) = some (ob, es)) (ks : List K) (hks : le.ent.pks = ks) (os : List K) (hos : le.ent.oks = os)
 (hu : ∀ n xs, fits ks xs -> le.ent.pre xs -> mu xs <= n -> ob.tt (Tabs.F (enL le mu n :: c.l)) (env xs) = true /\ Aq le.ent.fn xs (Tabs.F (enL le mu n :: c.l)) (env xs) 0 os es) :
 Bc P G f p le := by
 subst hks; subst hos
 exact hc.loop hm mu hk hb h fun n xs hf hp hmu => ⟨(hu n xs hf hp hmu).1, fun i k hi => by simpa using Gs (hu n xs hf hp hmu).2 i k hi⟩
theorem Ctx.OK.pieceP (hc : c.OK P G) (hm : P.follows .mixedOrders = true) {N n : Nat} {f : Nat} {p : List Bool} {le : LEnt} {ob : E} {es : List E}
 (hb : ∃ fn cd b, P.funcs[f]? = some fn /\ fn.body = some cd /\ A9 cd p = some b)
 (h : evP P G (Af c.fs) (evFn P G (Af c.fs) (ltOf c.ls) N n) N (subP c.ls f p) le (Cr P f p) = some (ob, es)) (ks : List K) (hks : le.ent.pks = ks) (os : List K) (hos : le.ent.oks = os)
 (hu : ∀ xs, fits ks xs -> le.ent.pre xs -> ob.tt c.l.F (env xs) = true /\ Aq le.ent.fn xs c.l.F (env xs) 0 os es) :
 Bc P G f p le := by
 subst hks; subst hos
 exact hc.piece hm hb h fun xs hf hp => ⟨env xs, fun _ _ => rfl, (hu xs hf hp).1, fun i k hi => by simpa using Gs (hu xs hf hp).2 i k hi⟩
theorem Ctx.OK.entryR (hc : c.OK P G) (hm : P.follows .mixedOrders = true) {N n : Nat} {e : Ent} {ob : E} {es : List E} (h : evE P G (Af c.fs) (ltOf c.ls) N n e = some (ob, es)) (ks : List K) (hks : e.pks = ks) (os : List K) (hos : e.oks = os)
 (hu : ∀ xs, fits ks xs -> e.pre xs -> ∃ ρ : Nat -> Int, (∀ i, i < ks.length -> ρ i = env xs i) /\ ob.tt c.l.F ρ = true /\ Aq e.fn xs c.l.F ρ 0 os es) : EntryOK P G e := by
 subst hks; subst hos
 refine Ks hm (CK hc.fs hc.getF) (G8 hc.ls hc.getL) h fun xs hf hp => ?_
 obtain ⟨ρ, u1, u2, u3⟩ := hu xs hf hp
 exact ⟨ρ, u1, u2, fun i k hi => by simpa using Gs u3 i k hi⟩
theorem Ctx.OK.addF (hc : c.OK P G) {e : Ent} (h : EntryOK P G e) (hk : (c.l.any fun y => y.key == e.key) = false) : Ctx.OK P G ⟨e :: c.fs, c.ls⟩ := by
 refine ⟨?_, fun x hx => ?_, hc.ls⟩
 ·show Dz (e :: c.l) = true
  simp only [Dz, hk, Bool.not_false, Bool.true_and]
  exact hc.keys
 ·rcases List.mem_cons.1 hx with rfl | hx
  ·exact h
  ·exact hc.fs x hx
theorem OZ : ∀ {a b : List Ent} {e : Ent}, Dz (a ++ b) = true -> ((a ++ b).any fun y => y.key == e.key) = false -> Dz (a ++ e :: b) = true
 | [], b, e, h, hk => by simp only [List.nil_append, Dz, hk, Bool.not_false, Bool.true_and] at *; exact h
 | x :: a, b, e, h, hk => by
   simp only [List.cons_append, Dz, Bool.and_eq_true, List.any_cons, Bool.or_eq_false_iff, Bool.not_eq_true'] at h hk ⊢
   refine ⟨?_, OZ h.2 hk.2⟩
   have h1 := h.1
   simp only [List.any_append, Bool.or_eq_false_iff, List.any_cons] at h1 ⊢
   refine ⟨h1.1, ?_, h1.2⟩
   have := hk.1
   simp only [beq_eq_false_iff_ne, ne_eq] at this ⊢
   exact fun e' => this e'.symm
theorem Ctx.OK.addL (hc : c.OK P G) {f : Nat} {p : List Bool} {le : LEnt} (h : Bc P G f p le) (hk : (c.l.any fun y => y.key == le.ent.key) = false) : Ctx.OK P G ⟨c.fs, (f, p, le) :: c.ls⟩ := by
 refine ⟨?_, hc.fs, fun x hx => ?_⟩
 ·show Dz (c.fs ++ le.ent :: c.ls.map fun x => x.2.2.ent) = true
  exact OZ hc.keys hk
 ·rcases List.mem_cons.1 hx with rfl | hx
  ·exact h
  ·exact hc.ls x hx
theorem Ctx.OK.nil : Ctx.OK P G ⟨[], []⟩ := ⟨rfl, fun _ h => (by cases h), fun _ h => (by cases h)⟩
theorem Ctx.OK.sub (hc : c.OK P G) {d : Ctx} (hk : Dz d.l = true) (h1 : ∀ e ∈ d.fs, e ∈ c.fs) (h2 : ∀ x ∈ d.ls, x ∈ c.ls) : Ctx.OK P G d := ⟨hk, fun e he => hc.fs e (h1 e he), fun x hx => hc.ls x (h2 x hx)⟩
end
theorem i64w {z : Int} (h1 : -9223372036854775808 <= z) (h2 : z <= 9223372036854775807) : IntKind.i64.wrap z = z := by rw [IntKind.wrap_i64]; omega
theorem i64r {z : Int} (h : IntKind.i64.wrap z = z) : -9223372036854775808 <= z /\ z <= 9223372036854775807 := by rw [IntKind.wrap_i64] at h; omega
theorem UE (a b : E) (F : Fam) (ρ : Nat -> Int) : (E.and a b).tt F ρ = (a.tt F ρ && b.tt F ρ) := by simp [E.tt, E.den]
theorem tt_or (a b : E) (F : Fam) (ρ : Nat -> Int) : (E.or a b).tt F ρ = (a.tt F ρ || b.tt F ρ) := by simp [E.tt, E.den]
theorem W5 (a : E) (F : Fam) (ρ : Nat -> Int) : (E.not a).tt F ρ = !a.tt F ρ := by simp [E.tt, E.den]
theorem UF (op : BinOp) (a b : E) (F : Fam) (ρ : Nat -> Int) : (E.cmp op a b).tt F ρ = cmpB op (a.den F ρ) (b.den F ρ) := by simp [E.tt, E.den]
theorem W6 (n : Int) (F : Fam) (ρ : Nat -> Int) : (E.lit .b n).tt F ρ = decide (n ≠ 0) := by
 by_cases h : n = 0 <;> simp [E.tt, E.den, K.norm, i2b, h]
theorem W7 (c a b : E) (F : Fam) (ρ : Nat -> Int) : (E.ite c a b).tt F ρ = bif c.tt F ρ then a.tt F ρ else b.tt F ρ := by
 simp only [E.tt, E.den]; cases i2b (c.den F ρ) <;> rfl
theorem WE (op : BinOp) (a b : E) (F : Fam) (ρ : Nat -> Int) : (E.cmp op a b).den F ρ = b2i (cmpB op (a.den F ρ) (b.den F ρ)) := rfl
theorem WF (a : E) (F : Fam) (ρ : Nat -> Int) : (E.not a).den F ρ = b2i (!a.tt F ρ) := rfl
theorem WG (a b : E) (F : Fam) (ρ : Nat -> Int) : (E.and a b).den F ρ = b2i (a.tt F ρ && b.tt F ρ) := rfl
theorem W8 (a b : E) (F : Fam) (ρ : Nat -> Int) : (E.or a b).den F ρ = b2i (a.tt F ρ || b.tt F ρ) := rfl
theorem WH (c a b : E) (F : Fam) (ρ : Nat -> Int) : (E.ite c a b).den F ρ = bif c.tt F ρ then a.den F ρ else b.den F ρ := rfl
theorem WI (k : K) (n : Int) (F : Fam) (ρ : Nat -> Int) : (E.lit k n).den F ρ = k.norm n := rfl
theorem RD (k : K) (i : Nat) (F : Fam) (ρ : Nat -> Int) : (E.var k i).den F ρ = k.norm (ρ i) := rfl
theorem WJ (op : BinOp) (k : IntKind) (a b : E) (F : Fam) (ρ : Nat -> Int) : (E.bin op k a b).den F ρ = binI op k (a.den F ρ) (b.den F ρ) := rfl
theorem W9 (op : BinOp) (k : IntKind) (a : E) (n : Int) (F : Fam) (ρ : Nat -> Int) : (E.dv op k a n).den F ρ = dvI op k (a.den F ρ) n := rfl
theorem Xa (op : BinOp) (k : IntKind) (a b : E) (F : Fam) (ρ : Nat -> Int) : (E.sh op k a b).den F ρ = shI op k (a.den F ρ) (b.den F ρ) := rfl
theorem VA (k : IntKind) (a : E) (F : Fam) (ρ : Nat -> Int) : (E.conv k a).den F ρ = k.wrap (a.den F ρ) := rfl
theorem N0 (k : K) (f j : Nat) (as : List E) (F : Fam) (ρ : Nat -> Int) : (E.app k f j as).den F ρ = k.norm (F f j (as.map (E.den F ρ))) := by simp only [E.den, GZ]
theorem Xb (f j : Nat) (as : List E) (F : Fam) (ρ : Nat -> Int) : (E.app .b f j as).tt F ρ = i2b (K.b.norm (F f j (as.map (E.den F ρ)))) := by simp only [E.tt, E.den, GZ]
theorem Xc (i : Nat) (F : Fam) (ρ : Nat -> Int) : (E.var .b i).tt F ρ = i2b (ρ i) := by
 by_cases h : ρ i = 0 <;> simp [E.tt, E.den, K.norm, i2b, h]
theorem Ad (k : IntKind) (n : Int) : K.norm (.i k) n = k.wrap n := rfl
theorem nb1 : K.b.norm 1 = 1 := rfl
theorem nb0 : K.b.norm 0 = 0 := rfl
theorem i2b1 : i2b 1 = true := rfl
theorem i2b0 : i2b 0 = false := rfl
theorem bt : b2i true = 1 := rfl
theorem bf : b2i false = 0 := rfl
theorem A0 (n : Int) : K.norm .x n = n := rfl
theorem F_bi (l : Tabs) (j : Nat) (xs : List Int) : l.F 0 j xs = bi j xs := l.BI j xs
theorem F_fn {l : Tabs} (e : Ent) {key : Nat} (hk : e.key = key) (he : l.get key = some e) (h : key ≠ 0) {j : Nat} (hj : (j == preC) = false) (xs : List Int) : l.F key j xs = e.fn j xs := by
 subst hk
 exact Tabs.F_fn he h (by simpa using hj) xs
theorem M4 (le : LEnt) (mu : List Int -> Nat) (n : Nat) (l0 : Tabs) (hk : le.ent.key ≠ 0) : ∃ l : Tabs, enL le mu n :: l0 = l /\ (∀ j, (j == preC) = false -> ∀ xs, l.F le.ent.key j xs = le.ent.fn j xs) /\
 (∀ xs, le.ent.pre xs /\ mu xs < n -> i2b (K.b.norm (l.F le.ent.key 1000000 xs)) = true) /\
 ∀ e : Ent, l0.get e.key = some e -> e.key ≠ le.ent.key -> e.key ≠ 0 -> (∀ j, (j == preC) = false -> ∀ xs, l.F e.key j xs = e.fn j xs) /\ ∀ xs, e.pre xs -> i2b (K.b.norm (l.F e.key 1000000 xs)) = true := by
 have g : Tabs.get (enL le mu n :: l0) le.ent.key = some (enL le mu n) := by simp [Tabs.get, enL]
 refine ⟨_, rfl, fun j hj xs => F_fn (enL le mu n) rfl g hk hj xs, fun xs h => (Tabs.F_pre (e := enL le mu n) g hk rfl).2 h, fun e he h1 h2 => ?_⟩
 have ge : Tabs.get (enL le mu n :: l0) e.key = some e := by
  have : (le.ent.key == e.key) = false := by simpa using fun e' => h1 e'.symm
  simp only [Tabs.get, enL, List.find?_cons, this]
  exact he
 exact ⟨fun j hj xs => F_fn e rfl ge h2 hj xs, fun xs h => (Tabs.F_pre ge h2 rfl).2 h⟩
theorem EU {l0 : Tabs} : ∃ l : Tabs, l0 = l /\ ∀ e : Ent, l0.get e.key = some e -> e.key ≠ 0 -> (∀ j, (j == preC) = false -> ∀ xs, l.F e.key j xs = e.fn j xs) /\ ∀ xs, e.pre xs -> i2b (K.b.norm (l.F e.key 1000000 xs)) = true :=
 ⟨_, rfl, fun e ge h2 => ⟨fun j hj xs => F_fn e rfl ge h2 hj xs, fun xs h => (Tabs.F_pre ge h2 rfl).2 h⟩⟩
theorem por (x y : Bool) : ((x || y) = true) = (x = false -> y = true) := by cases x <;> cases y <;> simp
theorem pnand (x y : Bool) : ((x && y) = false) = (x = true -> y = false) := by cases x <;> cases y <;> simp
theorem pand (x y : Bool) : ((x && y) = true) = (x = true /\ y = true) := by cases x <;> cases y <;> simp
theorem pnor (x y : Bool) : ((x || y) = false) = (x = false /\ y = false) := by cases x <;> cases y <;> simp
theorem pnot (x : Bool) : ((!x) = true) = (x = false) := by cases x <;> simp
theorem pnnot (x : Bool) : ((!x) = false) = (x = true) := by cases x <;> simp
theorem pcond (c x y : Bool) : ((bif c then x else y) = true) = ((c = true -> x = true) /\ (c = false -> y = true)) := by cases c <;> cases x <;> cases y <;> simp
theorem pncond (c x y : Bool) : ((bif c then x else y) = false) = ((c = true -> x = false) /\ (c = false -> y = false)) := by cases c <;> cases x <;> cases y <;> simp
theorem pdec (p : Prop) [Decidable p] : (decide p = true) = p := by simp
theorem pndec (p : Prop) [Decidable p] : (decide p = false) = ¬ p := by simp
theorem peq (x y : Int) : ((x == y) = true) = (x = y) := by simp
theorem pneq (x y : Int) : ((x == y) = false) = ¬ (x = y) := by simp
theorem pne (x y : Int) : ((x != y) = true) = ¬ (x = y) := by simp
theorem pnne (x y : Int) : ((x != y) = false) = (x = y) := by simp
theorem pgt (x y : Int) : (x > y) = (y < x) := rfl
theorem pge (x y : Int) : (x >= y) = (y <= x) := rfl
theorem u8w {z : Int} (h1 : 0 <= z) (h2 : z <= 255) : IntKind.u8.wrap z = z := by
 simp only [IntKind.wrap, IntKind.signed, IntKind.bits]; simp; omega
theorem u16w {z : Int} (h1 : 0 <= z) (h2 : z <= 65535) : IntKind.u16.wrap z = z := by
 simp only [IntKind.wrap, IntKind.signed, IntKind.bits]; simp; omega
theorem u32w {z : Int} (h1 : 0 <= z) (h2 : z <= 4294967295) : IntKind.u32.wrap z = z := by
 simp only [IntKind.wrap, IntKind.signed, IntKind.bits]; simp; omega
theorem u64w {z : Int} (h1 : 0 <= z) (h2 : z <= 18446744073709551615) : IntKind.u64.wrap z = z := by
 simp only [IntKind.wrap, IntKind.signed, IntKind.bits]; simp; omega
theorem u8r {z : Int} (h : IntKind.u8.wrap z = z) : 0 <= z /\ z <= 255 := by
 simp only [IntKind.wrap, IntKind.signed, IntKind.bits] at h; simp at h; omega
theorem dcond (c : Bool) (x y : Int) : (bif c then x else y) = if c = true then x else y := by cases c <;> rfl
open Classical in
theorem AN {l0 : Tabs} : ∃ l : Tabs, l0 = l /\ ∀ e : Ent, l0.get e.key = some e -> e.key ≠ 0 -> (∀ j, (j == preC) = false -> ∀ xs, l.F e.key j xs = e.fn j xs) /\ ∀ xs, (i2b (K.b.norm (l.F e.key 1000000 xs)) = true) = e.pre xs :=
 ⟨_, rfl, fun e ge h2 => ⟨fun j hj xs => F_fn e rfl ge h2 hj xs, fun xs => propext (Tabs.F_pre ge h2 rfl)⟩⟩
theorem UG (le : LEnt) (mu : List Int -> Nat) (n : Nat) (l0 : Tabs) (hk : le.ent.key ≠ 0) : ∃ l : Tabs, enL le mu n :: l0 = l /\ ((∀ j, (j == preC) = false -> ∀ xs, l.F le.ent.key j xs = le.ent.fn j xs) /\
 (∀ xs, (i2b (K.b.norm (l.F le.ent.key 1000000 xs)) = true) = (le.ent.pre xs /\ mu xs < n))) /\
 ∀ e : Ent, l0.get e.key = some e -> e.key ≠ le.ent.key -> e.key ≠ 0 -> (∀ j, (j == preC) = false -> ∀ xs, l.F e.key j xs = e.fn j xs) /\ ∀ xs, (i2b (K.b.norm (l.F e.key 1000000 xs)) = true) = e.pre xs := by
 have g : Tabs.get (enL le mu n :: l0) le.ent.key = some (enL le mu n) := by simp [Tabs.get, enL]
 refine ⟨_, rfl, ⟨fun j hj xs => F_fn (enL le mu n) rfl g hk hj xs, fun xs => propext (Tabs.F_pre (e := enL le mu n) g hk rfl)⟩, fun e he h1 h2 => ?_⟩
 have ge : Tabs.get (enL le mu n :: l0) e.key = some e := by
  have : (le.ent.key == e.key) = false := by simpa using fun e' => h1 e'.symm
  simp only [Tabs.get, enL, List.find?_cons, this]
  exact he
 exact ⟨fun j hj xs => F_fn e rfl ge h2 hj xs, fun xs => propext (Tabs.F_pre ge h2 rfl)⟩
def Ent.nm (e : Ent) : Ent := { e with key := e.key + 100000000 }
theorem Ent.nm_fn (e : Ent) : e.nm.fn = e.fn := rfl
theorem Ent.nm_pre (e : Ent) : e.nm.pre = e.pre := rfl
theorem EntryOK.nm {P : Program} {G : Glob} {e : Ent} (h : EntryOK P G e) : EntryOK P G e.nm := h
def LEnt.nm (le : LEnt) : LEnt := { le with ent := le.ent.nm }
theorem CodeOK.nm {P : Program} {G : Glob} {c : Code} {le : LEnt} (h : CodeOK P G c le) : CodeOK P G c le.nm := h
def Ctx.nm (c : Ctx) : Ctx := ⟨c.fs.map Ent.nm, c.ls.map fun x => (x.1, x.2.1, x.2.2.nm)⟩
theorem Qe : ∀ {l : List Ent}, Dz l = true -> Dz (l.map Ent.nm) = true
 | [], _ => rfl
 | e :: r, h => by
   simp only [Dz, Bool.and_eq_true, Bool.not_eq_true', List.any_eq_false, beq_iff_eq, List.map_cons] at h ⊢
   refine ⟨fun x hx => ?_, Qe h.2⟩
   obtain ⟨y, hy, rfl⟩ := List.mem_map.1 hx
   have := h.1 y hy
   show ¬ y.key + 100000000 = e.key + 100000000
   omega
theorem Ctx.nm_l (c : Ctx) : c.nm.l = c.l.map Ent.nm := by
 simp only [Ctx.l, Ctx.nm, List.map_append, List.map_map]; rfl
theorem Ctx.OK.nm {P : Program} {G : Glob} {c : Ctx} (h : c.OK P G) : c.nm.OK P G := by
 refine ⟨?_, fun e he => ?_, fun x hx => ?_⟩
 ·rw [Ctx.nm_l]; exact Qe h.keys
 ·obtain ⟨y, hy, rfl⟩ := List.mem_map.1 he
  exact (h.fs y hy).nm
 ·obtain ⟨y, hy, rfl⟩ := List.mem_map.1 hx
  exact CodeOK.nm (h.ls y hy)
mutual
def E.no (p : Nat -> Bool) : E -> Bool
 | .lit .. => true
 | .var _ i => !p i
 | .app _ _ _ as => E.noL p as
 | .bin _ _ a b => E.no p a && E.no p b
 | .dv _ _ a _ => E.no p a
 | .sh _ _ a b => E.no p a && E.no p b
 | .cmp _ a b => E.no p a && E.no p b
 | .conv _ a => E.no p a
 | .not a => E.no p a
 | .and a b => E.no p a && E.no p b
 | .or a b => E.no p a && E.no p b
 | .ite c a b => E.no p c && (E.no p a && E.no p b)
def E.noL (p : Nat -> Bool) : List E -> Bool
 | [] => true
 | e :: r => E.no p e && E.noL p r
end
mutual
theorem E.no_den {F : Fam} {p : Nat -> Bool} {ρ ρ' : Nat -> Int} (h : ∀ i, p i = false -> ρ i = ρ' i) : ∀ e : E, E.no p e = true -> e.den F ρ = e.den F ρ'
 | .lit .., _ => rfl
 | .var k i, hn => by simp only [E.no, Bool.not_eq_true'] at hn; simp only [E.den, h i hn]
 | .app k f j as, hn => by simp only [E.no] at hn; simp only [E.den, E.no_denL h as hn]
 | .bin op k a b, hn => by simp only [E.no, Bool.and_eq_true] at hn; simp only [E.den, E.no_den h a hn.1, E.no_den h b hn.2]
 | .dv op k a n, hn => by simp only [E.no] at hn; simp only [E.den, E.no_den h a hn]
 | .sh op k a b, hn => by simp only [E.no, Bool.and_eq_true] at hn; simp only [E.den, E.no_den h a hn.1, E.no_den h b hn.2]
 | .cmp op a b, hn => by simp only [E.no, Bool.and_eq_true] at hn; simp only [E.den, E.no_den h a hn.1, E.no_den h b hn.2]
 | .conv k a, hn => by simp only [E.no] at hn; simp only [E.den, E.no_den h a hn]
 | .not a, hn => by simp only [E.no] at hn; simp only [E.den, E.no_den h a hn]
 | .and a b, hn => by simp only [E.no, Bool.and_eq_true] at hn; simp only [E.den, E.no_den h a hn.1, E.no_den h b hn.2]
 | .or a b, hn => by simp only [E.no, Bool.and_eq_true] at hn; simp only [E.den, E.no_den h a hn.1, E.no_den h b hn.2]
 | .ite c a b, hn => by simp only [E.no, Bool.and_eq_true] at hn; simp only [E.den, E.no_den h c hn.1, E.no_den h a hn.2.1, E.no_den h b hn.2.2]
theorem E.no_denL {F : Fam} {p : Nat -> Bool} {ρ ρ' : Nat -> Int} (h : ∀ i, p i = false -> ρ i = ρ' i) : ∀ l : List E, E.noL p l = true -> E.denL F ρ l = E.denL F ρ' l
 | [], _ => rfl
 | e :: r, hn => by simp only [E.noL, Bool.and_eq_true] at hn; simp only [E.denL, E.no_den h e hn.1, E.no_denL h r hn.2]
end
def okD (np : Nat) : List (Nat × E) -> Bool
 | [] => true
 | x :: r => (decide (np <= x.1) && E.no (fun i => i == x.1 || r.any fun y => y.1 == i) x.2) && ((!r.any fun y => y.1 == x.1) && okD np r)
theorem UH (F : Fam) (np : Nat) : ∀ (d : List (Nat × E)) (ρ0 : Nat -> Int), okD np d = true -> ∃ ρ : Nat -> Int, (∀ i, (d.any fun y => y.1 == i) = false -> ρ i = ρ0 i) /\ ∀ x ∈ d, ρ x.1 = x.2.den F ρ
 | [], ρ0, _ => ⟨ρ0, fun _ _ => rfl, fun x hx => by cases hx⟩
 | x :: r, ρ0, h => by
   simp only [okD, Bool.and_eq_true, decide_eq_true_eq, Bool.not_eq_true'] at h
   obtain ⟨⟨h1, h2⟩, h3, h4⟩ := h
   obtain ⟨ρ, q1, q2⟩ := UH F np r (fun i => if i = x.1 then x.2.den F ρ0 else ρ0 i) h4
   have hx : ρ x.1 = x.2.den F ρ := by
    rw [q1 x.1 h3, if_pos rfl]
    refine E.no_den (fun i hi => ?_) _ h2
    simp only [Bool.or_eq_false_iff, beq_eq_false_iff_ne] at hi
    rw [q1 i hi.2, if_neg hi.1]
   refine ⟨ρ, fun i hi => ?_, fun y hy => ?_⟩
   ·simp only [List.any_cons, Bool.or_eq_false_iff, beq_eq_false_iff_ne] at hi
    rw [q1 i hi.2, if_neg (fun e => hi.1 e.symm)]
   ·rcases List.mem_cons.1 hy with rfl | hy
    ·exact hx
    ·exact q2 y hy
theorem UI {np : Nat} : ∀ {d : List (Nat × E)}, okD np d = true -> ∀ i, i < np -> (d.any fun y => y.1 == i) = false
 | [], _, _, _ => rfl
 | x :: r, h, i, hi => by
   simp only [okD, Bool.and_eq_true, decide_eq_true_eq] at h
   simp only [List.any_cons, UI h.2.2 i hi, Bool.or_false, beq_eq_false_iff_ne]
   have := h.1.1
   omega
theorem solve {F : Fam} (np : Nat) (d : List (Nat × E)) (h : okD np d = true) (xs : List Int) : ∃ ρ : Nat -> Int, (∀ i, i < np -> ρ i = env xs i) /\ ∀ x ∈ d, ρ x.1 = x.2.den F ρ := by
 obtain ⟨ρ, a, b⟩ := UH F np d (env xs) h
 exact ⟨ρ, fun i hi => a i (UI h i hi), b⟩
theorem ewA : (∀ (a b : E) (F : Fam) (ρ : Nat -> Int), (E.and a b).tt F ρ = (a.tt F ρ && b.tt F ρ)) /\
 (∀ (a b : E) (F : Fam) (ρ : Nat -> Int), (E.or a b).tt F ρ = (a.tt F ρ || b.tt F ρ)) /\
 (∀ (a : E) (F : Fam) (ρ : Nat -> Int), (E.not a).tt F ρ = !a.tt F ρ) /\
 (∀ (op : BinOp) (a b : E) (F : Fam) (ρ : Nat -> Int), (E.cmp op a b).tt F ρ = cmpB op (a.den F ρ) (b.den F ρ)) /\
 (∀ (n : Int) (F : Fam) (ρ : Nat -> Int), (E.lit .b n).tt F ρ = decide (n ≠ 0)) /\
 (∀ (c a b : E) (F : Fam) (ρ : Nat -> Int), (E.ite c a b).tt F ρ = bif c.tt F ρ then a.tt F ρ else b.tt F ρ) /\
 (∀ (i : Nat) (F : Fam) (ρ : Nat -> Int), (E.var .b i).tt F ρ = i2b (ρ i)) /\
 (∀ (f j : Nat) (as : List E) (F : Fam) (ρ : Nat -> Int), (E.app .b f j as).tt F ρ = i2b (K.b.norm (F f j (as.map (E.den F ρ))))) /\
 (∀ (op : BinOp) (a b : E) (F : Fam) (ρ : Nat -> Int), (E.cmp op a b).den F ρ = b2i (cmpB op (a.den F ρ) (b.den F ρ))) /\
 (∀ (a : E) (F : Fam) (ρ : Nat -> Int), (E.not a).den F ρ = b2i (!a.tt F ρ)) /\
 (∀ (a b : E) (F : Fam) (ρ : Nat -> Int), (E.and a b).den F ρ = b2i (a.tt F ρ && b.tt F ρ)) /\
 (∀ (a b : E) (F : Fam) (ρ : Nat -> Int), (E.or a b).den F ρ = b2i (a.tt F ρ || b.tt F ρ)) /\
 (∀ (c a b : E) (F : Fam) (ρ : Nat -> Int), (E.ite c a b).den F ρ = bif c.tt F ρ then a.den F ρ else b.den F ρ) /\
 (∀ (k : K) (n : Int) (F : Fam) (ρ : Nat -> Int), (E.lit k n).den F ρ = k.norm n) /\
 (∀ (k : K) (i : Nat) (F : Fam) (ρ : Nat -> Int), (E.var k i).den F ρ = k.norm (ρ i)) /\
 (∀ (op : BinOp) (k : IntKind) (a b : E) (F : Fam) (ρ : Nat -> Int), (E.bin op k a b).den F ρ = binI op k (a.den F ρ) (b.den F ρ)) /\
 (∀ (op : BinOp) (k : IntKind) (a : E) (n : Int) (F : Fam) (ρ : Nat -> Int), (E.dv op k a n).den F ρ = dvI op k (a.den F ρ) n) /\
 (∀ (op : BinOp) (k : IntKind) (a b : E) (F : Fam) (ρ : Nat -> Int), (E.sh op k a b).den F ρ = shI op k (a.den F ρ) (b.den F ρ)) /\
 (∀ (k : IntKind) (a : E) (F : Fam) (ρ : Nat -> Int), (E.conv k a).den F ρ = k.wrap (a.den F ρ)) /\
 (∀ (k : K) (f j : Nat) (as : List E) (F : Fam) (ρ : Nat -> Int), (E.app k f j as).den F ρ = k.norm (F f j (as.map (E.den F ρ)))) /\
 (∀ (k : IntKind) (n : Int), K.norm (.i k) n = k.wrap n) /\
 (∀ (n : Int), K.norm .x n = n) /\
 (∀ (b : Bool), K.b.norm (b2i b) = b2i b) /\
 (K.b.norm 1 = 1) /\
 (K.b.norm 0 = 0) /\
 (i2b 1 = true) /\
 (i2b 0 = false) /\
 (∀ (b : Bool), i2b (b2i b) = b) /\
 (∀ (l : Tabs) (j : Nat) (xs : List Int), l.F 0 j xs = bi j xs) /\
 (∀ (l : RL), dc (cd l) = l) :=
 ⟨@UE, @tt_or, @W5, @UF, @W6, @W7, @Xc, @Xb, @WE, @WF, @WG, @W8, @WH, @WI, @RD, @WJ, @W9, @Xa, @VA, @N0, @Ad, @A0, @DY, @nb1, @nb0, @i2b1, @i2b0, @GY, @F_bi, @Ac⟩
theorem ewB : (∀ (x y : Bool), ((x || y) = true) = (x = false -> y = true)) /\
 (∀ (x y : Bool), ((x && y) = false) = (x = true -> y = false)) /\
 (∀ (x y : Bool), ((x && y) = true) = (x = true /\ y = true)) /\
 (∀ (x y : Bool), ((x || y) = false) = (x = false /\ y = false)) /\
 (∀ (x : Bool), ((!x) = true) = (x = false)) /\
 (∀ (x : Bool), ((!x) = false) = (x = true)) /\
 (∀ (c x y : Bool), ((bif c then x else y) = true) = ((c = true -> x = true) /\ (c = false -> y = true))) /\
 (∀ (c x y : Bool), ((bif c then x else y) = false) = ((c = true -> x = false) /\ (c = false -> y = false))) /\
 (∀ (x y : Int), ((x == y) = true) = (x = y)) /\
 (∀ (x y : Int), ((x == y) = false) = ¬ (x = y)) /\
 (∀ (x y : Int), ((x != y) = true) = ¬ (x = y)) /\
 (∀ (x y : Int), ((x != y) = false) = (x = y)) /\
 (∀ (x y : Int), (x > y) = (y < x)) /\
 (∀ (x y : Int), (x >= y) = (y <= x)) /\
 (∀ (c : Bool) (x y : Int), (bif c then x else y) = if c = true then x else y) /\
 (∀ (e : Ent), e.nm.fn = e.fn) /\
 (∀ (e : Ent), e.nm.pre = e.pre) /\
 (∀ {z : Int} (h1 : -9223372036854775808 <= z) (h2 : z <= 9223372036854775807), IntKind.i64.wrap z = z) /\
 (∀ {z : Int} (h1 : 0 <= z) (h2 : z <= 255), IntKind.u8.wrap z = z) /\
 (∀ {z : Int} (h1 : 0 <= z) (h2 : z <= 65535), IntKind.u16.wrap z = z) /\
 (∀ {z : Int} (h1 : 0 <= z) (h2 : z <= 4294967295), IntKind.u32.wrap z = z) /\
 (∀ {z : Int} (h1 : 0 <= z) (h2 : z <= 18446744073709551615), IntKind.u64.wrap z = z) :=
 ⟨@por, @pnand, @pand, @pnor, @pnot, @pnnot, @pcond, @pncond, @peq, @pneq, @pne, @pnne, @pgt, @pge, @dcond, @Ent.nm_fn, @Ent.nm_pre, @i64w, @u8w, @u16w, @u32w, @u64w⟩
theorem ewL : (∀ (f : E -> Int) (a : E) (l : List E), List.map f (a :: l) = f a :: List.map f l) /\ (∀ (f : E -> Int), List.map f [] = []) /\
 (∀ (a d : Int) (l : List Int) (n : Nat), (a :: l).getD (n + 1) d = l.getD n d) /\ (∀ (a d : Int) (l : List Int), (a :: l).getD 0 d = a) /\
 (∀ (a d : List Int) (l : RL) (n : Nat), (a :: l).getD (n + 1) d = l.getD n d) /\ (∀ (a d : List Int) (l : RL), (a :: l).getD 0 d = a) /\
 (∀ (a : Int) (l : List Int), (a :: l)[0]? = some a) /\ (∀ (a : Int) (l : List Int) (n : Nat), (a :: l)[n + 1]? = l[n]?) /\
 (∀ (a : E) (l : List E), (a :: l)[0]? = some a) /\ (∀ (a : E) (l : List E) (n : Nat), (a :: l)[n + 1]? = l[n]?) /\
 (∀ (l : List Int), [] ++ l = l) /\ (∀ (a : Int) (l m : List Int), a :: l ++ m = a :: (l ++ m)) /\
 (∀ (l : RL), [] ++ l = l) /\ (∀ (a : List Int) (l m : RL), a :: l ++ m = a :: (l ++ m)) /\
 (Int.toNat 0 = 0) /\ (Int.toNat 1 = 1) /\ (∀ n : Nat, Int.toNat (n : Int) = n) /\ (∀ n : Nat, 0 + n = n) :=
 ⟨fun _ _ _ => rfl, fun _ => rfl, fun _ _ _ _ => List.getD_cons_succ, fun _ _ _ => List.getD_cons_zero, fun _ _ _ _ => List.getD_cons_succ, fun _ _ _ => List.getD_cons_zero,
  fun _ _ => rfl, fun _ _ _ => rfl, fun _ _ => rfl, fun _ _ _ => rfl, fun _ => rfl, fun _ _ _ => rfl, fun _ => rfl, fun _ _ _ => rfl, rfl, rfl, fun _ => rfl, Nat.zero_add⟩
theorem ewM : (∀ (p : Prop) [Decidable p], (decide p = true) = p) /\ (∀ (p : Prop) [Decidable p], (decide p = false) = ¬ p) /\
 (∀ {a b : Int}, ¬ a < b ↔ b <= a) /\ (∀ {a b : Int}, ¬ a <= b ↔ b < a) /\ (∀ p : Prop, (True /\ p) = p) /\ (∀ p : Prop, (p /\ True) = p) /\ (∀ p : Prop, (False /\ p) = False) /\ (∀ p : Prop, (p /\ False) = False) /\
 (∀ p : Prop, (True -> p) = p) /\ (∀ p : Prop, (p -> True) = True) /\ (∀ p : Prop, (False -> p) = True) /\ ((¬ True) = False) /\ ((¬ False) = True) /\
 (∀ l : RL, l.take l.length = l) /\ (∀ l : RL, l.drop 0 = l) :=
 ⟨pdec, pndec, Int.not_lt, Int.not_le, true_and, and_true, false_and, and_false, fun p => by simp, fun p => by simp, fun p => by simp, not_true_eq_false, not_false_eq_true, fun _ => List.take_length, fun _ => rfl⟩
def enH (le : LEnt) (φ : Nat -> List Int -> Int) (mu : List Int -> Nat) (n : Nat) : Ent := { le.ent with fn := φ, pre := fun xs => le.ent.pre xs /\ mu xs < n }
theorem Ic {f g : Nat -> List Int -> Int} {xs : List Int} (h : ∀ j, f j xs = g j xs) : ∀ {ks : List K} {j : Nat}, Ai f xs j ks = Ai g xs j ks
 | [], _ => rfl
 | k :: ks, j => by simp only [Ai, h j, Ic h (ks := ks) (j := j + 1)]
section
variable {P : Program} {ρ : Nat -> Int} {G : Glob} {T : Tab} {l : Tabs} {w0 w w' : World} {M0 Im0 Im : Nat -> Prop} {ad ad' hs : Nat -> Hd} {m m2 m' : Mem} {tm : Tm} {en : Env} {a : Act}
theorem VB (hm : P.follows .mixedOrders = true) {body : Code} {le : LEnt} {l0 : Tabs} {call : Into} {N : Nat} {L : Cn} (mu : List Int -> Nat) (ψ : Nat -> Nat -> List Int -> Int) (hψ : ∀ n j xs, mu xs < n -> ψ n j xs = le.ent.fn j xs)
 (hS : ∀ φ n, Dy P G (enH le φ mu n :: l0) T) (hI : ∀ φ n ρ w0 M0 Im0, GOK G Im0 w0 -> EI P (enH le φ mu n :: l0) ρ w0 M0 Im0 call) (hL : ∀ φ n, G7 P G (enH le φ mu n :: l0) L body)
 {ob : E} {es : List E} (h : evL P G T call N L le body = some (ob, es))
 (hu : ∀ xs, fits le.ent.pks xs -> le.ent.pre xs -> ∃ ρ : Nat -> Int, (∀ i, i < le.ent.np -> ρ i = env xs i) /\ ob.tt (Tabs.F (enH le (ψ (mu xs)) mu (mu xs) :: l0)) ρ = true /\ ∀ (i : Nat) (k : K), le.ent.oks[i]? = some k -> k.norm (le.ent.fn i xs) = (es.getD i (mkB false)).den (Tabs.F (enH le (ψ (mu xs)) mu (mu xs) :: l0)) ρ) :
 Kk P G body le := by
 have main : ∀ n, Lb G { le with ent := enL le mu n } fun Q => Code.rounds P body Q n := by
  intro n
  induction n with
  | zero => intro xs hfit hpre; exact absurd hpre.2 (Nat.not_lt_zero _)
  | succ n ih =>
    intro xs hfit hpre w M0 Im hs hM hG hE a hdef hsz hsl Q hQ
    obtain ⟨hpre1, hpre2⟩ := hpre
    obtain ⟨ρ, hρ, u1, u2⟩ := hu xs hfit hpre1
    obtain ⟨m, hm0⟩ : ∃ m, m = mu xs := ⟨_, rfl⟩
    rw [<- hm0] at u1 u2
    have hmn : m <= n := by omega
    obtain ⟨l, hl⟩ : ∃ l : Tabs, l = enH le (ψ m) mu m :: l0 := ⟨_, rfl⟩
    have hS' := hS (ψ m) m
    have hI' := hI (ψ m) m
    have hL' := hL (ψ m) m
    have ih' : Lb G { le with ent := enH le (ψ m) mu m } fun Q => Code.rounds P body Q n := by
     intro xs hfit hpre w M0 Im hs hM hG hE a hdef hsz hsl Q hQ
     have hp2 : le.ent.pre xs /\ mu xs < m := hpre
     refine ih xs hfit ⟨hp2.1, by have := hp2.2; omega⟩ w M0 Im hs hM hG hE a hdef hsz hsl Q ?_
     have eo : Ai (ψ m) xs 0 le.ent.oks = Ai le.ent.fn xs 0 le.ent.oks := Ic fun j => hψ m j xs hp2.2
     intro a' w' hs' Im' Vs lab us q1 q2 q3 q4 q5
     refine hQ a' w' hs' Im' Vs lab us q1 q2 q3 ?_ ?_
     ·show RelE F0 (env (xs ++ Ai (ψ m) xs 0 le.ent.oks)) w M0 Im' hs' le.ent.oents w'
      rw [eo]; exact q4
     ·show (B3 le.ent.ogen.1).conc F0 (env (xs ++ Ai (ψ m) xs 0 le.ent.oks)) hs' = .tuple Vs.toArray
      rw [eo]; exact q5
    rw [<- hl] at u1 u2 hS' hI' hL'
    unfold evL at h
    split at h
    ·rename_i r hr
     split at h
     ·rename_i q hq
      split at h
      ·rename_i g es' hends
       simp only [oJ, pJ] at h
       obtain ⟨rfl, rfl⟩ := h
       obtain ⟨t1, t2⟩ := AU u1
       obtain ⟨elen0, espec0, hst0⟩ := GV (F := l.F) (ρ := ρ) (le := le) (d := q.2.1) (ss := q.2.2)
       rw [hends] at elen0 espec0 hst0
       have elen := elen0 es' rfl
       have espec : g.tt l.F ρ = true -> ∀ s, lk (q.2.1.eval l.F ρ) q.2.2 = some s -> ∃ g1 es1, DD le s (q.2.1.eval l.F ρ) = some (g1, es1) /\ g1.tt l.F ρ = true /\ es'.map (E.den l.F ρ) = es1.map (E.den l.F ρ) := fun ht s hs => by
        obtain ⟨es, g1, es1, h1, h2, h3, h4⟩ := espec0 ht s hs
        simp only [oJ] at h1
        subst h1
        exact ⟨g1, es1, h2, h3, h4⟩
       have hst : Ez le.ent = true := hst0 (by simp)
       let ad0 : Nat -> Hd := fun j => if j < le.ent.nn then hs j else { blk := 0, v := a.tmps.getD (j - le.ent.nn) undef }
       obtain ⟨r1, r2, r3⟩ := HR (ad := ad0) l le.nt hst hρ hfit hM hE fun j hj => if_pos hj
       have hT0 : RelT l.F ρ ad0 (start le.ent le.nt) (tmL le) a := by
        refine ⟨hdef, by simp [tmL]; exact hsz, fun i v hv => ?_⟩
        simp only [Tm.at, tmL, List.getD, List.getElem?_map] at hv
        by_cases hi : i < le.nt
        ·rw [List.getElem?_range hi] at hv
         simp only [Option.map_some, Option.getD_some] at hv
         split at hv
         ·rename_i k hk
          have hk2 := List.findIdx?_eq_some_iff_getElem.1 hk
          obtain ⟨hk3, hk4, _⟩ := hk2
          have hski : le.sl[k]? = some i := by rw [List.getElem?_eq_getElem hk3]; simpa using hk4
          have h1 := hsl k i hski
          change a.tmps[i]? = (SV.concL F0 (env xs) hs le.ent.pgen.1)[k]? at h1
          rw [<- r2, Ae, List.getElem?_map, hv, Option.map_some] at h1
          exact ⟨h1, Em r3 hv⟩
         ·simp only [oJ] at hv
          subst hv
          have hsz' : a.tmps.size = le.nt := hsz
          have hia : i < a.tmps.size := by rw [hsz']; exact hi
          refine ⟨?_, (D9 le.ent le.nt _).2 (by omega)⟩
          simp only [SV.conc, ad0]
          rw [if_neg (by omega), show le.ent.nn + i - le.ent.nn = i by omega]
          simp [Array.getD, hia]
        ·rw [List.getElem?_eq_none (by simpa using hi)] at hv
         simp at hv
       have hget : l.get (enH le (ψ m) mu m).key = some (enH le (ψ m) mu m) := by
        rw [hl]; simp [Tabs.get]
       have hA : After l.F ρ w M0 Im ad0 (start le.ent le.nt) q.2 Q := by
        intro s ad' a' w' hlk hRs hx
        obtain ⟨g1, es1, m1, m2, m3⟩ := espec t2 s hlk
        have m1' := m1
        unfold DD at m1'
        split at m1'
        ·rename_i bs us hbs hus
         split at m1'
         ·rename_i hkeep
          obtain ⟨hlen, hkeep⟩ := hkeep
          obtain ⟨b1, b2, b3⟩ := EJ (l := l) m1'
          have hys : Ai le.ent.fn xs 0 le.ent.oks = es1.map (E.den l.F ρ) := by
           rw [<- m3]
           refine FV _ _ _ (by simp [elen]) fun i k y h1 h2 => ?_
           rw [Nat.zero_add, u2 i k h1]
           rw [List.getElem?_map] at h2
           obtain ⟨x, hx, rfl⟩ := Option.map_eq_some_iff.1 h2
           simp [List.getD, hx]
          obtain ⟨hs', Im', q1, q2, q3, q4, q5⟩ := b3 (hs := hs) hρ hfit hys m2 (hRs.2.shareL _) fun j hj => by
           rw [<- hx.same j ((D9 le.ent le.nt j).2 (by omega))]
           exact if_pos hj
          obtain ⟨g1', g2'⟩ := FB hus
          have hbits := GU (F := l.F) (ρ := ρ) (ad := ad') (SV.concL l.F ρ ad' us) hbs
          refine hQ a' w' hs' Im' (SV.concL l.F ρ ad' (bs ++ us)) (q.2.1.eval l.F ρ) (SV.concL l.F ρ ad' us) q1 q2 q3 q5 ?_ ?_ ?_ ?_ ?_ hRs.1.defers
          ·show (B3 le.ent.ogen.1).conc _ _ _ = _
           rw [show Ai (enL le mu (n+1)).fn xs 0 (enL le mu (n+1)).oks = es1.map (E.den l.F ρ) from hys]
           rw [hys] at q4
           rw [<- q4]
           simp only [SV.conc]
          ·rw [show SV.concL l.F ρ ad' (bs ++ us) = SV.concL l.F ρ ad' bs ++ SV.concL l.F ρ ad' us by rw [Ae, Ae, Ae, List.map_append]]
           exact hbits.1
          ·intro i t hi
           have hv := g2' i t hi
           have hil : i < us.length := by have := (List.getElem?_eq_some_iff.1 hi).1; change i < le.so.length at this; omega
           rw [List.getElem?_eq_getElem hil] at hv
           rw [(hRs.1.slot t _ hv).1, Ae, List.getElem?_map, List.getElem?_eq_getElem hil, Option.map_some]
          ·intro k hk1 hk2
           have hsz' : a.tmps.size = le.nt := hsz
           by_cases hkn : k < le.nt
           ·have hkk := List.all_eq_true.1 hkeep k (List.mem_range.2 (by simp [tmL]; exact hkn))
            have c1 : le.so.contains k = false := by simpa using hk1
            have c2 : le.wr.contains k = false := by simpa using hk2
            rw [c1, c2, Bool.false_or, Bool.false_or] at hkk
            split at hkk
            ·rename_i v u hv0 hv1
             have := SV.same_eq _ _ hkk
             subst this
             obtain ⟨e1, e2⟩ := hT0.slot k v hv0
             rw [(hRs.1.slot k v hv1).1, e1, SV.conc_congr hx.same v e2]
            ·cases hkk
           ·have h1 : a'.tmps.size = le.nt := by rw [<- hlen]; exact hRs.1.size
            rw [Array.getElem?_eq_none (by omega), Array.getElem?_eq_none (by omega)]
          ·have h1 : a'.tmps.size = le.nt := by rw [<- hlen]; exact hRs.1.size
           have hsz' : a.tmps.size = le.nt := hsz
           omega
         ·cases m1'
        ·cases m1'
       show Code.rounds P body Q (n + 1) a w
       rw [rounds_succ]
       obtain ⟨v1, v2⟩ := FD (l := l) (ρ := ρ) (w0 := w) (M0 := M0) (Im0 := Im) (ad := ad0) (K := Code.rounds P body Q n) (g := q.1) (o := q.2) (f := Ju le) hq t1 hA fun s1 g2 o2 ad' a' w' h2 ht2 hR' hA' =>
        Gh (le := { le with ent := enH le (ψ m) mu m }) (C := fun Q => Code.rounds P body Q n) hget ih' hG (g := g2) (o := o2) h2 ht2 hR' hA'
       exact FE hm hS' hG (hI' ρ w M0 Im hG) body L _ r.1 r.2 ad0 a w _ hL' hr v1 ⟨hT0, r1⟩ v2
      ·cases h
     ·cases h
    ·cases h
 intro xs hfit hpre w M0 Im hs hM hG hE a hdef hsz hsl Q hQ
 exact wp_loop_rounds (mu xs + 1) (main (mu xs + 1) xs hfit ⟨hpre, Nat.lt_succ_self _⟩ w M0 Im hs hM hG hE a hdef hsz hsl Q hQ)
end
def dEl : List (Nat × E) -> E
 | [] => mkB true
 | x :: r => .and (.cmp .eql (.var x.2.kind x.1) x.2) (dEl r)
def dE (d : List (Nat × E)) (i n : Nat) : E := dEl ((d.drop i).take n)
def VT : E -> Bool
 | .app .. => true
 | _ => false
theorem UJ {F : Fam} {ρ : Nat -> Int} : ∀ {d : List (Nat × E)}, (d.all fun x => VT x.2) = true -> (∀ x ∈ d, ρ x.1 = x.2.den F ρ) -> (dEl d).tt F ρ = true
 | [], _, _ => rfl
 | x :: r, ha, h => by
   simp only [List.all_cons, Bool.and_eq_true] at ha
   rw [dEl, UE, UJ ha.2 fun y hy => h y (List.mem_cons_of_mem _ hy), Bool.and_true, UF, RD, h x (List.mem_cons_self ..)]
   obtain ⟨i, e⟩ := x
   cases e with
   | app k f j as =>
     simp only [E.kind, N0, K.norm_norm, cmpB, beq_self_eq_true]
   | _ => cases ha.1
theorem EA {F : Fam} {ρ : Nat -> Int} {d : List (Nat × E)} (ha : (d.all fun x => VT x.2) = true) (h : ∀ x ∈ d, ρ x.1 = x.2.den F ρ) (i n : Nat) : (dE d i n).tt F ρ = true := by
 refine UJ ?_ fun x hx => h x (List.mem_of_mem_drop (List.mem_of_mem_take hx))
 rw [List.all_eq_true] at ha ⊢
 exact fun x hx => ha x (List.mem_of_mem_drop (List.mem_of_mem_take hx))
theorem FC {l : Tabs} {k0 k : Nat} {f : Nat -> List Int -> Int} {p : List Int -> Prop} (hk : k0 = k) (h : (∀ j, (j == preC) = false -> ∀ xs, l.F k0 j xs = f j xs) /\ (∀ xs, (i2b (K.b.norm (l.F k0 1000000 xs)) = true) = p xs)) :
 (∀ xs, l.F k 0 xs = f 0 xs) /\ (∀ xs, l.F k 1 xs = f 1 xs) /\ (∀ xs, l.F k 2 xs = f 2 xs) /\ (∀ xs, l.F k 3 xs = f 3 xs) /\ (∀ xs, l.F k 4 xs = f 4 xs) /\ (∀ xs, l.F k 5 xs = f 5 xs) /\ (∀ xs, l.F k 6 xs = f 6 xs) /\ (∀ xs, l.F k 7 xs = f 7 xs) /\ (∀ xs, l.F k 8 xs = f 8 xs) /\ (∀ xs, l.F k 9 xs = f 9 xs) /\ (∀ xs, l.F k 10 xs = f 10 xs) /\ (∀ xs, l.F k 11 xs = f 11 xs) /\ (∀ xs, l.F k 12 xs = f 12 xs) /\ (∀ xs, l.F k 13 xs = f 13 xs) /\ (∀ xs, l.F k 14 xs = f 14 xs) /\ (∀ xs, l.F k 15 xs = f 15 xs) /\ (∀ xs, (i2b (K.b.norm (l.F k 1000000 xs)) = true) = p xs) := by
 subst hk
 exact ⟨h.1 0 rfl, h.1 1 rfl, h.1 2 rfl, h.1 3 rfl, h.1 4 rfl, h.1 5 rfl, h.1 6 rfl, h.1 7 rfl, h.1 8 rfl, h.1 9 rfl, h.1 10 rfl, h.1 11 rfl, h.1 12 rfl, h.1 13 rfl, h.1 14 rfl, h.1 15 rfl, h.2⟩
theorem nmd {F : Fam} {ρ : Nat -> Int} {d : List (Nat × E)} (h : ∀ x ∈ d, ρ x.1 = x.2.den F ρ) (n : Nat) {i : Nat} {k : K} {f j : Nat} {as : List E} (hn : d[n]? = some (i, .app k f j as)) : ∃ v, ρ i = v /\ v = k.norm (F f j (as.map (E.den F ρ))) /\ k.norm v = v := by
 have e := h _ (List.mem_of_getElem? hn)
 simp only [N0] at e
 exact ⟨_, rfl, e, by rw [e]; exact K.norm_norm _ _⟩
theorem Aa {k : K} {ks : List K} {xs : List Int} (h : fits (k :: ks) xs) : ∃ x r, xs = x :: r /\ k.norm x = x /\ fits ks r := by
 cases xs with
 | nil => exact h.elim
 | cons x r => exact ⟨x, r, rfl, h.1, h.2⟩
theorem AV {xs : List Int} (h : fits [] xs) : xs = [] := by
 cases xs with
 | nil => rfl
 | cons x r => exact h.elim
def esB : List K -> List E -> Bool
 | [], [] => true
 | k :: ks, e :: es => decide (e.kind = k) && e.sound && esB ks es
 | _, _ => false
theorem Le : ∀ {ks : List K} {es : List E}, esB ks es = true -> es.length = ks.length /\ ∀ (F : Fam) (ρ : Nat -> Int) (i : Nat) (k : K), ks[i]? = some k -> k.norm ((es.getD i (mkB false)).den F ρ) = (es.getD i (mkB false)).den F ρ
 | [], [], _ => ⟨rfl, fun _ _ i k h => by simp at h⟩
 | [], _ :: _, h => by simp [esB] at h
 | _ :: _, [], h => by simp [esB] at h
 | k :: ks, e :: es, h => by
   simp only [esB, Bool.and_eq_true, decide_eq_true_eq] at h
   obtain ⟨⟨rfl, h2⟩, h3⟩ := h
   obtain ⟨i1, i2⟩ := Le h3
   refine ⟨by simp [i1], fun F ρ i k hi => ?_⟩
   cases i with
   | zero =>
     simp only [List.getElem?_cons_zero, oJ] at hi
     subst hi
     simpa using E.den_norm F ρ e h2
   | succ i => simpa using i2 F ρ i k (by simpa using hi)
abbrev Post := List Int -> List Int -> Prop
def Fnd (F : Fam) (np : Nat) (ob : E) (es : List E) (Q : Post) (xs : List Int) (ρ : Nat -> Int) : Prop :=
 (∀ i, i < np -> ρ i = env xs i) /\ ob.tt F ρ = true /\ Q xs (es.map (E.den F ρ))
open Classical in
noncomputable def fnR (F : Fam) (np : Nat) (ob : E) (es : List E) (Q : Post) (j : Nat) (xs : List Int) : Int :=
 if h : ∃ ρ : Nat -> Int, Fnd F np ob es Q xs ρ then (es.getD j (mkB false)).den F h.choose else 0
theorem UK {F : Fam} {np : Nat} {ob : E} {es : List E} {Q : Post} {xs : List Int} (h : ∃ ρ : Nat -> Int, Fnd F np ob es Q xs ρ) : ∃ ρ, Fnd F np ob es Q xs ρ /\ ∀ j, fnR F np ob es Q j xs = (es.getD j (mkB false)).den F ρ :=
 ⟨h.choose, h.choose_spec, fun j => dif_pos h⟩
def PostOK (e : Ent) (Q : Post) : Prop := ∀ xs, fits e.pks xs -> e.pre xs -> Q xs (Ai e.fn xs 0 e.oks)
def VU : K -> Int -> Int -> Prop
 | .b, v, z => v = K.b.norm z
 | .i k, v, z => v = k.wrap z
 | .x, v, z => v = z
theorem Sq {k : K} {v z : Int} (h : VU k v z) : v = k.norm z := by cases k <;> exact h
def Aj (fn : Nat -> List Int -> Int) (xs : List Int) : Nat -> List K -> List Int -> Prop
 | _, [], [] => True
 | j, k :: ks, v :: vs => VU k v (fn j xs) /\ Aj fn xs (j + 1) ks vs
 | _, _, _ => False
theorem Qf {fn : Nat -> List Int -> Int} {xs : List Int} : ∀ {ks : List K} {vs : List Int} {j : Nat}, Aj fn xs j ks vs -> vs = Ai fn xs j ks
 | [], [], _, _ => rfl
 | [], _ :: _, _, h => h.elim
 | _ :: _, [], _, h => h.elim
 | k :: ks, v :: vs, j, h => by
   rw [Ai, <- Sq h.1, <- Qf h.2]
theorem PostOK.use {e : Ent} {Q : Post} (h : PostOK e Q) {xs vs : List Int} {ks os : List K} (hks : e.pks = ks) (hos : e.oks = os) (ho : Aj e.fn xs 0 os vs) (hf : fits ks xs) (hp : e.pre xs) : Q xs vs := by
 subst hks; subst hos
 rw [Qf ho]; exact h xs hf hp
theorem Qg {F : Fam} {ρ : Nat -> Int} {fn : Nat -> List Int -> Int} {xs : List Int} {ks : List K} {es : List E} (hb : esB ks es = true) (h : ∀ j, fn j xs = (es.getD j (mkB false)).den F ρ) : Ai fn xs 0 ks = es.map (E.den F ρ) := by
 obtain ⟨b1, b2⟩ := Le hb
 refine FV _ _ _ (by simp [b1]) fun i k y h1 h2 => ?_
 rw [Nat.zero_add, h i, b2 F ρ i k h1]
 rw [List.getElem?_map] at h2
 obtain ⟨x, hx, rfl⟩ := Option.map_eq_some_iff.1 h2
 simp [List.getD, hx]
def Ent.fw (e : Ent) (f : Nat -> List Int -> Int) : Ent := { e with fn := f }
def LEnt.fw (le : LEnt) (f : Nat -> List Int -> Int) : LEnt := { le with ent := le.ent.fw f }
theorem ewR : (∀ le : LEnt, le.nm.ent.fn = le.ent.fn) /\ (∀ le : LEnt, le.nm.ent.pre = le.ent.pre) /\ (∀ (e : Ent) (f : Nat -> List Int -> Int), (e.fw f).pre = e.pre) /\ (∀ (e : LEnt) (f : Nat -> List Int -> Int), (e.fw f).ent.pre = e.ent.pre) := ⟨fun _ => rfl, fun _ => rfl, fun _ _ => rfl, fun _ _ => rfl⟩
section
variable {P : Program} {G : Glob} {c : Ctx}
theorem Ctx.OK.entryH (hc : c.OK P G) (hm : P.follows .mixedOrders = true) {N n : Nat} {e : Ent} {ob : E} {es : List E} {Q : Post} (h : evE P G (Af c.fs) (ltOf c.ls) N n (e.fw (fnR c.l.F e.np ob es Q)) = some (ob, es)) (hb : esB e.oks es = true) (ks : List K) (hks : e.pks = ks)
 (hu : ∀ xs, fits ks xs -> e.pre xs -> ∃ ρ : Nat -> Int, (∀ i, i < ks.length -> ρ i = env xs i) /\ ob.tt c.l.F ρ = true /\ Q xs (es.map (E.den c.l.F ρ))) : EntryOK P G (e.fw (fnR c.l.F e.np ob es Q)) /\ PostOK (e.fw (fnR c.l.F e.np ob es Q)) Q := by
 subst hks
 have key : ∀ xs, fits e.pks xs -> e.pre xs -> ∃ ρ, Fnd c.l.F e.np ob es Q xs ρ /\ ∀ j, fnR c.l.F e.np ob es Q j xs = (es.getD j (mkB false)).den c.l.F ρ := fun xs hf hp => UK (hu xs hf hp)
 refine ⟨Ks hm (CK hc.fs hc.getF) (G8 hc.ls hc.getL) h fun xs hf hp => ?_, fun xs hf hp => ?_⟩
 ·obtain ⟨ρ, ⟨f1, f2, _⟩, f4⟩ := key xs hf hp
  refine ⟨ρ, f1, f2, fun i k hi => ?_⟩
  show k.norm (fnR c.l.F e.np ob es Q i xs) = _
  rw [f4 i]; exact (Le hb).2 _ _ i k hi
 ·obtain ⟨ρ, ⟨_, _, f3⟩, f4⟩ := key xs hf hp
  show Q xs (Ai (fnR c.l.F e.np ob es Q) xs 0 e.oks)
  rw [Qg hb f4]; exact f3
noncomputable def psiL (le : LEnt) (l0 : Tabs) (ob : E) (es : List E) (Q : Post) (mu : List Int -> Nat) : Nat -> Nat -> List Int -> Int
 | 0, _, _ => 0
 | n + 1, j, xs => if mu xs < n then psiL le l0 ob es Q mu n j xs else fnR (Tabs.F (enH le (psiL le l0 ob es Q mu n) mu n :: l0)) le.ent.np ob es Q j xs
noncomputable def fnL (le : LEnt) (l0 : Tabs) (ob : E) (es : List E) (Q : Post) (mu : List Int -> Nat) (j : Nat) (xs : List Int) : Int := psiL le l0 ob es Q mu (mu xs + 1) j xs
theorem N1 {le : LEnt} {l0 : Tabs} {ob : E} {es : List E} {Q : Post} {mu : List Int -> Nat} : ∀ (n j : Nat) (xs : List Int), mu xs < n -> psiL le l0 ob es Q mu n j xs = fnL le l0 ob es Q mu j xs
 | 0, _, _, h => absurd h (Nat.not_lt_zero _)
 | n + 1, j, xs, h => by
   by_cases hc : mu xs < n
   ·rw [psiL, if_pos hc]; exact N1 n j xs hc
   ·have e : n = mu xs := by omega
    rw [e]; rfl
theorem Xd {le : LEnt} {l0 : Tabs} {ob : E} {es : List E} {Q : Post} {mu : List Int -> Nat} (j : Nat) (xs : List Int) : fnL le l0 ob es Q mu j xs = fnR (Tabs.F (enH le (psiL le l0 ob es Q mu (mu xs)) mu (mu xs) :: l0)) le.ent.np ob es Q j xs := by
 rw [fnL, psiL, if_neg (Nat.lt_irrefl _)]
theorem Ctx.OK.loopH (hc : c.OK P G) (hm : P.follows .mixedOrders = true) {N n : Nat} {f : Nat} {p : List Bool} {le : LEnt} {ob : E} {es : List E} {Q : Post} {mu : List Int -> Nat}
 (hk : (c.l.any fun y => y.key == le.ent.key) = false) (hp : ∃ fn cd b, P.funcs[f]? = some fn /\ fn.body = some cd /\ A9 cd p = some (.loop b))
 (h : evL P G (Af c.fs) (evFn P G (Af c.fs) (ltOf c.ls) N n) N (subL c.ls f p) (le.fw (fnL le c.l ob es Q mu)) (BQ P f p) = some (ob, es)) (hb : esB le.ent.oks es = true) (ks : List K) (hks : le.ent.pks = ks)
 (hu : ∀ xs, fits ks xs -> le.ent.pre xs -> ∀ φ : Nat -> List Int -> Int, (∀ ys, fits ks ys -> le.ent.pre ys -> mu ys < mu xs -> Q ys (Ai φ ys 0 le.ent.oks)) ->
  ∃ ρ : Nat -> Int, (∀ i, i < ks.length -> ρ i = env xs i) /\ ob.tt (Tabs.F (enH le φ mu (mu xs) :: c.l)) ρ = true /\ Q xs (es.map (E.den (Tabs.F (enH le φ mu (mu xs) :: c.l)) ρ))) :
 Bc P G f p (le.fw (fnL le c.l ob es Q mu)) /\ PostOK (le.fw (fnL le c.l ob es Q mu)).ent Q := by
 subst hks
 have hpost : ∀ m xs, mu xs = m -> fits le.ent.pks xs -> le.ent.pre xs -> Q xs (Ai (fnL le c.l ob es Q mu) xs 0 le.ent.oks) /\ ∃ ρ, Fnd (Tabs.F (enH le (psiL le c.l ob es Q mu (mu xs)) mu (mu xs) :: c.l)) le.ent.np ob es Q xs ρ /\
  ∀ j, fnL le c.l ob es Q mu j xs = (es.getD j (mkB false)).den (Tabs.F (enH le (psiL le c.l ob es Q mu (mu xs)) mu (mu xs) :: c.l)) ρ := by
  intro m
  induction m using Nat.strongRecOn with
  | _ m ih =>
    intro xs hm' hf hp'
    obtain ⟨ρ, ⟨f1, f2, f3⟩, f4⟩ := UK (hu xs hf hp' (psiL le c.l ob es Q mu (mu xs)) fun ys hy1 hy2 hy3 => by
     rw [Ic fun j => N1 (mu xs) j ys hy3]
     exact (ih (mu ys) (by omega) ys rfl hy1 hy2).1)
    have f5 : ∀ j, fnL le c.l ob es Q mu j xs = (es.getD j (mkB false)).den (Tabs.F (enH le (psiL le c.l ob es Q mu (mu xs)) mu (mu xs) :: c.l)) ρ := fun j => (Xd j xs).trans (f4 j)
    refine ⟨?_, ρ, ⟨f1, f2, f3⟩, f5⟩
    rw [Qg hb f5]; exact f3
 refine ⟨?_, fun xs hf hp' => (hpost _ xs rfl hf hp').1⟩
 obtain ⟨fn, cd, b, b1, b2, b3⟩ := hp
 have hcf : Cr P f p = .loop b := by unfold Cr; simp only [b1, b2, b3, Option.getD_some]
 unfold Bc
 rw [hcf]
 show Kk P G b (le.fw (fnL le c.l ob es Q mu))
 have hbd : BQ P f p = b := by unfold BQ; simp only [b1, b2, b3]
 rw [hbd] at h
 have g1 : ∀ φ n, ∀ e ∈ c.fs, Tabs.get (enH (le.fw (fnL le c.l ob es Q mu)) φ mu n :: c.l) e.key = some e := fun φ n e he => HS (e := enH (le.fw (fnL le c.l ob es Q mu)) φ mu n) (hc.getF e he) hk
 have g2 : ∀ φ n, ∀ x ∈ c.ls, Tabs.get (enH (le.fw (fnL le c.l ob es Q mu)) φ mu n :: c.l) x.2.2.ent.key = some x.2.2.ent := fun φ n x hx => HS (e := enH (le.fw (fnL le c.l ob es Q mu)) φ mu n) (hc.getL x hx) hk
 have g3 : ∀ φ n, LTOK P G (enH (le.fw (fnL le c.l ob es Q mu)) φ mu n :: c.l) (ltOf c.ls) := fun φ n => G8 hc.ls (g2 φ n)
 refine VB hm mu (psiL le c.l ob es Q mu) (fun n j xs h => N1 n j xs h) (fun φ n => CK hc.fs (g1 φ n)) (fun φ n ρ w0 M0 Im0 hG => FF hm (CK hc.fs (g1 φ n)) hG (g3 φ n) _) (fun φ n => ?_) h fun xs hf hp' => ?_
 ·intro q le' hq body hbody
  exact g3 φ n f fn cd b1 b2 (p ++ false :: q) le' hq body (by rw [Jx b3]; exact hbody)
 ·obtain ⟨_, ρ, ⟨f1, f2, _⟩, f5⟩ := hpost _ xs rfl hf hp'
  refine ⟨ρ, f1, f2, fun i k hi => ?_⟩
  show k.norm (fnL le c.l ob es Q mu i xs) = _
  rw [f5 i]; exact (Le hb).2 _ _ i k hi
theorem M5 (le : LEnt) (φ : Nat -> List Int -> Int) (mu : List Int -> Nat) (n : Nat) (l0 : Tabs) (hk : le.ent.key ≠ 0) : ∃ l : Tabs, enH le φ mu n :: l0 = l /\ ((∀ j, (j == preC) = false -> ∀ xs, l.F le.ent.key j xs = φ j xs) /\
 (∀ xs, (i2b (K.b.norm (l.F le.ent.key 1000000 xs)) = true) = (le.ent.pre xs /\ mu xs < n))) /\
 ∀ e : Ent, l0.get e.key = some e -> e.key ≠ le.ent.key -> e.key ≠ 0 -> (∀ j, (j == preC) = false -> ∀ xs, l.F e.key j xs = e.fn j xs) /\ ∀ xs, (i2b (K.b.norm (l.F e.key 1000000 xs)) = true) = e.pre xs := by
 have g : Tabs.get (enH le φ mu n :: l0) le.ent.key = some (enH le φ mu n) := by simp [Tabs.get, enH]
 refine ⟨_, rfl, ⟨fun j hj xs => F_fn (enH le φ mu n) rfl g hk hj xs, fun xs => propext (Tabs.F_pre (e := enH le φ mu n) g hk rfl)⟩, fun e he h1 h2 => ?_⟩
 have ge : Tabs.get (enH le φ mu n :: l0) e.key = some e := by
  have : (le.ent.key == e.key) = false := by simpa using fun e' => h1 e'.symm
  simp only [Tabs.get, enH, List.find?_cons, this]
  exact he
 exact ⟨fun j hj xs => F_fn e rfl ge h2 hj xs, fun xs => propext (Tabs.F_pre ge h2 rfl)⟩
end
end Go.Proofs.Ytnockichpnaoeaa.Ew
namespace Go.Proofs.Ytnockichpnaoeaa.Ew.Ar
open Go Go.RowKit Go.ChangeShapes Go.WideShapes Go.Proofs.Ytnockichpnaoeaa.Ew
def vals : List K -> List Int -> List Value
 | k :: ks, x :: xs => k.val x :: vals ks xs
 | _, _ => []
theorem B7 : ∀ {ks ls : List K} {xs ys : List Int}, fits ks xs -> fits ls ys -> fits (ks ++ ls) (xs ++ ys)
 | [], _, [], _, _, h => h
 | [], _, _ :: _, _, h, _ => h.elim
 | _ :: _, _, [], _, h, _ => h.elim
 | _ :: _, _, _ :: _, _, h, h' => ⟨h.1, B7 h.2 h'⟩
def EF (leaf : TypeId -> Option (List K)) (P : Program) : List (TypeId × Nat) -> Nat -> Option (List K)
 | [], _ => some []
 | (t, o) :: r, off => if o = off then
  match leaf t with
  | some ks => if P.cellsOf t = ks.length then (EF leaf P r (off + ks.length)).map (ks ++ ·) else none
  | none => none
   else none
def CI (P : Program) : Nat -> TypeId -> Option (List K)
 | 0, _ => none
 | n + 1, t => match P.underlying t with
   | some .bool => some [.b]
   | some (.int k) => some [.i k]
   | some (.struct fs) => match EF (CI P n) P (fs.toList.map fun f => (f.type, f.offset)) 0 with
     | some ks => if P.cellsOf t = ks.length then some ks else none
     | none => none
   | some (.array m e) => match EF (CI P n) P ((List.range m).map fun i => (e, i * P.cellsOf e)) 0 with
     | some ks => if P.cellsOf t = ks.length then some ks else none
     | none => none
   | _ => none
theorem LO : ∀ {ks ls : List K} {xs ys : List Int}, fits ks xs -> vals (ks ++ ls) (xs ++ ys) = vals ks xs ++ vals ls ys
 | [], _, [], _, _ => rfl
 | [], _, _ :: _, _, h => h.elim
 | _ :: _, _, [], _, h => h.elim
 | _ :: ks, _, _ :: xs, _, h => by simp [vals, LO h.2]
section
variable {H : Type} {enc : TypeId × Value -> H} {P : Program} {w : World} {base : Nat} {spare : Nat -> Bool} {held : Bool}
def UL (enc : TypeId × Value -> H) (P : Program) (t : TypeId) (ks : List K) : Prop :=
 ∀ (w : World) (base : Nat) (spare : Nat -> Bool) (held : Bool) (fuel : Nat) (cs : List Value) (x : DataW H × List MemPlace), DataW.trod enc P w base spare held fuel t cs = some x ->
   ∃ xs, cs = vals ks xs /\ fits ks xs /\ x.2 = [] /\ ∀ (w' : World) (base' : Nat) (spare' : Nat -> Bool) (held' : Bool), DataW.trod enc P w' base' spare' held' fuel t cs = some x
theorem WK {k : IntKind} {n : Int} (h : (Lit.int k n).wf = true) : k.wrap n = n := by
 simp only [Lit.wf, Bool.and_eq_true, decide_eq_true_eq] at h
 cases k <;> simp [IntKind.wrap, IntKind.signed, IntKind.bits] <;> simp [IntKind.min, IntKind.max, IntKind.signed, IntKind.bits] at h <;> omega
theorem Ma {ks : List K} {xs : List Int} (h : fits ks xs) : (vals ks xs).length = ks.length := by
 induction ks generalizing xs with
 | nil => cases xs <;> simp [vals]
 | cons k ks ih => cases xs with
   | nil => exact h.elim
   | cons x xs => simp [vals, ih h.2]
theorem Kt {leaf : TypeId -> Option (List K)} (hleaf : ∀ t ks, leaf t = some ks -> UL enc P t ks) {fuel : Nat} (cs : List Value) :
 ∀ (l : List (TypeId × Nat)) (off : Nat) (ks : List K) (ys : List (DataW H × List MemPlace)), EF leaf P l off = some ks -> (cs.drop off).length = ks.length ->
   (l.mapM fun p => DataW.trod enc P w base spare held fuel p.1 ((cs.drop p.2).take (P.cellsOf p.1))) = some ys ->
   ∃ xs, cs.drop off = vals ks xs /\ fits ks xs /\ ys.flatMap (·.2) = [] /\ ∀ (w' : World) (base' : Nat) (spare' : Nat -> Bool) (held' : Bool), (l.mapM fun p => DataW.trod enc P w' base' spare' held' fuel p.1 ((cs.drop p.2).take (P.cellsOf p.1))) = some ys
 | [], off, ks, ys, hp, hl, hm => by
   simp only [EF, oJ] at hp
   subst hp
   simp only [List.mapM_nil, Option.pure_def, oJ] at hm
   subst hm
   refine ⟨[], ?_, trivial, rfl, fun _ _ _ _ => by simp⟩
   simp only [vals]
   exact List.eq_nil_of_length_eq_zero (by simpa using hl)
 | (t, o) :: r, off, ks, ys, hp, hl, hm => by
   simp only [EF] at hp
   split at hp
   ·rename_i ho
    subst ho
    split at hp
    ·rename_i k1 hk1
     split at hp
     ·rename_i hc
      obtain ⟨k2, hk2, rfl⟩ := Option.map_eq_some_iff.1 hp
      simp only [List.mapM_cons, Option.bind_eq_bind, Option.pure_def, Option.bind_eq_some_iff, oJ] at hm
      obtain ⟨y, hy, ys', hys', rfl⟩ := hm
      rw [hc] at hy
      obtain ⟨xs1, e1, f1, p1, a1⟩ := hleaf t k1 hk1 _ _ _ _ _ _ _ hy
      have hl2 : (cs.drop (o + k1.length)).length = k2.length := by
       simp only [List.length_drop, List.length_append] at hl ⊢
       omega
      obtain ⟨xs2, e2, f2, p2, a2⟩ := Kt hleaf cs r (o + k1.length) k2 ys' hk2 hl2 hys'
      refine ⟨xs1 ++ xs2, ?_, B7 f1 f2, by simp [p1, p2], fun w' base' spare' held' => ?_⟩
      ·rw [LO f1, <- e1, <- e2, <- List.drop_drop, List.take_append_drop]
      ·simp only [List.mapM_cons, Option.bind_eq_bind, Option.pure_def, a2 w' base' spare' held', hc, a1 w' base' spare' held', Option.bind_some]
     ·cases hp
    ·cases hp
   ·cases hp
theorem O0 {α β γ : Type} (f : α -> β) (g : β -> Option γ) (l : List α) : (l.map f).mapM g = l.mapM fun a => g (f a) := by
 induction l with
 | nil => simp
 | cons a r ih => simp [List.mapM_cons, ih]
theorem HT : ∀ (n : Nat) (t : TypeId) (ks : List K), CI P n t = some ks -> UL enc P t ks
 | 0, _, _, h => by simp [CI] at h
 | n + 1, t, ks, h => by
   intro w base spare held fuel cs x hx
   simp only [CI] at h
   split at h
   ·rename_i hu
    simp only [oJ] at h; subst h
    obtain ⟨b, rfl, rfl⟩ := DataW.trod_bool hu hx
    refine ⟨[b2i b], by simp [vals, K.val], ⟨by simp [DY], trivial⟩, rfl, fun w' base' spare' held' => ?_⟩
    cases fuel with
    | zero => simp [DataW.trod] at hx
    | succ m => simp [DataW.trod, hu]
   ·rename_i k hu
    simp only [oJ] at h; subst h
    obtain ⟨z, rfl, rfl, hw⟩ := DataW.trod_int hu hx
    refine ⟨[z], by simp [vals, K.val], ⟨WK hw, trivial⟩, rfl, fun w' base' spare' held' => ?_⟩
    cases fuel with
    | zero => simp [DataW.trod] at hx
    | succ m => simp [DataW.trod, hu, hw]
   ·rename_i fs hu
    split at h
    ·rename_i ks' hp
     split at h
     ·rename_i hc
      simp only [oJ] at h; subst h
      cases fuel with
      | zero => simp [DataW.trod] at hx
      | succ m =>
        have un : ∀ (w : World) (base : Nat) (spare : Nat -> Bool) (held : Bool), DataW.trod enc P w base spare held (m + 1) t cs = if cs.length = P.cellsOf t then ((fs.toList.map fun f => (f.type, f.offset)).mapM fun p => DataW.trod enc P w base spare held m p.1 ((cs.drop p.2).take (P.cellsOf p.1))).map (fun xs => (.agg (xs.map (·.1)), xs.flatMap (·.2))) else none := by
         intro w base spare held
         rw [O0, DataW.trod]
         simp only [hu]
        rw [un] at hx
        split at hx
        ·rename_i hl
         obtain ⟨ys, hys, rfl⟩ := Option.map_eq_some_iff.1 hx
         obtain ⟨xs, e1, f1, p1, a1⟩ := Kt (fun t ks ht => HT n t ks ht) cs _ 0 ks' ys hp (by simp [hl, hc]) hys
         refine ⟨xs, by simpa using e1, f1, p1, fun w' base' spare' held' => ?_⟩
         rw [un, if_pos hl, a1 w' base' spare' held']
         rfl
        ·cases hx
     ·cases h
    ·cases h
   ·rename_i m' e hu
    split at h
    ·rename_i ks' hp
     split at h
     ·rename_i hc
      simp only [oJ] at h; subst h
      cases fuel with
      | zero => simp [DataW.trod] at hx
      | succ m =>
        have un : ∀ (w : World) (base : Nat) (spare : Nat -> Bool) (held : Bool), DataW.trod enc P w base spare held (m + 1) t cs = if cs.length = P.cellsOf t then (((List.range m').map fun i => (e, i * P.cellsOf e)).mapM fun p => DataW.trod enc P w base spare held m p.1 ((cs.drop p.2).take (P.cellsOf p.1))).map (fun xs => (.agg (xs.map (·.1)), xs.flatMap (·.2))) else none := by
         intro w base spare held
         rw [O0]
         conv => lhs; unfold DataW.trod
         rw [hu]
        rw [un] at hx
        split at hx
        ·rename_i hl
         obtain ⟨ys, hys, rfl⟩ := Option.map_eq_some_iff.1 hx
         obtain ⟨xs, e1, f1, p1, a1⟩ := Kt (fun t ks ht => HT n t ks ht) cs _ 0 ks' ys hp (by simp [hl, hc]) hys
         refine ⟨xs, by simpa using e1, f1, p1, fun w' base' spare' held' => ?_⟩
         rw [un, if_pos hl, a1 w' base' spare' held']
         rfl
        ·cases hx
     ·cases h
    ·cases h
   ·cases h
theorem O2 {w : World} {Im : Nat -> Prop} : ∀ {ks : List K} {xs : List Int}, fits ks xs -> RowV w Im (Row.ofKs ks) xs (vals ks xs)
 | [], [], _ => ⟨rfl, rfl⟩
 | [], _ :: _, h => h.elim
 | _ :: _, [], h => h.elim
 | k :: ks, x :: xs, h => ⟨x, xs, vals ks xs, rfl, rfl, h.1, O2 h.2⟩
theorem Sr {W : World} {t e : TypeId} {ks : List K} {r : Reach} {b0 : Nat} {v : Value} {d : DataW H} {p : List MemPlace} (ht : P.underlying t = some (.slice e)) (hk : CI P 9 e = some ks) (hc : P.cellsOf e = ks.length) (h0 : 0 < ks.length)
 (hv : Value.okWide P W r b0 t v) (h : DataW.Trod enc P W 0 (fun _ => true) true t v d p) :
 ∃ (hd : Hd) (l : RL), v = hd.sl l.length /\ ShL W (fun b => b < W.heap.size) (Row.ofKs ks) hd l /\ (∀ r ∈ l, fits ks r) /\ l.length <= maxLen /\
   ∀ (W' : World) (sp : Nat -> Bool), Below W.heap.size W W' -> (∀ q ∈ p, sp q.block = true) -> DataW.Trod enc P W' 0 sp true t v d p := by
 obtain ⟨fuel, hf⟩ := h
 rcases Deep.open_slice ht hf with ⟨hcs, hx⟩ | ⟨a, len, cap, m, n, D, Pl, hcs, hb, hl, hm, hmm, hx, hel⟩
 ·obtain ⟨a, len, cap, rfl⟩ := okWide_slice ht hv
  have hcs' : [Value.slice a len cap] = [.slice none 0 0] := hcs
  simp only [List.cons.injEq, Value.slice.injEq, and_true] at hcs'
  obtain ⟨rfl, rfl, rfl⟩ := hcs'
  refine ⟨{ blk := 0, nil := true }, [], rfl, ⟨Nat.zero_le _, Nat.zero_le _, fun h => absurd rfl h, fun i r' hi => absurd hi (by simp)⟩, (fun r hr => absurd hr (by simp)), Nat.zero_le _, fun W' sp _ _ => ⟨fuel, ?_⟩⟩
  simp only [pJ] at hx
  obtain ⟨rfl, rfl⟩ := hx
  show DataW.trod enc P W' 0 sp true fuel t [.slice none 0 0] = _
  cases fuel with
  | zero => simp [DataW.trod] at hf
  | succ fuel => simp [DataW.trod, ht]
 ·obtain ⟨a', len', cap', rfl⟩ := okWide_slice ht hv
  have hcs' : [Value.slice a' len' cap'] = [.slice (some a) len cap] := hcs
  simp only [List.cons.injEq, Value.slice.injEq, and_true] at hcs'
  obtain ⟨rfl, rfl, rfl⟩ := hcs'
  simp only [if_true] at hmm
  subst hmm
  have hsp : a.spot = none := by
   simp only [Value.okWide, ht, Cell.okWide, Cell.ok] at hv
   exact hv.2.2.2.1
  obtain ⟨blk, off, spot⟩ := a
  simp only at hsp
  subst hsp
  simp only [pJ] at hx
  obtain ⟨rfl, rfl⟩ := hx
  have hrow : ∀ i, i < m -> ∃ xs, fits ks xs /\ W.cells? 0 ((⟨blk, off, none⟩ : Addr).add (i * P.cellsOf e)) (P.cellsOf e) = some (vals ks xs) /\ Pl i = [] /\ ∀ (W' : World) (sp : Nat -> Bool), DataW.trod enc P W' 0 sp true n e (vals ks xs) = some (D i, []) := fun i hi => by
   obtain ⟨cs', c1, c2⟩ := hel i hi
   obtain ⟨xs, e1, f1, p1, a1⟩ := HT 9 e ks hk _ _ _ _ _ _ _ c2
   simp only at p1
   refine ⟨xs, f1, by rw [<- e1]; exact c1, p1, fun W' sp => ?_⟩
   rw [<- e1]
   have := a1 W' 0 sp true
   rw [p1] at this
   exact this
  obtain ⟨R, hR⟩ := Deep.choose_lt hrow
  have hcell : ∀ i, i < m -> ∀ j u, (vals ks (R i))[j]? = some u -> W.cell? ⟨blk, off + i * ks.length + j, none⟩ = some u := fun i hi j u hu => by
   have c1 := (hR i hi).2.1
   have hs := World.cells?_some c1
   have hlv := Ma (hR i hi).1
   have hj : j < ks.length := by have := (List.getElem?_eq_some_iff.1 hu).1; omega
   have h2 := hs.2.2 j (by omega)
   rw [hu] at h2
   rw [<- h2, hc]
   simp only [Addr.add]
   split <;> (split at * <;> simp_all <;> omega)
  refine ⟨{ blk := blk, off := off, cap := m }, (List.range len').map R, by simp [Hd.sl], ⟨by simp; omega, by simpa using hl, fun hne => ?_, fun i r' hi => ?_⟩, fun r hr => ?_, by simp; omega, fun W' sp hbl hsp => ?_⟩
  ·have h1 : 0 < len' := by
    cases len' with
    | zero => exact absurd rfl hne
    | succ _ => omega
   have c1 := (hR 0 (by omega)).2.1
   simpa [Addr.add] using World.cells?_block c1 (by omega)
  ·rw [List.getElem?_map] at hi
   obtain ⟨i', hi', rfl⟩ := Option.map_eq_some_iff.1 hi
   obtain ⟨hil, hie⟩ := List.getElem?_eq_some_iff.1 hi'
   simp only [List.length_range] at hil
   simp only [List.getElem_range] at hie
   subst hie
   refine ⟨_, O2 (hR i (by omega)).1, fun j u hu => ?_⟩
   rw [AS]
   exact hcell i (by omega) j u hu
  ·obtain ⟨i, hi, hri⟩ := List.mem_map.1 hr
   rw [<- hri]
   exact (hR i (by have := List.mem_range.1 hi; omega)).1
  ·have hpl : (List.range m).flatMap Pl = (List.range m).flatMap fun _ => ([] : List MemPlace) := by
    rw [List.flatMap_def, List.flatMap_def, List.map_congr_left fun i hi => (hR i (List.mem_range.1 hi)).2.2.1]
   by_cases hm0 : m = 0
   ·subst hm0
    have hl0 : len' = 0 := by omega
    subst hl0
    refine ⟨fuel, ?_⟩
    show DataW.trod enc P W' 0 sp true fuel t [.slice (some ⟨blk, off, none⟩) 0 0] = _
    cases fuel with
    | zero => simp [DataW.trod] at hf
    | succ fuel => simp [DataW.trod, ht, hm]
   refine Deep.shut_slice_whole (a := ⟨blk, off, none⟩) ht (Nat.zero_le _) hl hm ?_ D Pl fun i hi => ⟨vals ks (R i), n, ?_, ?_⟩
   ·refine hsp (.cell blk off) ?_
    refine List.mem_append_left _ (MemPlace.mem_row.2 ⟨0, ?_, by simp⟩)
    rw [hc]; exact Nat.mul_pos (by omega) h0
   ·have c1 := (hR i hi).2.1
    obtain ⟨g1, g2, g3⟩ := World.cells?_some c1
    have hbk := World.cells?_block c1 (by omega)
    refine World.cells?_of_each g1 g2 fun j hj => ?_
    rw [<- g3 j hj]
    rw [add_plain] at hbk
    rw [add_plain, add_plain]
    exact hbl.cell (p := ⟨blk, off + i * P.cellsOf e + j, none⟩) hbk
   ·rw [(hR i hi).2.2.1]
    exact (hR i hi).2.2.2 W' sp
theorem VC {W : World} {t : TypeId} {fs : Array Field} {ks : List K} {r : Reach} {b0 : Nat} {v : Value} {d : DataW H} {p : List MemPlace} (ht : P.underlying t = some (.struct fs)) (hk : CI P 9 t = some ks) (hv : Value.okWide P W r b0 t v) (h : DataW.Trod enc P W base spare held t v d p) :
 ∃ xs, v = .agg (vals ks xs).toArray /\ fits ks xs /\ p = [] /\ ∀ (W' : World) (b : Nat) (sp : Nat -> Bool) (hd : Bool), DataW.Trod enc P W' b sp hd t v d [] := by
 obtain ⟨cs, rfl, _⟩ := okWide_struct ht hv
 obtain ⟨fuel, hf⟩ := h
 obtain ⟨xs, e1, f1, p1, a1⟩ := HT 9 t ks hk _ _ _ _ _ _ _ hf
 simp only at p1
 subst p1
 refine ⟨xs, ?_, f1, rfl, fun W' b sp hd => ⟨fuel, a1 W' b sp hd⟩⟩
 have e2 : cs.toList = vals ks xs := e1
 rw [<- e2]
theorem Ss {f : Func} {s : ChangeSpec} {apart fresh handsOn again : Bool} {W W' : World} {args : Array Value} {v : Value} {ds gs : List (DataW H)} {before pa pv : List MemPlace}
 (hW : DataW.Whole enc P f.params.toList s.vars apart W args.toList ds gs before)
 (hres : ∀ (b : Nat) (sp : Nat -> Bool) (hd : Bool), DataW.TrodAll enc P W' b sp hd f.resultTypes.toList (v.resultList f.resultTypes.size) (s.fn H (ds ++ gs)).results [])
 (hargs : ∀ sp : Nat -> Bool, (∀ p ∈ before, sp p.block = true) -> DataW.TrodAll enc P W' 0 sp true f.params.toList args.toList (s.fn H (ds ++ gs)).args pa)
 (hvars : ∀ sp : Nat -> Bool, (∀ p ∈ before, sp p.block = true) -> DataW.TrodVars enc P W' sp s.vars (s.fn H (ds ++ gs)).vars pv)
 (hps : before = pa ++ pv) (hb : Below W.heap.size W W')
 (hok : ∀ (j : Nat) (t : TypeId) (r : Value), f.resultTypes[j]? = some t -> (v.resultList f.resultTypes.size)[j]? = some r -> Value.okWide P W' .any 0 t r) :
 s.post enc P f apart fresh handsOn again W args v W' := by
 have hlt : ∀ p ∈ before, p.block < W.heap.size := fun p hp => hW.lt p hp
 have hold : ∀ p ∈ before, (fun b => decide (b < W.heap.size)) p.block = true := fun p hp => by simpa using hlt p hp
 refine ⟨ds, gs, before, [], pa, pv, hW, hres _ _ _, hargs _ hold, hvars _ hold, World.keptBut_mono (fun p hp => ⟨hp, ?_⟩) (hb.frame (· ∈ before)), fun _ => ?_⟩
 ·rw [hps, List.mem_append] at hp
  exact Or.inr hp
 ·obtain ⟨_, _, _, _, _, hz, hn⟩ := hW
  refine ⟨hok, _, _, ([] ++ pa) ++ pv, ⟨[] ++ pa, pv, trodAll_append (hargs _ (fun _ _ => rfl)) (hres _ _ _), hvars _ (fun _ _ => rfl), rfl, ?_, ?_⟩, ?_⟩
  ·intro b off hp
   have hin : MemPlace.cell b off ∈ before := by rw [hps]; simpa using hp
   rw [hb.frozen (hlt _ hin)]
   exact hz b off hin
  ·intro ha
   have := hn ha
   rw [hps] at this
   simpa using this
  ·intro p hp _
   rw [hps]
   simpa using hp
theorem UM {e : Ent} (h : EntryOK P (fun _ _ => none) e) {xs : List Int} (hf : fits e.pks xs) (hp : e.pre xs) (ho : e.os = []) (hr : e.rs = .lt .b 1) {W : World} {hs : Nat -> Hd} {args : Array Value}
 (ha : (SV.concL F0 (env xs) hs e.pgen.1).toArray = args) (hE : RelE F0 (env xs) W (fun _ => False) (fun b => b < W.heap.size) hs e.pgen.2 W) : Calls P e.f args W fun en W' => en = .returned (.bool true) /\ Below W.heap.size W W' := by
 subst ha
 refine (h xs hf hp W (fun _ => False) (fun b => b < W.heap.size) hs (fun b hb => hb.elim) (fun F ρ b off v hv => by cases hv) hE).mono ?_
 rintro en w' ⟨hs', Im', _, _, _, rfl, hR⟩
 refine ⟨?_, hR.fr.toBelow⟩
 congr 1
 unfold Ent.ogen Ent.outL
 rw [ho, hr]
 simp [Sh.genL, Sh.gen, B3, SV.conc, E.val, E.kind, E.tt, E.den, K.norm, i2b]
theorem VD {W : World} {ρ : Nat -> Int} {hs : Nat -> Hd} : RelE F0 ρ W (fun _ => False) (fun b => b < W.heap.size) hs [] W :=
 ⟨(fun x hx => by cases hx), (fun x hx => by cases hx), (fun b hb => hb), Fr.refl _ _⟩
theorem UN {W : World} {ρ : Nat -> Int} {hs : Nat -> Hd} {n : Nat} {g le c : E} {ty : Nat} {row : Row} {l : Ents} (h1 : isCd (c.den F0 ρ)) (h2 : le.den F0 ρ = ((dc (c.den F0 ρ)).length : Int)) (h3 : ShL W (fun b => b < W.heap.size) row (hs n) (dc (c.den F0 ρ)))
 (h : RelE F0 ρ W (fun _ => False) (fun b => b < W.heap.size) hs l W) : RelE F0 ρ W (fun _ => False) (fun b => b < W.heap.size) hs ((n, g, .lst ty row false le c) :: l) W := by
 refine ⟨fun x hx hg => ?_, fun x hx y hy hgx hgy b hbx hby => ?_, h.im, h.fr⟩
 ·rcases List.mem_cons.1 hx with rfl | hx
  ·exact ⟨⟨h1, h2, h3⟩, fun b hb => by simp [mutB] at hb⟩
  ·exact h.ent x hx hg
 ·rcases List.mem_cons.1 hx with rfl | hx
  ·simp [mutB] at hbx
  ·rcases List.mem_cons.1 hy with rfl | hy
   ·simp [mutB] at hby
   ·exact h.inj x hx y hy hgx hgy b hbx hby
end
end Go.Proofs.Ytnockichpnaoeaa.Ew.Ar

/- One operation of a region: its plan, what it does, what it touches; that it tells what the operation does. -/
import Derived.Test.YtmolkkphnehgcaaWZa
set_option linter.unusedVariables false
set_option linter.unusedSimpArgs false
namespace Go.Proofs.Ytmolkkphnehgcaa.Ew
open Go Go.RowKit

inductive W where
  | val (v : SV)
  | dx (g : E) (x : X)
  | call (g : E) (f : Nat) (args : List SV)
  deriving Repr, Inhabited

def opPlan (P : Program) (cs : List E) (en : Env) (o : Oper) : Option W :=
  match pick? o.op with
  | some (c, a, b) => (opPick cs en c a b).map .val
  | none => match descX P (getC cs en) o with
    | some (g, .old (.call f args)) => some (.call g f args)
    | some (g, x) => some (.dx g x)
    | none => none

def forceL : List SV → E
  | [] => mkB true
  | v :: r => mkAnd (force v).1 (forceL r)
def fArgs (fo : Bool) (args : List SV) : List SV := bif fo then args.map fun v => (force v).2 else args
def callK (T : Tab) (m : Mem) (nm f : Nat) (args : List SV) (k : Nat) (fo : Bool) : Option (E × SV × Mem) :=
  match (T f)[k % 1000]? with
  | some e => (callX (decide (1000 ≤ k)) e m nm (fArgs fo args)).map fun r => (mkAnd (bif fo then forceL args else mkB true) r.1, r.2.1, r.2.2)
  | none => none
def fpK (T : Tab) (m : Mem) (nm f : Nat) (args : List SV) (k : Nat) (fo : Bool) : FP :=
  match (T f)[k % 1000]? with
  | some e => fpCX (decide (1000 ≤ k)) e m nm (fArgs fo args)
  | none => ([], [])
/-- The first summary that fits. -/
def findK (T : Tab) (m : Mem) (nm f : Nat) (args : List SV) : Option (Nat × Bool) :=
  (((List.range (T f).length).map fun k => (k, false)) ++ ((List.range (T f).length).map fun k => (k + 1000, false)) ++ ((List.range (T f).length).map fun k => (k, true)) ++ ((List.range (T f).length).map fun k => (k + 1000, true))).find? fun c => (callK T m nm f args c.1 c.2).isSome

abbrev Ch := Option (Nat × Bool)
def runW (P : Program) (G : Glob) (T : Tab) (m : Mem) (nm : Nat) (ch : Ch) : W → Option (E × SV × Mem)
  | .val v => some (mkB true, v, m)
  | .dx g x => (applyX P G m nm x).bind fun r => if r.1.kind = .b then some (mkAnd g r.1, r.2.1, r.2.2) else none
  | .call g f args => match ch with
    | some (k, fo) => (callK T m nm f args k fo).map fun r => (mkAnd g r.1, r.2.1, r.2.2)
    | none => none
def fpW (T : Tab) (m : Mem) (nm : Nat) (ch : Ch) : W → FP
  | .val _ => ([], [])
  | .dx _ x => fpX nm x
  | .call _ f args => match ch with
    | some (k, fo) => fpK T m nm f args k fo
    | none => ([], [])

section
variable {P : Program} {ρ : Nat → Int} {G : Glob} {T : Tab} {l : Tabs} {w0 w : World} {M0 Im0 : Nat → Prop} {ad : Nat → Hd} {m m2 m' : Mem} {tm : Tm} {en : Env} {a : Act}

theorem forceL_spec {F : Fam} : ∀ (args : List SV), (forceL args).kind = .b ∧ ((forceL args).tt F ρ = true → SV.concL F ρ ad (args.map fun v => (force v).2) = SV.concL F ρ ad args)
  | [] => ⟨rfl, fun _ => rfl⟩
  | v :: r => by
    obtain ⟨i1, i2⟩ := forceL_spec (F := F) r
    have h := mkAnd_spec (force v).1 (forceL r) (force_kind v) i1 F ρ
    refine ⟨h.2, fun ht => ?_⟩
    simp only [forceL] at ht
    rw [h.1, Bool.and_eq_true] at ht
    simp only [List.map_cons, SV.concL, i2 ht.2]
    rw [(force_spec (F := F) (ρ := ρ) (ad := ad) (p := fun _ => True) v).1 ht.1]

theorem fArgs_spec {F : Fam} {fo : Bool} {args : List SV} (h : (bif fo then forceL args else mkB true).tt F ρ = true) : SV.concL F ρ ad (fArgs fo args) = SV.concL F ρ ad args := by
  cases fo
  · rfl
  · exact (forceL_spec args).2 h

theorem runW_loc {nm : Nat} {ch : Ch} {W : W} {g : E} {v : SV} (h : runW P G T m nm ch W = some (g, v, m')) :
    Loc (fun m => runW P G T m nm ch W) m (fpW T m nm ch W) g v m' ∧ ∀ m2, Agree ((fpW T m nm ch W).1 ++ (fpW T m nm ch W).2) m m2 → fpW T m2 nm ch W = fpW T m nm ch W := by
  have wrap : ∀ {f : Mem → Option (E × SV × Mem)} {q : E → E} {g0 : E} {v : SV} {m' : Mem} {fp : FP}, Loc f m fp g0 v m' → Loc (fun m => (f m).map fun r => (q r.1, r.2.1, r.2.2)) m fp (q g0) v m' := fun {f q g0 v m' fp} hL =>
    ⟨hL.len, hL.frame, fun m2 hl ha => by
      obtain ⟨m2', r1, r2, r3, r4⟩ := hL.loc m2 hl ha
      exact ⟨m2', by simp only [r1, Option.map_some], r2, r3, r4⟩⟩
  cases W with
  | val u =>
    simp only [runW, Option.some.injEq, Prod.mk.injEq] at h
    obtain ⟨rfl, rfl, rfl⟩ := h
    exact ⟨Loc.read fun _ _ _ => rfl, fun _ _ => rfl⟩
  | dx g0 x =>
    simp only [runW] at h
    obtain ⟨⟨g1, v1, m1⟩, h1, h2⟩ := Option.bind_eq_some_iff.1 h
    split at h2
    · rename_i hk
      simp only [Option.some.injEq, Prod.mk.injEq] at h2
      obtain ⟨rfl, rfl, rfl⟩ := h2
      have hL := applyX_loc h1
      refine ⟨⟨hL.len, hL.frame, fun m2 hl ha => ?_⟩, fun _ _ => rfl⟩
      obtain ⟨m2', r1, r2, r3, r4⟩ := hL.loc m2 hl ha
      refine ⟨m2', ?_, r2, r3, r4⟩
      simp only at hk
      simp only [runW, r1, Option.bind_some, if_pos hk]
    · cases h2
  | call g0 f args =>
    simp only [runW] at h
    split at h
    · rename_i k fo
      obtain ⟨⟨g1, v1, m1⟩, h1, h2⟩ := Option.map_eq_some_iff.1 h
      simp only [Prod.mk.injEq] at h2
      obtain ⟨rfl, rfl, rfl⟩ := h2
      unfold callK at h1
      split at h1
      · rename_i e he
        obtain ⟨⟨g3, v3, m3⟩, h3, h4⟩ := Option.map_eq_some_iff.1 h1
        simp only [Prod.mk.injEq] at h4
        obtain ⟨rfl, rfl, rfl⟩ := h4
        obtain ⟨c1, c2⟩ := callX_loc h3
        have hf : ∀ m, fpW T m nm (some (k, fo)) (.call g0 f args) = fpCX (decide (1000 ≤ k)) e m nm (fArgs fo args) := fun m => by simp only [fpW, fpK, he]
        rw [hf]
        refine ⟨?_, fun m2 ha => by rw [hf]; exact c2 m2 ha⟩
        have := wrap (q := fun g => mkAnd g0 g) (wrap (q := fun g => mkAnd (bif fo then forceL args else mkB true) g) c1)
        refine ⟨this.len, this.frame, fun m2 hl ha => ?_⟩
        obtain ⟨m2', r1, r2, r3, r4⟩ := this.loc m2 hl ha
        refine ⟨m2', ?_, r2, r3, r4⟩
        simp only [runW, callK, he]
        exact r1
      · cases h1
    · cases h

/-- An operation that yields a value: what follows is met in the state behind it. -/
theorem runW_sound (hS : SumOK P G l T) (hG : GOK G Im0 w0) (hT : RelV l.F ρ ad m en a) (hR : Rel l.F ρ w0 M0 Im0 ad m w) {cs : List E} (hc : holds l.F ρ cs = true) {nm : Nat} {ch : Ch} {o : Oper} {W : W} (hp : opPlan P cs en o = some W) {g : E} {v : SV}
    (h : runW P G T m nm ch W = some (g, v, m')) : g.kind = .b ∧ (g.tt l.F ρ = true → ∀ (K : Act → World → Prop) (Q : Exit → Act → World → Prop),
      (∀ ad' w', Rel l.F ρ w0 M0 Im0 ad' m' w' → Ext ad ad' m m' → v.ok (al m') → K (a.put o.dst (v.conc l.F ρ ad')) w') → o.wp P a w K Q) := by
  have hB := l.BI
  unfold opPlan at hp
  split at hp
  · rename_i x y z hpk
    obtain ⟨u, h1, rfl⟩ := Option.map_eq_some_iff.1 hp
    simp only [runW, Option.some.injEq, Prod.mk.injEq] at h
    obtain ⟨rfl, rfl, rfl⟩ := h
    refine ⟨rfl, fun _ K Q hK => ?_⟩
    have ho : o.op = .pick x y z := by
      unfold pick? at hpk
      split at hpk
      · rename_i heq; simp only [Option.some.injEq, Prod.mk.injEq] at hpk; obtain ⟨rfl, rfl, rfl⟩ := hpk; exact heq
      · cases hpk
    obtain ⟨hrun, i3⟩ := opPick_run (P := P) (w := w) hT hc h1 ho
    unfold Oper.wp
    rw [hrun]
    exact hK ad w hR (Ext.refl _ _) i3
  · split at hp
    · rename_i g0 f args hds
      simp only [Option.some.injEq] at hp
      subst hp
      obtain ⟨j1, j2⟩ := descX_run l.BI (P := P) (w := w) (F := l.F) (ρ := ρ) (ad := ad) (p := al m) (ev := a.eval) (fun x s hx => getC_spec hT hc hx) hds
      simp only [runW] at h
      split at h
      · rename_i k fo
        obtain ⟨⟨g1, v1, m1⟩, h1, h2⟩ := Option.map_eq_some_iff.1 h
        simp only [Prod.mk.injEq] at h2
        obtain ⟨rfl, rfl, rfl⟩ := h2
        unfold callK at h1
        split at h1
        · rename_i e he
          obtain ⟨⟨g3, v3, m3⟩, h3, h4⟩ := Option.map_eq_some_iff.1 h1
          simp only [Prod.mk.injEq] at h4
          obtain ⟨rfl, rfl, rfl⟩ := h4
          obtain ⟨t1, t2, t3⟩ := hS f e (List.mem_of_getElem? he)
          obtain ⟨c1, c2⟩ := callX_sound t2 t3 hG hR h3
          have fk : (bif fo then forceL args else mkB true).kind = .b := by
            cases fo
            · rfl
            · exact (forceL_spec (F := l.F) (ρ := ρ) (ad := ad) args).1
          have a1 := mkAnd_spec _ g3 fk c1 l.F ρ
          have a2 := mkAnd_spec g0 _ j1 a1.2 l.F ρ
          refine ⟨a2.2, fun ht K Q hK => ?_⟩
          rw [a2.1, a1.1, Bool.and_eq_true, Bool.and_eq_true] at ht
          obtain ⟨d1, d2⟩ := j2 ht.1
          have hcall := c2 ht.2.2
          rw [fArgs_spec ht.2.1, t1] at hcall
          unfold Oper.wp
          rw [d1]
          simp only [X.run, D.run, Oper.upon]
          refine hcall.mono ?_
          rintro en' w' ⟨ad', rfl, r2, r3, r4⟩
          exact hK ad' w' r2 r3 r4
        · cases h1
      · cases h
    · rename_i g0 x hnc hds
      simp only [Option.some.injEq] at hp
      subst hp
      obtain ⟨j1, j2⟩ := descX_run l.BI (P := P) (w := w) (F := l.F) (ρ := ρ) (ad := ad) (p := al m) (ev := a.eval) (fun x s hx => getC_spec hT hc hx) hds
      simp only [runW] at h
      obtain ⟨⟨g1, v1, m1⟩, h1, h2⟩ := Option.bind_eq_some_iff.1 h
      split at h2
      · rename_i hk
        simp only [Option.some.injEq, Prod.mk.injEq] at h2
        obtain ⟨rfl, rfl, rfl⟩ := h2
        simp only at hk
        have a2 := mkAnd_spec g0 g1 j1 hk l.F ρ
        refine ⟨a2.2, fun ht K Q hK => ?_⟩
        rw [a2.1, Bool.and_eq_true] at ht
        obtain ⟨d1, d2⟩ := j2 ht.1
        obtain ⟨e1, e2⟩ := applyX_sound (P := P) hB hG hR d2 h1
        obtain ⟨ad', w', c1, c2, c3, c4⟩ := e2 ht.2
        unfold Oper.wp
        rw [d1]
        rcases c1 with c1 | ⟨c1, cu⟩
        · rw [c1]; exact hK ad' w' c2 c3 c4
        · rw [c1]
          have := hK ad' w' c2 c3 c4
          rw [cu] at this
          exact this
      · cases h2
    · cases hp
end
end Go.Proofs.Ytmolkkphnehgcaa.Ew

/- Guarded operations; a region that draws its order: where no two operations that the edges leave open touch the same, one walk in the order of the text serves every order. -/
set_option linter.unusedVariables false
set_option linter.unusedSimpArgs false
namespace Go.Proofs.Ytmolkkphnehgcaa.Ew
open Go Go.RowKit

/-! ### conditions together -/
def conjE : List E → E
  | [] => mkB true
  | c :: r => mkAnd c (conjE r)
def bAll (cs : List E) : Bool := cs.all fun c => decide (c.kind = .b)
theorem conjE_spec {F : Fam} {ρ : Nat → Int} : ∀ {cs : List E}, bAll cs = true → (conjE cs).kind = .b ∧ (conjE cs).tt F ρ = holds F ρ cs
  | [], _ => ⟨rfl, by simp [conjE, holds]⟩
  | c :: r, h => by
    simp only [bAll, List.all_cons, Bool.and_eq_true, decide_eq_true_eq] at h
    obtain ⟨i1, i2⟩ := conjE_spec (F := F) (ρ := ρ) (cs := r) h.2
    have := mkAnd_spec c (conjE r) h.1 i1 F ρ
    exact ⟨this.2, by simp only [conjE, this.1, i2, holds, List.all_cons]⟩

/-! ### an operation with its guard -/
inductive PL where
  | put (v : SV)
  | run (cs : Option (List E)) (w : W)
  deriving Repr, Inhabited

def planE (P : Program) (ops : Array Oper) (o : Oper) (en : Env) : Option PL :=
  match guardE ops en o with
  | some .no => some (.put .und)
  | some .yes => (opPlan P [] en o).map (.run none)
  | some (.cond cs) => (opPlan P cs en o).map (.run (some cs))
  | none => none

/-- Where a condition holds, what an operation has written by some names; else what was there. -/
def mergeOn (c : E) (m' : Mem) (W : List Nat) (m : Mem) : Mem := zipR (fun n x y => bif W.contains n then mergeBlk c x y else y) 0 m' m
theorem mergeOn_len (c : E) (m' : Mem) (W : List Nat) (m : Mem) : (mergeOn c m' W m).length = m.length := zipR_len _ _ _
theorem mergeOn_at (c : E) (m' : Mem) (W : List Nat) (m : Mem) (hl : m'.length = m.length) (n : Nat) : (mergeOn c m' W m).at n = if n ∈ W then mergeBlk c (m'.at n) (m.at n) else m.at n := by
  by_cases hn : n < m.length
  · unfold mergeOn
    rw [zipR_at _ _ _ _ hn, Nat.zero_add]
    by_cases hw : n ∈ W <;> simp [hw]
  · have e1 : m'.at n = none := by simp [Mem.at, List.getD, List.getElem?_eq_none (show m'.length ≤ n by omega)]
    have e2 : m.at n = none := by simp [Mem.at, List.getD, List.getElem?_eq_none (show m.length ≤ n by omega)]
    have e3 : (mergeOn c m' W m).at n = none := by simp [Mem.at, List.getD, List.getElem?_eq_none (show (mergeOn c m' W m).length ≤ n by rw [mergeOn_len]; omega)]
    rw [e1, e2, e3]
    simp [mergeBlk]
/-- The names that what was written speaks of. -/
def refsW (m' : Mem) (v : SV) (W : List Nat) : List Nat := allN v ++ W.flatMap fun n => match m'.at n with
  | some (_, b) => allNL b.cs
  | _ => []

def runPL (P : Program) (G : Glob) (T : Tab) (m : Mem) (nm : Nat) (ch : Ch) : PL → Option (E × SV × Mem)
  | .put v => some (mkB true, v, m)
  | .run none w => runW P G T m nm ch w
  | .run (some cs) w => match runW P G T m nm ch w with
    | some (g, v, m') => if bAll cs = true ∧ g.kind = .b ∧ ((refsW m' v (fpW T m nm ch w).2).all fun n => (m'.at n).isSome) = true then
        some (mkOr (mkNot (conjE cs)) g, .gd cs v, mergeOn (conjE cs) m' (fpW T m nm ch w).2 m) else none
    | none => none
def fpPL (P : Program) (G : Glob) (T : Tab) (m : Mem) (nm : Nat) (ch : Ch) : PL → FP
  | .put _ => ([], [])
  | .run none w => fpW T m nm ch w
  | .run (some _) w => match runW P G T m nm ch w with
    | some (_, v, m') => ((fpW T m nm ch w).1 ++ refsW m' v (fpW T m nm ch w).2, (fpW T m nm ch w).2)
    | none => ([], [])

section
variable {P : Program} {ρ : Nat → Int} {G : Glob} {T : Tab} {l : Tabs} {w0 w : World} {M0 Im0 : Nat → Prop} {ad : Nat → Hd} {m m2 m' : Mem} {tm : Tm} {en : Env} {a : Act}

theorem refsW_congr {m' m2' : Mem} (v : SV) {W : List Nat} (h : ∀ n ∈ W, m2'.at n = m'.at n) : refsW m2' v W = refsW m' v W := by
  unfold refsW
  congr 1
  have : ∀ (W : List Nat), (∀ n ∈ W, m2'.at n = m'.at n) → (W.flatMap fun n => match m2'.at n with | some (_, b) => allNL b.cs | _ => []) = W.flatMap fun n => match m'.at n with | some (_, b) => allNL b.cs | _ => [] := by
    intro W
    induction W with
    | nil => intro _; rfl
    | cons n W ih =>
      intro h
      rw [List.flatMap_cons, List.flatMap_cons, ih fun k hk => h k (List.mem_cons_of_mem _ hk), h n (List.mem_cons_self ..)]
  exact this W h

theorem runPL_loc {nm : Nat} {ch : Ch} {pl : PL} {g : E} {v : SV} (h : runPL P G T m nm ch pl = some (g, v, m')) :
    Loc (fun m => runPL P G T m nm ch pl) m (fpPL P G T m nm ch pl) g v m' ∧ ∀ m2, m2.length = m.length → Agree ((fpPL P G T m nm ch pl).1 ++ (fpPL P G T m nm ch pl).2) m m2 → fpPL P G T m2 nm ch pl = fpPL P G T m nm ch pl := by
  cases pl with
  | put u =>
    simp only [runPL, Option.some.injEq, Prod.mk.injEq] at h
    obtain ⟨rfl, rfl, rfl⟩ := h
    exact ⟨Loc.read fun _ _ _ => rfl, fun _ _ _ => rfl⟩
  | run cs w =>
    cases cs with
    | none =>
      obtain ⟨h1, h2⟩ := runW_loc h
      exact ⟨h1, fun m2 _ ha => h2 m2 ha⟩
    | some cs =>
      simp only [runPL] at h
      split at h
      · rename_i g1 v1 m1 hr
        split at h
        · rename_i hc
          simp only [Option.some.injEq, Prod.mk.injEq] at h
          obtain ⟨rfl, rfl, rfl⟩ := h
          obtain ⟨hL, hF⟩ := runW_loc hr
          have hfp : fpPL P G T m nm ch (.run (some cs) w) = ((fpW T m nm ch w).1 ++ refsW m1 v1 (fpW T m nm ch w).2, (fpW T m nm ch w).2) := by simp only [fpPL, hr]
          rw [hfp]
          have step : ∀ m2, m2.length = m.length → Agree (((fpW T m nm ch w).1 ++ refsW m1 v1 (fpW T m nm ch w).2) ++ (fpW T m nm ch w).2) m m2 → fpW T m2 nm ch w = fpW T m nm ch w ∧ ∃ m2', runW P G T m2 nm ch w = some (g1, v1, m2') ∧ m2'.length = m2.length ∧ (∀ n ∈ (fpW T m nm ch w).2, m2'.at n = m1.at n) ∧ (∀ n, n ∉ (fpW T m nm ch w).2 → m2'.at n = m2.at n) ∧ refsW m2' v1 (fpW T m nm ch w).2 = refsW m1 v1 (fpW T m nm ch w).2 := fun m2 hl ha => by
            have ha' : Agree ((fpW T m nm ch w).1 ++ (fpW T m nm ch w).2) m m2 := fun n hn => by
              rcases List.mem_append.1 hn with hn | hn
              · exact ha n (by simp [hn])
              · exact ha n (by simp [hn])
            obtain ⟨m2', r1, r2, r3, r4⟩ := hL.loc m2 hl ha'
            exact ⟨hF m2 ha', m2', r1, r2, r3, r4, refsW_congr v1 r3⟩
          refine ⟨⟨mergeOn_len _ _ _ _, fun n hn => by rw [mergeOn_at _ _ _ _ hL.len, if_neg hn], fun m2 hl ha => ?_⟩, fun m2 hl ha => ?_⟩
          · obtain ⟨f1, m2', r1, r2, r3, r4, r5⟩ := step m2 hl ha
            refine ⟨mergeOn (conjE cs) m2' (fpW T m nm ch w).2 m2, ?_, mergeOn_len _ _ _ _, fun n hn => ?_, fun n hn => by rw [mergeOn_at _ _ _ _ r2, if_neg hn]⟩
            · simp only [runPL, r1, f1]
              rw [r5, if_pos]
              refine ⟨hc.1, hc.2.1, ?_⟩
              rw [List.all_eq_true]
              intro k hk
              have h0 := List.all_eq_true.1 hc.2.2 k hk
              by_cases hw : k ∈ (fpW T m nm ch w).2
              · rw [r3 k hw]; exact h0
              · rw [r4 k hw, ha k (by simp [hk]), ← hL.frame k hw]; exact h0
            · rw [mergeOn_at _ _ _ _ r2, mergeOn_at _ _ _ _ hL.len, if_pos hn, if_pos hn, r3 n hn, ha n (by simp [hn])]
          · obtain ⟨f1, m2', r1, r2, r3, r4, r5⟩ := step m2 hl ha
            simp only [fpPL, r1, f1, r5]
        · cases h
      · cases h

theorem runPL_sound (hS : SumOK P G l T) (hG : GOK G Im0 w0) {s : St} (hR : RelS l.F ρ w0 M0 Im0 ad s a w) (hE : RelV l.F ρ ad s.2 en a) {ops : Array Oper} {nm : Nat} {ch : Ch} {o : Oper} {pl : PL} (hp : planE P ops o en = some pl) {g : E} {v : SV}
    (h : runPL P G T s.2 nm ch pl = some (g, v, m')) : g.kind = .b ∧ (g.tt l.F ρ = true → ∀ (K : Act → World → Prop) (Q : Exit → Act → World → Prop),
      (∀ ad' a' w', RelS l.F ρ w0 M0 Im0 ad' (setT s.1 o.dst v, m') a' w' → Ext ad ad' s.2 m' → K a' w') →
      if Region.wanted o (yielded ops a.tmps) = true then o.wp P a w K Q else K (a.put o.dst undef) w) := by
  obtain ⟨hT, hM⟩ := hR
  unfold planE at hp
  split at hp
  · rename_i hg
    simp only [Option.some.injEq] at hp
    subst hp
    simp only [runPL, Option.some.injEq, Prod.mk.injEq] at h
    obtain ⟨rfl, rfl, rfl⟩ := h
    refine ⟨rfl, fun _ K Q hK => ?_⟩
    rw [guardE_spec hE hg]
    simp only [Gd.tt, Bool.false_eq_true, if_false]
    exact hK ad _ w ⟨hT.put o.dst (v := .und) trivial, hM⟩ (Ext.refl _ _)
  · rename_i hg
    obtain ⟨W, hW, rfl⟩ := Option.map_eq_some_iff.1 hp
    simp only [runPL] at h
    obtain ⟨r1, r2⟩ := runW_sound hS hG hE hM (cs := []) rfl hW h
    refine ⟨r1, fun ht K Q hK => ?_⟩
    rw [guardE_spec hE hg]
    simp only [Gd.tt, if_true]
    exact r2 ht K Q fun ad' w' hr x hv => hK ad' _ w' ⟨(hT.ext x).put o.dst hv, hr⟩ x
  · rename_i cs hg
    obtain ⟨W, hW, rfl⟩ := Option.map_eq_some_iff.1 hp
    have hwant := guardE_spec hE hg
    simp only [runPL] at h
    split at h
    · rename_i g1 v1 m1 hr
      split at h
      · rename_i hc
        simp only [Option.some.injEq, Prod.mk.injEq] at h
        obtain ⟨rfl, rfl, rfl⟩ := h
        obtain ⟨hb, hgk, hrefs⟩ := hc
        obtain ⟨c1, c2⟩ := conjE_spec (F := l.F) (ρ := ρ) hb
        have hor := mkOr_spec (mkNot (conjE cs)) g1 (mkNot_spec _ l.F ρ).2 hgk l.F ρ
        obtain ⟨hL, _⟩ := runW_loc hr
        have hPM : PM (conjE cs) m1 s.2 (mergeOn (conjE cs) m1 (fpW T s.2 nm ch W).2 s.2) := fun n => by
          rw [mergeOn_at _ _ _ _ hL.len]
          by_cases hn : n ∈ (fpW T s.2 nm ch W).2
          · rw [if_pos hn]; exact Or.inr rfl
          · rw [if_neg hn]; exact Or.inl ⟨(hL.frame n hn).symm, rfl⟩
        have hal : ∀ k, al s.2 k ∨ al m1 k → al (mergeOn (conjE cs) m1 (fpW T s.2 nm ch W).2 s.2) k := fun k hk => by rw [hPM.al]; exact hk.symm
        have hal1 : ∀ k ∈ refsW m1 v1 (fpW T s.2 nm ch W).2, al m1 k := fun k hk => List.all_eq_true.1 hrefs k hk
        have hvok : v1.ok (al m1) := allN_ok v1 fun n hn => hal1 n (by simp [refsW, hn])
        have hok1 : ∀ n g x, m1.at n = some (g, x) → SV.okL (al m1) x.cs ∨ s.2.at n = some (g, x) := fun n g x hn => by
          by_cases hw : n ∈ (fpW T s.2 nm ch W).2
          · left
            refine allNL_ok x.cs fun k hk => hal1 k ?_
            unfold refsW
            exact List.mem_append_right _ (List.mem_flatMap.2 ⟨n, hw, by rw [hn]; exact hk⟩)
          · right; rw [← hL.frame n hw]; exact hn
        have keep1 : ∀ k, al s.2 k → k ∉ (fpW T s.2 nm ch W).2 → al m1 k := fun k hk hw => by unfold al at hk ⊢; rw [hL.frame k hw]; exact hk
        refine ⟨hor.2, fun ht K Q hK => ?_⟩
        rw [hor.1, Bool.or_eq_true, (mkNot_spec (conjE cs) l.F ρ).1, c2] at ht
        rcases Bool.eq_false_or_eq_true (holds l.F ρ cs) with hh | hh
        · rw [if_pos (by rw [hwant]; exact hh)]
          have hgt : g1.tt l.F ρ = true := by
            rcases ht with ht | ht
            · rw [hh] at ht; cases ht
            · exact ht
          refine (runW_sound hS hG hE hM hh hW hr).2 hgt K Q fun ad' w' hr' x hv => ?_
          have x' : Ext ad ad' s.2 (mergeOn (conjE cs) m1 (fpW T s.2 nm ch W).2 s.2) := ⟨x.same, fun k hk => hal k (Or.inl hk)⟩
          have hp' := (hT.ext x').put o.dst (v := .gd cs v1) (by simpa [SV.ok] using SV.ok_mono (fun k hk => hal k (Or.inr hk)) v1 hv)
          simp only [SV.conc] at hp'
          unfold holds at hh
          rw [hh] at hp'
          refine hK ad' _ w' ⟨hp', hPM.rel c1 (t := true) (by rw [c2]; exact hh) hr' fun n g x hn => ?_⟩ x'
          obtain ⟨_, Im, _, _, hI⟩ := hM
          exact hI.ok n g x hn
        · rw [if_neg (by rw [hwant]; show ¬ holds l.F ρ cs = true; rw [hh]; exact Bool.false_ne_true)]
          have x' : Ext ad ad s.2 (mergeOn (conjE cs) m1 (fpW T s.2 nm ch W).2 s.2) := ⟨fun _ _ => rfl, fun k hk => hal k (Or.inl hk)⟩
          have hp' := (hT.ext x').put o.dst (v := .gd cs v1) (by simpa [SV.ok] using SV.ok_mono (fun k hk => hal k (Or.inr hk)) v1 hvok)
          have hh' := hh
          simp only [SV.conc] at hp'
          unfold holds at hh
          rw [hh] at hp'
          obtain ⟨_, Im, _, _, hI⟩ := id hM
          refine hK ad _ w ⟨hp', ?_⟩ x'
          refine (PM.rel' c1 hPM (by rw [c2]; exact hh') hM fun n g x hn => ?_)
          rcases hok1 n g x hn with h | h
          · exact SV.okL_mono (fun k hk => hal k (Or.inr hk)) _ h
          · exact SV.okL_mono (fun k hk => hal k (Or.inl hk)) _ (hI.ok n g x h)
      · cases h
    · cases h
  · cases hp
end
end Go.Proofs.Ytmolkkphnehgcaa.Ew

/- A region that draws its order: where no two operations that the edges leave open touch the same, one walk in the order of the text serves every order. -/
set_option linter.unusedVariables false
set_option linter.unusedSimpArgs false
namespace Go.Proofs.Ytmolkkphnehgcaa.Ew
open Go Go.RowKit

def envOf (ops : Array Oper) (o : Oper) (tm : Tm) : Env := fun t => bif (o.looksAt ops).contains t then tm.at t else none
def planI (P : Program) (ops : Array Oper) (i : Nat) (tm : Tm) : Option (PL × Option Nat) :=
  match ops[i]? with
  | some o => (planE P ops o (envOf ops o tm)).map fun p => (p, o.dst)
  | none => none

/-- What is recorded of each operation by a walk in the order of the text. -/
structure Rec where
  fp : FP
  ob : E
  ch : Ch
/-- So many names are laid by for each operation. -/
def WD : Nat := 8
def FPdisj (a b : FP) : Bool := (a.2.all fun n => !b.1.contains n && !b.2.contains n) && b.2.all fun n => !a.1.contains n && !a.2.contains n

def stI (P : Program) (G : Glob) (T : Tab) (ops : Array Oper) (base : Nat) (rs : List Rec) (i : Nat) (s : St) : Option St :=
  match planI P ops i s.1, rs[i]? with
  | some (p, dst), some r => if fpPL P G T s.2 (base + WD * i) r.ch p = r.fp then
      match runPL P G T s.2 (base + WD * i) r.ch p with
      | some (g, v, m') => if g.same r.ob = true then some (setT s.1 dst v, m') else none
      | none => none
    else none
  | _, _ => none
def foldI (P : Program) (G : Glob) (T : Tab) (ops : Array Oper) (base : Nat) (rs : List Rec) : List Nat → St → Option St
  | [], s => some s
  | i :: r, s => match stI P G T ops base rs i s with
    | some s' => foldI P G T ops base rs r s'
    | none => none

/-- Slots apart. -/
def apart2 (ops : Array Oper) (x y : Oper) : Bool :=
  (match x.dst with
   | some d => !(y.looksAt ops).contains d && decide (y.dst ≠ some d)
   | none => true) &&
  (match y.dst with
   | some d => !(x.looksAt ops).contains d
   | none => true)
def indep (ops : Array Oper) (rs : List Rec) (j i : Nat) : Bool :=
  match ops[j]?, ops[i]?, rs[j]?, rs[i]? with
  | some oj, some oi, some fj, some fi => FPdisj fj.fp fi.fp && apart2 ops oj oi
  | _, _, _, _ => false

section
variable {P : Program} {ρ : Nat → Int} {G : Glob} {T : Tab} {l : Tabs} {w0 w : World} {M0 Im0 : Nat → Prop} {ad : Nat → Hd} {m m2 m' : Mem} {tm : Tm} {en : Env} {a : Act}

theorem envOf_set {ops : Array Oper} {o : Oper} {tm : Tm} {d : Option Nat} {v : SV} (h : ∀ k, d = some k → (o.looksAt ops).contains k = false) : envOf ops o (setT tm d v) = envOf ops o tm := by
  funext t
  unfold envOf
  cases ht : (o.looksAt ops).contains t
  · rfl
  · simp only [cond_true]
    cases d with
    | none => rfl
    | some k =>
      have : k ≠ t := by rintro rfl; rw [h k rfl] at ht; cases ht
      simp [setT, Tm.at, List.getD, List.getElem?_set, this]
theorem setT_comm {tm : Tm} {d d' : Option Nat} {v v' : SV} (h : d = none ∨ d' = none ∨ d ≠ d') : setT (setT tm d v) d' v' = setT (setT tm d' v') d v := by
  cases d <;> cases d' <;> simp only [setT]
  rename_i x y
  exact List.set_comm _ _ (by rcases h with h | h | h; cases h; cases h; exact fun e => h (by rw [e]))

theorem Mem.ext' (hl : m.length = m2.length) (h : ∀ n, m.at n = m2.at n) : m = m2 := by
  apply List.ext_getElem hl
  intro n h1 h2
  have := h n
  simpa [Mem.at, List.getD, h1, h2] using this

theorem FPdisj_spec {a b : FP} (h : FPdisj a b = true) : (∀ n ∈ a.2, n ∉ b.1 ∧ n ∉ b.2) ∧ ∀ n ∈ b.2, n ∉ a.1 ∧ n ∉ a.2 := by
  unfold FPdisj at h
  simp only [Bool.and_eq_true, List.all_eq_true, Bool.not_eq_true', List.contains_eq_mem, decide_eq_false_iff_not] at h
  exact h

theorem swap {ops : Array Oper} {base : Nat} {rs : List Rec} {j i : Nat} (hi : indep ops rs j i = true) {s s1 s2 : St}
    (h1 : stI P G T ops base rs j s = some s1) (h2 : stI P G T ops base rs i s1 = some s2) : ∃ s1', stI P G T ops base rs i s = some s1' ∧ stI P G T ops base rs j s1' = some s2 := by
  unfold indep at hi
  split at hi
  · rename_i oj oi rj ri hoj hoi hrj hri
    simp only [Bool.and_eq_true, apart2] at hi
    obtain ⟨hdis, hx, hy⟩ := hi
    obtain ⟨dj, di⟩ := FPdisj_spec hdis
    have hdd : oj.dst = none ∨ oi.dst = none ∨ oj.dst ≠ oi.dst := by
      cases hd : oj.dst with
      | none => exact Or.inl rfl
      | some d =>
        right; right
        rw [hd] at hx
        simp only [Bool.and_eq_true, decide_eq_true_eq] at hx
        exact fun e => hx.2 e.symm
    have e1 : ∀ (tm : Tm) (v : SV), envOf ops oi (setT tm oj.dst v) = envOf ops oi tm := fun tm v => envOf_set fun k hk => by
      rw [hk] at hx
      simp only [Bool.and_eq_true, Bool.not_eq_true'] at hx
      exact hx.1
    have e2 : ∀ (tm : Tm) (v : SV), envOf ops oj (setT tm oi.dst v) = envOf ops oj tm := fun tm v => envOf_set fun k hk => by
      rw [hk] at hy
      simp only [Bool.not_eq_true'] at hy
      exact hy
    unfold stI planI at h1
    simp only [hoj, hrj] at h1
    cases hpj : planE P ops oj (envOf ops oj s.1) with
    | none => rw [hpj] at h1; cases h1
    | some p =>
      simp only [hpj, Option.map_some] at h1
      split at h1
      · rename_i hcj
        split at h1
        · rename_i gj vj mj hj
          split at h1
          · rename_i hgj
            simp only [Option.some.injEq] at h1; subst h1
            unfold stI planI at h2
            simp only [hoi, hri, e1] at h2
            cases hpi : planE P ops oi (envOf ops oi s.1) with
            | none => rw [hpi] at h2; cases h2
            | some p' =>
              simp only [hpi, Option.map_some] at h2
              split at h2
              · rename_i hci
                split at h2
                · rename_i gi vi mi hii
                  split at h2
                  · rename_i hgi
                    simp only [Option.some.injEq] at h2; subst h2
                    obtain ⟨Lj, Fj⟩ := runPL_loc hj
                    obtain ⟨Li, Fi⟩ := runPL_loc hii
                    rw [hcj] at Lj Fj
                    rw [hci] at Li Fi
                    -- the later one first
                    have ai : Agree (ri.fp.1 ++ ri.fp.2) mj s.2 := fun n hn => by
                      refine (Lj.frame n fun hw => ?_).symm
                      obtain ⟨d1, d2⟩ := dj n hw
                      rcases List.mem_append.1 hn with hn | hn
                      · exact d1 hn
                      · exact d2 hn
                    obtain ⟨m1, q1, q2, q3, q4⟩ := Li.loc s.2 Lj.len.symm ai
                    have aj : Agree (rj.fp.1 ++ rj.fp.2) s.2 m1 := fun n hn => by
                      refine q4 n fun hw => ?_
                      obtain ⟨d1, d2⟩ := di n hw
                      rcases List.mem_append.1 hn with hn | hn
                      · exact d1 hn
                      · exact d2 hn
                    obtain ⟨m2, t1, t2, t3, t4⟩ := Lj.loc m1 q2 aj
                    have hmm : m2 = mi := by
                      refine Mem.ext' (by rw [t2, q2, Li.len, Lj.len]) fun n => ?_
                      by_cases hw : n ∈ rj.fp.2
                      · rw [t3 n hw, Li.frame n (dj n hw).2]
                      · rw [t4 n hw]
                        by_cases hv : n ∈ ri.fp.2
                        · exact q3 n hv
                        · rw [q4 n hv, Li.frame n hv, Lj.frame n hw]
                    subst hmm
                    refine ⟨(setT s.1 oi.dst vi, m1), ?_, ?_⟩
                    · unfold stI planI
                      simp only [hoi, hri, hpi, Option.map_some]
                      rw [if_pos ((Fi s.2 Lj.len.symm ai).trans rfl)]
                      simp only [q1, if_pos hgi]
                    · unfold stI planI
                      simp only [hoj, hrj, e2, hpj, Option.map_some]
                      rw [if_pos ((Fj m1 q2 aj).trans rfl)]
                      simp only [t1, if_pos hgj]
                      rw [setT_comm hdd]
                  · cases h2
                · cases h2
              · cases h2
          · cases h1
        · cases h1
      · cases h1
  · cases hi

theorem toFront {ops : Array Oper} {base : Nat} {rs : List Rec} {i : Nat} {post : List Nat} : ∀ (pre : List Nat) {s s' : St}, (∀ j ∈ pre, indep ops rs j i = true) →
    foldI P G T ops base rs (pre ++ i :: post) s = some s' → ∃ s1, stI P G T ops base rs i s = some s1 ∧ foldI P G T ops base rs (pre ++ post) s1 = some s'
  | [], s, s', _, h => by
    simp only [List.nil_append, foldI] at h
    split at h
    · rename_i s1 h1; exact ⟨s1, h1, h⟩
    · cases h
  | j :: pre, s, s', hp, h => by
    simp only [List.cons_append, foldI] at h
    split at h
    · rename_i s1 h1
      obtain ⟨s2, i1, i2⟩ := toFront pre (fun k hk => hp k (by simp [hk])) h
      obtain ⟨s1', c1, c2⟩ := swap (hp j (by simp)) h1 i1
      refine ⟨s1', c1, ?_⟩
      simp only [List.cons_append, foldI, c2]
      exact i2
    · cases h

/-! ### what waits for what -/
def maskOf (o : Oper) (l : List Nat) : Nat := o.after.toList.foldl (fun s e => bif Region.binds .any e then s ||| (2 ^ e.on ||| l.getD e.on 0) else s) 0
def masks (ops : List Oper) : List Nat → List Nat := fun acc => match ops with
  | [] => acc
  | o :: r => masks r (acc ++ [maskOf o acc])

inductive Anc (ops : Array Oper) : Nat → Nat → Prop
  | one {i j : Nat} {o : Oper} {e : Edge} : ops[i]? = some o → e ∈ o.after → Region.binds .any e = true → e.on = j → Anc ops i j
  | more {i j : Nat} {o : Oper} {e : Edge} : ops[i]? = some o → e ∈ o.after → Region.binds .any e = true → Anc ops e.on j → Anc ops i j

theorem foldl_mask {l : List Nat} {j : Nat} : ∀ (es : List Edge) (s : Nat), (es.foldl (fun s e => bif Region.binds .any e then s ||| (2 ^ e.on ||| l.getD e.on 0) else s) s).testBit j = true →
    s.testBit j = true ∨ ∃ e ∈ es, Region.binds .any e = true ∧ (e.on = j ∨ (l.getD e.on 0).testBit j = true)
  | [], s, h => Or.inl h
  | e :: es, s, h => by
    simp only [List.foldl_cons] at h
    rcases foldl_mask es _ h with h1 | ⟨e', h1, h2, h3⟩
    · cases hb : Region.binds .any e
      · rw [hb] at h1; exact Or.inl h1
      · rw [hb] at h1
        simp only [cond_true, Nat.testBit_or, Bool.or_eq_true, Nat.testBit_two_pow, decide_eq_true_eq] at h1
        rcases h1 with h1 | h1 | h1
        · exact Or.inl h1
        · exact Or.inr ⟨e, by simp, hb, Or.inl h1⟩
        · exact Or.inr ⟨e, by simp, hb, Or.inr h1⟩
    · exact Or.inr ⟨e', by simp [h1], h2, h3⟩

theorem masks_spec (ops : Array Oper) : ∀ (r : List Oper) (acc : List Nat), (∀ k, r[k]? = ops[acc.length + k]?) → (∀ i j, (acc.getD i 0).testBit j = true → Anc ops i j) →
    ∀ i j, ((masks r acc).getD i 0).testBit j = true → Anc ops i j
  | [], acc, _, h => h
  | o :: r, acc, hr, h => by
    unfold masks
    have h0 : ops[acc.length]? = some o := by simpa using (hr 0).symm
    refine masks_spec ops r _ (fun k => by have := hr (k + 1); simpa [Nat.add_assoc, Nat.add_comm 1 k] using this) ?_
    intro i j hij
    by_cases hi : i < acc.length
    · rw [show (acc ++ [maskOf o acc]).getD i 0 = acc.getD i 0 by simp [List.getD, List.getElem?_append_left hi]] at hij
      exact h i j hij
    · by_cases hi' : i = acc.length
      · subst hi'
        rw [show (acc ++ [maskOf o acc]).getD acc.length 0 = maskOf o acc by simp [List.getD]] at hij
        rcases foldl_mask _ _ hij with h1 | ⟨e, h1, h2, h3⟩
        · simp at h1
        · rcases h3 with h3 | h3
          · exact .one h0 (by simpa using h1) h2 h3
          · exact .more h0 (by simpa using h1) h2 (h e.on j h3)
      · rw [show (acc ++ [maskOf o acc]).getD i 0 = 0 by rw [List.getD, List.getElem?_eq_none (by simp; omega)]; rfl] at hij
        simp at hij

def Closed (ops : Array Oper) (listed : Array Bool) : Prop := ∀ k o, listed.getD k false = true → ops[k]? = some o → ∀ e ∈ o.after, Region.binds .any e = true → listed.getD e.on false = true
theorem Anc.listed {ops : Array Oper} {listed : Array Bool} (hc : Closed ops listed) {i j : Nat} (h : Anc ops i j) : (∀ o, ops[i]? = some o → ∀ e ∈ o.after, Region.binds .any e = true → listed.getD e.on false = true) → listed.getD j false = true := by
  induction h with
  | one h1 h2 h3 h4 => intro hx; subst h4; exact hx _ h1 _ h2 h3
  | more h1 h2 h3 _ ih => intro hx; exact ih fun o ho e he hb => hc _ o (hx _ h1 _ h2 h3) ho e he hb

def backB (ops : List Oper) (i : Nat) : Bool := match ops with
  | [] => true
  | o :: r => (o.after.toList.all fun e => !Region.binds .any e || decide (e.on < i)) && backB r (i + 1)
theorem backB_spec {ops : Array Oper} : ∀ (r : List Oper) (i : Nat), (∀ k, r[k]? = ops[i + k]?) → backB r i = true → ∀ k o, i ≤ k → ops[k]? = some o → ∀ e ∈ o.after, Region.binds .any e = true → e.on < k
  | [], i, hr, _, k, o, hk, ho, _, _, _ => by
    have := hr (k - i)
    rw [show i + (k - i) = k by omega, ho] at this
    simp at this
  | x :: r, i, hr, hb, k, o, hk, ho, e, he, hbe => by
    simp only [backB, Bool.and_eq_true] at hb
    by_cases hki : k = i
    · subst hki
      have hx : o = x := by have := hr 0; simp only [List.getElem?_cons_zero, Nat.add_zero] at this; rw [ho] at this; exact (Option.some.inj this).symm
      subst hx
      have := List.all_eq_true.1 hb.1 e (by simpa using he)
      rw [hbe] at this
      simpa using this
    · exact backB_spec r (i + 1) (fun k => by have := hr (k + 1); simpa [Nat.add_assoc, Nat.add_comm 1 k] using this) hb.2 k o (by omega) ho e he hbe

/-- Every two operations: the later one waits for the earlier one, or they have nothing in common. -/
def pairsB (ops : Array Oper) (rs : List Rec) (ms : List Nat) : Bool :=
  (List.range ops.size).all fun i => (List.range i).all fun j => (ms.getD i 0).testBit j || indep ops rs j i

/-- A walk in the order of the text, recorded; the names for operation i begin at base + 8 i. -/
def recsRun (P : Program) (G : Glob) (T : Tab) (ops : Array Oper) (base : Nat) : List Nat → St → Option (List Rec)
  | [], _ => some []
  | i :: r, s => match planI P ops i s.1 with
    | some (p, dst) =>
      let ch : Ch := match p with
        | .run _ (.call _ f args) => findK T s.2 (base + WD * i) f args
        | _ => none
      match runPL P G T s.2 (base + WD * i) ch p with
      | some (g, v, m') => match recsRun P G T ops base r (setT s.1 dst v, m') with
        | some l => some (⟨fpPL P G T s.2 (base + WD * i) ch p, g, ch⟩ :: l)
        | none => none
      | none => none
    | none => none
def obsE : List Rec → E
  | [] => mkB true
  | r :: l => mkAnd r.ob (obsE l)
def evDraw (P : Program) (G : Glob) (T : Tab) (ops : Array Oper) (s : St) : Option (E × St) :=
  let s0 : St := (s.1, s.2 ++ List.replicate (WD * ops.size) none)
  match recsRun P G T ops s.2.length (List.range ops.size) s0 with
  | some rs => bif backB ops.toList 0 && pairsB ops rs (masks ops.toList []) && rs.all fun r => decide (r.ob.kind = .b) then
      (foldI P G T ops s.2.length rs (List.range ops.size) s0).map fun s' => (obsE rs, s')
    else none
  | none => none

theorem obsE_spec {F : Fam} : ∀ {rs : List Rec}, (rs.all fun r => decide (r.ob.kind = .b)) = true → (obsE rs).kind = .b ∧ ((obsE rs).tt F ρ = true → ∀ r ∈ rs, r.ob.tt F ρ = true)
  | [], _ => ⟨rfl, fun _ r hr => by cases hr⟩
  | r :: l, h => by
    simp only [List.all_cons, Bool.and_eq_true, decide_eq_true_eq] at h
    obtain ⟨i1, i2⟩ := obsE_spec (F := F) (rs := l) h.2
    have := mkAnd_spec r.ob (obsE l) h.1 i1 F ρ
    refine ⟨this.2, fun ht x hx => ?_⟩
    simp only [obsE] at ht
    rw [this.1, Bool.and_eq_true] at ht
    rcases List.mem_cons.1 hx with rfl | hx
    · exact ht.1
    · exact i2 ht.2 x hx

theorem at_append (m : Mem) (n k : Nat) : Mem.at (m ++ List.replicate n none) k = m.at k := by
  simp only [Mem.at, List.getD]
  rcases Nat.lt_or_ge k m.length with h | h
  · rw [List.getElem?_append_left h]
  · rw [List.getElem?_append_right h, List.getElem?_eq_none h, List.getElem?_replicate]
    split <;> rfl
theorem al_append (m : Mem) (n : Nat) : al (m ++ List.replicate n none) = al m := by funext k; simp [al, at_append]

theorem Rel.extend {F : Fam} (h : Rel F ρ w0 M0 Im0 ad m w) (n : Nat) : Rel F ρ w0 M0 Im0 ad (m ++ List.replicate n none) w := by
  obtain ⟨hM, Im, h1, h2, hI⟩ := h
  refine ⟨hM, Im, h1, h2, fun k g x hk hg => ?_, fun k g x hk => ?_, fun k k' g x g' y b a1 a2 a3 a4 a5 a6 => ?_, hI.im, hI.fr⟩
  · rw [at_append] at hk; exact hI.ent k g x hk hg
  · rw [at_append] at hk; rw [al_append]; exact hI.ok k g x hk
  · rw [at_append] at a1 a3; exact hI.inj k k' g x g' y b a1 a2 a3 a4 a5 a6
theorem RelS.extend {F : Fam} {s : St} (h : RelS F ρ w0 M0 Im0 ad s a w) (n : Nat) : RelS F ρ w0 M0 Im0 ad (s.1, s.2 ++ List.replicate n none) a w :=
  ⟨⟨h.1.defers, h.1.size, fun i v hv => by simp only [al_append]; exact h.1.slot i v hv⟩, h.2.extend n⟩
theorem Rel.drew {F : Fam} (h : Rel F ρ w0 M0 Im0 ad m w) : Rel F ρ w0 M0 Im0 ad m { w with drawn := w.drawn + 1 } := by
  obtain ⟨hM, Im, h1, h2, hI⟩ := h
  exact ⟨hM, Im, h1, h2, hI.refl_w rfl (hI.fr.trans (Fr.drew M0 w) fun b _ hb => hb)⟩
theorem envOf_rel {F : Fam} {ops : Array Oper} {o : Oper} (hT : RelT F ρ ad m tm a) : RelV F ρ ad m (envOf ops o tm) a := fun i v hv => by
  unfold envOf at hv
  cases hc : (o.looksAt ops).contains i
  · rw [hc] at hv; cases hv
  · rw [hc] at hv; exact hT.slot i v hv

/-- The operations that have not come up, in the order of the text. -/
def rem (ops : Array Oper) (listed : Array Bool) : List Nat := (List.range ops.size).filter fun i => !listed.getD i true

theorem draw_core (hS : SumOK P G l T) (hG : GOK G Im0 w0) {ops : Array Oper} {base : Nat} {rs : List Rec} (hobs : ∀ r ∈ rs, r.ob.tt l.F ρ = true) {Q : Exit → Act → World → Prop} (hback : backB ops.toList 0 = true) (hpairs : pairsB ops rs (masks ops.toList []) = true)
    {s' : St} : ∀ (fuel : Nat) (listed : Array Bool) (s : St) (a : Act) (w : World) (ad : Nat → Hd), listed.size = ops.size → Closed ops listed → (rem ops listed).length = fuel →
    foldI P G T ops base rs (rem ops listed) s = some s' → RelS l.F ρ w0 M0 Im0 ad s a w → (∀ ad' a' w', RelS l.F ρ w0 M0 Im0 ad' s' a' w' → Ext ad ad' s.2 s'.2 → Q .normal a' w') → wpAny P .any ops Q fuel listed a w := by
  have hanc := masks_spec ops ops.toList [] (fun k => by simp) (fun i j h => by simp at h)
  have hb := backB_spec (ops := ops) ops.toList 0 (fun k => by simp) hback
  have noready : ∀ listed : Array Bool, listed.size = ops.size → Region.ready .any ops listed = [] → rem ops listed = [] := by
    intro listed hsz hr
    cases hrem : rem ops listed with
    | nil => rfl
    | cons i r =>
      exfalso
      have hmem : i ∈ rem ops listed := by rw [hrem]; simp
      simp only [rem, List.mem_filter, List.mem_range, Bool.not_eq_true'] at hmem
      have hsorted : (rem ops listed).Pairwise (· < ·) := List.Pairwise.filter _ List.pairwise_lt_range
      rw [hrem] at hsorted
      have hmin : ∀ k, k < i → k ∉ rem ops listed := fun k hk hkm => by
        rw [hrem] at hkm
        rcases List.mem_cons.1 hkm with rfl | hkm
        · omega
        · have := (List.pairwise_cons.1 hsorted).1 k hkm; omega
      have : i ∈ Region.ready .any ops listed := by
        rw [mem_ready]
        refine ⟨hmem.2, ops[i], by simp [hmem.1], fun e he hbe => ?_⟩
        have hlt := hb i ops[i] (Nat.zero_le _) (by simp [hmem.1]) e he hbe
        have := hmin e.on hlt
        simp only [rem, List.mem_filter, List.mem_range, Bool.not_eq_true', not_and, Bool.not_eq_false] at this
        have := this (by omega)
        have hl : e.on < listed.size := by omega
        simpa [hl] using this
      rw [hr] at this
      cases this
  intro fuel
  induction fuel with
  | zero =>
    intro listed s a w ad hsz hcl hlen hfold hR hQ
    have hnil : rem ops listed = [] := List.eq_nil_of_length_eq_zero hlen
    rw [hnil] at hfold
    simp only [foldI, Option.some.injEq] at hfold
    subst hfold
    refine ⟨?_, hQ ad a w hR (Ext.refl _ _)⟩
    cases hr : Region.ready .any ops listed with
    | nil => rfl
    | cons i r =>
      exfalso
      have hi : i ∈ Region.ready .any ops listed := by rw [hr]; simp
      obtain ⟨h1, o, ho, _⟩ := mem_ready.1 hi
      have : i ∈ rem ops listed := by
        simp only [rem, List.mem_filter, List.mem_range, Bool.not_eq_true']
        exact ⟨(Array.getElem?_eq_some_iff.1 ho).1, h1⟩
      rw [hnil] at this
      cases this
  | succ fuel ih =>
    intro listed s a w ad hsz hcl hlen hfold hR hQ
    refine ⟨fun hr => ?_, fun i hi => ?_⟩
    · have := noready listed hsz hr
      rw [this] at hlen
      simp at hlen
    · obtain ⟨hun, o, ho, hall⟩ := mem_ready.1 hi
      have hisz : i < ops.size := (Array.getElem?_eq_some_iff.1 ho).1
      have hmem : i ∈ rem ops listed := by
        simp only [rem, List.mem_filter, List.mem_range, Bool.not_eq_true']
        exact ⟨hisz, hun⟩
      have hnd : (rem ops listed).Nodup := List.Pairwise.filter _ List.nodup_range
      have hsorted : (rem ops listed).Pairwise (· < ·) := List.Pairwise.filter _ List.pairwise_lt_range
      obtain ⟨pre, post, hnot, hsplit, herase⟩ := List.exists_erase_eq hmem
      have hrem' : rem ops (listed.setIfInBounds i true) = pre ++ post := by
        rw [← herase, List.Nodup.erase_eq_filter hnd]
        unfold rem
        rw [List.filter_filter]
        apply List.filter_congr
        intro k hk
        by_cases hki : i = k
        · subst hki
          have : i < listed.size := by omega
          simp [this]
        · rw [getD_set_ne true hki]
          have : (k != i) = true := by simp; exact fun e => hki e.symm
          rw [this, Bool.true_and]
      have hindep : ∀ j ∈ pre, indep ops rs j i = true := fun j hj => by
        have hjm : j ∈ rem ops listed := by rw [hsplit]; simp [hj]
        have hjm' := hjm
        simp only [rem, List.mem_filter, List.mem_range, Bool.not_eq_true'] at hjm'
        have hlt : j < i := by
          rw [hsplit] at hsorted
          exact (List.pairwise_append.1 hsorted).2.2 j hj i (by simp)
        unfold pairsB at hpairs
        have h1 := List.all_eq_true.1 (List.all_eq_true.1 hpairs i (List.mem_range.2 hisz)) j (List.mem_range.2 hlt)
        simp only [Bool.or_eq_true] at h1
        rcases h1 with h1 | h1
        · exfalso
          have h2 := (hanc i j h1).listed hcl (fun o' ho' e he hbe => hall e (by rw [ho] at ho'; cases ho'; exact he) hbe)
          have hl : j < listed.size := by omega
          have := hjm'.2
          simp [hl] at h2 this
          rw [h2] at this
          cases this
        · exact h1
      rw [hsplit] at hfold
      obtain ⟨s1, c1, c2⟩ := toFront pre hindep hfold
      rw [← hrem'] at c2
      unfold stI planI at c1
      rw [ho] at c1
      simp only at c1
      cases hp : planE P ops o (envOf ops o s.1) with
      | none => rw [hp] at c1; cases c1
      | some p =>
        simp only [hp, Option.map_some] at c1
        split at c1
        · rename_i p' dst' r hpe hr
          simp only [Option.some.injEq, Prod.mk.injEq] at hpe
          obtain ⟨rfl, rfl⟩ := hpe
          split at c1
          · split at c1
            · rename_i g v m' hrun
              split at c1
              · rename_i hgs
                simp only [Option.some.injEq] at c1
                subst c1
                have hgt : g.tt l.F ρ = true := by rw [E.same_eq _ _ hgs]; exact hobs r (List.mem_of_getElem? hr)
                refine wpOp_step ho fun K' hK' => ?_
                refine (runPL_sound hS hG hR (envOf_rel hR.1) hp hrun).2 hgt _ _ fun ad' a' w' hR' hx => hK' a' w' ?_
                refine ih _ (setT s.1 o.dst v, m') a' w' ad' (by simp [hsz]) ?_ ?_ c2 hR' fun ad'' a'' w'' hR'' hx' => hQ ad'' a'' w'' hR'' (hx.trans hx')
                · intro k o' hk ho' e he hbe
                  by_cases hki : i = k
                  · subst hki
                    rw [ho] at ho'; cases ho'
                    exact getD_set_true (hall e he hbe)
                  · rw [getD_set_ne false hki] at hk
                    exact getD_set_true (hcl k o' hk ho' e he hbe)
                · rw [hrem']
                  have : (rem ops listed).length = pre.length + post.length + 1 := by rw [hsplit]; simp; omega
                  simp; omega
              · cases c1
            · cases c1
          · cases c1
        · cases c1

theorem draw_sound (hm : P.follows .mixedOrders = true) (hS : SumOK P G l T) (hG : GOK G Im0 w0) {ops : Array Oper} {id : Nat} {s s' : St} {ob : E} (h : evDraw P G T ops s = some (ob, s')) : ob.kind = .b ∧ (ob.tt l.F ρ = true → ∀ {ad : Nat → Hd} {a : Act} {w : World}, RelS l.F ρ w0 M0 Im0 ad s a w → ∀ {Q : Exit → Act → World → Prop},
    (∀ ad' a' w', RelS l.F ρ w0 M0 Im0 ad' s' a' w' → Ext ad ad' s.2 s'.2 → Q .normal a' w') → (Code.region id ops true).wp P Q a w) := by
  unfold evDraw at h
  simp only at h
  split at h
  · rename_i rs hrs
    cases hb : backB ops.toList 0 && pairsB ops rs (masks ops.toList []) && rs.all fun r => decide (r.ob.kind = .b)
    · rw [hb] at h; cases h
    · rw [hb] at h
      simp only [cond_true] at h
      obtain ⟨s1, hfo, he⟩ := Option.map_eq_some_iff.1 h
      simp only [Prod.mk.injEq] at he
      obtain ⟨rfl, rfl⟩ := he
      simp only [Bool.and_eq_true] at hb
      obtain ⟨o1, o2⟩ := obsE_spec (F := l.F) (ρ := ρ) hb.2
      refine ⟨o1, fun ht {ad a w} hR {Q} hQ => ?_⟩
      have hrem : rem ops (Array.replicate ops.size false) = List.range ops.size := by
        unfold rem
        rw [List.filter_eq_self]
        intro i hi
        have := List.mem_range.1 hi
        simp [this]
      have hR0 := hR.extend (WD * ops.size)
      refine wp_region_any hm (draw_core hS hG (o2 ht) hb.1.1 hb.1.2 ops.size _ (s.1, s.2 ++ List.replicate (WD * ops.size) none) a _ ad (by simp) ?_ (by rw [hrem]; simp) (by rw [hrem]; exact hfo) ⟨hR0.1, hR0.2.drew⟩ ?_)
      · intro k o hk
        exfalso
        rcases Nat.lt_or_ge k ops.size with h' | h'
        · simp [h'] at hk
        · simp [h'] at hk
      · intro ad' a' w' hR' hx
        refine hQ ad' a' w' hR' ⟨fun k hk => hx.same k ?_, fun k hk => hx.keep k ?_⟩ <;> simpa [al_append] using hk
  · cases h
end
end Go.Proofs.Ytmolkkphnehgcaa.Ew

/- The evaluator: code, loops, functions. -/
set_option linter.unusedVariables false
set_option linter.unusedSimpArgs false
namespace Go.Proofs.Ytmolkkphnehgcaa.Ew
open Go Go.RowKit

/-! ### obligations -/
def andB (a b : E) : E := if a.kind = .b ∧ b.kind = .b then mkAnd a b else mkB false
def impB (c b : E) : E := if c.kind = .b ∧ b.kind = .b then mkOr (mkNot c) b else mkB false
theorem andB_kind (a b : E) : (andB a b).kind = .b := by
  unfold andB; split
  · rename_i h; exact (mkAnd_spec a b h.1 h.2 (fun _ _ _ => 0) fun _ => 0).2
  · rfl
theorem impB_kind (a b : E) : (impB a b).kind = .b := by
  unfold impB; split
  · rename_i h; exact (mkOr_spec (mkNot a) b (mkNot_spec a (fun _ _ _ => 0) fun _ => 0).2 h.2 (fun _ _ _ => 0) fun _ => 0).2
  · rfl
theorem andB_tt {a b : E} {F : Fam} {ρ : Nat → Int} (h : (andB a b).tt F ρ = true) : a.tt F ρ = true ∧ b.tt F ρ = true := by
  unfold andB at h; split at h
  · rename_i hk; rw [(mkAnd_spec a b hk.1 hk.2 F ρ).1, Bool.and_eq_true] at h; exact h
  · simp at h
theorem impB_tt {c b : E} {F : Fam} {ρ : Nat → Int} (h : (impB c b).tt F ρ = true) (hc : c.tt F ρ = true) : b.tt F ρ = true := by
  unfold impB at h; split at h
  · rename_i hk
    rw [(mkOr_spec (mkNot c) b (mkNot_spec c F ρ).2 hk.2 F ρ).1, (mkNot_spec c F ρ).1, hc, Bool.or_eq_true] at h
    rcases h with h | h
    · cases h
    · exact h
  · simp at h

/-! ### operations in the order of the text -/
/-- How a call is walked into. -/
abbrev Into := Nat → List SV → Mem → Option (E × SV × Mem)

def chOf (T : Tab) (m : Mem) (nm : Nat) : PL → Ch
  | .run _ (.call _ f args) => findK T m nm f args
  | _ => none
def runAt (P : Program) (G : Glob) (T : Tab) (m : Mem) (nm : Nat) (pl : PL) : Option (E × SV × Mem) := runPL P G T m nm (chOf T m nm pl) pl
def intoF (call : Into) (f : Nat) (args : List SV) (m : Mem) : Option (E × SV × Mem) :=
  match call f args m with
  | some r => some r
  | none => bif SV.sameL args (fArgs true args) then none else (call f (fArgs true args) m).map fun r => (andB (forceL args) r.1, r.2.1, r.2.2)
def evOper (P : Program) (G : Glob) (T : Tab) (call : Into) (ops : Array Oper) (o : Oper) (s : St) : Option (E × St) :=
  match planE P ops o s.1.at with
  | some pl => match runAt P G T s.2 s.2.length pl with
    | some (g, v, m') => some (g, setT s.1 o.dst v, m')
    | none => match runAt P G T (s.2 ++ List.replicate WD none) s.2.length pl with
      | some (g, v, m') => some (g, setT s.1 o.dst v, m')
      | none => match pl with
        | .run none (.call g f args) => match intoF call f args s.2 with
          | some (g2, v, m') => some (andB g g2, setT s.1 o.dst v, m')
          | none => none
        | _ => none
  | none => none
def evSeq (P : Program) (G : Glob) (T : Tab) (call : Into) (ops : Array Oper) : List Oper → St → Option (E × St)
  | [], s => some (mkB true, s)
  | o :: r, s => match evOper P G T call ops o s with
    | some (g, s1) => match evSeq P G T call ops r s1 with
      | some (g2, s2) => some (andB g g2, s2)
      | none => none
    | none => none

/-- A condition's slot. -/
def condE (s : St) (c : Operand) : Option E :=
  match getC [] s.1.at c with
  | some (.sc e) => if e.kind = .b then some e else none
  | _ => none

section
variable {P : Program} {ρ : Nat → Int} {G : Glob} {T : Tab} {l : Tabs} {w0 w : World} {M0 Im0 : Nat → Prop} {ad : Nat → Hd} {m m2 m' : Mem} {tm : Tm} {en : Env} {a : Act}

/-- What is asked of a way to walk into calls. -/
def IntoOK (P : Program) (l : Tabs) (ρ : Nat → Int) (w0 : World) (M0 Im0 : Nat → Prop) (call : Into) : Prop :=
  ∀ f args m ob v m', call f args m = some (ob, v, m') → ob.tt l.F ρ = true → ∀ ad w, Rel l.F ρ w0 M0 Im0 ad m w → SV.okL (al m) args →
    Calls P f (SV.concL l.F ρ ad args).toArray w fun e w' => ∃ ad', e = .returned (v.conc l.F ρ ad') ∧ Rel l.F ρ w0 M0 Im0 ad' m' w' ∧ Ext ad ad' m m' ∧ v.ok (al m')

theorem fArgs_ok {p : Nat → Prop} {F : Fam} {ρ : Nat → Int} {ad : Nat → Hd} : ∀ {args : List SV}, SV.okL p args → SV.okL p (fArgs true args)
  | [], _ => trivial
  | v :: r, h => ⟨(force_spec (F := F) (ρ := ρ) (ad := ad) v).2 h.1, fArgs_ok (F := F) (ρ := ρ) (ad := ad) (args := r) h.2⟩

theorem intoF_ok {call : Into} (hI : IntoOK P l ρ w0 M0 Im0 call) : IntoOK P l ρ w0 M0 Im0 (intoF call) := by
  intro f args m ob v m' h ht ad w hR hok
  unfold intoF at h
  split at h
  · rename_i r hr
    simp only [Option.some.injEq] at h; subst h
    exact hI f args m _ _ _ hr ht ad w hR hok
  · cases hs : SV.sameL args (fArgs true args)
    · rw [hs] at h
      obtain ⟨⟨o2, v2, m2⟩, h2, h3⟩ := Option.map_eq_some_iff.1 h
      simp only [Prod.mk.injEq] at h3
      obtain ⟨rfl, rfl, rfl⟩ := h3
      obtain ⟨t1, t2⟩ := andB_tt ht
      have := hI f _ m _ _ _ h2 t2 ad w hR (fArgs_ok (F := l.F) (ρ := ρ) (ad := ad) hok)
      rw [fArgs_spec (fo := true) t1] at this
      exact this
    · rw [hs] at h; cases h

/-- A call that is walked into. -/
theorem planE_call {s : St} (hE : RelV l.F ρ ad s.2 en a) {ops : Array Oper} {o : Oper} {g : E} {f : Nat} {args : List SV} (hp : planE P ops o en = some (.run none (.call g f args))) (hg : g.tt l.F ρ = true) :
    Region.wanted o (yielded ops a.tmps) = true ∧ (execOp a.eval o).run P w = .ok (.enter f (SV.concL l.F ρ ad args).toArray) w ∧ SV.okL (al s.2) args := by
  unfold planE at hp
  split at hp
  · simp at hp
  · rename_i hgd
    obtain ⟨W, hW, he⟩ := Option.map_eq_some_iff.1 hp
    simp only [PL.run.injEq, true_and] at he
    subst he
    refine ⟨by rw [guardE_spec hE hgd]; rfl, ?_⟩
    unfold opPlan at hW
    split at hW
    · obtain ⟨u, h1, h2⟩ := Option.map_eq_some_iff.1 hW; cases h2
    · split at hW
      · rename_i g0 f' args' hds
        simp only [Option.some.injEq, W.call.injEq] at hW
        obtain ⟨rfl, rfl, rfl⟩ := hW
        obtain ⟨j1, j2⟩ := descX_run l.BI (P := P) (w := w) (F := l.F) (ρ := ρ) (ad := ad) (p := al s.2) (ev := a.eval) (fun x s hx => getC_spec hE (cs := []) rfl hx) hds
        obtain ⟨d1, d2⟩ := j2 hg
        exact ⟨by rw [d1]; rfl, d2⟩
      · simp at hW
      · cases hW
  · obtain ⟨W, hW, he⟩ := Option.map_eq_some_iff.1 hp
    simp at he
  · cases hp

theorem evOper_sound (hS : SumOK P G l T) (hG : GOK G Im0 w0) {call : Into} (hI : IntoOK P l ρ w0 M0 Im0 call) {ops : Array Oper} {o : Oper} {s s' : St} {g : E} (h : evOper P G T call ops o s = some (g, s')) (ht : g.tt l.F ρ = true)
    (hR : RelS l.F ρ w0 M0 Im0 ad s a w) {K : Act → World → Prop} {Q : Exit → Act → World → Prop} (hK : ∀ ad' a' w', RelS l.F ρ w0 M0 Im0 ad' s' a' w' → Ext ad ad' s.2 s'.2 → K a' w') :
    if Region.wanted o (yielded ops a.tmps) = true then o.wp P a w K Q else K (a.put o.dst undef) w := by
  unfold evOper at h
  split at h
  · rename_i pl hp
    split at h
    · rename_i g1 v m' hr
      simp only [Option.some.injEq, Prod.mk.injEq] at h
      obtain ⟨rfl, rfl⟩ := h
      exact (runPL_sound hS hG hR hR.1.envV hp hr).2 ht K Q hK
    · split at h
      · rename_i g1 v m' hr
        simp only [Option.some.injEq, Prod.mk.injEq] at h
        obtain ⟨rfl, rfl⟩ := h
        have hR' := hR.extend WD
        exact (runPL_sound hS hG hR' hR'.1.envV hp hr).2 ht K Q fun ad' a' w' h1 h2 => hK ad' a' w' h1 ⟨fun k hk => h2.same k (by simpa [al_append] using hk), fun k hk => h2.keep k (by simpa [al_append] using hk)⟩
      · split at h
        · rename_i g1 f args hn1 hn2
          split at h
          · rename_i g2 v m' hc
            simp only [Option.some.injEq, Prod.mk.injEq] at h
            obtain ⟨rfl, rfl⟩ := h
            obtain ⟨t1, t2⟩ := andB_tt ht
            obtain ⟨p1, p2, p3⟩ := planE_call (w := w) hR.1.envV hp t1
            rw [if_pos p1]
            unfold Oper.wp
            rw [p2]
            simp only [Oper.upon]
            refine (intoF_ok hI f args s.2 _ _ _ hc t2 ad w hR.2 p3).mono ?_
            rintro e w' ⟨ad', rfl, r2, r3, r4⟩
            exact hK ad' _ w' ⟨(hR.1.ext r3).put o.dst r4, r2⟩ r3
          · cases h
        · cases h
  · cases h

theorem evSeq_sound (hS : SumOK P G l T) (hG : GOK G Im0 w0) {call : Into} (hI : IntoOK P l ρ w0 M0 Im0 call) {ops : Array Oper} {Q : Exit → Act → World → Prop} : ∀ (os : List Oper) (s s' : St) (g : E) (ad : Nat → Hd) (a : Act) (w : World),
    evSeq P G T call ops os s = some (g, s') → g.tt l.F ρ = true → RelS l.F ρ w0 M0 Im0 ad s a w → (∀ ad' a' w', RelS l.F ρ w0 M0 Im0 ad' s' a' w' → Ext ad ad' s.2 s'.2 → Q .normal a' w') → wpList P ops Q os a w
  | [], s, s', g, ad, a, w, h, ht, hR, hQ => by
    simp only [evSeq, Option.some.injEq, Prod.mk.injEq] at h
    obtain ⟨rfl, rfl⟩ := h
    exact hQ ad a w hR (Ext.refl _ _)
  | o :: r, s, s', g, ad, a, w, h, ht, hR, hQ => by
    simp only [evSeq] at h
    split at h
    · rename_i g1 s1 h1
      split at h
      · rename_i g2 s2 h2
        simp only [Option.some.injEq, Prod.mk.injEq] at h
        obtain ⟨rfl, rfl⟩ := h
        obtain ⟨t1, t2⟩ := andB_tt ht
        have := evOper_sound (K := wpList P ops Q r) (Q := Q) hS hG hI h1 t1 hR fun ad' a' w' hR' hx => evSeq_sound hS hG hI r s1 _ g2 ad' a' w' h2 t2 hR' fun ad'' a'' w'' hR'' hx' => hQ ad'' a'' w'' hR'' (hx.trans hx')
        unfold wpList
        by_cases hw : Region.wanted o (yielded ops a.tmps) = true
        · rw [if_pos hw] at this ⊢; exact .inl this
        · rw [if_neg hw] at this ⊢; exact this
      · cases h
    · cases h

theorem condE_spec {F : Fam} (hT : RelT F ρ ad m tm a) {c : Operand} {e : E} (h : condE (tm, m) c = some e) : e.kind = .b ∧ a.eval c = .bool (e.tt F ρ) := by
  unfold condE at h
  split at h
  · rename_i e' h1
    split at h
    · rename_i hk
      simp only [Option.some.injEq] at h; subst h
      obtain ⟨i1, _⟩ := getC_spec hT.envV (cs := []) rfl h1
      exact ⟨hk, by rw [i1]; simp [SV.conc, E.val_b hk]⟩
    · cases h
  · cases h
end
end Go.Proofs.Ytmolkkphnehgcaa.Ew

/- Loops by summaries. -/
set_option linter.unusedVariables false
set_option linter.unusedSimpArgs false
namespace Go.Proofs.Ytmolkkphnehgcaa.Ew
open Go Go.RowKit

/-- A summary of a loop: the slots it takes (the parameters), those it gives (behind the labels' bits), those it may write besides, the ways out. -/
structure LEnt where
  ent : Ent
  sl : List Nat
  so : List Nat
  wr : List Nat
  labs : List Lab
  nt : Nat
  shr : List Nat

def dtOf : List Lab → List SV → Option (DT × List SV)
  | [], _ => none
  | [l], vs => some (.leaf l, vs)
  | l :: k :: ls, .sc e :: vs => if e.kind = .b then (dtOf (k :: ls) vs).map fun r => (.br e (.leaf l) r.1, r.2) else none
  | _ :: _ :: _, _ => none
def labV : List Lab → List Value → Option (Lab × List Value)
  | [], _ => none
  | [l], vs => some (l, vs)
  | l :: k :: ls, .bool b :: vs => (labV (k :: ls) vs).map fun r => (bif b then l else r.1, r.2)
  | _ :: _ :: _, _ => none
def setSl : List Nat → List SV → Tm → Option Tm
  | [], [], tm => some tm
  | t :: ts, v :: vs, tm => if t < tm.length ∧ !ts.contains t = true then setSl ts vs (tm.set t (some v)) else none
  | _, _, _ => none
def clrSl : List Nat → Tm → Tm
  | [], tm => tm
  | t :: ts, tm => clrSl ts (tm.set t none)
def getSl (tm : Tm) : List Nat → Option (List SV)
  | [] => some []
  | t :: ts => match tm.at t, getSl tm ts with
    | some v, some l => some (v :: l)
    | _, _ => none
def callF (e : Ent) (m : Mem) (nm : Nat) (args : List SV) (fo : Bool) : Option (E × SV × Mem) :=
  (callE e m nm (fArgs fo args)).map fun r => (andB (bif fo then forceL args else mkB true) r.1, r.2.1, r.2.2)
def callFF (e : Ent) (m : Mem) (nm : Nat) (args : List SV) : Option (E × SV × Mem) :=
  match callF e m nm args false with
  | some r => some r
  | none => callF e m nm args true
/-- The names of the lists in these slots. -/
def shrN (tm : Tm) (l : List Nat) : List Nat := l.filterMap fun t => match tm.at t with
  | some (.ls n _) => some n
  | _ => none
/-- The names of the lists in the cells of objects that are handed on as shared ones. -/
def cellN : List Sh → List SV → List Nat
  | .lst _ _ false :: l, .ls n _ :: vs => n :: cellN l vs
  | _ :: l, _ :: vs => cellN l vs
  | _, _ => []
def objN (m : Mem) : List Sh → List SV → List Nat
  | .obj _ cs :: l, .ptr n 0 :: vs => (match m.at n with
    | some (_, .cells _ us) => cellN cs us
    | _ => []) ++ objN m l vs
  | _ :: l, _ :: vs => objN m l vs
  | _, _ => []
def callL (le : LEnt) (s : St) : Option (E × Out) :=
  match (if s.1.length = le.nt then getSl s.1 le.sl else none) with
  | some args => match callFF le.ent (shareL s.2 (shrN s.1 le.shr ++ objN s.2 le.ent.ps args) ++ List.replicate (Sh.nnL le.ent.outL) none) s.2.length args with
    | some (g, .tup vs, m') => match dtOf le.labs vs with
      | some (d, us) => match setSl le.so us (clrSl le.wr s.1) with
        | some tm' => some (g, d, le.labs.map fun l => (l, (tm', m')))
        | none => none
      | none => none
    | _ => none
  | none => none

/-- What a loop's summary says. -/
def LoopC (G : Glob) (le : LEnt) (C : (Exit → Act → World → Prop) → Act → World → Prop) : Prop :=
  ∀ xs, fits le.ent.pks xs → le.ent.pre xs → ∀ (w : World) (M0 Im : Nat → Prop) (hs : Nat → Hd), (∀ b, M0 b → ¬ Im b ∧ b < w.heap.size) → GOK G Im w → RelE F0 (env xs) w M0 Im hs le.ent.pgen.2 w →
    ∀ a : Act, a.defers = [] → a.tmps.size = le.nt → (∀ (i t : Nat), le.sl[i]? = some t → a.tmps[t]? = (SV.concL F0 (env xs) hs le.ent.pgen.1)[i]?) → ∀ Q : Exit → Act → World → Prop,
      (∀ (a' : Act) (w' : World) (hs' : Nat → Hd) (Im' : Nat → Prop) (Vs : List Value) (lab : Lab) (us : List Value), (∀ j, j < le.ent.nn → hs' j = hs j) → (∀ b, Im b → Im' b) → (∀ b, Im' b → Im b ∨ M0 b ∨ w.heap.size ≤ b) →
        RelE F0 (env (xs ++ outsE le.ent.fn xs 0 le.ent.oks)) w M0 Im' hs' le.ent.oents w' →
        (lastV le.ent.ogen.1).conc F0 (env (xs ++ outsE le.ent.fn xs 0 le.ent.oks)) hs' = .tuple Vs.toArray → labV le.labs Vs = some (lab, us) →
        (∀ (i t : Nat), le.so[i]? = some t → a'.tmps[t]? = us[i]?) → (∀ k, k ∉ le.so → k ∉ le.wr → a'.tmps[k]? = a.tmps[k]?) → a'.tmps.size = a.tmps.size → a'.defers = [] → Q lab.exit a' w') →
      C Q a w
/-- What a summary of a piece of code says. -/
def CodeOK (P : Program) (G : Glob) (c : Code) (le : LEnt) : Prop := LoopC G le fun Q => c.wp P Q
def LoopOK (P : Program) (G : Glob) (body : Code) (le : LEnt) : Prop := LoopC G le fun Q => (Code.loop body).wp P Q

section
variable {P : Program} {ρ : Nat → Int} {G : Glob} {T : Tab} {l : Tabs} {w0 w : World} {M0 Im0 : Nat → Prop} {ad : Nat → Hd} {m m2 m' : Mem} {tm : Tm} {en : Env} {a : Act}

theorem dtOf_labV {F : Fam} : ∀ {ls : List Lab} {vs us : List SV} {d : DT}, dtOf ls vs = some (d, us) → labV ls (SV.concL F ρ ad vs) = some (d.eval F ρ, SV.concL F ρ ad us) ∧ (∀ p, SV.okL p vs → SV.okL p us) ∧ d.eval F ρ ∈ ls
  | [], vs, us, d, h => by simp [dtOf] at h
  | [k], vs, us, d, h => by
    simp only [dtOf, Option.some.injEq, Prod.mk.injEq] at h
    obtain ⟨rfl, rfl⟩ := h
    exact ⟨rfl, fun _ h => h, by simp [DT.eval]⟩
  | k :: k' :: ls, [], us, d, h => by simp [dtOf] at h
  | k :: k' :: ls, v :: vs, us, d, h => by
    cases v with
    | sc e =>
      simp only [dtOf] at h
      split at h
      · rename_i hk
        obtain ⟨⟨d', us'⟩, h1, h2⟩ := Option.map_eq_some_iff.1 h
        simp only [Prod.mk.injEq] at h2
        obtain ⟨rfl, rfl⟩ := h2
        obtain ⟨i1, i2, i3⟩ := dtOf_labV (F := F) h1
        refine ⟨?_, fun p hp => i2 p hp.2, ?_⟩
        · simp only [SV.concL, SV.conc, E.val_b hk, labV, i1, Option.map_some, DT.eval]
        · simp only [DT.eval]
          cases e.tt F ρ
          · simp only [cond_false]; exact List.mem_cons_of_mem _ i3
          · simp
      · cases h
    | _ => simp [dtOf] at h

theorem clrSl_spec : ∀ (ts : List Nat) (tm : Tm), (clrSl ts tm).length = tm.length ∧ ∀ k v, (clrSl ts tm).at k = some v → tm.at k = some v ∧ k ∉ ts
  | [], tm => ⟨rfl, fun k v h => ⟨h, by simp⟩⟩
  | t :: ts, tm => by
    obtain ⟨i1, i2⟩ := clrSl_spec ts (tm.set t none)
    refine ⟨by simp only [clrSl, i1, List.length_set], fun k v h => ?_⟩
    obtain ⟨j1, j2⟩ := i2 k v h
    by_cases hk : t = k
    · subst hk
      exfalso
      simp only [Tm.at, List.getD, List.getElem?_set] at j1
      by_cases hl : t < tm.length <;> simp [hl] at j1
    · refine ⟨by simpa [Tm.at, List.getD, List.getElem?_set, hk] using j1, ?_⟩
      simp only [List.mem_cons, not_or]
      exact ⟨fun e => hk e.symm, j2⟩

theorem setSl_spec : ∀ {ts : List Nat} {vs : List SV} {tm tm' : Tm}, setSl ts vs tm = some tm' → tm'.length = tm.length ∧ vs.length = ts.length ∧ (∀ k, k ∉ ts → tm'.at k = tm.at k) ∧ ∀ (i t : Nat), ts[i]? = some t → tm'.at t = vs[i]?
  | [], [], tm, tm', h => by
    simp only [setSl, Option.some.injEq] at h; subst h
    exact ⟨rfl, rfl, fun _ _ => rfl, fun i t h => by simp at h⟩
  | [], _ :: _, tm, tm', h => by simp [setSl] at h
  | _ :: _, [], tm, tm', h => by simp [setSl] at h
  | t :: ts, v :: vs, tm, tm', h => by
    simp only [setSl] at h
    split at h
    · rename_i hc
      obtain ⟨i1, i2, i3, i4⟩ := setSl_spec h
      have hnot : t ∉ ts := by have := hc.2; simpa using this
      refine ⟨by simpa using i1, by simp [i2], fun k hk => ?_, fun i k hi => ?_⟩
      · simp only [List.mem_cons, not_or] at hk
        rw [i3 k hk.2]
        have : ¬ t = k := fun e => hk.1 e.symm
        simp [Tm.at, List.getD, List.getElem?_set, this]
      · cases i with
        | zero =>
          simp only [List.getElem?_cons_zero, Option.some.injEq] at hi
          subst hi
          rw [i3 t hnot]
          simp [Tm.at, List.getD, List.getElem?_set, hc.1]
        | succ i =>
          simp only [List.getElem?_cons_succ] at hi ⊢
          exact i4 i k hi
    · cases h

theorem getSl_spec : ∀ {ts : List Nat} {vs : List SV}, getSl tm ts = some vs → vs.length = ts.length ∧ ∀ (i t : Nat), ts[i]? = some t → tm.at t = vs[i]?
  | [], vs, h => by simp only [getSl, Option.some.injEq] at h; subst h; exact ⟨rfl, fun i t h => by simp at h⟩
  | t :: ts, vs, h => by
    simp only [getSl] at h
    split at h
    · rename_i v l h1 h2
      simp only [Option.some.injEq] at h; subst h
      obtain ⟨i1, i2⟩ := getSl_spec h2
      refine ⟨by simp [i1], fun i k hi => ?_⟩
      cases i with
      | zero => simp only [List.getElem?_cons_zero, Option.some.injEq] at hi ⊢; subst hi; exact h1
      | succ i => simp only [List.getElem?_cons_succ] at hi ⊢; exact i2 i k hi
    · cases h

theorem callF_core {e : Ent} (he : l.get e.key = some e) (hG : GOK G Im0 w0) (hR : Rel l.F ρ w0 M0 Im0 ad m w) {nm : Nat} {args : List SV} {fo : Bool} {g : E} {v : SV}
    (h : callF e m nm args fo = some (g, v, m')) (ht : g.tt l.F ρ = true) : ∃ (xs : List Int) (hs : Nat → Hd) (M1 Im : Nat → Prop), fits e.pks xs ∧ e.pre xs ∧ SV.concL l.F ρ ad args = SV.concL F0 (env xs) hs e.pgen.1 ∧
      (∀ b, M1 b → ¬ Im b ∧ b < w.heap.size) ∧ GOK G Im w ∧ RelE F0 (env xs) w M1 Im hs e.pgen.2 w ∧
      ∀ (w' : World) (hs' : Nat → Hd) (Im' : Nat → Prop), (∀ j, j < e.nn → hs' j = hs j) → (∀ b, Im b → Im' b) → (∀ b, Im' b → Im b ∨ M1 b ∨ w.heap.size ≤ b) → RelE F0 (env (xs ++ outsE e.fn xs 0 e.oks)) w M1 Im' hs' e.oents w' →
        ∃ ad', v.conc l.F ρ ad' = (lastV e.ogen.1).conc F0 (env (xs ++ outsE e.fn xs 0 e.oks)) hs' ∧ Rel l.F ρ w0 M0 Im0 ad' m' w' ∧ Ext ad ad' m m' ∧ v.ok (al m') := by
  unfold callF at h
  obtain ⟨⟨g1, v1, m1⟩, h1, h2⟩ := Option.map_eq_some_iff.1 h
  simp only [Prod.mk.injEq] at h2
  obtain ⟨rfl, rfl, rfl⟩ := h2
  obtain ⟨t1, t2⟩ := andB_tt ht
  have := (callE_core he hG hR h1).2 t2
  rw [fArgs_spec t1] at this
  exact this

theorem callL_sound {le : LEnt} {C : (Exit → Act → World → Prop) → Act → World → Prop} (he : l.get le.ent.key = some le.ent) (hL : LoopC G le C) (hG : GOK G Im0 w0) {s : St} {g : E} {o : Out} (h : callL le s = some (g, o)) (ht : g.tt l.F ρ = true) (hR : RelS l.F ρ w0 M0 Im0 ad s a w) {Q : Exit → Act → World → Prop}
    (hA : After l.F ρ w0 M0 Im0 ad s.2 o Q) : C Q a w := by
  unfold callL at h
  split at h
  · rename_i args hargs
    have hnt : s.1.length = le.nt ∧ getSl s.1 le.sl = some args := by
      split at hargs
      · rename_i h; exact ⟨h, hargs⟩
      · cases hargs
    obtain ⟨hnt, hargs⟩ := hnt
    split at h
    · rename_i g1 vs m' hcall
      split at h
      · rename_i d us hd
        split at h
        · rename_i tm' hset
          simp only [Option.some.injEq, Prod.mk.injEq] at h
          obtain ⟨rfl, rfl⟩ := h
          have hR1 : RelS l.F ρ w0 M0 Im0 ad (s.1, shareL s.2 (shrN s.1 le.shr ++ objN s.2 le.ent.ps args)) a w := ⟨⟨hR.1.defers, hR.1.size, fun i v hv => ⟨(hR.1.slot i v hv).1, SV.ok_mono (fun k hk => (shareL_al _ _ _).2 hk) v (hR.1.slot i v hv).2⟩⟩, Rel.shareL _ hR.2⟩
          have hR' := hR1.extend (Sh.nnL le.ent.outL)
          have hcore : ∃ fo, callF le.ent (shareL s.2 (shrN s.1 le.shr ++ objN s.2 le.ent.ps args) ++ List.replicate (Sh.nnL le.ent.outL) none) s.2.length args fo = some (g1, .tup vs, m') := by
            unfold callFF at hcall
            split at hcall
            · rename_i r hr
              simp only [Option.some.injEq] at hcall; subst hcall
              exact ⟨_, hr⟩
            · exact ⟨_, hcall⟩
          obtain ⟨fo, hcf⟩ := hcore
          obtain ⟨xs, hs, M1, Im, a1, a2, a3, a4, a5, a6, a7⟩ := callF_core he hG hR'.2 hcf ht
          obtain ⟨g1, g2⟩ := getSl_spec hargs
          refine hL xs a1 a2 w M1 Im hs a4 a5 a6 a hR.1.defers (by rw [← hnt]; exact hR.1.size) (fun i t hi => ?_) Q ?_
          · rw [← a3]
            have hv := g2 i t hi
            have hil : i < args.length := by have := (List.getElem?_eq_some_iff.1 hi).1; omega
            rw [List.getElem?_eq_getElem hil] at hv
            rw [(hR.1.slot t _ hv).1, concL_eq, List.getElem?_map, List.getElem?_eq_getElem hil, Option.map_some]
          · intro a' w' hs' Im' Vs lab uv q1 q2 q3 q4 q5 q6 q7 q8 q9 q10
            obtain ⟨ad', r1, r2, r3, r4⟩ := a7 w' hs' Im' q1 q2 q3 q4
            rw [← r1] at q5
            simp only [SV.conc, Value.tuple.injEq] at q5
            have hVs : Vs = SV.concL l.F ρ ad' vs := by
              have := congrArg Array.toList q5
              simpa using this.symm
            subst hVs
            obtain ⟨l1, l2, l3⟩ := dtOf_labV (F := l.F) (ρ := ρ) (ad := ad') hd
            rw [l1] at q6
            simp only [Option.some.injEq, Prod.mk.injEq] at q6
            obtain ⟨rfl, rfl⟩ := q6
            obtain ⟨s1, s2, s3, s4⟩ := setSl_spec hset
            obtain ⟨c1, c2⟩ := clrSl_spec le.wr s.1
            have hx : Ext ad ad' s.2 m' := ⟨fun k hk => r3.same k (by rw [al_append, shareL_al]; exact hk), fun k hk => r3.keep k (by rw [al_append, shareL_al]; exact hk)⟩
            refine hA (tm', m') ad' a' w' ?_ ⟨⟨q10, ?_, fun k v hv => ?_⟩, r2⟩ hx
            · have : ∀ (ls : List Lab) (x : Lab), x ∈ ls → lk x (ls.map fun l => (l, (tm', m'))) = some (tm', m') := by
                intro ls x hx
                induction ls with
                | nil => cases hx
                | cons k ls ih =>
                  simp only [List.map_cons, lk]
                  split
                  · rfl
                  · rename_i hne
                    rcases List.mem_cons.1 hx with h | h
                    · exact (hne h.symm).elim
                    · exact ih h
              exact this le.labs _ l3
            · show a'.tmps.size = tm'.length
              rw [s1, c1, q9]; exact hR.1.size
            · have hokus := l2 _ r4
              change tm'.at k = some v at hv
              by_cases hk : k ∈ le.so
              · obtain ⟨i, hi, hik⟩ := List.getElem_of_mem hk
                have hik' : le.so[i]? = some k := by rw [List.getElem?_eq_getElem hi, hik]
                have h1 := s4 i k hik'
                rw [hv] at h1
                have h2 := q7 i k hik'
                rw [concL_eq, List.getElem?_map, ← h1, Option.map_some] at h2
                exact ⟨h2, okL_get hokus h1.symm⟩
              · rw [s3 k hk] at hv
                obtain ⟨j1, j2⟩ := c2 k v hv
                obtain ⟨k1, k2⟩ := hR.1.slot k v j1
                exact ⟨by rw [q8 k hk j2, k1, SV.conc_congr hx.same v k2], SV.ok_mono hx.keep v k2⟩
        · cases h
      · cases h
    · cases h
  · cases h
end
end Go.Proofs.Ytmolkkphnehgcaa.Ew

/- The evaluator: code and functions; that what it says of a function holds of the function's calls. -/
set_option linter.unusedVariables false
set_option linter.unusedSimpArgs false
namespace Go.Proofs.Ytmolkkphnehgcaa.Ew
open Go Go.RowKit

abbrev Loops := List Bool → Option LEnt
def codeAt : Code → List Bool → Option Code
  | .seq x y, b :: p => bif b then codeAt y p else codeAt x p
  | .cond _ x y, b :: p => bif b then codeAt y p else codeAt x p
  | .block _ c, _ :: p => codeAt c p
  | .loop c, _ :: p => codeAt c p
  | c, [] => some c
  | _, _ :: _ => none

def seqOut (f : St → Option (E × Out)) (r : E × Out) : Option (E × Out) :=
  match lk .nrm r.2.2 with
  | none => some r
  | some s1 => match f s1 with
    | some q => match joinOut r.2 q.2 with
      | some o => some (andB r.1 (impB (r.2.1.is .nrm) q.1), o)
      | none => none
    | none => none
def evLoop (f : St → Option (E × Out)) : Nat → St → Option (E × Out)
  | 0, _ => none
  | n + 1, s => match f s with
    | some r => seqOut (evLoop f n) r
    | none => none
def padTo (m : Mem) (o : Option (E × Out)) : Nat :=
  match o with
  | some r => r.2.2.foldl (fun k x => max k x.2.2.length) m.length - m.length
  | none => 0
def brE (e : E) (x y : Option (E × Out)) : Option (E × Out) :=
  match x, y with
  | some ox, some oy => match brOut e ox.2 oy.2 with
    | some o => some (andB (impB e ox.1) (impB (mkNot e) oy.1), o)
    | none => none
  | some ox, none => some (andB e ox.1, ox.2)
  | none, some oy => some (andB (mkNot e) oy.1, oy.2)
  | none, none => none

def evCode (P : Program) (G : Glob) (T : Tab) (call : Into) (N : Nat) : Loops → Code → St → Option (E × Out)
  | _, .skip, s => some (mkB true, .leaf .nrm, [(.nrm, s)])
  | _, .label _, s => some (mkB true, .leaf .nrm, [(.nrm, s)])
  | _, .region _ ops true, s => match evDraw P G T ops s with
    | some (g, s') => some (g, .leaf .nrm, [(.nrm, s')])
    | none => none
  | _, .region _ ops false, s => match evSeq P G T call ops ops.toList s with
    | some (g, s') => some (g, .leaf .nrm, [(.nrm, s')])
    | none => none
  | L, .seq x y, s => match L [] with
    | some le => callL le s
    | none => match evCode P G T call N (fun p => L (false :: p)) x s with
      | some r => seqOut (evCode P G T call N (fun p => L (true :: p)) y) r
      | none => none
  | L, .cond c x y, s => match condE s c with
    | some e => match e.lit? with
      | some n => bif i2b n then evCode P G T call N (fun p => L (false :: p)) x s else evCode P G T call N (fun p => L (true :: p)) y s
      | none => match evCode P G T call N (fun p => L (false :: p)) x s with
        | ox => brE e ox (evCode P G T call N (fun p => L (true :: p)) y (s.1, s.2 ++ List.replicate (padTo s.2 ox) none))
    | none => none
  | L, .block id body, s => match evCode P G T call N (fun p => L (false :: p)) body s with
    | some r => match relOut id r.2 with
      | some o => some (r.1, o)
      | none => none
    | none => none
  | L, .loop body, s => match L [] with
    | some le => callL le s
    | none => evLoop (evCode P G T call N (fun p => L (false :: p)) body) N s
  | _, .exit id, s => some (mkB true, .leaf (.ex id), [(.ex id, s)])
  | _, .ret, s => some (mkB true, .leaf .ret, [(.ret, s)])
  | _, _, _ => none

def resS (P : Program) (s : St) : List ResultVar → Option (E × List SV)
  | [] => some (mkB true, [])
  | .tmp t :: r => match getC [] s.1.at (.tmp t), resS P s r with
    | some v, some l => some (l.1, v :: l.2)
    | _, _ => none
  | .cell t ty :: r => match getC [] s.1.at (.tmp t), aggOf P ty, szOf P ty with
    | some (.ptr n off), some ag, some sz => match blkC s.2 n with
      | some (g, _, cs) => match rdC cs off sz ag, resS P s r with
        | some v, some l => some (andB g l.1, v :: l.2)
        | _, _ => none
      | none => none
    | _, _, _ => none
def tupOf : List SV → SV
  | [v] => v
  | l => .tup l

def finish (P : Program) (fn : Func) (s : St) : Option (E × SV × Mem) := (resS P s fn.results.toList).map fun l => (l.1, tupOf l.2, s.2)

def onlyRet : List (Lab × St) → Bool
  | [] => true
  | (l, _) :: r => (decide (l = .nrm) || decide (l = .ret)) && onlyRet r

/-- The one state at a function's end. -/
def endSt (m : Mem) (o : Out) : Option St :=
  bif onlyRet o.2 then
    match lk .ret o.2, lk .nrm o.2 with
    | some s, none => some s
    | none, some s => some s
    | some s, some s' => mergeSt (o.1.is .ret) s s'
    | none, none => none
  else none
def tm0 (n : Nat) (args : List SV) : Tm := args.map some ++ List.replicate (n - args.length) (some .und)

def evFn (P : Program) (G : Glob) (T : Tab) (LT : Nat → Loops) (N : Nat) : Nat → Into
  | 0, _, _, _ => none
  | n + 1, f, args, m => match P.funcs[f]? with
    | some fn => match fn.body with
      | some c => match evCode P G T (evFn P G T LT N n) N (LT f) c (tm0 fn.ntmps args, m) with
        | some r => match endSt m r.2 with
          | some s => match finish P fn s with
            | some q => some (andB r.1 q.1, q.2)
            | none => none
          | none => none
        | none => none
      | none => none
    | none => none

section
variable {P : Program} {ρ : Nat → Int} {G : Glob} {T : Tab} {l : Tabs} {w0 w : World} {M0 Im0 : Nat → Prop} {ad : Nat → Hd} {m m2 m' : Mem} {tm : Tm} {en : Env} {a : Act}

/-- The loops' summaries hold of the code's loops. -/
def LoopsOK (P : Program) (G : Glob) (l : Tabs) (L : Loops) (c : Code) : Prop :=
  ∀ p le, L p = some le → ∀ body, codeAt c p = some body → l.get le.ent.key = some le.ent ∧ CodeOK P G body le

theorem seqOut_sound {f : St → Option (E × Out)} {r : E × Out} {s0 : Mem} {g : E} {o : Out} (h : seqOut f r = some (g, o)) (ht : g.tt l.F ρ = true) {Q : Exit → Act → World → Prop} {K : Act → World → Prop}
    (hA : After l.F ρ w0 M0 Im0 ad s0 o Q)
    (hK : ∀ s1 g2 o2 ad' a' w', f s1 = some (g2, o2) → g2.tt l.F ρ = true → RelS l.F ρ w0 M0 Im0 ad' s1 a' w' → After l.F ρ w0 M0 Im0 ad' s1.2 o2 Q → K a' w') :
    r.1.tt l.F ρ = true ∧ After l.F ρ w0 M0 Im0 ad s0 r.2 (Exit.then K Q) := by
  unfold seqOut at h
  split at h
  · rename_i hn
    simp only [Option.some.injEq] at h; subst h
    refine ⟨ht, fun q ad' a' w' hq hR' hx => ?_⟩
    have hne : o.1.eval l.F ρ ≠ .nrm := fun e => by rw [e, hn] at hq; cases hq
    have := hA q ad' a' w' hq hR' hx
    cases hl : o.1.eval l.F ρ with
    | nrm => exact (hne hl).elim
    | ret => rw [hl] at this; exact this
    | ex id => rw [hl] at this; exact this
  · rename_i s1 hn
    split at h
    · rename_i q0 hq0
      split at h
      · rename_i o' ho'
        simp only [Option.some.injEq, Prod.mk.injEq] at h
        obtain ⟨rfl, rfl⟩ := h
        obtain ⟨t1, t2⟩ := andB_tt ht
        obtain ⟨j1, j2⟩ := After.join ho' hA
        refine ⟨t1, fun q ad' a' w' hq hR' hx => ?_⟩
        by_cases he : r.2.1.eval l.F ρ = .nrm
        · rw [he] at hq ⊢
          rw [hn] at hq
          simp only [Option.some.injEq] at hq
          subst hq
          refine hK s1 q0.1 q0.2 ad' a' w' hq0 (impB_tt t2 (DT.is_true he)) hR' fun q' ad'' a'' w'' hq' hR'' hx' => ?_
          exact j2 he q' ad'' a'' w'' hq' hR'' (hx.trans hx')
        · have := j1 he q ad' a' w' hq hR' hx
          cases hl : r.2.1.eval l.F ρ with
          | nrm => exact (he hl).elim
          | ret => rw [hl] at this; exact this
          | ex id => rw [hl] at this; exact this
      · cases h
    · cases h

theorem brE_sound {e : E} {x y : Option (E × Out)} {s0 : Mem} {g : E} {o : Out} (h : brE e x y = some (g, o)) (ht : g.tt l.F ρ = true) {Q : Exit → Act → World → Prop} (hA : After l.F ρ w0 M0 Im0 ad s0 o Q) :
    (e.tt l.F ρ = true → ∃ g1 o1, x = some (g1, o1) ∧ g1.tt l.F ρ = true ∧ After l.F ρ w0 M0 Im0 ad s0 o1 Q) ∧ (e.tt l.F ρ = false → ∃ g1 o1, y = some (g1, o1) ∧ g1.tt l.F ρ = true ∧ After l.F ρ w0 M0 Im0 ad s0 o1 Q) := by
  have hnot : e.tt l.F ρ = false → (mkNot e).tt l.F ρ = true := fun h => by rw [(mkNot_spec e l.F ρ).1, h]; rfl
  unfold brE at h
  split at h
  · rename_i ox oy
    split at h
    · rename_i o' ho'
      simp only [Option.some.injEq, Prod.mk.injEq] at h
      obtain ⟨rfl, rfl⟩ := h
      obtain ⟨t1, t2⟩ := andB_tt ht
      obtain ⟨j1, j2⟩ := After.br ho' hA
      exact ⟨fun he => ⟨ox.1, ox.2, rfl, impB_tt t1 he, j1 he⟩, fun he => ⟨oy.1, oy.2, rfl, impB_tt t2 (hnot he), j2 he⟩⟩
    · cases h
  · rename_i ox
    simp only [Option.some.injEq, Prod.mk.injEq] at h
    obtain ⟨rfl, rfl⟩ := h
    obtain ⟨t1, t2⟩ := andB_tt ht
    exact ⟨fun _ => ⟨ox.1, ox.2, rfl, t2, hA⟩, fun he => by rw [t1] at he; cases he⟩
  · rename_i oy
    simp only [Option.some.injEq, Prod.mk.injEq] at h
    obtain ⟨rfl, rfl⟩ := h
    obtain ⟨t1, t2⟩ := andB_tt ht
    rw [(mkNot_spec e l.F ρ).1] at t1
    exact ⟨fun he => (by rw [he] at t1; cases t1), fun _ => ⟨oy.1, oy.2, rfl, t2, hA⟩⟩
  · cases h

theorem evCode_sound (hm : P.follows .mixedOrders = true) (hS : SumOK P G l T) (hG : GOK G Im0 w0) {call : Into} (hI : IntoOK P l ρ w0 M0 Im0 call) {N : Nat} : ∀ (c : Code) (L : Loops) (s : St) (g : E) (o : Out) (ad : Nat → Hd) (a : Act) (w : World) (Q : Exit → Act → World → Prop),
    LoopsOK P G l L c → evCode P G T call N L c s = some (g, o) → g.tt l.F ρ = true → RelS l.F ρ w0 M0 Im0 ad s a w → After l.F ρ w0 M0 Im0 ad s.2 o Q → c.wp P Q a w := by
  intro c
  induction c with
  | skip =>
    intro L s g o ad a w Q hL h ht hR hA
    simp only [evCode, Option.some.injEq, Prod.mk.injEq] at h
    obtain ⟨rfl, rfl⟩ := h
    exact wp_skip (hA s ad a w (by simp [lk, DT.eval]) hR (Ext.refl _ _))
  | label k =>
    intro L s g o ad a w Q hL h ht hR hA
    simp only [evCode, Option.some.injEq, Prod.mk.injEq] at h
    obtain ⟨rfl, rfl⟩ := h
    exact wp_label (hA s ad a w (by simp [lk, DT.eval]) hR (Ext.refl _ _))
  | region id ops draw =>
    intro L s g o ad a w Q hL h ht hR hA
    cases draw with
    | true =>
      simp only [evCode] at h
      split at h
      · rename_i g1 s' h1
        simp only [Option.some.injEq, Prod.mk.injEq] at h
        obtain ⟨rfl, rfl⟩ := h
        exact (draw_sound hm hS hG h1).2 ht hR fun ad' a' w' hR' hx => hA s' ad' a' w' (by simp [lk, DT.eval]) hR' hx
      · cases h
    | false =>
      simp only [evCode] at h
      split at h
      · rename_i g1 s' h1
        simp only [Option.some.injEq, Prod.mk.injEq] at h
        obtain ⟨rfl, rfl⟩ := h
        exact wp_region_list (evSeq_sound hS hG hI ops.toList s s' g1 ad a w h1 ht hR fun ad' a' w' hR' hx => hA s' ad' a' w' (by simp [lk, DT.eval]) hR' hx)
      · cases h
  | seq x y ihx ihy =>
    intro L s g o ad a w Q hL h ht hR hA
    simp only [evCode] at h
    split at h
    · rename_i le hle
      obtain ⟨l1, l2⟩ := hL [] le hle (.seq x y) rfl
      exact callL_sound l1 l2 hG h ht hR hA
    split at h
    · rename_i r hr
      obtain ⟨t1, t2⟩ := seqOut_sound (K := y.wp P Q) h ht hA fun s1 g2 o2 ad' a' w' h2 ht2 hR' hA' => ihy _ s1 g2 o2 ad' a' w' Q (fun p le hp body hb => hL (true :: p) le hp body hb) h2 ht2 hR' hA'
      exact wp_seq (ihx _ s r.1 r.2 ad a w _ (fun p le hp body hb => hL (false :: p) le hp body hb) hr t1 hR t2)
    · cases h
  | cond c x y ihx ihy =>
    intro L s g o ad a w Q hL h ht hR hA
    simp only [evCode] at h
    split at h
    · rename_i e he
      obtain ⟨hk, hev⟩ := condE_spec hR.1 he
      split at h
      · rename_i n hn
        have htn := lit?_tt hn l.F ρ
        rw [htn] at hev
        cases hi : i2b n
        · rw [hi] at h hev
          exact wp_cond (t := false) hev (ihy _ s g o ad a w Q (fun p le hp body hb => hL (true :: p) le hp body hb) h ht hR hA)
        · rw [hi] at h hev
          exact wp_cond (t := true) hev (ihx _ s g o ad a w Q (fun p le hp body hb => hL (false :: p) le hp body hb) h ht hR hA)
      · obtain ⟨j1, j2⟩ := brE_sound h ht hA
        rcases Bool.eq_false_or_eq_true (e.tt l.F ρ) with hte | hte
        · rw [hte] at hev
          obtain ⟨g1, o1, k1, k2, k3⟩ := j1 hte
          exact wp_cond (t := true) hev (ihx _ s g1 o1 ad a w Q (fun p le hp body hb => hL (false :: p) le hp body hb) k1 k2 hR k3)
        · rw [hte] at hev
          obtain ⟨g1, o1, k1, k2, k3⟩ := j2 hte
          refine wp_cond (t := false) hev (ihy _ _ g1 o1 ad a w Q (fun p le hp body hb => hL (true :: p) le hp body hb) k1 k2 (hR.extend _) fun q ad' a' w' hq hR' hx => k3 q ad' a' w' hq hR' ⟨fun k hk => hx.same k ?_, fun k hk => hx.keep k ?_⟩) <;> simpa [al_append] using hk
    · cases h
  | block id body ih =>
    intro L s g o ad a w Q hL h ht hR hA
    simp only [evCode] at h
    split at h
    · rename_i r hr
      split at h
      · rename_i o' ho'
        simp only [Option.some.injEq, Prod.mk.injEq] at h
        obtain ⟨rfl, rfl⟩ := h
        exact wp_block (ih _ s r.1 r.2 ad a w _ (fun p le hp body hb => hL (false :: p) le hp body hb) hr ht hR (After.rel ho' hA))
      · cases h
    · cases h
  | loop body ih =>
    intro L s g o ad a w Q hL h ht hR hA
    simp only [evCode] at h
    split at h
    · rename_i le hle
      obtain ⟨l1, l2⟩ := hL [] le hle (.loop body) rfl
      exact callL_sound l1 l2 hG h ht hR hA
    · refine wp_loop_rounds N ?_
      have key : ∀ (n : Nat) (s : St) (g : E) (o : Out) (ad : Nat → Hd) (a : Act) (w : World), evLoop (evCode P G T call N (fun p => L (false :: p)) body) n s = some (g, o) → g.tt l.F ρ = true → RelS l.F ρ w0 M0 Im0 ad s a w → After l.F ρ w0 M0 Im0 ad s.2 o Q → Code.rounds P body Q n a w := by
        intro n
        induction n with
        | zero => intro s g o ad a w h; simp [evLoop] at h
        | succ n ihn =>
          intro s g o ad a w h ht hR hA
          simp only [evLoop] at h
          split at h
          · rename_i r hr
            rw [rounds_succ]
            obtain ⟨t1, t2⟩ := seqOut_sound (K := Code.rounds P body Q n) h ht hA fun s1 g2 o2 ad' a' w' h2 ht2 hR' hA' => ihn s1 g2 o2 ad' a' w' h2 ht2 hR' hA'
            exact ih _ s r.1 r.2 ad a w _ (fun p le hp body hb => hL (false :: p) le hp body hb) hr t1 hR t2
          · cases h
      exact key N s g o ad a w h ht hR hA
  | exit id =>
    intro L s g o ad a w Q hL h ht hR hA
    simp only [evCode, Option.some.injEq, Prod.mk.injEq] at h
    obtain ⟨rfl, rfl⟩ := h
    exact wp_exit (hA s ad a w (by simp [lk, DT.eval]) hR (Ext.refl _ _))
  | ret =>
    intro L s g o ad a w Q hL h ht hR hA
    simp only [evCode, Option.some.injEq, Prod.mk.injEq] at h
    obtain ⟨rfl, rfl⟩ := h
    exact wp_ret (hA s ad a w (by simp [lk, DT.eval]) hR (Ext.refl _ _))
  | _ => intro L s g o ad a w Q hL h; simp [evCode] at h

def resM (a : Act) : ResultVar → Sem Value
  | .tmp t => pure (a.tmps.getD t undef)
  | .cell t ty => do loadVar ty (← asAddr (a.tmps.getD t undef))
theorem resS_run {F : Fam} (hR : RelS F ρ w0 M0 Im0 ad (tm, m) a w) : ∀ (rs : List ResultVar) (q : E × List SV), resS P (tm, m) rs = some q → q.1.tt F ρ = true →
    (rs.mapM (resM a)).run P w = .ok (SV.concL F ρ ad q.2) w ∧ SV.okL (al m) q.2
  | [], q, h, ht => by simp only [resS, Option.some.injEq] at h; subst h; exact ⟨rfl, trivial⟩
  | .tmp t :: r, q, h, ht => by
    simp only [resS] at h
    split at h
    · rename_i v l' h1 h2
      simp only [Option.some.injEq] at h; subst h
      obtain ⟨i1, i2⟩ := getC_spec hR.1.envV (cs := []) rfl h1
      obtain ⟨j1, j2⟩ := resS_run hR r l' h2 ht
      have i1' : a.tmps.getD t undef = v.conc F ρ ad := i1
      refine ⟨?_, i2, j2⟩
      simp only [List.mapM_cons, Sem.run_bind, Sem.run_pure, Result.andThen_ok, resM, j1, i1', SV.concL]
    · cases h
  | .cell t ty :: r, q, h, ht => by
    simp only [resS] at h
    split at h
    · rename_i n off ag sz h1 h2 h3
      split at h
      · rename_i g ty' cs h4
        split at h
        · rename_i v l' h5 h6
          simp only [Option.some.injEq] at h; subst h
          obtain ⟨t1, t2⟩ := andB_tt ht
          obtain ⟨i1, i2⟩ := getC_spec hR.1.envV (cs := []) rfl h1
          obtain ⟨j1, j2⟩ := resS_run hR r l' h6 t2
          obtain ⟨_, Im, _, _, hI⟩ := hR.2
          obtain ⟨b1, b2⟩ := blkC_spec h4
          have hh : w.heap[(ad n).blk]? = some (.cells (SV.concL F ρ ad cs).toArray ty' (0, 0)) := (hI.ent n g _ b1 t1).1
          have hcell : ∀ j u, (SV.concL F ρ ad cs)[j]? = some u → w.cell? ⟨(ad n).blk, 0 + j, none⟩ = some u := fun j u hu => by
            rw [Nat.zero_add, cell_of_heap hh]; simpa using hu
          obtain ⟨k1, k2⟩ := rdC_run (P := P) hcell h5
          rw [Nat.zero_add] at k1
          have i1' : a.tmps.getD t undef = .pointer (some ⟨(ad n).blk, off, none⟩) := i1
          refine ⟨?_, k2 _ (hI.ok n g _ b1), j2⟩
          have hl := loadAt_run (P := P) (w := w) (b := (ad n).blk) (off := off) h2 h3
          rw [k1] at hl
          simp only [Instr.loadAt, Instr.sureAddr, Sem.run_bind, Sem.run_pure, Result.andThen_ok] at hl
          have hlv : (loadVar ty ⟨(ad n).blk, off, none⟩).run P w = .ok (v.conc F ρ ad) w := by
            cases hx : (loadVar ty ⟨(ad n).blk, off, none⟩).run P w with
            | ok x w' =>
              rw [hx] at hl
              simp only [Result.andThen_ok, Result.ok.injEq, Next.value.injEq] at hl
              rw [hl.1, hl.2]
            | halt x w' => rw [hx] at hl; cases hl
          have ha : asAddr (.pointer (some ⟨(ad n).blk, off, none⟩)) = (pure ⟨(ad n).blk, off, none⟩ : Sem Addr) := rfl
          simp only [List.mapM_cons, Sem.run_bind, Sem.run_pure, Result.andThen_ok, resM, j1, i1', SV.concL, ha, hlv]
        · cases h
      · cases h
    · cases h

theorem finish_spec {F : Fam} (hR : RelS F ρ w0 M0 Im0 ad (tm, m) a w) {fn : Func} {g : E} {v : SV} {m' : Mem} (h : finish P fn (tm, m) = some (g, v, m')) (ht : g.tt F ρ = true) :
    m' = m ∧ (results fn a.tmps).run P w = .ok (v.conc F ρ ad) w ∧ v.ok (al m) := by
  unfold finish at h
  obtain ⟨q, h1, h2⟩ := Option.map_eq_some_iff.1 h
  obtain ⟨gq, l⟩ := q
  simp only [Prod.mk.injEq] at h2
  obtain ⟨rfl, rfl, rfl⟩ := h2
  obtain ⟨j1, j2⟩ := resS_run hR fn.results.toList _ h1 ht
  simp only at j1 j2
  have htu : (tupOf l).conc F ρ ad = if hs : (SV.concL F ρ ad l).toArray.size = 1 then (SV.concL F ρ ad l).toArray[0] else .tuple (SV.concL F ρ ad l).toArray := by
    unfold tupOf
    split
    · simp [SV.concL]
    · rename_i hne
      rw [dif_neg]
      · rfl
      · intro hs
        rw [concL_eq, List.size_toArray, List.length_map] at hs
        obtain ⟨v, hv⟩ := List.length_eq_one_iff.1 hs
        exact hne v hv
  refine ⟨rfl, ?_, ?_⟩
  · rw [htu]
    have hres : results fn a.tmps = (do let vs ← fn.results.mapM (resM a); pure (if h : vs.size = 1 then vs[0] else .tuple vs)) := by
      unfold results
      congr 2
    rw [hres, Array.mapM_eq_mapM_toList]
    simp only [Sem.run_bind, Sem.run_map, Sem.run_pure]
    rw [j1]
    rfl
  · unfold tupOf
    split
    · exact j2.1
    · simp only [SV.ok]; exact j2

theorem onlyRet_spec : ∀ {xs : List (Lab × St)}, onlyRet xs = true → ∀ l q, lk l xs = some q → l = .nrm ∨ l = .ret
  | [], _, l, q, h => by simp [lk] at h
  | (k, s) :: r, h, l, q, hq => by
    simp only [onlyRet, Bool.and_eq_true, Bool.or_eq_true, decide_eq_true_eq] at h
    simp only [lk] at hq
    split at hq
    · rename_i hk; subst hk; exact h.1
    · exact onlyRet_spec h.2 l q hq


theorem tm0_rel {F : Fam} {args : List SV} {n : Nat} (hok : SV.okL (al m) args) : RelT F ρ ad m (tm0 n args) { tmps := (SV.concL F ρ ad args).toArray ++ Array.replicate (n - (SV.concL F ρ ad args).toArray.size) undef, defers := [] } := by
  refine ⟨rfl, by simp [concL_eq, tm0], fun i u hu => ?_⟩
  simp only [Tm.at, List.getD, tm0] at hu
  by_cases hi : i < args.length
  · rw [List.getElem?_append_left (by simpa using hi)] at hu
    simp only [List.getElem?_map, List.getElem?_eq_getElem hi, Option.map_some, Option.getD_some, Option.some.injEq] at hu
    subst hu
    refine ⟨?_, okL_get hok (List.getElem?_eq_getElem hi)⟩
    simp only [concL_eq, Array.getElem?_append, List.size_toArray, List.length_map, hi, if_true]
    simp [hi]
  · rw [List.getElem?_append_right (by simpa using hi), List.getElem?_replicate] at hu
    split at hu
    · rename_i hlt
      simp only [Option.getD_some, Option.some.injEq] at hu
      subst hu
      refine ⟨?_, trivial⟩
      simp only [List.length_map] at hlt
      simp only [concL_eq, List.size_toArray, List.length_map, Array.getElem?_append]
      rw [if_neg hi]
      simp [Array.getElem?_replicate, hlt, SV.conc]
    · simp at hu

/-- The one state at the end tells of every way out. -/
theorem endSt_spec {F : Fam} {o : Out} {s : St} (h : endSt m o = some s) {q : St} (hq : lk (o.1.eval F ρ) o.2 = some q) : (o.1.eval F ρ = .nrm ∨ o.1.eval F ρ = .ret) ∧ (∀ ad a w, RelS F ρ w0 M0 Im0 ad q a w → RelS F ρ w0 M0 Im0 ad s a w) ∧ ∀ k, al q.2 k → al s.2 k := by
  unfold endSt at h
  cases hor : onlyRet o.2
  · rw [hor] at h; cases h
  · rw [hor] at h
    simp only [cond_true] at h
    have hlab := onlyRet_spec hor _ _ hq
    refine ⟨hlab, ?_⟩
    split at h
    · rename_i s' h1 h2
      simp only [Option.some.injEq] at h; subst h
      rcases hlab with hl | hl
      · rw [hl, h2] at hq; cases hq
      · rw [hl, h1] at hq
        simp only [Option.some.injEq] at hq; subst hq
        exact ⟨fun _ _ _ h => h, fun _ h => h⟩
    · rename_i s' h1 h2
      simp only [Option.some.injEq] at h; subst h
      rcases hlab with hl | hl
      · rw [hl, h2] at hq
        simp only [Option.some.injEq] at hq; subst hq
        exact ⟨fun _ _ _ h => h, fun _ h => h⟩
      · rw [hl, h1] at hq; cases hq
    · rename_i s1 s2 h1 h2
      obtain ⟨k1, k2, k3⟩ := mergeSt_spec (F := F) (ρ := ρ) (w0 := w0) (M0 := M0) (Im0 := Im0) h
      rcases hlab with hl | hl
      · rw [hl, h2] at hq
        simp only [Option.some.injEq] at hq; subst hq
        exact ⟨fun ad a w hR => k3 ad a w (DT.is_false (by rw [hl]; exact fun e => by cases e)) hR, fun k hk => k1 k (Or.inr hk)⟩
      · rw [hl, h1] at hq
        simp only [Option.some.injEq] at hq; subst hq
        exact ⟨fun ad a w hR => k2 ad a w (DT.is_true hl) hR, fun k hk => k1 k (Or.inl hk)⟩
    · cases h

/-- The summaries of loops, by functions. -/
def LTOK (P : Program) (G : Glob) (l : Tabs) (LT : Nat → Loops) : Prop := ∀ f fn c, P.funcs[f]? = some fn → fn.body = some c → LoopsOK P G l (LT f) c

theorem evFn_sound (hm : P.follows .mixedOrders = true) (hS : SumOK P G l T) (hG : GOK G Im0 w0) {LT : Nat → Loops} (hLT : LTOK P G l LT) {N : Nat} : ∀ n, IntoOK P l ρ w0 M0 Im0 (evFn P G T LT N n)
  | 0 => fun f args m ob v m' h => by simp [evFn] at h
  | n + 1 => fun f args m ob v m' h ht ad w hM hok => by
    simp only [evFn] at h
    split at h
    · rename_i fn hf
      split at h
      · rename_i c hc
        split at h
        · rename_i r hr
          split at h
          · rename_i s hs
            split at h
            · rename_i q hq
              obtain ⟨gq, vq, mq⟩ := q
              simp only [Option.some.injEq, Prod.mk.injEq] at h
              obtain ⟨rfl, rfl, rfl⟩ := h
              obtain ⟨t1, t2⟩ := andB_tt ht
              refine calls_of_wp hf hc ?_
              refine evCode_sound hm hS hG (evFn_sound hm hS hG hLT n) c (LT f) _ r.1 r.2 ad _ w _ (hLT f fn c hf hc) hr t1 ⟨tm0_rel hok, hM⟩ ?_
              intro q0 ad' a' w' hq0 hR' hx
              obtain ⟨e1, e2, e3⟩ := endSt_spec (w0 := w0) (M0 := M0) (Im0 := Im0) hs hq0
              have hRs := e2 ad' a' w' hR'
              obtain ⟨f1, f2, f3⟩ := finish_spec (P := P) (tm := s.1) (m := s.2) hRs (fn := fn) hq t2
              subst f1
              have hb : a'.defers = [] ∧ ∃ u, (results fn a'.tmps).run P w' = .ok u w' ∧ (fun e w' => ∃ ad', e = Ending.returned (vq.conc l.F ρ ad') ∧ Rel l.F ρ w0 M0 Im0 ad' s.2 w' ∧ Ext ad ad' m s.2 ∧ vq.ok (al s.2)) (.returned u) w' :=
                ⟨hRs.1.defers, _, f2, ad', rfl, hRs.2, ⟨hx.same, fun k hk => e3 k (hx.keep k hk)⟩, f3⟩
              rcases e1 with hl | hl <;> rw [hl] <;> exact hb
            · cases h
          · cases h
        · cases h
      · cases h
    · cases h
end
end Go.Proofs.Ytmolkkphnehgcaa.Ew

/- From a function's end to its summary. -/
set_option linter.unusedVariables false
set_option linter.unusedSimpArgs false
namespace Go.Proofs.Ytmolkkphnehgcaa.Ew
open Go Go.RowKit

/-! ### the memory at the start -/
def memOf (l : Ents) (n : Nat) : Mem := (List.range n).map fun j => (l.find? fun x => x.1 == j).map (·.2)
/-- The parameters' things; then so many names of things not told of. -/
def start (e : Ent) (k : Nat) : Mem := memOf e.pgen.2 e.nn ++ List.replicate k (some (mkB true, .dead))
def startOK (e : Ent) : Bool := (Sh.refsL e.ps).all fun j => decide (j < e.nn)

/-! ### reading the end -/
def objGet (m : Mem) : List Ob → Option (E × List SV)
  | [] => some (mkB true, [])
  | o :: r => match m.at o.j with
    | some (g, b) => match unO b with
      | some (ty', tl', vs) => if ty' = o.ty ∧ tl' = o.tl ∧ vs.length = o.cs.length then (objGet m r).map fun q => (andB g q.1, vs ++ q.2) else none
      | none => none
    | none => none
def sameBlk : Blk → Blk → Bool
  | .cells ty cs, .cells ty' cs' => decide (ty = ty') && SV.sameL cs cs'
  | .lst ty row own le c, .lst ty' row' own' le' c' => decide (ty = ty') && decide (row = row') && decide (own = own') && le.same le' && c.same c'
  | .mp ks vs kag vag c, .mp ks' vs' kag' vag' c' => decide (ks = ks') && decide (vs = vs') && decide (kag = kag') && decide (vag = vag') && c.same c'
  | .seg ty cs ks c, .seg ty' cs' ks' c' => decide (ty = ty') && decide (ks = ks') && SV.sameL cs cs' && c.same c'
  | _, _ => false
def keptGet (m : Mem) : Ents → Option E
  | [] => some (mkB true)
  | x :: r => match m.at x.1 with
    | some (g, b) => if sameBlk b x.2.2 = true then (keptGet m r).map fun q => andB (impB x.2.1 g) q else none
    | none => none
def accN (n : Nat) : List Src := (List.range n).map Src.nm
/-- A pointer into a block's rows: that of a row by a literal number, or one of several. -/
def fitPin (off str : Nat) : SV → SV
  | .ptr n o => if 0 < str ∧ off ≤ o ∧ (o - off) % str = 0 ∧ (o - off) / str ≤ 1000000 then .pi n off str (.lit (.i .i64) ((o - off) / str : Nat)) else .ptr n o
  | .ite p a b => match fitPin off str a, fitPin off str b with
    | .pi n o s e, .pi n' o' s' e' => if n' = n ∧ o' = o ∧ s' = s ∧ p.kind = .b ∧ e.kind = .i .i64 ∧ e'.kind = .i .i64 then .pi n o s (mkIte p e e') else .ite p a b
    | _, _ => .ite p a b
  | v => v
/- A value is bent to a shape, under a condition: literals, pointers that are nil or not. -/
mutual
def fitV : Sh → SV → E × SV
  | .lt k n, .sc e => fitLt k n e
  | .nul c, .ite p a b => fitNil c p a b
  | .obj .., v => force v
  | .seg .., v => force v
  | .ref _, v => force v
  | .pin _ off str, v => (mkB true, fitPin off str v)
  | .tup l, .tup vs => ((fitL l vs).1, .tup (fitL l vs).2)
  | .agg l, .agg vs => ((fitL l vs).1, .agg (fitL l vs).2)
  | _, v => (mkB true, v)
def fitL : List Sh → List SV → E × List SV
  | s :: l, v :: vs => (mkAnd (fitV s v).1 (fitL l vs).1, (fitV s v).2 :: (fitL l vs).2)
  | _, vs => (mkB true, vs)
def fitLt (k : K) (n : Int) (e : E) : E × SV :=
  match e.lit? with
  | some _ => (mkB true, .sc e)
  | none => if e.kind = k then
      match k with
      | .b => (bif i2b n then e else mkNot e, .sc (.lit .b n))
      | .i _ => (mkCmp .eql e (.lit k n), .sc (.lit k n))
      | .x => (mkB true, .sc e)
    else (mkB true, .sc e)
def fitNil (c : CV) (p : E) (a b : SV) : E × SV :=
  if p.kind = .b then
    match a, b with
    | .nilp c', _ => if c' = c then (p, .nilp c) else (mkB true, .ite p a b)
    | _, .nilp c' => if c' = c then (mkNot p, .nilp c) else (mkB true, .ite p a b)
    | _, _ => (mkB true, .ite p a b)
  else (mkB true, .ite p a b)
end
/- Names of lists of which a part is handed on. -/
mutual
def svN : SV → List Nat
  | .sv n _ _ _ _ => [n]
  | .fn _ cs | .agg cs | .tup cs => svNL cs
  | .gd _ v => svN v
  | .ite _ a b => svN a ++ svN b
  | _ => []
def svNL : List SV → List Nat
  | [] => []
  | v :: r => svN v ++ svNL r
end
def svAll (m : Mem) (v : SV) : List Nat := svN v ++ m.flatMap fun x => match x with
  | some (_, b) => svNL b.cs
  | none => []
/- Names of lists that are handed on as shared ones. -/
mutual
def shNV (m : Mem) : Sh → SV → List Nat
  | .lst _ _ false, v => namesV v
  | .agg l, .agg vs => shNL m l vs
  | .tup l, .tup vs => shNL m l vs
  | .obj _ cs, .ptr n 0 => match m.at n with
    | some (_, .cells _ vs) => shNL m cs vs
    | _ => []
  | _, _ => []
def shNL (m : Mem) : List Sh → List SV → List Nat
  | s :: l, v :: vs => shNV m s v ++ shNL m l vs
  | _, _ => []
end
def shOut (e : Ent) (m : Mem) (v : SV) : List Nat := match objGet m e.os with
  | some (_, V) => shNL m e.outL (V ++ [v])
  | none => []
def matchO (e : Ent) (m : Mem) (v : SV) : Option (E × List E) :=
  match objGet m e.os, keptGet m (keptE e.kp e.pgen.2) with
  | some (g1, V), some g2 => match Sh.getL m e.outL (accN e.nn) (fitL e.outL (V ++ [v])).2 with
    | some (es, srcs, g3) => if (nodupB ((mutJ e.oents).flatMap (srcOf (accN e.nn ++ srcs))) && (e.os.all fun o => decide (o.j < e.nn)) && startOK e) = true ∧ ((fitL e.outL (V ++ [v])).2.map isXv = (V ++ [v]).map isXv) then some (andB g1 (andB g2 (andB (fitL e.outL (V ++ [v])).1 g3)), es) else none
    | none => none
  | _, _ => none

section
variable {P : Program} {ρ : Nat → Int} {G : Glob} {T : Tab} {l : Tabs} {w0 w w' : World} {M0 Im0 Im : Nat → Prop} {ad ad' hs : Nat → Hd} {m m2 m' : Mem} {tm : Tm} {en : Env} {a : Act}

theorem fitLt_spec {F : Fam} {ad : Nat → Hd} (k : K) (n : Int) (e : E) : (fitLt k n e).1.kind = .b ∧ ((fitLt k n e).1.tt F ρ = true → (SV.sc e).conc F ρ ad = (fitLt k n e).2.conc F ρ ad) := by
  unfold fitLt
  split
  · exact ⟨mkB_kind _, fun _ => rfl⟩
  · split
    · rename_i hk
      split
      · cases hn : i2b n
        · simp only [cond_false]
          refine ⟨(mkNot_spec e F ρ).2, fun h => ?_⟩
          rw [(mkNot_spec e F ρ).1] at h
          have he : e.tt F ρ = false := by simpa using h
          simp only [SV.conc, E.val_b hk, E.val_b (show (E.lit .b n).kind = .b from rfl), he]
          congr 1
          simp only [E.tt, E.den, K.norm]
          simp only [i2b, Bool.not_eq_false', beq_iff_eq] at hn
          simp [hn, i2b]
        · simp only [cond_true]
          refine ⟨hk, fun h => ?_⟩
          simp only [SV.conc, E.val_b hk, E.val_b (show (E.lit .b n).kind = .b from rfl), h]
          congr 1
          simp only [E.tt, E.den, K.norm]
          simp only [i2b, Bool.not_eq_true', beq_eq_false_iff_ne] at hn
          simp [hn, i2b]
      · rename_i k'
        have hc := mkCmp_spec .eql e (.lit (.i k') n) F ρ
        refine ⟨hc.2, fun h => ?_⟩
        rw [hc.1] at h
        have h' : e.den F ρ = (E.lit (.i k') n).den F ρ := by simpa [cmpB] using h
        simp only [SV.conc, E.val_i hk, E.val_i (show (E.lit (.i k') n).kind = .i k' from rfl), h']
      · exact ⟨mkB_kind _, fun _ => rfl⟩
    · exact ⟨mkB_kind _, fun _ => rfl⟩
theorem fitNil_spec {F : Fam} {ad : Nat → Hd} (c : CV) (p : E) (a b : SV) : (fitNil c p a b).1.kind = .b ∧ ((fitNil c p a b).1.tt F ρ = true → (SV.ite p a b).conc F ρ ad = (fitNil c p a b).2.conc F ρ ad) := by
  unfold fitNil
  split
  · rename_i hp
    split
    · split
      · rename_i hc
        subst hc
        exact ⟨hp, fun h => by simp only [SV.conc, h, cond_true]⟩
      · exact ⟨mkB_kind _, fun _ => rfl⟩
    · split
      · rename_i hc
        subst hc
        refine ⟨(mkNot_spec p F ρ).2, fun h => ?_⟩
        rw [(mkNot_spec p F ρ).1] at h
        have hf : p.tt F ρ = false := by simpa using h
        simp only [SV.conc, hf, cond_false]
      · exact ⟨mkB_kind _, fun _ => rfl⟩
    · exact ⟨mkB_kind _, fun _ => rfl⟩
  · exact ⟨mkB_kind _, fun _ => rfl⟩
theorem fitPin_spec {F : Fam} {ad : Nat → Hd} (off str : Nat) : ∀ v : SV, v.conc F ρ ad = (fitPin off str v).conc F ρ ad
  | .ptr n o => by
    simp only [fitPin]
    split
    · rename_i h
      obtain ⟨h1, h2, h3, h4⟩ := h
      simp only [SV.conc]
      have hd : ((E.lit (.i .i64) ((o - off) / str : Nat)).den F ρ).toNat = (o - off) / str := by
        simp only [E.den, K.norm]
        generalize (o - off) / str = q at h4 ⊢
        rw [IntKind.wrap_i64]; omega
      rw [hd, Nat.div_mul_cancel (Nat.dvd_of_mod_eq_zero h3), Nat.add_sub_cancel' h2]
    · rfl
  | .ite p a b => by
    have ia := fitPin_spec (F := F) (ad := ad) off str a
    have ib := fitPin_spec (F := F) (ad := ad) off str b
    simp only [fitPin]
    split
    · rename_i n o s e n' o' s' e' ha hb
      split
      · rename_i h
        obtain ⟨rfl, rfl, rfl, hp, he, he'⟩ := h
        rw [ha] at ia
        rw [hb] at ib
        simp only [SV.conc, ia, ib, mkIte_den64 hp he he']
        cases p.tt F ρ <;> rfl
      · rfl
    · rfl
  | .sc _ | .pi .. | .sl .. | .ls .. | .sv .. | .pe .. | .mp _ | .oq _ | .fn .. | .agg _ | .tup _ | .gd .. | .und | .nilp _ | .gl .. => rfl
mutual
theorem fitV_spec {F : Fam} {ad : Nat → Hd} : ∀ (s : Sh) (v : SV), (fitV s v).1.kind = .b ∧ ((fitV s v).1.tt F ρ = true → v.conc F ρ ad = (fitV s v).2.conc F ρ ad)
  | .lt k n, v => by
    cases v <;> first | exact ⟨mkB_kind _, fun _ => rfl⟩ | (simp only [fitV]; exact fitLt_spec k n _)
  | .nul c, v => by
    cases v <;> first | exact ⟨mkB_kind _, fun _ => rfl⟩ | (simp only [fitV]; exact fitNil_spec c _ _ _)
  | .obj ty cs, v => by simp only [fitV]; exact ⟨force_kind v, fun h => (force_spec (p := fun _ => True) v).1 h⟩
  | .seg ty ks cs, v => by simp only [fitV]; exact ⟨force_kind v, fun h => (force_spec (p := fun _ => True) v).1 h⟩
  | .lsn ty row, v => ⟨mkB_kind _, fun _ => rfl⟩
  | .ref j, v => by simp only [fitV]; exact ⟨force_kind v, fun h => (force_spec (p := fun _ => True) v).1 h⟩
  | .tup l, v => by
    cases v <;> first | exact ⟨mkB_kind _, fun _ => rfl⟩ | skip
    rename_i vs
    obtain ⟨i1, i2⟩ := fitL_spec (F := F) (ad := ad) l vs
    simp only [fitV]
    exact ⟨i1, fun h => by simp only [SV.conc, i2 h]⟩
  | .agg l, v => by
    cases v <;> first | exact ⟨mkB_kind _, fun _ => rfl⟩ | skip
    rename_i vs
    obtain ⟨i1, i2⟩ := fitL_spec (F := F) (ad := ad) l vs
    simp only [fitV]
    exact ⟨i1, fun h => by simp only [SV.conc, i2 h]⟩
  | .pin j off str, v => by simp only [fitV]; exact ⟨mkB_kind _, fun _ => fitPin_spec off str v⟩
  | .sc _, v => by cases v <;> exact ⟨mkB_kind _, fun _ => rfl⟩
  | .lst .., v => by cases v <;> exact ⟨mkB_kind _, fun _ => rfl⟩
  | .fnc .., v => by cases v <;> exact ⟨mkB_kind _, fun _ => rfl⟩
  | .opt _, v => by cases v <;> exact ⟨mkB_kind _, fun _ => rfl⟩
  | .und, v => by cases v <;> exact ⟨mkB_kind _, fun _ => rfl⟩
  | .mp .., v => by cases v <;> exact ⟨mkB_kind _, fun _ => rfl⟩
theorem fitL_spec {F : Fam} {ad : Nat → Hd} : ∀ (l : List Sh) (vs : List SV), (fitL l vs).1.kind = .b ∧ ((fitL l vs).1.tt F ρ = true → SV.concL F ρ ad vs = SV.concL F ρ ad (fitL l vs).2)
  | [], vs => ⟨mkB_kind _, fun _ => rfl⟩
  | s :: l, [] => ⟨mkB_kind _, fun _ => rfl⟩
  | s :: l, v :: vs => by
    obtain ⟨i1, i2⟩ := fitV_spec (F := F) (ad := ad) s v
    obtain ⟨j1, j2⟩ := fitL_spec (F := F) (ad := ad) l vs
    have h := mkAnd_spec (fitV s v).1 (fitL l vs).1 i1 j1 F ρ
    simp only [fitL]
    refine ⟨h.2, fun ht => ?_⟩
    rw [h.1, Bool.and_eq_true] at ht
    simp only [SV.concL, i2 ht.1, j2 ht.2]
end

theorem memOf_at (l : Ents) (n j : Nat) : (memOf l n).at j = if j < n then (l.find? fun x => x.1 == j).map (·.2) else none := by
  unfold memOf Mem.at
  by_cases h : j < n <;> simp [List.getD, h]
theorem memOf_mem {l : Ents} {n j : Nat} {g : E} {b : Blk} (h : (memOf l n).at j = some (g, b)) : (j, g, b) ∈ l ∧ j < n := by
  rw [memOf_at] at h
  split at h
  · rename_i hj
    obtain ⟨x, hx, he⟩ := Option.map_eq_some_iff.1 h
    have h1 := List.mem_of_find?_eq_some hx
    have h2 := List.find?_some hx
    have h3 : x.1 = j := by simpa using h2
    obtain ⟨a, c⟩ := x
    simp only at h3 he
    subst h3 he
    exact ⟨h1, hj⟩
  · cases h
theorem start_len (e : Ent) (k : Nat) : (start e k).length = e.nn + k := by simp [start, memOf]
theorem start_at {e : Ent} {k j : Nat} {g : E} {b : Blk} (h : (start e k).at j = some (g, b)) : ((j, g, b) ∈ e.pgen.2 ∧ j < e.nn) ∨ b = .dead := by
  have hl : (memOf e.pgen.2 e.nn).length = e.nn := by simp [memOf]
  by_cases hj : j < e.nn
  · left
    refine memOf_mem ?_
    rw [← h]
    simp only [start, Mem.at, List.getD]
    rw [List.getElem?_append_left (by omega)]
  · right
    simp only [start, Mem.at, List.getD] at h
    rw [List.getElem?_append_right (by omega), List.getElem?_replicate] at h
    split at h
    · simp only [Option.getD_some, Option.some.injEq, Prod.mk.injEq] at h; exact h.2.symm
    · simp at h
theorem start_al (e : Ent) (k j : Nat) : al (start e k) j ↔ j < e.nn + k := by
  have hl : (memOf e.pgen.2 e.nn).length = e.nn := by simp [memOf]
  constructor
  · intro h
    obtain ⟨x, hx⟩ := Option.isSome_iff_exists.1 h
    have := Mem.at_lt hx
    rw [start_len] at this; exact this
  · intro h
    unfold al
    by_cases hj : j < e.nn
    · obtain ⟨x, x1, x2⟩ := genL_has (ev := varE e.pks) (nv := id) e.ps (mkB true) 0 0 j (Nat.zero_le _) (by rw [Nat.zero_add]; exact hj)
      have h1 : (start e k).at j = (memOf e.pgen.2 e.nn).at j := by
        simp only [start, Mem.at, List.getD]
        rw [List.getElem?_append_left (by omega)]
      rw [h1, memOf_at, if_pos hj, Option.isSome_map, List.find?_isSome]
      exact ⟨x, x1, by simp [x2]⟩
    · simp only [start, Mem.at, List.getD]
      rw [List.getElem?_append_right (by omega), List.getElem?_replicate, if_pos (by omega)]
      rfl

/-- The generic parameters read the same under the tables as alone. -/
theorem pgen_tr (l : Tabs) {e : Ent} (hr : startOK e = true) {xs : List Int} (zs : List Int) {ρ : Nat → Int} (hρ : ∀ i, i < e.np → ρ i = env xs i) (hfit : fits e.pks xs) (had : ∀ j, j < e.nn → ad j = hs j) :
    SV.concL l.F ρ ad e.pgen.1 = SV.concL F0 (env (xs ++ zs)) hs e.pgen.1 ∧ ∀ x ∈ e.pgen.2, SameE l.F F0 ρ (env (xs ++ zs)) ad hs id id x x := by
  have hl := fits_length hfit
  have tr : Tr e.nn l.F F0 ρ (env (xs ++ zs)) ad hs (varE e.pks) (varE e.pks) id id := by
    refine ⟨l.BI, BI_F0, fun i => ?_, fun i => rfl, fun j hj => had j hj⟩
    unfold varE
    cases hk : e.pks[i]? with
    | none => simp
    | some k =>
      have hi := (List.getElem?_eq_some_iff.1 hk).1
      simp only [E.den, hρ i hi, env, getD_app, hl, hi, if_true]
  obtain ⟨t1, t2⟩ := genL_tr tr e.ps (mkB true) (mkB true) 0 0 (mkB_kind _) (mkB_kind _) (by simp) (fun i k hi => by rw [Nat.zero_add]; exact varE_kind _ _ _ hi) (by rw [Nat.zero_add]; exact Nat.le_refl _) (fun j hj => by have := List.all_eq_true.1 hr j hj; simpa using this)
  exact ⟨t1, SameL.self t2⟩

theorem start_rel (l : Tabs) {e : Ent} (k : Nat) (hr : startOK e = true) {xs : List Int} {ρ : Nat → Int} (hρ : ∀ i, i < e.np → ρ i = env xs i) (hfit : fits e.pks xs) (hM : ∀ b, M0 b → ¬ Im0 b ∧ b < w.heap.size) (hE : RelE F0 (env xs) w M0 Im0 hs e.pgen.2 w) (had : ∀ j, j < e.nn → ad j = hs j) :
    Rel l.F ρ w M0 Im0 ad (start e k) w ∧ SV.concL l.F ρ ad e.pgen.1 = SV.concL F0 (env xs) hs e.pgen.1 ∧ SV.okL (al (start e k)) e.pgen.1 := by
  obtain ⟨t1, t2⟩ := pgen_tr l hr [] hρ hfit had
  rw [List.append_nil] at t1 t2
  have hal : ∀ j, j < e.nn → al (start e k) j := fun j hj => (start_al e k j).2 (by omega)
  obtain ⟨g1, g2⟩ := genL_ok (ev := varE e.pks) (nv := id) (p := al (start e k)) e.ps (mkB true) 0 0 (fun j _ hj => hal j (by rw [Nat.zero_add] at hj; exact hj)) (fun j hj => hal j (by have := List.all_eq_true.1 hr j hj; simpa using this))
  refine ⟨⟨hM, Im0, fun b hb => hb, fun b hb => Or.inl hb, ⟨fun n g x hn hg => ?_, fun n g x hn => ?_, fun n k' g x g' y b h1 h2 h3 h4 h5 h6 => ?_, hE.im, hE.fr⟩⟩, t1, g1⟩
  · rcases start_at hn with ⟨h, _⟩ | rfl
    · have s := t2 _ h
      obtain ⟨b1, b2⟩ := hE.ent _ h (by rw [← s.gd]; exact hg)
      refine ⟨(s.ok Im0 w).2 b1, fun b hb => b2 b ?_⟩
      rw [← hb]; exact s.mu.symm
    · exact ⟨trivial, fun b hb => by simp [mutB] at hb⟩
  · rcases start_at hn with ⟨h, _⟩ | h
    · exact (g2 _ h).2
    · rw [h]; trivial
  · rcases start_at h1 with ⟨a1, _⟩ | rfl
    · rcases start_at h3 with ⟨a2, _⟩ | rfl
      · have s1 := t2 _ a1
        have s2 := t2 _ a2
        exact hE.inj _ a1 _ a2 (by rw [← s1.gd]; exact h2) (by rw [← s2.gd]; exact h4) b (by rw [← h5]; exact s1.mu.symm) (by rw [← h6]; exact s2.mu.symm)
      · simp [mutB] at h6
    · simp [mutB] at h5

/-! ### the end -/
theorem objGet_spec {F : Fam} {m : Mem} : ∀ {os : List Ob} {g : E} {V : List SV}, objGet m os = some (g, V) → g.tt F ρ = true → ∀ (vals : List SV), ∀ x ∈ objE os (V ++ vals), x.1 ∈ os.map (·.j) ∧ ∃ g' b, m.at x.1 = some (g', b) ∧ g'.tt F ρ = true ∧ x.2.2 = b.nrm
  | [], g, V, h, ht, vals, x, hx => by cases hx
  | o :: r, g, V, h, ht, vals, x, hx => by
    simp only [objGet] at h
    split at h
    · rename_i g1 b hm
      split at h
      · rename_i ty' tl' vs hu
        split at h
        · rename_i hc
          obtain ⟨rfl, rfl, hlen⟩ := hc
          obtain ⟨q, hq, he⟩ := Option.map_eq_some_iff.1 h
          simp only [Prod.mk.injEq] at he
          obtain ⟨rfl, rfl⟩ := he
          obtain ⟨t1, t2⟩ := andB_tt ht
          simp only [objE, List.append_assoc] at hx
          rw [List.take_left' hlen, List.drop_left' hlen] at hx
          rcases List.mem_cons.1 hx with rfl | hx
          · exact ⟨by simp, g1, b, hm, t1, mkO_unO hu⟩
          · obtain ⟨a, b⟩ := objGet_spec (g := q.1) (V := q.2) hq t2 vals x hx
            exact ⟨List.mem_cons_of_mem _ a, b⟩
        · cases h
      · cases h
    · cases h
theorem objE_true {os : List Ob} {vs : List SV} : ∀ z ∈ objE os vs, z.2.1 = mkB true := by
  induction os generalizing vs with
  | nil => intro z hz; cases hz
  | cons o r ih =>
    intro z hz
    simp only [objE] at hz
    rcases List.mem_cons.1 hz with rfl | hz
    · rfl
    · exact ih z hz

theorem sameBlk_eq : ∀ {a b : Blk}, sameBlk a b = true → a = b
  | .cells ty cs, b, h => by
    cases b <;> simp only [sameBlk, Bool.false_eq_true, Bool.and_eq_true, decide_eq_true_eq] at h
    obtain ⟨rfl, h2⟩ := h
    rw [SV.sameL_eq _ _ h2]
  | .lst ty row own le c, b, h => by
    cases b <;> simp only [sameBlk, Bool.false_eq_true, Bool.and_eq_true, decide_eq_true_eq] at h
    obtain ⟨⟨⟨⟨rfl, rfl⟩, rfl⟩, h4⟩, h5⟩ := h
    rw [E.same_eq _ _ h4, E.same_eq _ _ h5]
  | .mp ks vs kag vag c, b, h => by
    cases b <;> simp only [sameBlk, Bool.false_eq_true, Bool.and_eq_true, decide_eq_true_eq] at h
    obtain ⟨⟨⟨⟨rfl, rfl⟩, rfl⟩, rfl⟩, h5⟩ := h
    rw [E.same_eq _ _ h5]
  | .seg ty cs ks c, b, h => by
    cases b <;> simp only [sameBlk, Bool.false_eq_true, Bool.and_eq_true, decide_eq_true_eq] at h
    obtain ⟨⟨⟨rfl, rfl⟩, h3⟩, h4⟩ := h
    rw [SV.sameL_eq _ _ h3, E.same_eq _ _ h4]
  | .dead, b, h => by simp [sameBlk] at h

theorem keptGet_spec {F : Fam} {m : Mem} : ∀ {l : Ents} {g : E}, keptGet m l = some g → g.tt F ρ = true → ∀ x ∈ l, x.2.1.tt F ρ = true → ∃ g', m.at x.1 = some (g', x.2.2) ∧ g'.tt F ρ = true
  | [], g, h, ht, x, hx => by cases hx
  | y :: r, g, h, ht, x, hx => by
    simp only [keptGet] at h
    split at h
    · rename_i g1 b hm
      split at h
      · rename_i hs
        obtain ⟨q, hq, rfl⟩ := Option.map_eq_some_iff.1 h
        obtain ⟨t1, t2⟩ := andB_tt ht
        rcases List.mem_cons.1 hx with rfl | hx
        · exact fun hg => ⟨g1, by rw [hm, sameBlk_eq hs], impB_tt t1 hg⟩
        · exact keptGet_spec hq t2 x hx
      · cases h
    · cases h

theorem matchO_spec {e : Ent} {v : SV} {g : E} {es : List E} (h : matchO e m' v = some (g, es)) : es.map E.kind = e.oks ∧ (∀ x ∈ es, x.kind ≠ .x → x.sound = true) ∧
    ∀ {xs ys : List Int} {ρ : Nat → Int} {w w' : World} {M0 Im0 : Nat → Prop} {hs ad' : Nat → Hd}, (∀ i, i < e.np → ρ i = env xs i) → fits e.pks xs → ys = es.map (E.den l.F ρ) → g.tt l.F ρ = true → Rel l.F ρ w M0 Im0 ad' m' w' → (∀ j, j < e.nn → ad' j = hs j) →
      ∃ (hs' : Nat → Hd) (Im' : Nat → Prop), (∀ j, j < e.nn → hs' j = hs j) ∧ (∀ b, Im0 b → Im' b) ∧ (∀ b, Im' b → Im0 b ∨ M0 b ∨ w.heap.size ≤ b) ∧ v.conc l.F ρ ad' = (lastV e.ogen.1).conc F0 (env (xs ++ ys)) hs' ∧ RelE F0 (env (xs ++ ys)) w M0 Im' hs' e.oents w' := by
  unfold matchO at h
  split at h
  · rename_i g1 V g2 hobj hkept
    split at h
    · rename_i es' srcs g3 hget
      split at h
      · rename_i hc
        simp only [Option.some.injEq, Prod.mk.injEq] at h
        obtain ⟨rfl, rfl⟩ := h
        obtain ⟨hc, hfx⟩ := hc
        simp only [Bool.and_eq_true] at hc
        obtain ⟨⟨c1, c2⟩, c3⟩ := hc
        obtain ⟨k1, k2, k3, k4⟩ := getL_kinds e.outL _ _ _ hget
        simp only at k1 k2 k3 k4
        refine ⟨k1, k4, fun {xs ys ρ w w' M0 Im0 hs ad'} hρ hfit hys ht hR had => ?_⟩
        obtain ⟨t1, t23⟩ := andB_tt ht
        obtain ⟨t2, t34⟩ := andB_tt t23
        obtain ⟨tf, t3⟩ := andB_tt t34
        have hfit2 := (fitL_spec (F := l.F) (ρ := ρ) (ad := ad') e.outL (V ++ [v])).2 tf
        obtain ⟨hM, Im, i1, i2, hI⟩ := hR
        have hyfit : fits e.oks ys := by rw [hys]; exact fits_of k1 k4
        have hyl : ys.length = e.oks.length := fits_length hyfit
        have hxl : xs.length = e.np := fits_length hfit
        have hall : fits (e.pks ++ e.oks) (xs ++ ys) := fits_append hfit hyfit
        have hS : ∃ S, S = accN e.nn ++ srcs := ⟨_, rfl⟩
        obtain ⟨S, hS⟩ := hS
        have hal : (accN e.nn).length = e.nn := by simp [accN]
        have hSlt : ∀ j, j < e.nn → S[j]? = some (.nm j) := fun j hj => by
          rw [hS, List.getElem?_append_left (by omega)]
          simp [accN, hj]
        have hev : EvOK l.F ρ (env (xs ++ ys)) (varE (e.pks ++ e.oks)) e.np es' := fun i x hi => by
          have hil := (List.getElem?_eq_some_iff.1 hi).1
          have hkl : e.oks.length = es'.length := by rw [← hyl, hys]; simp
          refine ⟨?_, ?_⟩
          · rw [varE_den hall, List.length_append, getD_app, hxl, show e.pks.length = e.np from rfl, if_pos (by omega), if_neg (by omega), show e.np + i - e.np = i by omega, hys]
            simp [List.getD, hi]
          · refine varE_kind _ _ _ ?_
            rw [List.getElem?_append_right (by rw [show e.pks.length = e.np from rfl]; omega), show e.pks.length = e.np from rfl, show e.np + i - e.np = i by omega]
            have : (es'.map E.kind)[i]? = some x.kind := by simp [hi]
            rw [k1] at this; exact this
        obtain ⟨p1, p2⟩ := shgetL_spec (F := l.F) (ρ := ρ) (ρ' := env (xs ++ ys)) (w0 := w) (w := w') (M0 := M0) (Im := Im) (ad := ad') (m := m') (ev := varE (e.pks ++ e.oks)) (S := S) (hs := fun j => match S[j]? with | some s => srcHd l.F ρ w' Im ad' m' s | none => default)
          l.BI hI (fun j s hj => by simp only [hj]) e.outL (accN e.nn) _ _ (mkB true) e.np hget (mkB_kind _) (fun j s hj => by rw [Nat.zero_add, hS, List.getElem?_append_left (List.getElem?_eq_some_iff.1 hj).1]; exact hj) (fun j s hj => by rw [hS, List.getElem?_append_right (by omega)]; simpa using hj) hev t3
        generalize hhs : (fun j => match S[j]? with | some s => srcHd l.F ρ w' Im ad' m' s | none => default : Nat → Hd) = hs' at p1 p2
        rw [hal] at p1 p2
        rw [← hfit2] at p1
        change SV.concL l.F ρ ad' (V ++ [v]) = SV.concL F0 (env (xs ++ ys)) hs' e.ogen.1 at p1
        change ∀ x ∈ e.ogen.2, _ at p2
        have hisx : (V ++ [v]).map isXv = e.ogen.1.map isXv := hfx.symm.trans <| isXv_get (m := m') (ev := varE (e.pks ++ e.oks)) (nv := id) e.outL (accN e.nn) _ _ (mkB true) e.np e.nn hget fun i k hi => by
          refine varE_kind _ _ _ ?_
          rw [List.getElem?_append_right (by rw [show e.pks.length = e.np from rfl]; omega), show e.pks.length = e.np from rfl, show e.np + i - e.np = i by omega]
          exact hi
        have hlt : ∀ j, j < e.nn → hs' j = ad' j := fun j hj => by rw [← hhs]; simp only [hSlt j hj]; rfl
        obtain ⟨q1, q2⟩ := pgen_tr (ad := ad') (hs := hs') l c3 ys hρ hfit fun j hj => (hlt j hj).symm
        have hsrc : ∀ j, j < e.nn → srcOf S j = [j] := fun j hj => by simp [srcOf, hSlt j hj, Src.ns]
        have ogn : ∀ x ∈ e.ogen.2, e.nn ≤ x.1 := fun x hx => ((genL_ok (ev := varE (e.pks ++ e.oks)) (nv := id) (p := fun _ => True) e.outL (mkB true) e.np e.nn (fun _ _ _ => trivial) fun _ _ => trivial).2 x hx).1.1
        have core : ∀ z ∈ e.oents, z.2.1.tt F0 (env (xs ++ ys)) = true → BlkOK F0 (env (xs ++ ys)) Im hs' z.1 w' z.2.2 ∧
            ∀ b, mutB F0 (env (xs ++ ys)) hs' z.1 z.2.2 = some b → ∃ n ∈ srcOf S z.1, ∃ g y, m'.at n = some (g, y) ∧ g.tt l.F ρ = true ∧ mutB l.F ρ ad' n y = some b := by
          intro z hz hg
          unfold Ent.oents at hz
          rcases List.mem_append.1 hz with hz | hz
          · obtain ⟨j, g0, X⟩ := z
            have hg0 : g0 = mkB true := objE_true _ hz
            subst hg0
            obtain ⟨ty, tl, vs', us', rfl, u1, u2, u3⟩ := objE_same p1.symm hisx.symm j X hz
            obtain ⟨o1, g', b0, o2, o3, o4⟩ := objGet_spec (F := l.F) (ρ := ρ) hobj t1 [v] _ u1
            simp only at o1 o2 o4
            have hj : j < e.nn := by
              obtain ⟨o, ho1, ho2⟩ := List.mem_map.1 o1
              have := List.all_eq_true.1 c2 o ho1
              simp only [decide_eq_true_eq] at this
              omega
            have hb0 := (hI.ent j g' _ o2 o3).1
            have hnr := Blk.nrm_same (hb0.lenOK l.BI) ad' j
            have hb := (hnr.2 Im w').2 hb0
            rw [← o4] at hb
            obtain ⟨s1, s2⟩ := mkO_same (n := j) (j := j) (ty := ty) (tl := tl) BI_F0 l.BI u2 u3 (hlt j hj)
            refine ⟨(s2 Im w').2 hb, fun b hb' => ⟨j, by simp [hsrc j hj], g', _, o2, o3, ?_⟩⟩
            rw [← hnr.1, ← o4, ← s1]; exact hb'
          · rcases List.mem_append.1 hz with hz | hz
            · have hz' := (List.mem_filter.1 hz).1
              have s := q2 z hz'
              obtain ⟨g', o1, o2⟩ := keptGet_spec (F := l.F) (ρ := ρ) hkept t2 z hz (by rw [s.gd]; exact hg)
              have hj : z.1 < e.nn := by
                have := ((genL_ok (ev := varE e.pks) (nv := id) (p := fun _ => True) e.ps (mkB true) 0 0 (fun _ _ _ => trivial) fun _ _ => trivial).2 z hz').1.2
                rw [Nat.zero_add] at this; exact this
              refine ⟨(s.ok Im w').1 (hI.ent z.1 g' _ o1 o2).1, fun b hb' => ⟨z.1, by simp [hsrc z.1 hj], g', _, o1, o2, ?_⟩⟩
              rw [← hb']; exact s.mu
            · have := p2 z hz hg
              exact ⟨this.ok, this.mu⟩
        refine ⟨hs', Im, fun j hj => (hlt j hj).trans (had j hj), i1, i2, ?_, ⟨fun z hz hg => ⟨(core z hz hg).1, fun b hb => ?_⟩, fun x hx y hy hgx hgy b hbx hby => ?_, hI.im, hI.fr⟩⟩
        · have := lastV_conc p1
          rw [← this]
          congr 1
          simp [lastV]
        · obtain ⟨n, _, g', y, a1, a2, a3⟩ := (core z hz hg).2 b hb
          exact (hI.ent n g' y a1 a2).2 b a3
        · obtain ⟨n, n1, g', y', a1, a2, a3⟩ := (core x hx hgx).2 b hbx
          obtain ⟨n', n1', g'', y'', a1', a2', a3'⟩ := (core y hy hgy).2 b hby
          have := hI.inj n n' g' y' g'' y'' b a1 a2 a1' a2' a3 a3'
          subst this
          rw [← hS] at c1
          exact nodup_flat c1 x.1 (mutJ_mem hx hbx) y.1 (mutJ_mem hy hby) n n1 n1'
      · cases h
    · cases h
  · cases h
end
end Go.Proofs.Ytmolkkphnehgcaa.Ew

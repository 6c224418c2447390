/- One operation of a region: its plan, what it does, what it touches; that it tells what the operation does. -/
import Derived.Test.YtmolkkphnehgcaaWZa
set_option linter.unusedVariables false
set_option linter.unusedSimpArgs false
namespace Go.Proofs.Ytmolkkphnehgcaa.Ew
open Go Go.RowKit

inductive W where
  | val (v : SV)
  | dx (g : E) (x : X)
  | call (g : E) (f : Nat) (args : List SV)
  deriving Repr, Inhabited

def opPlan (P : Program) (cs : List E) (en : Env) (o : Oper) : Option W :=
  match pick? o.op with
  | some (c, a, b) => (opPick cs en c a b).map .val
  | none => match descX P (getC cs en) o with
    | some (g, .old (.call f args)) => some (.call g f args)
    | some (g, x) => some (.dx g x)
    | none => none

def forceL : List SV → E
  | [] => mkB true
  | v :: r => mkAnd (force v).1 (forceL r)
def fArgs (fo : Bool) (args : List SV) : List SV := bif fo then args.map fun v => (force v).2 else args
def callK (T : Tab) (m : Mem) (nm f : Nat) (args : List SV) (k : Nat) (fo : Bool) : Option (E × SV × Mem) :=
  match (T f)[k % 1000]? with
  | some e => (callX (decide (1000 ≤ k)) e m nm (fArgs fo args)).map fun r => (mkAnd (bif fo then forceL args else mkB true) r.1, r.2.1, r.2.2)
  | none => none
def fpK (T : Tab) (m : Mem) (nm f : Nat) (args : List SV) (k : Nat) (fo : Bool) : FP :=
  match (T f)[k % 1000]? with
  | some e => fpCX (decide (1000 ≤ k)) e m nm (fArgs fo args)
  | none => ([], [])
/-- The first summary that fits. -/
def findK (T : Tab) (m : Mem) (nm f : Nat) (args : List SV) : Option (Nat × Bool) :=
  (((List.range (T f).length).map fun k => (k, false)) ++ ((List.range (T f).length).map fun k => (k + 1000, false)) ++ ((List.range (T f).length).map fun k => (k, true)) ++ ((List.range (T f).length).map fun k => (k + 1000, true))).find? fun c => (callK T m nm f args c.1 c.2).isSome

abbrev Ch := Option (Nat × Bool)
def runW (P : Program) (G : Glob) (T : Tab) (m : Mem) (nm : Nat) (ch : Ch) : W → Option (E × SV × Mem)
  | .val v => some (mkB true, v, m)
  | .dx g x => (applyX P G m nm x).bind fun r => if r.1.kind = .b then some (mkAnd g r.1, r.2.1, r.2.2) else none
  | .call g f args => match ch with
    | some (k, fo) => (callK T m nm f args k fo).map fun r => (mkAnd g r.1, r.2.1, r.2.2)
    | none => none
def fpW (T : Tab) (m : Mem) (nm : Nat) (ch : Ch) : W → FP
  | .val _ => ([], [])
  | .dx _ x => fpX nm x
  | .call _ f args => match ch with
    | some (k, fo) => fpK T m nm f args k fo
    | none => ([], [])

section
variable {P : Program} {ρ : Nat → Int} {G : Glob} {T : Tab} {l : Tabs} {w0 w : World} {M0 Im0 : Nat → Prop} {ad : Nat → Hd} {m m2 m' : Mem} {tm : Tm} {en : Env} {a : Act}

theorem forceL_spec {F : Fam} : ∀ (args : List SV), (forceL args).kind = .b ∧ ((forceL args).tt F ρ = true → SV.concL F ρ ad (args.map fun v => (force v).2) = SV.concL F ρ ad args)
  | [] => ⟨rfl, fun _ => rfl⟩
  | v :: r => by
    obtain ⟨i1, i2⟩ := forceL_spec (F := F) r
    have h := mkAnd_spec (force v).1 (forceL r) (force_kind v) i1 F ρ
    refine ⟨h.2, fun ht => ?_⟩
    simp only [forceL] at ht
    rw [h.1, Bool.and_eq_true] at ht
    simp only [List.map_cons, SV.concL, i2 ht.2]
    rw [(force_spec (F := F) (ρ := ρ) (ad := ad) (p := fun _ => True) v).1 ht.1]

theorem fArgs_spec {F : Fam} {fo : Bool} {args : List SV} (h : (bif fo then forceL args else mkB true).tt F ρ = true) : SV.concL F ρ ad (fArgs fo args) = SV.concL F ρ ad args := by
  cases fo
  · rfl
  · exact (forceL_spec args).2 h

theorem runW_loc {nm : Nat} {ch : Ch} {W : W} {g : E} {v : SV} (h : runW P G T m nm ch W = some (g, v, m')) :
    Loc (fun m => runW P G T m nm ch W) m (fpW T m nm ch W) g v m' ∧ ∀ m2, Agree ((fpW T m nm ch W).1 ++ (fpW T m nm ch W).2) m m2 → fpW T m2 nm ch W = fpW T m nm ch W := by
  have wrap : ∀ {f : Mem → Option (E × SV × Mem)} {q : E → E} {g0 : E} {v : SV} {m' : Mem} {fp : FP}, Loc f m fp g0 v m' → Loc (fun m => (f m).map fun r => (q r.1, r.2.1, r.2.2)) m fp (q g0) v m' := fun {f q g0 v m' fp} hL =>
    ⟨hL.len, hL.frame, fun m2 hl ha => by
      obtain ⟨m2', r1, r2, r3, r4⟩ := hL.loc m2 hl ha
      exact ⟨m2', by simp only [r1, Option.map_some], r2, r3, r4⟩⟩
  cases W with
  | val u =>
    simp only [runW, Option.some.injEq, Prod.mk.injEq] at h
    obtain ⟨rfl, rfl, rfl⟩ := h
    exact ⟨Loc.read fun _ _ _ => rfl, fun _ _ => rfl⟩
  | dx g0 x =>
    simp only [runW] at h
    obtain ⟨⟨g1, v1, m1⟩, h1, h2⟩ := Option.bind_eq_some_iff.1 h
    split at h2
    · rename_i hk
      simp only [Option.some.injEq, Prod.mk.injEq] at h2
      obtain ⟨rfl, rfl, rfl⟩ := h2
      have hL := applyX_loc h1
      refine ⟨⟨hL.len, hL.frame, fun m2 hl ha => ?_⟩, fun _ _ => rfl⟩
      obtain ⟨m2', r1, r2, r3, r4⟩ := hL.loc m2 hl ha
      refine ⟨m2', ?_, r2, r3, r4⟩
      simp only at hk
      simp only [runW, r1, Option.bind_some, if_pos hk]
    · cases h2
  | call g0 f args =>
    simp only [runW] at h
    split at h
    · rename_i k fo
      obtain ⟨⟨g1, v1, m1⟩, h1, h2⟩ := Option.map_eq_some_iff.1 h
      simp only [Prod.mk.injEq] at h2
      obtain ⟨rfl, rfl, rfl⟩ := h2
      unfold callK at h1
      split at h1
      · rename_i e he
        obtain ⟨⟨g3, v3, m3⟩, h3, h4⟩ := Option.map_eq_some_iff.1 h1
        simp only [Prod.mk.injEq] at h4
        obtain ⟨rfl, rfl, rfl⟩ := h4
        obtain ⟨c1, c2⟩ := callX_loc h3
        have hf : ∀ m, fpW T m nm (some (k, fo)) (.call g0 f args) = fpCX (decide (1000 ≤ k)) e m nm (fArgs fo args) := fun m => by simp only [fpW, fpK, he]
        rw [hf]
        refine ⟨?_, fun m2 ha => by rw [hf]; exact c2 m2 ha⟩
        have := wrap (q := fun g => mkAnd g0 g) (wrap (q := fun g => mkAnd (bif fo then forceL args else mkB true) g) c1)
        refine ⟨this.len, this.frame, fun m2 hl ha => ?_⟩
        obtain ⟨m2', r1, r2, r3, r4⟩ := this.loc m2 hl ha
        refine ⟨m2', ?_, r2, r3, r4⟩
        simp only [runW, callK, he]
        exact r1
      · cases h1
    · cases h

/-- An operation that yields a value: what follows is met in the state behind it. -/
theorem runW_sound (hS : SumOK P G l T) (hG : GOK G Im0 w0) (hT : RelV l.F ρ ad m en a) (hR : Rel l.F ρ w0 M0 Im0 ad m w) {cs : List E} (hc : holds l.F ρ cs = true) {nm : Nat} {ch : Ch} {o : Oper} {W : W} (hp : opPlan P cs en o = some W) {g : E} {v : SV}
    (h : runW P G T m nm ch W = some (g, v, m')) : g.kind = .b ∧ (g.tt l.F ρ = true → ∀ (K : Act → World → Prop) (Q : Exit → Act → World → Prop),
      (∀ ad' w', Rel l.F ρ w0 M0 Im0 ad' m' w' → Ext ad ad' m m' → v.ok (al m') → K (a.put o.dst (v.conc l.F ρ ad')) w') → o.wp P a w K Q) := by
  have hB := l.BI
  unfold opPlan at hp
  split at hp
  · rename_i x y z hpk
    obtain ⟨u, h1, rfl⟩ := Option.map_eq_some_iff.1 hp
    simp only [runW, Option.some.injEq, Prod.mk.injEq] at h
    obtain ⟨rfl, rfl, rfl⟩ := h
    refine ⟨rfl, fun _ K Q hK => ?_⟩
    have ho : o.op = .pick x y z := by
      unfold pick? at hpk
      split at hpk
      · rename_i heq; simp only [Option.some.injEq, Prod.mk.injEq] at hpk; obtain ⟨rfl, rfl, rfl⟩ := hpk; exact heq
      · cases hpk
    obtain ⟨hrun, i3⟩ := opPick_run (P := P) (w := w) hT hc h1 ho
    unfold Oper.wp
    rw [hrun]
    exact hK ad w hR (Ext.refl _ _) i3
  · split at hp
    · rename_i g0 f args hds
      simp only [Option.some.injEq] at hp
      subst hp
      obtain ⟨j1, j2⟩ := descX_run l.BI (P := P) (w := w) (F := l.F) (ρ := ρ) (ad := ad) (p := al m) (ev := a.eval) (fun x s hx => getC_spec hT hc hx) hds
      simp only [runW] at h
      split at h
      · rename_i k fo
        obtain ⟨⟨g1, v1, m1⟩, h1, h2⟩ := Option.map_eq_some_iff.1 h
        simp only [Prod.mk.injEq] at h2
        obtain ⟨rfl, rfl, rfl⟩ := h2
        unfold callK at h1
        split at h1
        · rename_i e he
          obtain ⟨⟨g3, v3, m3⟩, h3, h4⟩ := Option.map_eq_some_iff.1 h1
          simp only [Prod.mk.injEq] at h4
          obtain ⟨rfl, rfl, rfl⟩ := h4
          obtain ⟨t1, t2, t3⟩ := hS f e (List.mem_of_getElem? he)
          obtain ⟨c1, c2⟩ := callX_sound t2 t3 hG hR h3
          have fk : (bif fo then forceL args else mkB true).kind = .b := by
            cases fo
            · rfl
            · exact (forceL_spec (F := l.F) (ρ := ρ) (ad := ad) args).1
          have a1 := mkAnd_spec _ g3 fk c1 l.F ρ
          have a2 := mkAnd_spec g0 _ j1 a1.2 l.F ρ
          refine ⟨a2.2, fun ht K Q hK => ?_⟩
          rw [a2.1, a1.1, Bool.and_eq_true, Bool.and_eq_true] at ht
          obtain ⟨d1, d2⟩ := j2 ht.1
          have hcall := c2 ht.2.2
          rw [fArgs_spec ht.2.1, t1] at hcall
          unfold Oper.wp
          rw [d1]
          simp only [X.run, D.run, Oper.upon]
          refine hcall.mono ?_
          rintro en' w' ⟨ad', rfl, r2, r3, r4⟩
          exact hK ad' w' r2 r3 r4
        · cases h1
      · cases h
    · rename_i g0 x hnc hds
      simp only [Option.some.injEq] at hp
      subst hp
      obtain ⟨j1, j2⟩ := descX_run l.BI (P := P) (w := w) (F := l.F) (ρ := ρ) (ad := ad) (p := al m) (ev := a.eval) (fun x s hx => getC_spec hT hc hx) hds
      simp only [runW] at h
      obtain ⟨⟨g1, v1, m1⟩, h1, h2⟩ := Option.bind_eq_some_iff.1 h
      split at h2
      · rename_i hk
        simp only [Option.some.injEq, Prod.mk.injEq] at h2
        obtain ⟨rfl, rfl, rfl⟩ := h2
        simp only at hk
        have a2 := mkAnd_spec g0 g1 j1 hk l.F ρ
        refine ⟨a2.2, fun ht K Q hK => ?_⟩
        rw [a2.1, Bool.and_eq_true] at ht
        obtain ⟨d1, d2⟩ := j2 ht.1
        obtain ⟨e1, e2⟩ := applyX_sound (P := P) hB hG hR d2 h1
        obtain ⟨ad', w', c1, c2, c3, c4⟩ := e2 ht.2
        unfold Oper.wp
        rw [d1]
        rcases c1 with c1 | ⟨c1, cu⟩
        · rw [c1]; exact hK ad' w' c2 c3 c4
        · rw [c1]
          have := hK ad' w' c2 c3 c4
          rw [cu] at this
          exact this
      · cases h2
    · cases hp
end
end Go.Proofs.Ytmolkkphnehgcaa.Ew

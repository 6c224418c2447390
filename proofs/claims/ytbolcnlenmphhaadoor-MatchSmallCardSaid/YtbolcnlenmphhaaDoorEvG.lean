/- The evaluator's state; guards; one operation of a region. -/
import Derived.Test.YtbolcnlenmphhaaDoorEvF
set_option linter.unusedVariables false
set_option linter.unusedSimpArgs false
namespace Go.Proofs.YtbolcnlenmphhaaDoor.Ev
open Go Go.RowKit

/-- Slots: what they hold; none: not known. -/
abbrev Tm := List (Option SV)
def Tm.at (tm : Tm) (i : Nat) : Option SV := tm.getD i none
def setT (tm : Tm) (d : Option Nat) (v : SV) : Tm :=
  match d with
  | some d => tm.set d (some v)
  | none => tm

structure RelT (F : Fam) (ρ : Nat → Int) (ad : Nat → Nat) (m : Mem) (tm : Tm) (a : Act) : Prop where
  defers : a.defers = []
  size : a.tmps.size = tm.length
  slot : ∀ i v, tm.at i = some v → a.tmps[i]? = some (v.conc F ρ ad) ∧ v.ok (al m)

/-- Functions that are taken by a summary: the shapes of their parameters and of their result. -/
abbrev Tab := Nat → List (Nat × List Sh1 × Sh)
def outs (F : Fam) (f : Nat) (xs : List Int) : Nat → List K → List Int
  | _, [] => []
  | j, k :: ks => k.norm (F f j xs) :: outs F f xs (j + 1) ks
def SumOK (P : Program) (F : Fam) (G : Glob) (T : Tab) : Prop :=
  ∀ f k ps rs, (k, ps, rs) ∈ T f → ∀ xs, fits (allKs ps) xs → ∀ w, GOK G w → Calls P f (argVals ps xs).toArray w (fun e w' => e = .returned (rs.val (outs F k xs 0 rs.ks)) ∧ Below w.heap.size w w')

def mkApps (F : Fam) (f : Nat) (es : List E) : Nat → List K → List E
  | _, [] => []
  | j, k :: ks => mkApp F k f j es :: mkApps F f es (j + 1) ks
theorem mkApps_spec (F : Fam) (f : Nat) (es : List E) (ρ : Nat → Int) : ∀ (ks : List K) (j : Nat), kinds ks (mkApps F f es j ks) ∧ (mkApps F f es j ks).map (E.den F ρ) = outs F f (es.map (E.den F ρ)) j ks
  | [], j => ⟨trivial, rfl⟩
  | k :: ks, j => by
    obtain ⟨h1, h2, h3⟩ := mkApp_spec F k f j es ρ
    obtain ⟨i1, i2⟩ := mkApps_spec F f es ρ ks (j + 1)
    exact ⟨⟨h2, i1⟩, by simp [mkApps, outs, h1, i2]⟩

/-- What is known of the slots. -/
abbrev Env := Nat → Option SV
def RelE (F : Fam) (ρ : Nat → Int) (ad : Nat → Nat) (m : Mem) (en : Env) (a : Act) : Prop :=
  ∀ i v, en i = some v → a.tmps[i]? = some (v.conc F ρ ad) ∧ v.ok (al m)

def getOp (tm : Env) : Operand → Option SV
  | .tmp t => tm t
  | .const v => ofVal v
  | .global g => some (.gl g 0)
  | .func f => some (.fn f [])

def getC (cs : List E) (tm : Env) (x : Operand) : Option SV := (getOp tm x).bind (strip cs)

section
variable {P : Program} {F : Fam} {ρ : Nat → Int} {G : Glob} {T : Tab} {w0 w : World} {ad : Nat → Nat} {m : Mem} {tm : Tm} {en : Env} {a : Act}

theorem getOp_spec (hT : RelE F ρ ad m en a) {x : Operand} {v : SV} (h : getOp en x = some v) : a.eval x = v.conc F ρ ad ∧ v.ok (al m) := by
  cases x with
  | tmp t =>
    obtain ⟨h1, h2⟩ := hT t v h
    exact ⟨by simp [Act.eval, h1], h2⟩
  | const u => exact ⟨(ofVal_conc h).symm, ofVal_ok h⟩
  | global g => simp only [getOp, Option.some.injEq] at h; subst h; exact ⟨rfl, trivial⟩
  | func f => simp only [getOp, Option.some.injEq] at h; subst h; exact ⟨rfl, trivial⟩

theorem getC_spec (hT : RelE F ρ ad m en a) {cs : List E} (hc : holds F ρ cs = true) {x : Operand} {v : SV} (h : getC cs en x = some v) : a.eval x = v.conc F ρ ad ∧ v.ok (al m) := by
  obtain ⟨u, h1, h2⟩ := Option.bind_eq_some_iff.1 h
  obtain ⟨i1, i2⟩ := getOp_spec hT h1
  exact ⟨i1.trans (strip_conc h2 hc), strip_ok h2 i2⟩

/-! ### guards -/
inductive Gd where
  | yes
  | no
  | cond (cs : List E)
  deriving Repr, Inhabited

def guardV (want : Bool) : SV → Option Gd
  | .sc e => match e.kind with
    | .b => match e.lit? with
      | some n => some (if i2b n = want then .yes else .no)
      | none => some (.cond [bif want then e else mkNot e])
    | .i _ => none
  | .gd gs (.sc e) => match e.kind with
    | .b => match e.lit? with
      | some n => some (if i2b n = want then .cond gs else .no)
      | none => some (.cond (gs ++ [bif want then e else mkNot e]))
    | .i _ => none
  | .und => some .no
  | _ => none
def guardE (ops : Array Oper) (tm : Env) (o : Oper) : Option Gd :=
  match o.guard with
  | none => some .yes
  | some (j, want) => match (ops[j]?).bind (·.dst) with
    | some d => match tm d with
      | some v => guardV want v
      | none => none
    | none => none

def Gd.tt (F : Fam) (ρ : Nat → Int) : Gd → Bool
  | .yes => true
  | .no => false
  | .cond cs => holds F ρ cs

theorem tt_want (e : E) (want : Bool) : (bif want then e else mkNot e).tt F ρ = (e.tt F ρ == want) := by
  cases want
  · simp only [cond_false, (mkNot_spec e F ρ).1]; cases e.tt F ρ <;> rfl
  · simp only [cond_true]; cases e.tt F ρ <;> rfl

theorem guardE_spec (hT : RelE F ρ ad m en a) {ops : Array Oper} {o : Oper} {g : Gd} (h : guardE ops en o = some g) : Region.wanted o (yielded ops a.tmps) = g.tt F ρ := by
  unfold guardE at h
  unfold Region.wanted
  split at h
  · rename_i hg
    simp only [Option.some.injEq] at h; subst h
    simp [hg, Gd.tt]
  · rename_i j want hg
    simp only [hg]
    split at h
    · rename_i d hd
      split at h
      · rename_i v hv
        have i1 := (hT d v hv).1
        have hy : yielded ops a.tmps j = match v.conc F ρ ad with | .bool b => some b | _ => none := by
          unfold yielded
          rw [hd]
          simp only [Option.bind_some, i1]
          cases v.conc F ρ ad <;> rfl
        rw [hy]
        unfold guardV at h
        split at h
        · rename_i e
          split at h
          · rename_i hk
            simp only [SV.conc, E.val_b hk]
            split at h
            · rename_i n hn
              simp only [Option.some.injEq] at h; subst h
              rw [lit?_tt hn]
              by_cases hw : i2b n = want
              · simp [hw, Gd.tt]
              · simp [hw, Gd.tt]
            · simp only [Option.some.injEq] at h; subst h
              simp only [Gd.tt, holds, List.all_cons, List.all_nil, Bool.and_true, tt_want]
              cases e.tt F ρ <;> cases want <;> rfl
          · cases h
        · rename_i gs e
          split at h
          · rename_i hk
            simp only [SV.conc, E.val_b hk]
            split at h
            · rename_i n hn
              simp only [Option.some.injEq] at h; subst h
              rw [lit?_tt hn]
              by_cases hw : i2b n = want
              · rw [if_pos hw]
                simp only [Gd.tt, holds]
                cases hgs : gs.all (fun g => g.tt F ρ)
                · simp [undef]
                · simp [hw]
              · rw [if_neg hw]
                simp only [Gd.tt]
                cases hgs : gs.all (fun g => g.tt F ρ)
                · simp [undef]
                · simp [hw]
            · simp only [Option.some.injEq] at h; subst h
              simp only [Gd.tt, holds, List.all_append, List.all_cons, List.all_nil, Bool.and_true, tt_want]
              cases hgs : gs.all (fun g => g.tt F ρ)
              · simp [undef]
              · cases e.tt F ρ <;> cases want <;> rfl
          · cases h
        · simp only [Option.some.injEq] at h; subst h
          rfl
        · cases h
      · cases h
    · cases h

/-! ### one operation -/
inductive R where
  | ok (v : SV) (m : Mem)
  | call (f : Nat) (args : List SV)
  deriving Repr, Inhabited

def D.isRd : D → Bool
  | .val _ | .ld .. | .ldi .. | .ldg .. => true
  | _ => false

def opPick (cs : List E) (tm : Env) (c a b : Operand) : Option SV :=
  match getC cs tm c with
  | some (.sc ce) => if ce.kind = .b then
      match ce.lit? with
      | some n => bif i2b n then getC cs tm a else getC cs tm b
      | none => match getC (cs ++ [ce]) tm a, getC (cs ++ [mkNot ce]) tm b with
        | some x, some y => some (merge ce x y)
        | _, _ => none
    else none
  | _ => none

def pick? : Op → Option (Operand × Operand × Operand)
  | .pick c a b => some (c, a, b)
  | _ => none

/-- The first summary whose parameters' shapes these arguments have. -/
def firstFit : List (Nat × List Sh1 × Sh) → List SV → Option (Nat × Sh × List E)
  | [], _ => none
  | (k, ps, rs) :: r, args => match getArgs ps args with
    | some es => some (k, rs, es)
    | none => firstFit r args
theorem firstFit_spec : ∀ (l : List (Nat × List Sh1 × Sh)) (args : List SV) (k : Nat) (rs : Sh) (es : List E), firstFit l args = some (k, rs, es) → ∃ ps, (k, ps, rs) ∈ l ∧ getArgs ps args = some es
  | [], _, _, _, _, h => by simp [firstFit] at h
  | (k', ps, rs') :: r, args, k, rs, es, h => by
    simp only [firstFit] at h
    split at h
    · rename_i es' he
      simp only [Option.some.injEq, Prod.mk.injEq] at h
      obtain ⟨rfl, rfl, rfl⟩ := h
      exact ⟨ps, List.mem_cons_self .., he⟩
    · obtain ⟨ps', h1, h2⟩ := firstFit_spec r args k rs es h
      exact ⟨ps', List.mem_cons_of_mem _ h1, h2⟩

/-- What an operation is to do, by what is known of the slots alone. -/
inductive W where
  | val (v : SV)
  | dd (d : D)
  | call (f : Nat) (args : List SV)
  deriving Repr, Inhabited

def opPlan (P : Program) (F : Fam) (T : Tab) (cs : List E) (tm : Env) (o : Oper) : Option W :=
  match pick? o.op with
  | some (c, a, b) => (opPick cs tm c a b).map .val
  | none => match desc P (getC cs tm) o.op with
    | some (.call f args) => match firstFit (T f) args with
      | some (k, rs, es) => some (.val (rs.sv (mkApps F k es 0 rs.ks)))
      | none => some (.call f args)
    | some d => some (.dd d)
    | none => none

def doW (G : Glob) (only : Bool) (m : Mem) (nm : Nat) : W → Option R
  | .val v => some (.ok v m)
  | .call f args => bif only then none else some (.call f args)
  | .dd d => bif only && !d.isRd then none else (apply G m nm d).map fun x => .ok x.1 x.2

def opStep (P : Program) (F : Fam) (G : Glob) (T : Tab) (only : Bool) (cs : List E) (tm : Env) (m : Mem) (nm : Nat) (o : Oper) : Option R :=
  (opPlan P F T cs tm o).bind (doW G only m nm)

theorem isRd_apply {d : D} {nm : Nat} {v : SV} {m' : Mem} (hd : d.isRd = true) (h : apply G m nm d = some (v, m')) : m' = m := by
  cases d with
  | val u => simp only [apply, Option.some.injEq, Prod.mk.injEq] at h; exact h.2.symm
  | ld n off sz ag => obtain ⟨u, _, h2⟩ := Option.map_eq_some_iff.1 h; simp only [Prod.mk.injEq] at h2; exact h2.2.symm
  | ldi n off str cnt e sz ag =>
    simp only [apply] at h
    split at h
    · obtain ⟨u, _, h2⟩ := Option.map_eq_some_iff.1 h; simp only [Prod.mk.injEq] at h2; exact h2.2.symm
    · cases h
  | ldg b off sz ag =>
    cases ag <;> simp only [apply, cond_true, cond_false] at h <;> obtain ⟨u, _, h2⟩ := Option.map_eq_some_iff.1 h <;> simp only [Prod.mk.injEq] at h2 <;> exact h2.2.symm
  | _ => simp [D.isRd] at hd

theorem opPick_spec (hT : RelE F ρ ad m en a) {cs : List E} (hc : holds F ρ cs = true) {x y z : Operand} {v : SV} (h : opPick cs en x y z = some v) :
    (asBool (a.eval x)).run P w = .ok (match a.eval x with | .bool b => b | _ => false) w ∧ (bif (match a.eval x with | .bool b => b | _ => false) then a.eval y else a.eval z) = v.conc F ρ ad ∧ v.ok (al m) := by
  unfold opPick at h
  split at h
  · rename_i ce h1
    split at h
    · rename_i hk
      obtain ⟨e1, _⟩ := getC_spec hT hc h1
      simp only [SV.conc, E.val_b hk] at e1
      rw [e1]
      refine ⟨rfl, ?_⟩
      simp only
      split at h
      · rename_i n hn
        rw [lit?_tt hn]
        cases hi : i2b n <;> rw [hi] at h <;> simp only [cond_true, cond_false] at h ⊢ <;> exact getC_spec hT hc h
      · split at h
        · rename_i u t hu ht
          simp only [Option.some.injEq] at h; subst h
          rw [merge_conc hk]
          have mono : ∀ {q : E} {o : Operand} {s : SV}, getC (cs ++ [q]) en o = some s → s.ok (al m) := fun {q o s} hq => by
            obtain ⟨r, r1, r2⟩ := Option.bind_eq_some_iff.1 hq
            exact strip_ok r2 (getOp_spec hT r1).2
          refine ⟨?_, merge_ok _ _ (mono hu) (mono ht)⟩
          cases hct : ce.tt F ρ
          · simp only [cond_false]
            exact (getC_spec hT (cs := cs ++ [mkNot ce]) (by
              unfold holds at hc ⊢
              simp only [List.all_append, hc, Bool.true_and, List.all_cons, List.all_nil, Bool.and_true, (mkNot_spec ce F ρ).1, hct]
              rfl) ht).1
          · simp only [cond_true]
            exact (getC_spec hT (cs := cs ++ [ce]) (by
              unfold holds at hc ⊢
              simp only [List.all_append, hc, Bool.true_and, List.all_cons, List.all_nil, Bool.and_true, hct]) hu).1
        · cases h
    · cases h
  · cases h

/-- From one state of names to a later one. -/
structure Ext (ad ad' : Nat → Nat) (m m' : Mem) : Prop where
  same : ∀ k, al m k → ad k = ad' k
  keep : ∀ k, al m k → al m' k
theorem Ext.refl (ad : Nat → Nat) (m : Mem) : Ext ad ad m m := ⟨fun _ _ => rfl, fun _ h => h⟩
theorem Ext.trans {ad ad' ad'' : Nat → Nat} {m m' m'' : Mem} (h : Ext ad ad' m m') (h' : Ext ad' ad'' m' m'') : Ext ad ad'' m m'' :=
  ⟨fun k hk => (h.same k hk).trans (h'.same k (h.keep k hk)), fun k hk => h'.keep k (h.keep k hk)⟩

theorem RelT.ext {ad' : Nat → Nat} {m' : Mem} (hT : RelT F ρ ad m tm a) (h : Ext ad ad' m m') : RelT F ρ ad' m' tm a :=
  ⟨hT.defers, hT.size, fun i v hv => by
    obtain ⟨h1, h2⟩ := hT.slot i v hv
    exact ⟨by rw [h1, SV.conc_congr h.same v h2], SV.ok_mono h.keep v h2⟩⟩

theorem RelT.put (hT : RelT F ρ ad m tm a) (d : Option Nat) {v : SV} (hv : v.ok (al m)) : RelT F ρ ad m (setT tm d v) (a.put d (v.conc F ρ ad)) := by
  cases d with
  | none => exact hT
  | some d =>
    refine ⟨hT.defers, by simp [Act.put, setT, hT.size], fun i u hu => ?_⟩
    simp only [setT, Tm.at, List.getD, List.getElem?_set] at hu
    simp only [Act.put, Array.getElem?_setIfInBounds]
    by_cases hd : d = i
    · subst hd
      rw [hT.size]
      by_cases hl : d < tm.length
      · simp only [if_true, hl, Option.getD_some, Option.some.injEq] at hu ⊢
        subst hu
        exact ⟨rfl, hv⟩
      · simp [hl] at hu
    · simp only [hd, if_false] at hu ⊢
      exact hT.slot i u (by simpa [Tm.at, List.getD] using hu)

theorem Rel.below_ext {w' : World} (hR : Rel F ρ w0 ad m w) (h : Below w.heap.size w w') : Rel F ρ w0 ad m w' := by
  refine ⟨fun n ty cs hn => ?_, hR.inj, hR.below.trans (h.mono hR.below.size)⟩
  obtain ⟨i1, i2, i3⟩ := hR.cell n ty cs hn
  refine ⟨?_, i2, i3⟩
  rw [h.block _ ?_]
  · exact i1
  · rcases Nat.lt_or_ge (ad n) w.heap.size with h' | h'
    · exact h'
    · rw [Array.getElem?_eq_none h'] at i1; cases i1

/-- An operation that yields a value: what follows is met in the state behind it. -/
theorem opStep_ok (hS : SumOK P F G T) (hG : GOK G w0) (hT : RelE F ρ ad m en a) (hR : Rel F ρ w0 ad m w) {only : Bool} {cs : List E} (hc : holds F ρ cs = true) {nm : Nat} {o : Oper} {v : SV} {m' : Mem}
    (h : opStep P F G T only cs en m nm o = some (.ok v m')) {K : Act → World → Prop} {Q : Exit → Act → World → Prop}
    (hK : ∀ ad' w', Rel F ρ w0 ad' m' w' → Ext ad ad' m m' → v.ok (al m') → K (a.put o.dst (v.conc F ρ ad')) w') : o.wp P a w K Q := by
  obtain ⟨W, hp, hd⟩ := Option.bind_eq_some_iff.1 h
  unfold opPlan at hp
  split at hp
  · rename_i x y z hpk
    obtain ⟨u, h1, rfl⟩ := Option.map_eq_some_iff.1 hp
    simp only [doW, Option.some.injEq, R.ok.injEq] at hd
    obtain ⟨rfl, rfl⟩ := hd
    have ho : o.op = .pick x y z := by
      unfold pick? at hpk
      split at hpk
      · rename_i heq; simp only [Option.some.injEq, Prod.mk.injEq] at hpk; obtain ⟨rfl, rfl, rfl⟩ := hpk; exact heq
      · cases hpk
    obtain ⟨i1, i2, i3⟩ := opPick_spec (P := P) (w := w) hT hc h1
    unfold Oper.wp
    have hrun : (execOp a.eval o).run P w = .ok (.value (u.conc F ρ ad)) w := by
      simp only [execOp, ho, Sem.run_bind, i1, Result.andThen_ok, Sem.run_pure]
      rw [← i2]
      cases (match a.eval x with | .bool b => b | _ => false) <;> rfl
    rw [hrun]
    exact hK ad w hR (Ext.refl _ _) i3
  · split at hp
    · rename_i f args hds
      obtain ⟨j1, j2⟩ := desc_run (P := P) (w := w) (F := F) (ρ := ρ) (ad := ad) (p := al m) (ev := a.eval) (fun x s hx => getC_spec hT hc hx) hds
      split at hp
      · rename_i k rs es hff
        obtain ⟨ps, hTf, hes⟩ := firstFit_spec _ _ _ _ _ hff
        simp only [Option.some.injEq] at hp
        subst hp
        simp only [doW, Option.some.injEq, R.ok.injEq] at hd
        obtain ⟨rfl, rfl⟩ := hd
        obtain ⟨g1, g2⟩ := getArgs_spec F ρ ad ps args es hes
        have hcall := hS f k ps rs hTf _ g2 w (hG.below hR.below)
        obtain ⟨k1, k2⟩ := mkApps_spec F k es ρ rs.ks 0
        have hv := Sh.sv_conc F ρ ad rs _ k1
        rw [k2] at hv
        unfold Oper.wp
        rw [j1]
        simp only [D.run, g1, Oper.upon]
        refine hcall.mono ?_
        rintro e w' ⟨rfl, hb⟩
        simp only
        have := hK ad w' (hR.below_ext hb) (Ext.refl _ _) (Sh.sv_ok _ _ _)
        rw [hv] at this
        exact this
      · simp only [Option.some.injEq] at hp
        subst hp
        cases only <;> simp [doW] at hd
    · rename_i d hnc hds
      simp only [Option.some.injEq] at hp
      subst hp
      obtain ⟨j1, j2⟩ := desc_run (P := P) (w := w) (F := F) (ρ := ρ) (ad := ad) (p := al m) (ev := a.eval) (fun x s hx => getC_spec hT hc hx) hds
      have h' : (apply G m nm d).map (fun x => R.ok x.1 x.2) = some (.ok v m') := by
        simp only [doW] at hd
        cases hb : (only && !d.isRd)
        · rw [hb] at hd; exact hd
        · rw [hb] at hd; cases hd
      obtain ⟨⟨u, m1⟩, h1, h2⟩ := Option.map_eq_some_iff.1 h'
      simp only [R.ok.injEq] at h2
      obtain ⟨rfl, rfl⟩ := h2
      obtain ⟨ad', w', c1, c2, c3, c4, c5⟩ := apply_sound (P := P) hG hR j2 h1
      unfold Oper.wp
      rw [j1]
      rcases c1 with c1 | ⟨c1, cu⟩
      · rw [c1]
        exact hK ad' w' c2 ⟨c3, c4⟩ c5
      · rw [c1]
        have := hK ad' w' c2 ⟨c3, c4⟩ c5
        rw [cu] at this
        exact this
    · cases hp

/-- What it yields names blocks that are there, whether it is carried out or not. -/
theorem opStep_vok (hG : GOK G w0) (hT : RelE F ρ ad m en a) (hR : Rel F ρ w0 ad m w) {only : Bool} {cs : List E} {nm : Nat} {o : Oper} {v : SV} {m' : Mem}
    (h : opStep P F G T only cs en m nm o = some (.ok v m')) : v.ok (al m') := by
  have gok : ∀ {q : List E} {x : Operand} {s : SV}, getC q en x = some s → s.ok (al m) := fun {q x s} hq => by
    obtain ⟨r, r1, r2⟩ := Option.bind_eq_some_iff.1 hq
    exact strip_ok r2 (getOp_spec hT r1).2
  have hev : ∀ x s, getC cs en x = some s → (fun x => match getC cs en x with | some s => s.conc F ρ ad | none => undef) x = s.conc F ρ ad ∧ s.ok (al m) := fun x s hx => ⟨by simp [hx], gok hx⟩
  obtain ⟨W, hp, hd⟩ := Option.bind_eq_some_iff.1 h
  unfold opPlan at hp
  split at hp
  · rename_i x y z hpk
    obtain ⟨u, h1, rfl⟩ := Option.map_eq_some_iff.1 hp
    simp only [doW, Option.some.injEq, R.ok.injEq] at hd
    obtain ⟨rfl, rfl⟩ := hd
    unfold opPick at h1
    split at h1
    · split at h1
      · split at h1
        · rename_i n _
          cases hi : i2b n <;> rw [hi] at h1 <;> simp only [cond_true, cond_false] at h1 <;> exact gok h1
        · split at h1
          · rename_i u t hu ht
            simp only [Option.some.injEq] at h1; subst h1
            exact merge_ok _ _ (gok hu) (gok ht)
          · cases h1
      · cases h1
    · cases h1
  · split at hp
    · split at hp
      · simp only [Option.some.injEq] at hp
        subst hp
        simp only [doW, Option.some.injEq, R.ok.injEq] at hd
        obtain ⟨rfl, rfl⟩ := hd
        exact Sh.sv_ok _ _ _
      · simp only [Option.some.injEq] at hp
        subst hp
        cases only <;> simp [doW] at hd
    · rename_i d hnc hds
      simp only [Option.some.injEq] at hp
      subst hp
      obtain ⟨j1, j2⟩ := desc_run (P := P) (w := w) (F := F) (ρ := ρ) (ad := ad) (p := al m) hev hds
      have h' : (apply G m nm d).map (fun x => R.ok x.1 x.2) = some (.ok v m') := by
        simp only [doW] at hd
        cases hb : (only && !d.isRd)
        · rw [hb] at hd; exact hd
        · rw [hb] at hd; cases hd
      obtain ⟨⟨u, m1⟩, h1, h2⟩ := Option.map_eq_some_iff.1 h'
      simp only [R.ok.injEq] at h2
      obtain ⟨rfl, rfl⟩ := h2
      obtain ⟨ad', w', c1, c2, c3, c4, c5⟩ := apply_sound (P := P) hG hR j2 h1
      exact c5
    · cases hp

/-- .. that reads alone leaves the memory. -/
theorem opStep_only {cs : List E} {nm : Nat} {o : Oper} {v : SV} {m' : Mem} (h : opStep P F G T true cs en m nm o = some (.ok v m')) : m' = m := by
  obtain ⟨W, hp, hd⟩ := Option.bind_eq_some_iff.1 h
  cases W with
  | val u => simp only [doW, Option.some.injEq, R.ok.injEq] at hd; exact hd.2.symm
  | call f args => simp [doW] at hd
  | dd d =>
    simp only [doW] at hd
    cases hb : d.isRd
    · simp [hb] at hd
    · simp only [hb, Bool.not_true, Bool.and_false, cond_false] at hd
      obtain ⟨⟨u, m1⟩, h1, h2⟩ := Option.map_eq_some_iff.1 hd
      simp only [R.ok.injEq] at h2
      obtain ⟨rfl, rfl⟩ := h2
      exact isRd_apply hb h1

/-- One operation, its guard looked at; no call is walked into. 'en': what is known of the slots that it reads. -/
def stepE (P : Program) (F : Fam) (G : Glob) (T : Tab) (ops : Array Oper) (nm : Nat) (o : Oper) (en : Env) (s : Tm × Mem) : Option (Tm × Mem) :=
  match guardE ops en o with
  | some .no => some (setT s.1 o.dst .und, s.2)
  | some .yes => match opStep P F G T false [] en s.2 nm o with
    | some (.ok v m') => some (setT s.1 o.dst v, m')
    | _ => none
  | some (.cond cs) => match opStep P F G T true cs en s.2 nm o with
    | some (.ok v _) => some (setT s.1 o.dst (.gd cs v), s.2)
    | _ => none
  | none => none

def RelS (F : Fam) (ρ : Nat → Int) (w0 : World) (ad : Nat → Nat) (s : Tm × Mem) (a : Act) (w : World) : Prop := RelT F ρ ad s.2 s.1 a ∧ Rel F ρ w0 ad s.2 w

theorem stepE_sound (hS : SumOK P F G T) (hG : GOK G w0) {s s' : Tm × Mem} (hR : RelS F ρ w0 ad s a w) (hE : RelE F ρ ad s.2 en a) {ops : Array Oper} {nm : Nat} {o : Oper} (h : stepE P F G T ops nm o en s = some s')
    {K : Act → World → Prop} {Q : Exit → Act → World → Prop} (hK : ∀ ad' a' w', RelS F ρ w0 ad' s' a' w' → Ext ad ad' s.2 s'.2 → K a' w') :
    if Region.wanted o (yielded ops a.tmps) = true then o.wp P a w K Q else K (a.put o.dst undef) w := by
  obtain ⟨hT, hM⟩ := hR
  unfold stepE at h
  split at h
  · rename_i hg
    simp only [Option.some.injEq] at h; subst h
    rw [guardE_spec hE hg]
    simp only [Gd.tt, Bool.false_eq_true, if_false]
    exact hK ad _ w ⟨hT.put o.dst (v := .und) trivial, hM⟩ (Ext.refl _ _)
  · rename_i hg
    rw [guardE_spec hE hg]
    simp only [Gd.tt, if_true]
    split at h
    · rename_i v m' ho
      simp only [Option.some.injEq] at h; subst h
      exact opStep_ok hS hG hE hM (cs := []) rfl ho fun ad' w' r x hv => hK ad' _ w' ⟨(hT.ext x).put o.dst hv, r⟩ x
    · cases h
  · rename_i cs hg
    have hwant := guardE_spec hE hg
    split at h
    · rename_i v m' ho
      simp only [Option.some.injEq] at h; subst h
      have hm := opStep_only ho
      subst hm
      rcases Bool.eq_false_or_eq_true (holds F ρ cs) with hh | hh
      rotate_left
      · rw [if_neg (by rw [hwant]; show ¬ holds F ρ cs = true; rw [hh]; exact Bool.false_ne_true)]
        have hT' : RelT F ρ ad s.2 (setT s.1 o.dst (.gd cs v)) (a.put o.dst undef) := by
          have := hT.put o.dst (v := .gd cs v) (by simpa [SV.ok] using opStep_vok hG hE hM ho)
          simp only [SV.conc] at this
          unfold holds at hh
          rw [hh] at this
          exact this
        exact hK ad _ w ⟨hT', hM⟩ (Ext.refl _ _)
      · rw [if_pos (by rw [hwant]; exact hh)]
        refine opStep_ok hS hG hE hM hh ho fun ad' w' r x hv => ?_
        have hp := (hT.ext x).put o.dst (v := .gd cs v) (by simpa [SV.ok] using hv)
        simp only [SV.conc] at hp
        unfold holds at hh
        rw [hh] at hp
        exact hK ad' _ w' ⟨hp, r⟩ x
    · cases h
  · cases h

theorem RelT.env (hT : RelT F ρ ad m tm a) : RelE F ρ ad m tm.at a := hT.slot
end
end Go.Proofs.YtbolcnlenmphhaaDoor.Ev

/- The evaluator's state; guards; merging of states; ways out. -/
import Derived.Test.YtmolkkphnehgcaaWU
import Derived.LoopN
set_option linter.unusedVariables false
set_option linter.unusedSimpArgs false
namespace Go.Proofs.Ytmolkkphnehgcaa.Ew
open Go Go.RowKit

/-- Slots: what they hold; none: not known. -/
abbrev Tm := List (Option SV)
def Tm.at (tm : Tm) (i : Nat) : Option SV := tm.getD i none
def setT (tm : Tm) (d : Option Nat) (v : SV) : Tm :=
  match d with
  | some d => tm.set d (some v)
  | none => tm

structure RelT (F : Fam) (ρ : Nat → Int) (ad : Nat → Hd) (m : Mem) (tm : Tm) (a : Act) : Prop where
  defers : a.defers = []
  size : a.tmps.size = tm.length
  slot : ∀ i v, tm.at i = some v → a.tmps[i]? = some (v.conc F ρ ad) ∧ v.ok (al m)

/-- What is known of the slots. -/
abbrev Env := Nat → Option SV
def RelV (F : Fam) (ρ : Nat → Int) (ad : Nat → Hd) (m : Mem) (en : Env) (a : Act) : Prop :=
  ∀ i v, en i = some v → a.tmps[i]? = some (v.conc F ρ ad) ∧ v.ok (al m)

def getOp (tm : Env) : Operand → Option SV
  | .tmp t => tm t
  | .const v => ofVal v
  | .global g => some (.gl g 0)
  | .func f => some (.fn f [])

def getC (cs : List E) (tm : Env) (x : Operand) : Option SV := (getOp tm x).bind (strip cs)

section
variable {P : Program} {F : Fam} {ρ : Nat → Int} {G : Glob} {w0 w : World} {M0 Im0 Im : Nat → Prop} {ad : Nat → Hd} {m : Mem} {tm : Tm} {en : Env} {a : Act}

theorem getOp_spec (hT : RelV F ρ ad m en a) {x : Operand} {v : SV} (h : getOp en x = some v) : a.eval x = v.conc F ρ ad ∧ v.ok (al m) := by
  cases x with
  | tmp t =>
    obtain ⟨h1, h2⟩ := hT t v h
    exact ⟨by simp [Act.eval, h1], h2⟩
  | const u => exact ⟨(ofVal_conc h).symm, ofVal_ok h⟩
  | global g => simp only [getOp, Option.some.injEq] at h; subst h; exact ⟨rfl, trivial⟩
  | func f => simp only [getOp, Option.some.injEq] at h; subst h; exact ⟨rfl, trivial⟩

theorem getC_spec (hT : RelV F ρ ad m en a) {cs : List E} (hc : holds F ρ cs = true) {x : Operand} {v : SV} (h : getC cs en x = some v) : a.eval x = v.conc F ρ ad ∧ v.ok (al m) := by
  obtain ⟨u, h1, h2⟩ := Option.bind_eq_some_iff.1 h
  obtain ⟨i1, i2⟩ := getOp_spec hT h1
  exact ⟨i1.trans (strip_conc h2 hc), strip_ok h2 i2⟩

/-! ### guards -/
inductive Gd where
  | yes
  | no
  | cond (cs : List E)
  deriving Repr, Inhabited

def guardV (want : Bool) : SV → Option Gd
  | .sc e => match e.kind with
    | .b => match e.lit? with
      | some n => some (if i2b n = want then .yes else .no)
      | none => some (.cond [bif want then e else mkNot e])
    | _ => none
  | .gd gs (.sc e) => match e.kind with
    | .b => match e.lit? with
      | some n => some (if i2b n = want then .cond gs else .no)
      | none => some (.cond (gs ++ [bif want then e else mkNot e]))
    | _ => none
  | .und => some .no
  | _ => none
def guardE (ops : Array Oper) (tm : Env) (o : Oper) : Option Gd :=
  match o.guard with
  | none => some .yes
  | some (j, want) => match (ops[j]?).bind (·.dst) with
    | some d => match tm d with
      | some v => guardV want v
      | none => none
    | none => none

def Gd.tt (F : Fam) (ρ : Nat → Int) : Gd → Bool
  | .yes => true
  | .no => false
  | .cond cs => holds F ρ cs

theorem tt_want (e : E) (want : Bool) : (bif want then e else mkNot e).tt F ρ = (e.tt F ρ == want) := by
  cases want
  · simp only [cond_false, (mkNot_spec e F ρ).1]; cases e.tt F ρ <;> rfl
  · simp only [cond_true]; cases e.tt F ρ <;> rfl

theorem guardE_spec (hT : RelV F ρ ad m en a) {ops : Array Oper} {o : Oper} {g : Gd} (h : guardE ops en o = some g) : Region.wanted o (yielded ops a.tmps) = g.tt F ρ := by
  unfold guardE at h
  unfold Region.wanted
  split at h
  · rename_i hg
    simp only [Option.some.injEq] at h; subst h
    simp [hg, Gd.tt]
  · rename_i j want hg
    simp only [hg]
    split at h
    · rename_i d hd
      split at h
      · rename_i v hv
        have i1 := (hT d v hv).1
        have hy : yielded ops a.tmps j = match v.conc F ρ ad with | .bool b => some b | _ => none := by
          unfold yielded
          rw [hd]
          simp only [Option.bind_some, i1]
          cases v.conc F ρ ad <;> rfl
        rw [hy]
        unfold guardV at h
        split at h
        · rename_i e
          split at h
          · rename_i hk
            simp only [SV.conc, E.val_b hk]
            split at h
            · rename_i n hn
              simp only [Option.some.injEq] at h; subst h
              rw [lit?_tt hn]
              by_cases hw : i2b n = want
              · simp [hw, Gd.tt]
              · simp [hw, Gd.tt]
            · simp only [Option.some.injEq] at h; subst h
              simp only [Gd.tt, holds, List.all_cons, List.all_nil, Bool.and_true, tt_want]
              cases e.tt F ρ <;> cases want <;> rfl
          · cases h
        · rename_i gs e
          split at h
          · rename_i hk
            simp only [SV.conc, E.val_b hk]
            split at h
            · rename_i n hn
              simp only [Option.some.injEq] at h; subst h
              rw [lit?_tt hn]
              by_cases hw : i2b n = want
              · rw [if_pos hw]
                simp only [Gd.tt, holds]
                cases hgs : gs.all (fun g => g.tt F ρ)
                · simp [undef]
                · simp [hw]
              · rw [if_neg hw]
                simp only [Gd.tt]
                cases hgs : gs.all (fun g => g.tt F ρ)
                · simp [undef]
                · simp [hw]
            · simp only [Option.some.injEq] at h; subst h
              simp only [Gd.tt, holds, List.all_append, List.all_cons, List.all_nil, Bool.and_true, tt_want]
              cases hgs : gs.all (fun g => g.tt F ρ)
              · simp [undef]
              · cases e.tt F ρ <;> cases want <;> rfl
          · cases h
        · simp only [Option.some.injEq] at h; subst h
          rfl
        · cases h
      · cases h
    · cases h


end
def opPick (cs : List E) (tm : Env) (c a b : Operand) : Option SV :=
  match getC cs tm c with
  | some (.sc ce) => if ce.kind = .b then
      match ce.lit? with
      | some n => bif i2b n then getC cs tm a else getC cs tm b
      | none => match getC (cs ++ [ce]) tm a, getC (cs ++ [mkNot ce]) tm b with
        | some x, some y => some (merge ce x y)
        | _, _ => none
    else none
  | _ => none

def pick? : Op → Option (Operand × Operand × Operand)
  | .pick c a b => some (c, a, b)
  | _ => none

section
variable {P : Program} {F : Fam} {ρ : Nat → Int} {G : Glob} {w0 w : World} {M0 Im0 Im : Nat → Prop} {ad : Nat → Hd} {m : Mem} {tm : Tm} {en : Env} {a : Act}
theorem opPick_spec (hT : RelV F ρ ad m en a) {cs : List E} (hc : holds F ρ cs = true) {x y z : Operand} {v : SV} (h : opPick cs en x y z = some v) :
    (asBool (a.eval x)).run P w = .ok (match a.eval x with | .bool b => b | _ => false) w ∧ (bif (match a.eval x with | .bool b => b | _ => false) then a.eval y else a.eval z) = v.conc F ρ ad ∧ v.ok (al m) := by
  unfold opPick at h
  split at h
  · rename_i ce h1
    split at h
    · rename_i hk
      obtain ⟨e1, _⟩ := getC_spec hT hc h1
      simp only [SV.conc, E.val_b hk] at e1
      rw [e1]
      refine ⟨rfl, ?_⟩
      simp only
      split at h
      · rename_i n hn
        rw [lit?_tt hn]
        cases hi : i2b n <;> rw [hi] at h <;> simp only [cond_true, cond_false] at h ⊢ <;> exact getC_spec hT hc h
      · split at h
        · rename_i u t hu ht
          simp only [Option.some.injEq] at h; subst h
          rw [merge_conc hk]
          have mono : ∀ {q : E} {o : Operand} {s : SV}, getC (cs ++ [q]) en o = some s → s.ok (al m) := fun {q o s} hq => by
            obtain ⟨r, r1, r2⟩ := Option.bind_eq_some_iff.1 hq
            exact strip_ok r2 (getOp_spec hT r1).2
          refine ⟨?_, merge_ok _ _ (mono hu) (mono ht)⟩
          cases hct : ce.tt F ρ
          · simp only [cond_false]
            exact (getC_spec hT (cs := cs ++ [mkNot ce]) (by
              unfold holds at hc ⊢
              simp only [List.all_append, hc, Bool.true_and, List.all_cons, List.all_nil, Bool.and_true, (mkNot_spec ce F ρ).1, hct]
              rfl) ht).1
          · simp only [cond_true]
            exact (getC_spec hT (cs := cs ++ [ce]) (by
              unfold holds at hc ⊢
              simp only [List.all_append, hc, Bool.true_and, List.all_cons, List.all_nil, Bool.and_true, hct]) hu).1
        · cases h
    · cases h
  · cases h

theorem opPick_run (hT : RelV F ρ ad m en a) {cs : List E} (hc : holds F ρ cs = true) {x y z : Operand} {v : SV} (h : opPick cs en x y z = some v) {o : Oper} (ho : o.op = .pick x y z) :
    (execOp a.eval o).run P w = .ok (.value (v.conc F ρ ad)) w ∧ v.ok (al m) := by
  obtain ⟨i1, i2, i3⟩ := opPick_spec (P := P) (w := w) hT hc h
  refine ⟨?_, i3⟩
  simp only [execOp, ho, Sem.run_bind, i1, Result.andThen_ok, Sem.run_pure]
  rw [← i2]
  cases (match a.eval x with | .bool b => b | _ => false) <;> rfl
theorem RelT.ext {ad' : Nat → Hd} {m' : Mem} (hT : RelT F ρ ad m tm a) (h : Ext ad ad' m m') : RelT F ρ ad' m' tm a :=
  ⟨hT.defers, hT.size, fun i v hv => by
    obtain ⟨h1, h2⟩ := hT.slot i v hv
    exact ⟨by rw [h1, SV.conc_congr h.same v h2], SV.ok_mono h.keep v h2⟩⟩

theorem RelT.put (hT : RelT F ρ ad m tm a) (d : Option Nat) {v : SV} (hv : v.ok (al m)) : RelT F ρ ad m (setT tm d v) (a.put d (v.conc F ρ ad)) := by
  cases d with
  | none => exact hT
  | some d =>
    refine ⟨hT.defers, by simp [Act.put, setT, hT.size], fun i u hu => ?_⟩
    simp only [setT, Tm.at, List.getD, List.getElem?_set] at hu
    simp only [Act.put, Array.getElem?_setIfInBounds]
    by_cases hd : d = i
    · subst hd
      rw [hT.size]
      by_cases hl : d < tm.length
      · simp only [if_true, hl, Option.getD_some, Option.some.injEq] at hu ⊢
        subst hu
        exact ⟨rfl, hv⟩
      · simp [hl] at hu
    · simp only [hd, if_false] at hu ⊢
      exact hT.slot i u (by simpa [Tm.at, List.getD] using hu)

theorem RelT.envV (hT : RelT F ρ ad m tm a) : RelV F ρ ad m tm.at a := hT.slot
end

abbrev St := Tm × Mem
def RelS (F : Fam) (ρ : Nat → Int) (w0 : World) (M0 Im0 : Nat → Prop) (ad : Nat → Hd) (s : St) (a : Act) (w : World) : Prop := RelT F ρ ad s.2 s.1 a ∧ Rel F ρ w0 M0 Im0 ad s.2 w

end Go.Proofs.Ytmolkkphnehgcaa.Ew

/- Merging of states; the ways out of a piece of code. -/
set_option linter.unusedVariables false
set_option linter.unusedSimpArgs false
namespace Go.Proofs.Ytmolkkphnehgcaa.Ew
open Go Go.RowKit

/-! ### merging of memories -/
def mergeBlk (c : E) : Option (E × Blk) → Option (E × Blk) → Option (E × Blk)
  | some (g, .cells ty cs), some (g', .cells ty' cs') => if ty = ty' ∧ cs.length = cs'.length ∧ g.kind = .b ∧ g'.kind = .b then some (mkIte c g g', .cells ty (mergeL c cs cs')) else some (mkB true, .dead)
  | some (g, .lst ty row own le k), some (g', .lst ty' row' own' le' k') =>
    if ty = ty' ∧ row = row' ∧ own = own' ∧ le.same le' = true ∧ k.kind = .x ∧ k'.kind = .x ∧ g.kind = .b ∧ g'.kind = .b then some (mkIte c g g', .lst ty row own le (mkIte c k k')) else some (mkB true, .dead)
  | some (g, .mp ks vs ka va k), some (g', .mp ks' vs' ka' va' k') =>
    if ks = ks' ∧ vs = vs' ∧ ka = ka' ∧ va = va' ∧ k.kind = .x ∧ k'.kind = .x ∧ g.kind = .b ∧ g'.kind = .b then some (mkIte c g g', .mp ks vs ka va (mkIte c k k')) else some (mkB true, .dead)
  | some (g, .seg ty cs ks k), some (g', .seg ty' cs' ks' k') =>
    if ty = ty' ∧ ks = ks' ∧ cs.length = cs'.length ∧ k.kind = .x ∧ k'.kind = .x ∧ g.kind = .b ∧ g'.kind = .b then some (mkIte c g g', .seg ty (mergeL c cs cs') ks (mkIte c k k')) else some (mkB true, .dead)
  | some (g, b), none => if g.kind = .b then some (mkAnd c g, b) else some (mkB true, .dead)
  | none, some (g, b) => if g.kind = .b then some (mkAnd (mkNot c) g, b) else some (mkB true, .dead)
  | none, none => none
  | some (_, .dead), some (_, .dead) => some (mkB true, .dead)
  | some (g, b), some (_, .dead) => if g.kind = .b then some (mkAnd c g, b) else some (mkB true, .dead)
  | some (_, .dead), some (g, b) => if g.kind = .b then some (mkAnd (mkNot c) g, b) else some (mkB true, .dead)
  | some _, some _ => some (mkB true, .dead)

section
variable {P : Program} {F : Fam} {ρ : Nat → Int} {G : Glob} {w0 w : World} {M0 Im0 Im : Nat → Prop} {ad : Nat → Hd} {m m1 m2 : Mem} {tm : Tm} {en : Env} {a : Act}

theorem mergeBlk_some (c : E) (x y : Option (E × Blk)) : (mergeBlk c x y).isSome = (x.isSome || y.isSome) := by
  rcases x with _ | ⟨g, b⟩ <;> rcases y with _ | ⟨g', b'⟩
  · rfl
  · simp only [mergeBlk]; split <;> rfl
  · cases b <;> simp only [mergeBlk] <;> split <;> rfl
  · cases b <;> cases b' <;> simp only [mergeBlk] <;> (try split) <;> rfl

/-- What a merged entry says where the condition decides. -/
theorem mergeBlk_spec {c : E} (hc : c.kind = .b) {x y : Option (E × Blk)} {g : E} {b : Blk} (h : mergeBlk c x y = some (g, b)) (hg : g.tt F ρ = true) :
    b = .dead ∨ ∃ g' b', (bif c.tt F ρ then x else y) = some (g', b') ∧ g'.tt F ρ = true ∧ (∀ (Im : Nat → Prop) (ad : Nat → Hd) (n : Nat) (w : World), BlkOK F ρ Im ad n w b' → BlkOK F ρ Im ad n w b) ∧
      (∀ (ad : Nat → Hd) (n : Nat), mutB F ρ ad n b = mutB F ρ ad n b') := by
  have one : ∀ {g1 : E} {b1 : Blk} {z : Option (E × Blk)} {q : E}, z = some (g1, b1) → g1.kind = .b → q.kind = .b → (mkAnd q g1).tt F ρ = true → q.tt F ρ = true ∧ g1.tt F ρ = true := fun {g1 b1 z q} _ hk hq ht => by
    rw [(mkAnd_spec q g1 hq hk F ρ).1, Bool.and_eq_true] at ht; exact ht
  rcases x with _ | ⟨g1, b1⟩ <;> rcases y with _ | ⟨g2, b2⟩
  · simp [mergeBlk] at h
  · simp only [mergeBlk] at h
    split at h
    · rename_i hk
      simp only [Option.some.injEq, Prod.mk.injEq] at h
      obtain ⟨rfl, rfl⟩ := h
      obtain ⟨h1, h2⟩ := one (z := some (g2, b2)) rfl hk (mkNot_spec c F ρ).2 hg
      rw [(mkNot_spec c F ρ).1] at h1
      have hcf : c.tt F ρ = false := by simpa using h1
      exact Or.inr ⟨g2, b2, by rw [hcf]; rfl, h2, fun _ _ _ _ h => h, fun _ _ => rfl⟩
    · simp only [Option.some.injEq, Prod.mk.injEq] at h; exact Or.inl h.2.symm
  · have h' : (if g1.kind = .b then some (mkAnd c g1, b1) else some (mkB true, Blk.dead)) = some (g, b) := by cases b1 <;> simpa only [mergeBlk] using h
    split at h'
    · rename_i hk
      simp only [Option.some.injEq, Prod.mk.injEq] at h'
      obtain ⟨rfl, rfl⟩ := h'
      obtain ⟨h1, h2⟩ := one (z := some (g1, b1)) rfl hk hc hg
      exact Or.inr ⟨g1, b1, by rw [h1]; rfl, h2, fun _ _ _ _ h => h, fun _ _ => rfl⟩
    · simp only [Option.some.injEq, Prod.mk.injEq] at h'; exact Or.inl h'.2.symm
  · have gite : ∀ {p q : E}, p.kind = .b → q.kind = .b → (mkIte c p q).tt F ρ = true → (bif c.tt F ρ then p.tt F ρ else q.tt F ρ) = true := fun {p q} h1 h2 h3 => by rw [(mkIte_b hc h1 h2).2] at h3; exact h3
    cases b1 <;> cases b2 <;> simp only [mergeBlk] at h
    case cells.cells ty cs ty' cs' =>
      split at h
      · rename_i hh
        obtain ⟨rfl, hl, k1, k2⟩ := hh
        simp only [Option.some.injEq, Prod.mk.injEq] at h
        obtain ⟨rfl, rfl⟩ := h
        have ht := gite k1 k2 hg
        right
        cases hct : c.tt F ρ
        · rw [hct] at ht
          exact ⟨g2, _, rfl, ht, fun Im ad n w hb => by simp only [BlkOK] at hb ⊢; rw [mergeL_conc hc _ _ hl, hct]; exact hb, fun _ _ => rfl⟩
        · rw [hct] at ht
          exact ⟨g1, _, rfl, ht, fun Im ad n w hb => by simp only [BlkOK] at hb ⊢; rw [mergeL_conc hc _ _ hl, hct]; exact hb, fun _ _ => rfl⟩
      · simp only [Option.some.injEq, Prod.mk.injEq] at h; exact Or.inl h.2.symm
    case lst.lst ty row own le k ty' row' own' le' k' =>
      split at h
      · rename_i hh
        obtain ⟨rfl, rfl, rfl, hle, x1, x2, k1, k2⟩ := hh
        have := E.same_eq _ _ hle
        subst this
        simp only [Option.some.injEq, Prod.mk.injEq] at h
        obtain ⟨rfl, rfl⟩ := h
        have ht := gite k1 k2 hg
        have hx := (mkIte_x (F := F) (ρ := ρ) hc x1 x2).2
        right
        cases hct : c.tt F ρ
        · rw [hct] at ht hx
          exact ⟨g2, _, rfl, ht, fun Im ad n w hb => by simp only [BlkOK, hx, cond_false] at hb ⊢; exact hb, fun ad n => by cases own <;> rfl⟩
        · rw [hct] at ht hx
          exact ⟨g1, _, rfl, ht, fun Im ad n w hb => by simp only [BlkOK, hx, cond_true] at hb ⊢; exact hb, fun ad n => by cases own <;> rfl⟩
      · simp only [Option.some.injEq, Prod.mk.injEq] at h; exact Or.inl h.2.symm
    case mp.mp ks vs ka va k ks' vs' ka' va' k' =>
      split at h
      · rename_i hh
        obtain ⟨rfl, rfl, rfl, rfl, x1, x2, k1, k2⟩ := hh
        simp only [Option.some.injEq, Prod.mk.injEq] at h
        obtain ⟨rfl, rfl⟩ := h
        have ht := gite k1 k2 hg
        have hx := (mkIte_x (F := F) (ρ := ρ) hc x1 x2).2
        right
        cases hct : c.tt F ρ
        · rw [hct] at ht hx
          exact ⟨g2, _, rfl, ht, fun Im ad n w hb => by simp only [BlkOK, hx, cond_false] at hb ⊢; exact hb, fun _ _ => rfl⟩
        · rw [hct] at ht hx
          exact ⟨g1, _, rfl, ht, fun Im ad n w hb => by simp only [BlkOK, hx, cond_true] at hb ⊢; exact hb, fun _ _ => rfl⟩
      · simp only [Option.some.injEq, Prod.mk.injEq] at h; exact Or.inl h.2.symm
    case seg.seg ty cs ks k ty' cs' ks' k' =>
      split at h
      · rename_i hh
        obtain ⟨rfl, rfl, hl, x1, x2, k1, k2⟩ := hh
        simp only [Option.some.injEq, Prod.mk.injEq] at h
        obtain ⟨rfl, rfl⟩ := h
        have ht := gite k1 k2 hg
        have hx := (mkIte_x (F := F) (ρ := ρ) hc x1 x2).2
        right
        cases hct : c.tt F ρ
        · rw [hct] at ht hx
          exact ⟨g2, _, rfl, ht, fun Im ad n w hb => by simp only [BlkOK, hx, cond_false] at hb ⊢; rw [mergeL_conc hc _ _ hl, hct]; exact hb, fun _ _ => rfl⟩
        · rw [hct] at ht hx
          exact ⟨g1, _, rfl, ht, fun Im ad n w hb => by simp only [BlkOK, hx, cond_true] at hb ⊢; rw [mergeL_conc hc _ _ hl, hct]; exact hb, fun _ _ => rfl⟩
      · simp only [Option.some.injEq, Prod.mk.injEq] at h; exact Or.inl h.2.symm
    all_goals first
      | (simp only [Option.some.injEq, Prod.mk.injEq] at h; exact Or.inl h.2.symm)
      | (split at h
         · rename_i hk
           simp only [Option.some.injEq, Prod.mk.injEq] at h
           obtain ⟨rfl, rfl⟩ := h
           first
             | (obtain ⟨h1, h2⟩ := one (z := some (g1, Blk.dead)) rfl hk hc hg
                exact Or.inr ⟨g1, _, by rw [h1]; rfl, h2, fun _ _ _ _ h => h, fun _ _ => rfl⟩)
             | (obtain ⟨h1, h2⟩ := one (z := some (g2, Blk.dead)) rfl hk (mkNot_spec c F ρ).2 hg
                rw [(mkNot_spec c F ρ).1] at h1
                have hcf : c.tt F ρ = false := by simpa using h1
                exact Or.inr ⟨g2, _, by rw [hcf]; rfl, h2, fun _ _ _ _ h => h, fun _ _ => rfl⟩)
         · simp only [Option.some.injEq, Prod.mk.injEq] at h; exact Or.inl h.2.symm)

theorem mergeBlk_cells {c : E} {x y : Option (E × Blk)} {g : E} {b : Blk} (h : mergeBlk c x y = some (g, b)) {p : Nat → Prop} (hx : ∀ g b, x = some (g, b) → SV.okL p b.cs) (hy : ∀ g b, y = some (g, b) → SV.okL p b.cs) : SV.okL p b.cs := by
  rcases x with _ | ⟨g1, b1⟩ <;> rcases y with _ | ⟨g2, b2⟩
  · simp [mergeBlk] at h
  · simp only [mergeBlk] at h
    split at h <;> simp only [Option.some.injEq, Prod.mk.injEq] at h <;> obtain ⟨_, rfl⟩ := h
    · exact hy _ _ rfl
    · trivial
  · have h' : (if g1.kind = .b then some (mkAnd c g1, b1) else some (mkB true, Blk.dead)) = some (g, b) := by cases b1 <;> simpa only [mergeBlk] using h
    split at h' <;> simp only [Option.some.injEq, Prod.mk.injEq] at h' <;> obtain ⟨_, rfl⟩ := h'
    · exact hx _ _ rfl
    · trivial
  · have h1 := hx _ _ rfl
    have h2 := hy _ _ rfl
    cases b1 <;> cases b2 <;> simp only [mergeBlk] at h <;> (try split at h) <;> simp only [Option.some.injEq, Prod.mk.injEq] at h <;> obtain ⟨_, rfl⟩ := h <;>
      first | trivial | exact h1 | exact h2 | exact mergeL_ok _ _ h1 h2

/-- A memory each entry of which is that of both, or merged of both. -/
def PM (c : E) (m1 m2 m : Mem) : Prop := ∀ n, (m.at n = m1.at n ∧ m.at n = m2.at n) ∨ m.at n = mergeBlk c (m1.at n) (m2.at n)
theorem PM.al {c : E} (h : PM c m1 m2 m) (n : Nat) : al m n ↔ al m1 n ∨ al m2 n := by
  unfold Ew.al
  rcases h n with ⟨h1, h2⟩ | h1
  · rw [← h1, ← h2]; simp
  · rw [h1, mergeBlk_some]; simp
/-- Where the condition decides for one of both, the merged memory tells of the world as that one does. -/
theorem PM.rel {c : E} (hc : c.kind = .b) (h : PM c m1 m2 m) {t : Bool} (ht : c.tt F ρ = t) (hR : Rel F ρ w0 M0 Im0 ad (bif t then m1 else m2) w)
    (hok : ∀ n g x, (bif t then m2 else m1).at n = some (g, x) → SV.okL (Ew.al (bif t then m2 else m1)) x.cs) : Rel F ρ w0 M0 Im0 ad m w := by
  obtain ⟨hM, Im, h1, h2, hI⟩ := hR
  have key : ∀ n g x, m.at n = some (g, x) → g.tt F ρ = true → x = .dead ∨ ∃ g' x', (bif t then m1 else m2).at n = some (g', x') ∧ g'.tt F ρ = true ∧ (∀ w, BlkOK F ρ Im ad n w x' → BlkOK F ρ Im ad n w x) ∧ mutB F ρ ad n x = mutB F ρ ad n x' := fun n g x hn hg => by
    rcases h n with ⟨e1, e2⟩ | e1
    · right
      refine ⟨g, x, ?_, hg, fun _ h => h, rfl⟩
      cases t
      · simp only [cond_false]; rw [← e2]; exact hn
      · simp only [cond_true]; rw [← e1]; exact hn
    · rw [hn] at e1
      rcases mergeBlk_spec hc e1.symm hg with hd | ⟨g', b', f1, f2, f3, f4⟩
      · exact Or.inl hd
      · right
        refine ⟨g', b', ?_, f2, fun w hb => f3 Im ad n w hb, f4 ad n⟩
        rw [ht] at f1
        cases t <;> exact f1
  have hal1 : ∀ k, Ew.al (bif t then m1 else m2) k → Ew.al m k := fun k hk => by
    rw [h.al]; cases t
    · exact Or.inr hk
    · exact Or.inl hk
  have hal2 : ∀ k, Ew.al (bif t then m2 else m1) k → Ew.al m k := fun k hk => by
    rw [h.al]; cases t
    · exact Or.inl hk
    · exact Or.inr hk
  refine ⟨hM, Im, h1, h2, fun n g x hn hg => ?_, fun n g x hn => ?_, fun n k g x g' y b a1 a2 a3 a4 a5 a6 => ?_, hI.im, hI.fr⟩
  · rcases key n g x hn hg with rfl | ⟨g', x', f1, f2, f3, f4⟩
    · exact ⟨trivial, fun b hb => by simp [mutB] at hb⟩
    · obtain ⟨i1, i2⟩ := hI.ent n g' x' f1 f2
      exact ⟨f3 w i1, fun b hb => i2 b (by rw [← f4]; exact hb)⟩
  · have ok1 : ∀ g x, (bif t then m1 else m2).at n = some (g, x) → SV.okL (Ew.al m) x.cs := fun g x hh => SV.okL_mono hal1 _ (hI.ok n g x hh)
    have ok2 : ∀ g x, (bif t then m2 else m1).at n = some (g, x) → SV.okL (Ew.al m) x.cs := fun g x hh => SV.okL_mono hal2 _ (hok n g x hh)
    rcases h n with ⟨e1, e2⟩ | e1
    · cases t
      · exact ok1 g x (by simp only [cond_false]; rw [← e2]; exact hn)
      · exact ok1 g x (by simp only [cond_true]; rw [← e1]; exact hn)
    · rw [hn] at e1
      cases t
      · exact mergeBlk_cells e1.symm ok2 ok1
      · exact mergeBlk_cells e1.symm ok1 ok2
  · rcases key n g x a1 a2 with rfl | ⟨g1, x1, f1, f2, f3, f4⟩
    · simp [mutB] at a5
    · rcases key k g' y a3 a4 with rfl | ⟨g2, x2, e1, e2, e3, e4⟩
      · simp [mutB] at a6
      · exact hI.inj n k g1 x1 g2 x2 b f1 f2 e1 e2 (by rw [← f4]; exact a5) (by rw [← e4]; exact a6)
/-- .. where the condition does not hold, and what the merged memory speaks of is there. -/
theorem PM.rel' {c : E} (hc : c.kind = .b) (h : PM c m1 m2 m) (ht : c.tt F ρ = false) (hR : Rel F ρ w0 M0 Im0 ad m2 w)
    (hok : ∀ n g x, m1.at n = some (g, x) → SV.okL (Ew.al m) x.cs) : Rel F ρ w0 M0 Im0 ad m w := by
  obtain ⟨hM, Im, h1, h2, hI⟩ := hR
  have key : ∀ n g x, m.at n = some (g, x) → g.tt F ρ = true → x = .dead ∨ ∃ g' x', m2.at n = some (g', x') ∧ g'.tt F ρ = true ∧ (∀ w, BlkOK F ρ Im ad n w x' → BlkOK F ρ Im ad n w x) ∧ mutB F ρ ad n x = mutB F ρ ad n x' := fun n g x hn hg => by
    rcases h n with ⟨e1, e2⟩ | e1
    · exact Or.inr ⟨g, x, by rw [← e2]; exact hn, hg, fun _ h => h, rfl⟩
    · rw [hn] at e1
      rcases mergeBlk_spec hc e1.symm hg with hd | ⟨g', b', f1, f2, f3, f4⟩
      · exact Or.inl hd
      · rw [ht] at f1
        exact Or.inr ⟨g', b', f1, f2, fun w hb => f3 Im ad n w hb, f4 ad n⟩
  refine ⟨hM, Im, h1, h2, fun n g x hn hg => ?_, fun n g x hn => ?_, fun n k g x g' y b a1 a2 a3 a4 a5 a6 => ?_, hI.im, hI.fr⟩
  · rcases key n g x hn hg with rfl | ⟨g', x', f1, f2, f3, f4⟩
    · exact ⟨trivial, fun b hb => by simp [mutB] at hb⟩
    · obtain ⟨i1, i2⟩ := hI.ent n g' x' f1 f2
      exact ⟨f3 w i1, fun b hb => i2 b (by rw [← f4]; exact hb)⟩
  · have ok2 : ∀ g x, m2.at n = some (g, x) → SV.okL (Ew.al m) x.cs := fun g x hh => SV.okL_mono (fun k hk => (h.al k).2 (Or.inr hk)) _ (hI.ok n g x hh)
    rcases h n with ⟨e1, e2⟩ | e1
    · exact ok2 g x (by rw [← e2]; exact hn)
    · rw [hn] at e1
      exact mergeBlk_cells e1.symm (hok n) ok2
  · rcases key n g x a1 a2 with rfl | ⟨g1, x1, f1, f2, f3, f4⟩
    · simp [mutB] at a5
    · rcases key k g' y a3 a4 with rfl | ⟨g2, x2, e1, e2, e3, e4⟩
      · simp [mutB] at a6
      · exact hI.inj n k g1 x1 g2 x2 b f1 f2 e1 e2 (by rw [← f4]; exact a5) (by rw [← e4]; exact a6)
end

/-- Two memories side by side. -/
def tailG (f : Nat → Option (E × Blk) → Option (E × Blk) → Option (E × Blk)) : Nat → Mem → Mem
  | _, [] => []
  | n, y :: b => f n none y :: tailG f (n + 1) b
def zipG (f : Nat → Option (E × Blk) → Option (E × Blk) → Option (E × Blk)) : Nat → Mem → Mem → Mem
  | n, [], b => tailG f n b
  | n, x :: a, [] => f n x none :: zipG f (n + 1) a []
  | n, x :: a, y :: b => f n x y :: zipG f (n + 1) a b
theorem Mem.at_nil (n : Nat) : Mem.at [] n = none := by simp [Mem.at, List.getD]
theorem Mem.at_zero (x : Option (E × Blk)) (a : Mem) : Mem.at (x :: a) 0 = x := by simp [Mem.at, List.getD]
theorem Mem.at_succ (x : Option (E × Blk)) (a : Mem) (n : Nat) : Mem.at (x :: a) (n + 1) = Mem.at a n := by simp [Mem.at, List.getD]
theorem tailG_at {f : Nat → Option (E × Blk) → Option (E × Blk) → Option (E × Blk)} (hf : ∀ n, f n none none = none) : ∀ (b : Mem) (k n : Nat), (tailG f k b).at n = f (k + n) none (b.at n)
  | [], k, n => by simp only [tailG, Mem.at_nil, hf]
  | y :: b, k, 0 => by simp only [tailG, Mem.at_zero, Nat.add_zero]
  | y :: b, k, n + 1 => by
    simp only [tailG, Mem.at_succ, tailG_at hf b (k + 1) n]
    rw [show k + 1 + n = k + (n + 1) by omega]
theorem zipG_at {f : Nat → Option (E × Blk) → Option (E × Blk) → Option (E × Blk)} (hf : ∀ n, f n none none = none) : ∀ (a b : Mem) (k n : Nat), (zipG f k a b).at n = f (k + n) (a.at n) (b.at n)
  | [], b, k, n => by simp only [zipG, Mem.at_nil, tailG_at hf]
  | x :: a, [], k, 0 => by simp only [zipG, Mem.at_zero, Mem.at_nil, Nat.add_zero]
  | x :: a, [], k, n + 1 => by
    simp only [zipG, Mem.at_succ, Mem.at_nil, zipG_at hf a [] (k + 1) n]
    rw [show k + 1 + n = k + (n + 1) by omega]
  | x :: a, y :: b, k, 0 => by simp only [zipG, Mem.at_zero, Nat.add_zero]
  | x :: a, y :: b, k, n + 1 => by
    simp only [zipG, Mem.at_succ, zipG_at hf a b (k + 1) n]
    rw [show k + 1 + n = k + (n + 1) by omega]
/-- As long as the second one. -/
def zipR (f : Nat → Option (E × Blk) → Option (E × Blk) → Option (E × Blk)) : Nat → Mem → Mem → Mem
  | _, _, [] => []
  | n, [], y :: b => f n none y :: zipR f (n + 1) [] b
  | n, x :: a, y :: b => f n x y :: zipR f (n + 1) a b
theorem zipR_len {f : Nat → Option (E × Blk) → Option (E × Blk) → Option (E × Blk)} : ∀ (a b : Mem) (k : Nat), (zipR f k a b).length = b.length
  | [], [], k => rfl
  | _ :: _, [], k => rfl
  | [], y :: b, k => by simp only [zipR, List.length_cons, zipR_len [] b (k + 1)]
  | x :: a, y :: b, k => by simp only [zipR, List.length_cons, zipR_len a b (k + 1)]
theorem zipR_at {f : Nat → Option (E × Blk) → Option (E × Blk) → Option (E × Blk)} : ∀ (a b : Mem) (k n : Nat), n < b.length → (zipR f k a b).at n = f (k + n) (a.at n) (b.at n)
  | a, [], k, n, h => by simp at h
  | [], y :: b, k, 0, _ => by simp only [zipR, Mem.at_zero, Mem.at_nil, Nat.add_zero]
  | [], y :: b, k, n + 1, h => by
    simp only [zipR, Mem.at_succ, Mem.at_nil, zipR_at [] b (k + 1) n (by simpa using h)]
    rw [show k + 1 + n = k + (n + 1) by omega]
  | x :: a, y :: b, k, 0, _ => by simp only [zipR, Mem.at_zero, Nat.add_zero]
  | x :: a, y :: b, k, n + 1, h => by
    simp only [zipR, Mem.at_succ, zipR_at a b (k + 1) n (by simpa using h)]
    rw [show k + 1 + n = k + (n + 1) by omega]
/-- All entries merged, one by one. -/
def mergeM (c : E) (m1 m2 : Mem) : Mem := zipG (fun _ => mergeBlk c) 0 m1 m2
theorem mergeM_at (c : E) (m1 m2 : Mem) (n : Nat) : (mergeM c m1 m2).at n = mergeBlk c (m1.at n) (m2.at n) := by
  unfold mergeM
  rw [zipG_at (fun _ => rfl)]
theorem mergeM_PM (c : E) (m1 m2 : Mem) : PM c m1 m2 (mergeM c m1 m2) := fun n => Or.inr (mergeM_at c m1 m2 n)

/-- Names whose lists are of the call's own in one memory alone. -/
def ownD : Nat → Mem → Mem → List Nat
  | n, x :: a, y :: b => match x, y with
    | some (_, .lst _ _ o _ _), some (_, .lst _ _ o' _ _) => bif o != o' then n :: ownD (n + 1) a b else ownD (n + 1) a b
    | _, _ => ownD (n + 1) a b
  | _, _, _ => []
def ownDiff (m1 m2 : Mem) : List Nat := ownD 0 m1 m2
/-! ### names that are there -/
mutual
def SV.okB (m : Mem) : SV → Bool
  | .ptr n _ | .pi n _ _ _ | .sl n _ _ _ | .ls n _ | .sv n _ _ _ _ | .pe n _ _ _ | .mp n | .oq n => (m.at n).isSome
  | .fn _ cs | .agg cs | .tup cs => SV.okLB m cs
  | .gd _ v => SV.okB m v
  | .ite _ a b => SV.okB m a && SV.okB m b
  | _ => true
def SV.okLB (m : Mem) : List SV → Bool
  | [] => true
  | v :: r => SV.okB m v && SV.okLB m r
end
mutual
theorem SV.okB_spec {m : Mem} : ∀ v : SV, SV.okB m v = true → v.ok (al m)
  | .ptr n _, h | .pi n _ _ _, h | .sl n _ _ _, h | .ls n _, h | .sv n _ _ _ _, h | .pe n _ _ _, h | .mp n, h | .oq n, h => by simp only [SV.okB] at h; exact h
  | .fn _ cs, h | .agg cs, h | .tup cs, h => by simp only [SV.okB] at h; simp only [SV.ok]; exact SV.okLB_spec cs h
  | .gd _ v, h => by simp only [SV.okB] at h; simp only [SV.ok]; exact SV.okB_spec v h
  | .ite _ a b, h => by simp only [SV.okB, Bool.and_eq_true] at h; simp only [SV.ok]; exact ⟨SV.okB_spec a h.1, SV.okB_spec b h.2⟩
  | .sc _, _ | .und, _ | .nilp _, _ | .gl _ _, _ => by simp [SV.ok]
theorem SV.okLB_spec {m : Mem} : ∀ l : List SV, SV.okLB m l = true → SV.okL (al m) l
  | [], _ => trivial
  | v :: r, h => by simp only [SV.okLB, Bool.and_eq_true] at h; exact ⟨SV.okB_spec v h.1, SV.okLB_spec r h.2⟩
end
def okMem (m : Mem) : Bool := m.all fun
  | some (_, b) => SV.okLB m b.cs
  | _ => true
theorem okMem_spec {m : Mem} (h : okMem m = true) {k : Nat} {g : E} {b : Blk} (hk : m.at k = some (g, b)) : SV.okL (al m) b.cs := by
  unfold okMem at h
  have hlt := Mem.at_lt hk
  have hm : some (g, b) ∈ m := by
    unfold Mem.at at hk
    simp only [List.getD, List.getElem?_eq_getElem hlt, Option.getD_some] at hk
    rw [← hk]
    exact List.getElem_mem hlt
  exact SV.okLB_spec b.cs (List.all_eq_true.1 h _ hm)

/-! ### merging of states -/
def mergeSlot (c : E) : Option SV → Option SV → Option SV
  | some x, some y => some (merge c x y)
  | _, _ => none
def okTm (m : Mem) (tm : Tm) : Bool := tm.all fun
  | some v => SV.okB m v
  | none => true
def mergeSt (c : E) (s1 s2 : St) : Option St :=
  let ns := ownDiff s1.2 s2.2
  let m1 := shareL s1.2 ns
  let m2 := shareL s2.2 ns
  if c.kind = .b ∧ s1.1.length = s2.1.length ∧ okMem m1 = true ∧ okMem m2 = true ∧ okTm s1.2 s1.1 = true ∧ okTm s2.2 s2.1 = true then some (List.zipWith (mergeSlot c) s1.1 s2.1, mergeM c m1 m2) else none

section
variable {P : Program} {F : Fam} {ρ : Nat → Int} {G : Glob} {w0 w : World} {M0 Im0 Im : Nat → Prop} {ad : Nat → Hd} {m : Mem} {tm : Tm} {en : Env} {a : Act}

theorem okTm_spec {m : Mem} {tm : Tm} (h : okTm m tm = true) {i : Nat} {v : SV} (hv : tm.at i = some v) : v.ok (al m) := by
  unfold okTm at h
  have hm : some v ∈ tm := by
    unfold Tm.at at hv
    simp only [List.getD] at hv
    cases hi : tm[i]? with
    | none => rw [hi] at hv; cases hv
    | some x => rw [hi] at hv; simp only [Option.getD_some] at hv; rw [← hv]; exact List.mem_of_getElem? hi
  exact SV.okB_spec v (List.all_eq_true.1 h _ hm)

theorem mergeSt_spec {c : E} {s1 s2 s : St} (h : mergeSt c s1 s2 = some s) :
    (∀ k, al s1.2 k ∨ al s2.2 k → al s.2 k) ∧ (∀ ad a w, c.tt F ρ = true → RelS F ρ w0 M0 Im0 ad s1 a w → RelS F ρ w0 M0 Im0 ad s a w) ∧ (∀ ad a w, c.tt F ρ = false → RelS F ρ w0 M0 Im0 ad s2 a w → RelS F ρ w0 M0 Im0 ad s a w) := by
  unfold mergeSt at h
  simp only at h
  split at h
  · rename_i hc
    obtain ⟨hk, hl, ok1, ok2, t1, t2⟩ := hc
    simp only [Option.some.injEq] at h
    subst h
    have hPM := mergeM_PM c (shareL s1.2 (ownDiff s1.2 s2.2)) (shareL s2.2 (ownDiff s1.2 s2.2))
    have hal : ∀ k, al s1.2 k ∨ al s2.2 k → al (mergeM c (shareL s1.2 (ownDiff s1.2 s2.2)) (shareL s2.2 (ownDiff s1.2 s2.2))) k := fun k hk => by
      rw [hPM.al, shareL_al, shareL_al]; exact hk
    have hsl : ∀ i v, Tm.at (List.zipWith (mergeSlot c) s1.1 s2.1) i = some v → ∃ x y, s1.1.at i = some x ∧ s2.1.at i = some y ∧ v = merge c x y := by
      intro i v hv
      unfold Tm.at at hv
      simp only [List.getD, List.getElem?_zipWith] at hv
      cases h1 : s1.1[i]? with
      | none => simp [h1] at hv
      | some x =>
        cases h2 : s2.1[i]? with
        | none => simp [h1, h2] at hv
        | some y =>
          simp only [h1, h2, Option.getD_some] at hv
          unfold mergeSlot at hv
          split at hv
          · rename_i x y
            simp only [Option.some.injEq] at hv
            exact ⟨x, y, by simp [Tm.at, List.getD, h1], by simp [Tm.at, List.getD, h2], hv.symm⟩
          · cases hv
    have hvok : ∀ i x y, s1.1.at i = some x → s2.1.at i = some y → (merge c x y).ok (al (mergeM c (shareL s1.2 (ownDiff s1.2 s2.2)) (shareL s2.2 (ownDiff s1.2 s2.2)))) := fun i x y h1 h2 =>
      merge_ok x y (SV.ok_mono (fun k hk => hal k (Or.inl hk)) x (okTm_spec t1 h1)) (SV.ok_mono (fun k hk => hal k (Or.inr hk)) y (okTm_spec t2 h2))
    refine ⟨hal, fun ad a w ht hR => ?_, fun ad a w ht hR => ?_⟩
    · obtain ⟨hT, hM⟩ := hR
      refine ⟨⟨hT.defers, by simp [hT.size, hl], fun i v hv => ?_⟩, ?_⟩
      · obtain ⟨x, y, h1, h2, rfl⟩ := hsl i v hv
        exact ⟨by rw [merge_conc hk, ht]; exact (hT.slot i x h1).1, hvok i x y h1 h2⟩
      · exact hPM.rel hk ht (Rel.shareL _ hM) fun n g x hn => okMem_spec ok2 hn
    · obtain ⟨hT, hM⟩ := hR
      refine ⟨⟨hT.defers, by simp [hT.size, hl], fun i v hv => ?_⟩, ?_⟩
      · obtain ⟨x, y, h1, h2, rfl⟩ := hsl i v hv
        exact ⟨by rw [merge_conc hk, ht]; exact (hT.slot i y h2).1, hvok i x y h1 h2⟩
      · exact hPM.rel hk ht (Rel.shareL _ hM) fun n g x hn => okMem_spec ok1 hn
  · cases h
end

inductive Lab where
  | nrm
  | ret
  | ex (id : Nat)
  deriving DecidableEq, Repr, Inhabited
def Lab.exit : Lab → Exit
  | .nrm => .normal
  | .ret => .ret
  | .ex id => .exit id

/-- Which way is taken. -/
inductive DT where
  | leaf (l : Lab)
  | br (c : E) (a b : DT)
  | join (a b : DT)
  | rel (id : Nat) (a : DT)
  deriving Repr, Inhabited

def DT.eval (F : Fam) (ρ : Nat → Int) : DT → Lab
  | .leaf l => l
  | .br c a b => bif c.tt F ρ then a.eval F ρ else b.eval F ρ
  | .join a b => if a.eval F ρ = .nrm then b.eval F ρ else a.eval F ρ
  | .rel id a => if a.eval F ρ = .ex id then .nrm else a.eval F ρ

def DT.is (l : Lab) : DT → E
  | .leaf l' => mkB (decide (l' = l))
  | .br c a b => if c.kind = .b then mkIte c (a.is l) (b.is l) else .ite c (a.is l) (b.is l)
  | .join a b => if l = .nrm then mkAnd (a.is .nrm) (b.is .nrm) else mkOr (a.is l) (mkAnd (a.is .nrm) (b.is l))
  | .rel id a => if l = .nrm then mkOr (a.is .nrm) (a.is (.ex id)) else if l = .ex id then mkB false else a.is l

theorem DT.is_spec (F : Fam) (ρ : Nat → Int) : ∀ (d : DT) (l : Lab), (d.is l).kind = .b ∧ ((d.is l).tt F ρ = true ↔ d.eval F ρ = l)
  | .leaf l', l => ⟨rfl, by simp only [DT.is, mkB_tt, DT.eval, decide_eq_true_eq]⟩
  | .br c a b, l => by
    obtain ⟨a1, a2⟩ := DT.is_spec F ρ a l
    obtain ⟨b1, b2⟩ := DT.is_spec F ρ b l
    simp only [DT.is, DT.eval]
    split
    · rename_i hc
      obtain ⟨i1, i2⟩ := mkIte_spec c (a.is l) (b.is l) hc (by rw [a1, b1]) F ρ
      rw [a1] at i2
      refine ⟨i2, ?_⟩
      rw [E.val_b i2, E.val_b a1, E.val_b b1] at i1
      rcases Bool.eq_false_or_eq_true (c.tt F ρ) with hct | hct
      · rw [hct] at i1 ⊢; simp only [cond_true, Value.bool.injEq] at i1 ⊢; rw [i1]; exact a2
      · rw [hct] at i1 ⊢; simp only [cond_false, Value.bool.injEq] at i1 ⊢; rw [i1]; exact b2
    · refine ⟨a1, ?_⟩
      have : (E.ite c (a.is l) (b.is l)).tt F ρ = bif c.tt F ρ then (a.is l).tt F ρ else (b.is l).tt F ρ := by
        simp only [E.tt, E.den]
        cases i2b (E.den F ρ c) <;> rfl
      rw [this]
      rcases Bool.eq_false_or_eq_true (c.tt F ρ) with hct | hct
      · rw [hct]; exact a2
      · rw [hct]; exact b2
  | .join a b, l => by
    obtain ⟨n1, n2⟩ := DT.is_spec F ρ a .nrm
    obtain ⟨a1, a2⟩ := DT.is_spec F ρ a l
    obtain ⟨b1, b2⟩ := DT.is_spec F ρ b l
    obtain ⟨m1, m2⟩ := DT.is_spec F ρ b .nrm
    simp only [DT.is, DT.eval]
    by_cases hl : l = .nrm
    · rw [if_pos hl]
      subst hl
      have := mkAnd_spec (a.is .nrm) (b.is .nrm) n1 m1 F ρ
      refine ⟨this.2, ?_⟩
      rw [this.1, Bool.and_eq_true, n2, m2]
      by_cases h : a.eval F ρ = .nrm
      · rw [if_pos h]; exact ⟨fun x => x.2, fun x => ⟨h, x⟩⟩
      · rw [if_neg h]; exact ⟨fun x => x.1, fun x => (h x).elim⟩
    · rw [if_neg hl]
      have h1 := mkAnd_spec (a.is .nrm) (b.is l) n1 b1 F ρ
      have h2 := mkOr_spec (a.is l) _ a1 h1.2 F ρ
      refine ⟨h2.2, ?_⟩
      rw [h2.1, h1.1, Bool.or_eq_true, Bool.and_eq_true, a2, n2, b2]
      by_cases h : a.eval F ρ = .nrm
      · rw [if_pos h]
        exact ⟨fun x => x.elim (fun y => (hl (y.symm.trans h)).elim) (fun y => y.2), fun x => Or.inr ⟨h, x⟩⟩
      · rw [if_neg h]; exact ⟨fun x => x.elim id (fun y => (h y.1).elim), Or.inl⟩
  | .rel id a, l => by
    obtain ⟨n1, n2⟩ := DT.is_spec F ρ a .nrm
    obtain ⟨a1, a2⟩ := DT.is_spec F ρ a l
    obtain ⟨e1, e2⟩ := DT.is_spec F ρ a (.ex id)
    simp only [DT.is, DT.eval]
    by_cases hl : l = .nrm
    · rw [if_pos hl]
      subst hl
      have := mkOr_spec (a.is .nrm) (a.is (.ex id)) n1 e1 F ρ
      refine ⟨this.2, ?_⟩
      rw [this.1, Bool.or_eq_true, n2, e2]
      by_cases h : a.eval F ρ = .ex id
      · rw [if_pos h]; exact ⟨fun _ => rfl, fun _ => Or.inr h⟩
      · rw [if_neg h]; exact ⟨fun x => x.elim (fun z => z) (fun y => (h y).elim), Or.inl⟩
    · rw [if_neg hl]
      by_cases hl2 : l = .ex id
      · rw [if_pos hl2]
        subst hl2
        refine ⟨rfl, ?_⟩
        simp only [mkB_tt]
        by_cases h : a.eval F ρ = .ex id
        · rw [if_pos h]; exact ⟨fun x => (Bool.false_ne_true x).elim, fun x => (hl x.symm).elim⟩
        · rw [if_neg h]; exact ⟨fun x => (Bool.false_ne_true x).elim, fun x => (h x).elim⟩
      · rw [if_neg hl2]
        refine ⟨a1, ?_⟩
        rw [a2]
        by_cases h : a.eval F ρ = .ex id
        · rw [if_pos h]; exact ⟨fun x => (hl2 (x.symm.trans h)).elim, fun x => (hl x.symm).elim⟩
        · rw [if_neg h]

theorem DT.is_true {F : Fam} {ρ : Nat → Int} {d : DT} {l : Lab} (h : d.eval F ρ = l) : (d.is l).tt F ρ = true := (DT.is_spec F ρ d l).2.2 h
theorem DT.is_false {F : Fam} {ρ : Nat → Int} {d : DT} {l : Lab} (h : d.eval F ρ ≠ l) : (d.is l).tt F ρ = false := Bool.eq_false_iff.2 fun x => h ((DT.is_spec F ρ d l).2.1 x)

def mkJoin (a b : DT) : DT :=
  match a with
  | .leaf .nrm => b
  | .leaf l => .leaf l
  | a => .join a b
theorem mkJoin_eval (F : Fam) (ρ : Nat → Int) (a b : DT) : (mkJoin a b).eval F ρ = if a.eval F ρ = .nrm then b.eval F ρ else a.eval F ρ := by
  unfold mkJoin
  split
  · simp [DT.eval]
  · rename_i l hl
    have : l ≠ .nrm := fun e => hl (by rw [e])
    simp [DT.eval, this]
  · rfl
def mkRel (id : Nat) (a : DT) : DT :=
  match a with
  | .leaf l => .leaf (if l = .ex id then .nrm else l)
  | a => .rel id a
theorem mkRel_eval (F : Fam) (ρ : Nat → Int) (id : Nat) (a : DT) : (mkRel id a).eval F ρ = if a.eval F ρ = .ex id then .nrm else a.eval F ρ := by
  unfold mkRel
  split <;> rfl

section
variable {P : Program} {F : Fam} {ρ : Nat → Int} {G : Glob} {w0 w : World} {M0 Im0 Im : Nat → Prop} {ad : Nat → Hd} {m : Mem} {tm : Tm} {en : Env} {a : Act}

/-! ### states by the way out -/
def lk (l : Lab) : List (Lab × St) → Option St
  | [] => none
  | (l', s) :: r => if l' = l then some s else lk l r
def drop (l : Lab) : List (Lab × St) → List (Lab × St)
  | [] => []
  | (k, s) :: r => if k = l then drop l r else (k, s) :: drop l r
theorem lk_drop_other {l l' : Lab} (h : l ≠ l') : ∀ xs, lk l' (drop l xs) = lk l' xs
  | [] => rfl
  | (k, s) :: r => by
    have ih := lk_drop_other h r
    simp only [drop]
    by_cases hk : k = l
    · subst hk
      rw [if_pos rfl, ih]
      simp only [lk, if_neg h]
    · rw [if_neg hk]
      simp only [lk, ih]
theorem lk_drop_same (l : Lab) : ∀ xs, lk l (drop l xs) = none
  | [] => rfl
  | (k, s) :: r => by
    have ih := lk_drop_same l r
    simp only [drop]
    by_cases hk : k = l
    · rw [if_pos hk]; exact ih
    · rw [if_neg hk]; simp only [lk, if_neg hk]; exact ih

def mergeSts (c : Lab → E) : List (Lab × St) → List (Lab × St) → Option (List (Lab × St))
  | [], ys => some ys
  | (l, s) :: r, ys => match lk l ys with
    | some s' => match mergeSt (c l) s s', mergeSts c r (drop l ys) with
      | some q, some t => some ((l, q) :: t)
      | _, _ => none
    | none => (mergeSts c r ys).map ((l, s) :: ·)

theorem mergeSts_spec {c : Lab → E} : ∀ {xs ys zs : List (Lab × St)}, mergeSts c xs ys = some zs → ∀ l,
    (∀ s, lk l xs = some s → ∃ q, lk l zs = some q ∧ ((lk l ys = none ∧ q = s) ∨ ∃ s', lk l ys = some s' ∧ mergeSt (c l) s s' = some q)) ∧
    (lk l xs = none → lk l zs = lk l ys)
  | [], ys, zs, h, l => by
    simp only [mergeSts, Option.some.injEq] at h; subst h
    exact ⟨fun s hs => by simp [lk] at hs, fun _ => rfl⟩
  | (l0, s0) :: r, ys, zs, h, l => by
    simp only [mergeSts] at h
    split at h
    · rename_i s' hs'
      split at h
      · rename_i q t hq ht
        simp only [Option.some.injEq] at h; subst h
        by_cases hl : l0 = l
        · subst hl
          refine ⟨fun s hs => ?_, fun hn => by simp [lk] at hn⟩
          simp only [lk, if_true, Option.some.injEq] at hs
          subst hs
          exact ⟨q, by simp [lk], Or.inr ⟨s', hs', hq⟩⟩
        · obtain ⟨i1, i2⟩ := mergeSts_spec ht l
          rw [lk_drop_other hl] at i1 i2
          simp only [lk, if_neg hl]
          exact ⟨i1, i2⟩
      · cases h
    · rename_i hs'
      obtain ⟨t, ht, rfl⟩ := Option.map_eq_some_iff.1 h
      obtain ⟨i1, i2⟩ := mergeSts_spec ht l
      by_cases hl : l0 = l
      · subst hl
        refine ⟨fun s hs => ?_, fun hn => by simp [lk] at hn⟩
        simp only [lk, if_true, Option.some.injEq] at hs
        subst hs
        exact ⟨s0, by simp [lk], Or.inl ⟨hs', rfl⟩⟩
      · simp only [lk, if_neg hl]
        exact ⟨i1, i2⟩

abbrev Out := DT × List (Lab × St)

def joinOut (ox oy : Out) : Option Out :=
  (mergeSts (fun l => ox.1.is l) (drop .nrm ox.2) oy.2).map fun z => (mkJoin ox.1 oy.1, z)
def brOut (c : E) (ox oy : Out) : Option Out :=
  if c.kind = .b then (mergeSts (fun _ => c) ox.2 oy.2).map fun z => (.br c ox.1 oy.1, z) else none
def relOut (id : Nat) (o : Out) : Option Out :=
  match lk (.ex id) o.2, lk .nrm o.2 with
  | none, _ => some (mkRel id o.1, o.2)
  | some s, none => some (mkRel id o.1, (.nrm, s) :: drop (.ex id) o.2)
  | some s, some s' => match mergeSt (o.1.is (.ex id)) s s' with
    | some q => some (mkRel id o.1, (.nrm, q) :: drop (.ex id) (drop .nrm o.2))
    | none => none

/-- What is asked behind a piece of code whose outcome is o. -/
def After (F : Fam) (ρ : Nat → Int) (w0 : World) (M0 Im0 : Nat → Prop) (ad : Nat → Hd) (m : Mem) (o : Out) (Q : Exit → Act → World → Prop) : Prop :=
  ∀ q ad' a' w', lk (o.1.eval F ρ) o.2 = some q → RelS F ρ w0 M0 Im0 ad' q a' w' → Ext ad ad' m q.2 → Q (o.1.eval F ρ).exit a' w'

theorem After.join {m0 : Mem} {ox oy o : Out} (h : joinOut ox oy = some o) {Q : Exit → Act → World → Prop} (hA : After F ρ w0 M0 Im0 ad m0 o Q) :
    (ox.1.eval F ρ ≠ .nrm → After F ρ w0 M0 Im0 ad m0 ox Q) ∧ (ox.1.eval F ρ = .nrm → After F ρ w0 M0 Im0 ad m0 oy Q) := by
  obtain ⟨z, hz, rfl⟩ := Option.map_eq_some_iff.1 h
  unfold After at *
  simp only [mkJoin_eval] at hA
  constructor
  · intro hne q ad' a' w' hq hR hx
    simp only [if_neg hne] at hA
    obtain ⟨i1, _⟩ := mergeSts_spec hz (ox.1.eval F ρ)
    obtain ⟨q', h1, h2⟩ := i1 q (by rw [lk_drop_other (Ne.symm hne)]; exact hq)
    rcases h2 with ⟨_, rfl⟩ | ⟨s', _, h3⟩
    · exact hA q' ad' a' w' h1 hR hx
    · obtain ⟨k1, k2, _⟩ := mergeSt_spec (F := F) (ρ := ρ) (w0 := w0) (M0 := M0) (Im0 := Im0) h3
      exact hA q' ad' a' w' h1 (k2 ad' a' w' (DT.is_true rfl) hR) ⟨hx.same, fun k hk => k1 k (Or.inl (hx.keep k hk))⟩
  · intro he q ad' a' w' hq hR hx
    simp only [if_pos he] at hA
    obtain ⟨i1, i2⟩ := mergeSts_spec hz (oy.1.eval F ρ)
    cases hlx : lk (oy.1.eval F ρ) (drop .nrm ox.2) with
    | none => exact hA q ad' a' w' (by rw [i2 hlx]; exact hq) hR hx
    | some s =>
      obtain ⟨q', h1, h2⟩ := i1 s hlx
      rcases h2 with ⟨h2, _⟩ | ⟨s', h2, h3⟩
      · rw [h2] at hq; cases hq
      · rw [h2] at hq
        simp only [Option.some.injEq] at hq
        subst hq
        obtain ⟨k1, _, k3⟩ := mergeSt_spec (F := F) (ρ := ρ) (w0 := w0) (M0 := M0) (Im0 := Im0) h3
        refine hA q' ad' a' w' h1 (k3 ad' a' w' (DT.is_false ?_) hR) ⟨hx.same, fun k hk => k1 k (Or.inr (hx.keep k hk))⟩
        rw [he]
        exact fun e => by rw [← e, lk_drop_same] at hlx; cases hlx

theorem After.br {m0 : Mem} {c : E} {ox oy o : Out} (h : brOut c ox oy = some o) {Q : Exit → Act → World → Prop} (hA : After F ρ w0 M0 Im0 ad m0 o Q) :
    (c.tt F ρ = true → After F ρ w0 M0 Im0 ad m0 ox Q) ∧ (c.tt F ρ = false → After F ρ w0 M0 Im0 ad m0 oy Q) := by
  unfold brOut at h
  split at h
  · obtain ⟨z, hz, rfl⟩ := Option.map_eq_some_iff.1 h
    unfold After at *
    simp only [DT.eval] at hA
    constructor
    · intro ht q ad' a' w' hq hR hx
      simp only [ht, cond_true] at hA
      obtain ⟨i1, _⟩ := mergeSts_spec hz (ox.1.eval F ρ)
      obtain ⟨q', h1, h2⟩ := i1 q hq
      rcases h2 with ⟨_, rfl⟩ | ⟨s', _, h3⟩
      · exact hA q' ad' a' w' h1 hR hx
      · obtain ⟨k1, k2, _⟩ := mergeSt_spec (F := F) (ρ := ρ) (w0 := w0) (M0 := M0) (Im0 := Im0) h3
        exact hA q' ad' a' w' h1 (k2 ad' a' w' ht hR) ⟨hx.same, fun k hk => k1 k (Or.inl (hx.keep k hk))⟩
    · intro ht q ad' a' w' hq hR hx
      simp only [ht, cond_false] at hA
      obtain ⟨i1, i2⟩ := mergeSts_spec hz (oy.1.eval F ρ)
      cases hlx : lk (oy.1.eval F ρ) ox.2 with
      | none => exact hA q ad' a' w' (by rw [i2 hlx]; exact hq) hR hx
      | some s =>
        obtain ⟨q', h1, h2⟩ := i1 s hlx
        rcases h2 with ⟨h2, _⟩ | ⟨s', h2, h3⟩
        · rw [h2] at hq; cases hq
        · rw [h2] at hq
          simp only [Option.some.injEq] at hq
          subst hq
          obtain ⟨k1, _, k3⟩ := mergeSt_spec (F := F) (ρ := ρ) (w0 := w0) (M0 := M0) (Im0 := Im0) h3
          exact hA q' ad' a' w' h1 (k3 ad' a' w' ht hR) ⟨hx.same, fun k hk => k1 k (Or.inr (hx.keep k hk))⟩
  · cases h

theorem inBlock_ne {id : Nat} {l : Lab} (h : l ≠ .ex id) {Q : Exit → Act → World → Prop} {a : Act} {w : World} (hq : Q l.exit a w) : Exit.inBlock id Q l.exit a w := by
  cases l with
  | nrm => exact hq
  | ret => exact hq
  | ex k =>
    have : k ≠ id := fun e => h (by rw [e])
    simp only [Lab.exit, Exit.inBlock, if_neg this]
    exact hq

theorem After.rel {m0 : Mem} {id : Nat} {o' o : Out} (h : relOut id o' = some o) {Q : Exit → Act → World → Prop} (hA : After F ρ w0 M0 Im0 ad m0 o Q) : After F ρ w0 M0 Im0 ad m0 o' (Exit.inBlock id Q) := by
  unfold relOut at h
  intro q ad' a' w' hq hR hx
  unfold After at hA
  split at h
  · rename_i h1
    simp only [Option.some.injEq] at h; subst h
    simp only [mkRel_eval] at hA
    have hne : o'.1.eval F ρ ≠ .ex id := fun e => by rw [e, h1] at hq; cases hq
    simp only [if_neg hne] at hA
    exact inBlock_ne hne (hA q ad' a' w' hq hR hx)
  · rename_i s h1 h2
    simp only [Option.some.injEq] at h; subst h
    simp only [mkRel_eval] at hA
    by_cases he : o'.1.eval F ρ = .ex id
    · simp only [if_pos he] at hA
      rw [he] at hq ⊢
      rw [h1] at hq
      simp only [Option.some.injEq] at hq
      subst hq
      simp only [Lab.exit, Exit.inBlock, if_true]
      exact hA s ad' a' w' (by simp [lk]) hR hx
    · simp only [if_neg he] at hA
      have hnn : o'.1.eval F ρ ≠ .nrm := fun e => by rw [e, h2] at hq; cases hq
      refine inBlock_ne he (hA q ad' a' w' ?_ hR hx)
      simp only [lk, if_neg (Ne.symm hnn)]
      rw [lk_drop_other (Ne.symm he)]
      exact hq
  · rename_i s s' h1 h2
    split at h
    · rename_i q0 h3
      simp only [Option.some.injEq] at h; subst h
      simp only [mkRel_eval] at hA
      obtain ⟨k1, k2, k3⟩ := mergeSt_spec (F := F) (ρ := ρ) (w0 := w0) (M0 := M0) (Im0 := Im0) h3
      by_cases he : o'.1.eval F ρ = .ex id
      · simp only [if_pos he] at hA
        rw [he] at hq ⊢
        rw [h1] at hq
        simp only [Option.some.injEq] at hq
        subst hq
        simp only [Lab.exit, Exit.inBlock, if_true]
        exact hA q0 ad' a' w' (by simp [lk]) (k2 ad' a' w' (DT.is_true he) hR) ⟨hx.same, fun k hk => k1 k (Or.inl (hx.keep k hk))⟩
      · simp only [if_neg he] at hA
        by_cases hn : o'.1.eval F ρ = .nrm
        · rw [hn] at hq hA ⊢
          rw [h2] at hq
          simp only [Option.some.injEq] at hq
          subst hq
          exact hA q0 ad' a' w' (by simp [lk]) (k3 ad' a' w' (DT.is_false (by rw [hn]; exact fun e => by cases e)) hR) ⟨hx.same, fun k hk => k1 k (Or.inr (hx.keep k hk))⟩
        · refine inBlock_ne he (hA q ad' a' w' ?_ hR hx)
          simp only [lk, if_neg (Ne.symm hn)]
          rw [lk_drop_other (Ne.symm he), lk_drop_other (Ne.symm hn)]
          exact hq
    · cases h
end
end Go.Proofs.Ytmolkkphnehgcaa.Ew

/- What a described operation, or a call by a summary, touches: it leaves all other names, and hangs on none but these. -/
set_option linter.unusedVariables false
set_option linter.unusedSimpArgs false
namespace Go.Proofs.Ytmolkkphnehgcaa.Ew
open Go Go.RowKit

def namesV : SV → List Nat
  | .ls n _ => [n]
  | .sv n _ _ _ _ => [n]
  | .sl n _ _ _ => [n]
  | .ite _ a b => namesV a ++ namesV b
  | _ => []
/-- The names that are looked at, and those that are written. -/
def fpX (nm : Nat) : X → List Nat × List Nat
  | .old (.ld n ..) | .old (.ldi n ..) => ([n], [])
  | .old (.st n ..) | .old (.sti n ..) => ([n], [n])
  | .old (.new ..) => ([], [nm])
  | .old _ => ([], [])
  | .len x => (namesV x, [])
  | .lde n .. => ([n], [])
  | .ste n .. => ([n], [n])
  | .app _ _ _ x y => (namesV x ++ namesV y, namesV x ++ [nm])
  | .sub _ _ x _ _ => (namesV x, namesV x ++ [nm])
  | .mk .. => ([], [nm])
  | .bl .. => ([], [nm])
  | .mnew _ => ([], [nm])
  | .mlk _ n _ _ => ([n], [])
  | .mup _ n _ _ => ([n], [n])
  | .mdl _ _ _ n _ => ([n], [n])
  | .mln _ _ n => ([n], [])
  | .vix _ n .. => ([n], [])
  | .clr _ _ _ n _ => ([n], [n])
  | .lds n .. => ([n], [])
  | .sts n .. => ([n], [n])
def fpC (e : Ent) (m : Mem) (nm : Nat) (args : List SV) : List Nat × List Nat :=
  match Sh.getL m e.ps [] args with
  | some (_, srcs, _) => (srcs.flatMap Src.ns, ((mutJ e.pgen.2).filter fun j => !e.kp.contains j).flatMap (srcOf srcs) ++ (List.range (Sh.nnL e.outL)).map fun i => nm + i)
  | none => ([], [])

/-- The two memories hold the same by these names. -/
def Agree (l : List Nat) (m m2 : Mem) : Prop := ∀ n ∈ l, m2.at n = m.at n

section
variable {P : Program} {G : Glob} {m m2 m' : Mem}

theorem Agree.left {a b : List Nat} (h : Agree (a ++ b) m m2) : Agree a m m2 := fun n hn => h n (List.mem_append_left _ hn)
theorem Agree.right {a b : List Nat} (h : Agree (a ++ b) m m2) : Agree b m m2 := fun n hn => h n (List.mem_append_right _ hn)

theorem viewL_loc {ty : Nat} {row : Row} : ∀ {v : SV} {V : LV}, viewL m ty row v = some V → Agree (namesV v) m m2 → viewL m2 ty row v = some V ∧ ∀ n ∈ V.ns, n ∈ namesV v
  | .ls n le, V, h, ha => by
    have := ha n (by simp [namesV])
    simp only [viewL, this] at h ⊢
    refine ⟨h, ?_⟩
    split at h
    · split at h
      · simp only [Option.some.injEq] at h; subst h; simp [namesV]
      · cases h
    · cases h
  | .sv n str l0 lo hi, V, h, ha => by
    have := ha n (by simp [namesV])
    simp only [viewL, this] at h ⊢
    refine ⟨h, ?_⟩
    split at h
    · split at h
      · simp only [Option.some.injEq] at h; subst h; simp [namesV]
      · cases h
    · cases h
  | .nilp c, V, h, ha => by
    cases c <;> simp only [viewL, Option.some.injEq, reduceCtorEq] at h ⊢
    subst h
    exact ⟨rfl, by simp⟩
  | .ite p a b, V, h, ha => by
    simp only [viewL] at h ⊢
    split at h
    · rename_i x y hx hy
      obtain ⟨i1, i2⟩ := viewL_loc hx (Agree.left (b := namesV b) ha)
      obtain ⟨j1, j2⟩ := viewL_loc hy (Agree.right (a := namesV a) ha)
      simp only [i1, j1]
      split at h
      · rename_i hp
        simp only [Option.some.injEq] at h; subst h
        refine ⟨by rw [if_pos hp], fun n hn => ?_⟩
        simp only [namesV]
        rcases List.mem_append.1 hn with hn | hn
        · exact List.mem_append_left _ (i2 n hn)
        · exact List.mem_append_right _ (j2 n hn)
      · cases h
    · cases h
  | .sc _, V, h, _ | .ptr .., V, h, _ | .pi .., V, h, _ | .sl .., V, h, _ | .pe .., V, h, _ | .mp .., V, h, _ | .oq .., V, h, _ | .fn .., V, h, _ | .agg .., V, h, _ | .tup .., V, h, _ | .gd .., V, h, _ | .und, V, h, _ | .gl .., V, h, _ => by simp [viewL] at h

theorem tyL_loc : ∀ {v : SV}, Agree (namesV v) m m2 → tyL m2 v = tyL m v
  | .ls n le, ha => by simp only [tyL, ha n (by simp [namesV])]
  | .sv n str l0 lo hi, ha => by simp only [tyL, ha n (by simp [namesV])]
  | .nilp c, ha => by cases c <;> rfl
  | .ite p a b, ha => by simp only [tyL, tyL_loc (v := a) (Agree.left (b := namesV b) ha), tyL_loc (v := b) (Agree.right (a := namesV a) ha)]
  | .sc _, _ | .ptr .., _ | .pi .., _ | .sl .., _ | .pe .., _ | .mp .., _ | .oq .., _ | .fn .., _ | .agg .., _ | .tup .., _ | .gd .., _ | .und, _ | .gl .., _ => rfl

theorem at_set (m : Mem) (n k : Nat) (x : Option (E × Blk)) (hl : k < m.length) : Mem.at (List.set m k x) n = if n = k then x else m.at n := by
  by_cases h : n = k
  · subst h; rw [if_pos rfl, Mem.at_set_same hl]
  · rw [if_neg h, Mem.at_set_other (Ne.symm h)]
theorem at_set_congr (k : Nat) (x : Option (E × Blk)) (hl : m2.length = m.length) {n : Nat} (h : m2.at n = m.at n) : Mem.at (List.set m2 k x) n = Mem.at (List.set m k x) n := by
  by_cases hk : k < m.length
  · rw [at_set m n k x hk, at_set m2 n k x (by omega), h]
  · rw [List.set_eq_of_length_le (by omega), List.set_eq_of_length_le (by omega), h]
theorem killN_congr (k : Nat) (hl : m2.length = m.length) (hk : m2.at k = m.at k) {n : Nat} (h : m2.at n = m.at n) : (killN m2 k).at n = (killN m k).at n := by
  unfold killN
  rw [hk]
  cases m.at k with
  | none => exact h
  | some x => obtain ⟨g, b⟩ := x; exact at_set_congr k _ hl h
theorem killL_congr : ∀ (ks : List Nat) {m m2 : Mem}, m2.length = m.length → Agree ks m m2 → ∀ n, m2.at n = m.at n → (killL m2 ks).at n = (killL m ks).at n
  | [], m, m2, _, _, n, h => h
  | k :: r, m, m2, hl, ha, n, h => by
    have hk := ha k (List.mem_cons_self ..)
    exact killL_congr r (by rw [killN_len, killN_len]; exact hl) (fun q hq => killN_congr k hl hk (ha q (List.mem_cons_of_mem _ hq))) n (killN_congr k hl hk h)
theorem killN_other {k n : Nat} (h : n ≠ k) : (killN m k).at n = m.at n := by
  unfold killN
  split
  · rw [Mem.at_set_other (Ne.symm h)]
  · rfl
theorem killL_other : ∀ (ks : List Nat) {m : Mem} {n : Nat}, n ∉ ks → (killL m ks).at n = m.at n
  | [], _, _, _ => rfl
  | k :: r, m, n, h => by
    simp only [List.mem_cons, not_or] at h
    exact (killL_other r h.2).trans (killN_other h.1)
theorem shareN_congr (k : Nat) (hl : m2.length = m.length) (hk : m2.at k = m.at k) {n : Nat} (h : m2.at n = m.at n) : (shareN m2 k).at n = (shareN m k).at n := by
  unfold shareN
  rw [hk]
  split
  · exact at_set_congr k _ hl h
  · exact h
theorem shareN_len (m : Mem) (n : Nat) : (shareN m n).length = m.length := by unfold shareN; split <;> simp
theorem shareL_len : ∀ (ns : List Nat) (m : Mem), (shareL m ns).length = m.length
  | [], _ => rfl
  | n :: r, m => (shareL_len r (shareN m n)).trans (shareN_len m n)
theorem shareL_congr : ∀ (ks : List Nat) {m m2 : Mem}, m2.length = m.length → Agree ks m m2 → ∀ n, m2.at n = m.at n → (shareL m2 ks).at n = (shareL m ks).at n
  | [], m, m2, _, _, n, h => h
  | k :: r, m, m2, hl, ha, n, h => by
    have hk := ha k (List.mem_cons_self ..)
    exact shareL_congr r (by rw [shareN_len, shareN_len]; exact hl) (fun q hq => shareN_congr k hl hk (ha q (List.mem_cons_of_mem _ hq))) n (shareN_congr k hl hk h)
theorem shareN_other {k n : Nat} (h : n ≠ k) : (shareN m k).at n = m.at n := by
  unfold shareN
  split
  · rw [Mem.at_set_other (Ne.symm h)]
  · rfl
theorem shareL_other : ∀ (ks : List Nat) {m : Mem} {n : Nat}, n ∉ ks → (shareL m ks).at n = m.at n
  | [], _, _, _ => rfl
  | k :: r, m, n, h => by
    simp only [List.mem_cons, not_or] at h
    exact (shareL_other r h.2).trans (shareN_other h.1)
theorem setEs_congr : ∀ (l : List (Nat × E × Blk)) {m m2 : Mem}, m2.length = m.length → ∀ n, m2.at n = m.at n → (setEs m2 l).at n = (setEs m l).at n
  | [], m, m2, _, n, h => h
  | (k, g, b) :: r, m, m2, hl, n, h => setEs_congr r (by simpa using hl) n (at_set_congr k _ hl h)
theorem setEs_other : ∀ (l : List (Nat × E × Blk)) {m : Mem} {n : Nat}, (∀ y ∈ l, y.1 ≠ n) → (setEs m l).at n = m.at n
  | [], _, _, _ => rfl
  | (k, g, b) :: r, m, n, h => by
    have h0 := h _ (List.mem_cons_self ..)
    exact (setEs_other r fun y hy => h y (List.mem_cons_of_mem _ hy)).trans (Mem.at_set_other h0 _)

/-- What an operation does to the memory: only by the names that it writes, and by what stands at the names that it touches. -/
structure Loc (f : Mem → Option (E × SV × Mem)) (m : Mem) (fp : List Nat × List Nat) (g : E) (v : SV) (m' : Mem) : Prop where
  len : m'.length = m.length
  frame : ∀ n, n ∉ fp.2 → m'.at n = m.at n
  loc : ∀ m2, m2.length = m.length → Agree (fp.1 ++ fp.2) m m2 → ∃ m2', f m2 = some (g, v, m2') ∧ m2'.length = m2.length ∧ (∀ n ∈ fp.2, m2'.at n = m'.at n) ∧ ∀ n, n ∉ fp.2 → m2'.at n = m2.at n

theorem Loc.read {f : Mem → Option (E × SV × Mem)} {g : E} {v : SV} {R : List Nat} (h : ∀ m2, m2.length = m.length → Agree R m m2 → f m2 = some (g, v, m2)) : Loc f m (R, []) g v m :=
  ⟨rfl, fun _ _ => rfl, fun m2 hl ha => ⟨m2, h m2 hl (by simpa using ha), rfl, fun n hn => by simp at hn, fun _ _ => rfl⟩⟩

theorem blkC_loc {n : Nat} (h : m2.at n = m.at n) : blkC m2 n = blkC m n := by simp only [blkC, h]

theorem apply_loc {d : D} {nm : Nat} {g : E} {v : SV} (h : apply G m nm d = some (g, v, m')) : Loc (fun m => apply G m nm d) m (fpX nm (.old d)) g v m' := by
  cases d with
  | val u =>
    simp only [apply, Option.some.injEq, Prod.mk.injEq] at h
    obtain ⟨rfl, rfl, rfl⟩ := h
    exact Loc.read fun m2 _ _ => rfl
  | ld n off sz ag =>
    simp only [apply] at h
    have hm : m' = m := by
      split at h
      · obtain ⟨u, _, h2⟩ := Option.map_eq_some_iff.1 h; simp only [Prod.mk.injEq] at h2; exact h2.2.2.symm
      · cases h
    subst hm
    refine Loc.read fun m2 _ ha => ?_
    simp only [apply, blkC_loc (ha n (by simp))]
    split at h
    · obtain ⟨u, h1, h2⟩ := Option.map_eq_some_iff.1 h
      simp only [Prod.mk.injEq] at h2
      obtain ⟨rfl, rfl, _⟩ := h2
      simp [h1]
    · cases h
  | ldi n off str cnt e sz ag =>
    simp only [apply] at h
    have hm : m' = m := by
      split at h
      · split at h
        · obtain ⟨u, _, h2⟩ := Option.map_eq_some_iff.1 h; simp only [Prod.mk.injEq] at h2; exact h2.2.2.symm
        · cases h
      · cases h
    subst hm
    refine Loc.read fun m2 _ ha => ?_
    simp only [apply, blkC_loc (ha n (by simp))]
    split at h
    · split at h
      · rename_i hc
        obtain ⟨u, h1, h2⟩ := Option.map_eq_some_iff.1 h
        simp only [Prod.mk.injEq] at h2
        obtain ⟨rfl, rfl, _⟩ := h2
        simp [h1, hc]
      · cases h
    · cases h
  | ldg b off sz ag =>
    cases ag <;> simp only [apply, cond_true, cond_false] at h <;> obtain ⟨u, h1, h2⟩ := Option.map_eq_some_iff.1 h <;> simp only [Prod.mk.injEq] at h2 <;> obtain ⟨rfl, rfl, rfl⟩ := h2 <;>
      exact Loc.read fun m2 _ _ => by simp [apply, h1]
  | st n off vs =>
    simp only [apply] at h
    split at h
    · rename_i g' ty cs hb
      obtain ⟨u, h1, h2⟩ := Option.map_eq_some_iff.1 h
      simp only [Prod.mk.injEq] at h2
      obtain ⟨rfl, rfl, rfl⟩ := h2
      have hl := Mem.at_lt (blkC_spec hb).1
      refine ⟨by simp, fun k hk => Mem.at_set_other (fun e => hk (by simp [fpX, e])) _, fun m2 hl2 ha => ⟨m2.set n (some (g', .cells ty u)), ?_, by simp, fun k hk => ?_, fun k hk => Mem.at_set_other (fun e => hk (by simp [fpX, e])) _⟩⟩
      · simp only [apply, blkC_loc (ha n (by simp [fpX])), hb, h1, Option.map_some]
      · exact at_set_congr n _ hl2 (ha k (by simp [fpX] at hk ⊢; exact hk))
    · cases h
  | sti n off str cnt e vs =>
    simp only [apply] at h
    split at h
    · rename_i g' ty cs hb
      split at h
      · rename_i hc
        obtain ⟨u, h1, h2⟩ := Option.map_eq_some_iff.1 h
        simp only [Prod.mk.injEq] at h2
        obtain ⟨rfl, rfl, rfl⟩ := h2
        refine ⟨by simp, fun k hk => Mem.at_set_other (fun e => hk (by simp [fpX, e])) _, fun m2 hl2 ha => ⟨m2.set n (some (g', .cells ty u)), ?_, by simp, fun k hk => ?_, fun k hk => Mem.at_set_other (fun e => hk (by simp [fpX, e])) _⟩⟩
        · simp only [apply, blkC_loc (ha n (by simp [fpX])), hb, h1, Option.map_some, if_pos hc]
        · exact at_set_congr n _ hl2 (ha k (by simp [fpX] at hk ⊢; exact hk))
      · cases h
    · cases h
  | new ty cs sl =>
    simp only [apply] at h
    split at h
    · rename_i hc
      simp only [Option.some.injEq, Prod.mk.injEq] at h
      obtain ⟨rfl, rfl, rfl⟩ := h
      refine ⟨by simp, fun k hk => Mem.at_set_other (fun e => hk (by simp [fpX, e])) _, fun m2 hl2 ha => ⟨m2.set nm (some (mkB true, .cells ty cs)), ?_, by simp, fun k hk => ?_, fun k hk => Mem.at_set_other (fun e => hk (by simp [fpX, e])) _⟩⟩
      · have hn := ha nm (by simp [fpX])
        simp only [apply, hn, hl2, if_pos hc]
      · exact at_set_congr nm _ hl2 (ha k (by simp [fpX] at hk ⊢; exact hk))
    · cases h
  | call f args => simp [apply] at h

theorem segAt_loc {n : Nat} (h : m2.at n = m.at n) : segAt m2 n = segAt m n := by simp only [segAt, h]
theorem segLd_loc {n off str sz : Nat} {e : E} {ag : Bool} {g : E} {v : SV} (h : segLd m n off str e sz ag = some (g, v, m')) : m' = m ∧ ∀ m2 : Mem, m2.at n = m.at n → segLd m2 n off str e sz ag = some (g, v, m2) := by
  unfold segLd at h
  split at h
  · rename_i g' ty cs ks c hs
    split at h
    · rename_i hc
      obtain ⟨u, h1, h2⟩ := Option.map_eq_some_iff.1 h
      simp only [Prod.mk.injEq] at h2
      obtain ⟨rfl, rfl, rfl⟩ := h2
      refine ⟨rfl, fun m2 ha => ?_⟩
      unfold segLd
      rw [segAt_loc ha, hs]
      simp only [if_pos hc, h1, Option.map_some]
    · cases h
  · cases h
theorem segSt_loc {n off str : Nat} {e : E} {vs : List SV} {g : E} {v : SV} (h : segSt m n off str e vs = some (g, v, m')) : ∃ z, m' = m.set n (some z) ∧ ∀ m2 : Mem, m2.at n = m.at n → segSt m2 n off str e vs = some (g, v, m2.set n (some z)) := by
  unfold segSt at h
  split at h
  · rename_i g' ty cs ks c hs
    split at h
    · rename_i es he
      split at h
      · rename_i hc
        simp only [Option.some.injEq, Prod.mk.injEq] at h
        obtain ⟨rfl, rfl, rfl⟩ := h
        refine ⟨_, rfl, fun m2 ha => ?_⟩
        unfold segSt
        rw [segAt_loc ha, hs]
        simp only [he, if_pos hc]
      · cases h
    · cases h
  · cases h
theorem Loc.turn {f : Mem → Option (E × SV × Mem)} {n : Nat} {g : E} {v : SV} {z : E × Blk} (h : ∀ m2 : Mem, m2.at n = m.at n → f m2 = some (g, v, m2.set n (some z))) : Loc f m ([n], [n]) g v (m.set n (some z)) :=
  ⟨by simp, fun k hk => Mem.at_set_other (fun e => hk (by simp [e])) _, fun m2 hl2 ha => ⟨m2.set n (some z), h m2 (ha n (by simp)), by simp, fun k hk => at_set_congr n _ hl2 (ha k (by simp at hk ⊢; exact hk)), fun k hk => Mem.at_set_other (fun e => hk (by simp [e])) _⟩⟩

theorem applyG_loc {d : D} {nm : Nat} {g : E} {v : SV} (h : applyG m d = some (g, v, m')) : Loc (fun m => applyG m d) m (fpX nm (.old d)) g v m' := by
  cases d with
  | ld n off sz ag =>
    simp only [applyG] at h
    split at h
    · rename_i g' ty cs ks c hs
      split at h
      · rename_i hc
        obtain ⟨u, h1, h2⟩ := Option.map_eq_some_iff.1 h
        simp only [Prod.mk.injEq] at h2
        obtain ⟨rfl, rfl, rfl⟩ := h2
        exact Loc.read fun m2 _ ha => by simp only [applyG, segAt_loc (ha n (by simp)), hs, if_pos hc, h1, Option.map_some]
      · rename_i hc
        obtain ⟨rfl, h2⟩ := segLd_loc h
        exact Loc.read fun m2 _ ha => by simp only [applyG, segAt_loc (ha n (by simp)), hs, if_neg hc]; exact h2 m2 (ha n (by simp))
    · cases h
  | ldi n off str cnt e sz ag =>
    obtain ⟨rfl, h2⟩ := segLd_loc h
    exact Loc.read fun m2 _ ha => h2 m2 (ha n (by simp))
  | st n off vs =>
    simp only [applyG] at h
    split at h
    · rename_i g' ty cs ks c hs
      split at h
      · rename_i hc
        obtain ⟨u, h1, h2⟩ := Option.map_eq_some_iff.1 h
        simp only [Prod.mk.injEq] at h2
        obtain ⟨rfl, rfl, rfl⟩ := h2
        exact Loc.turn fun m2 ha => by simp only [applyG, segAt_loc ha, hs, if_pos hc, h1, Option.map_some]
      · rename_i hc
        obtain ⟨z, rfl, h2⟩ := segSt_loc h
        exact Loc.turn fun m2 ha => by simp only [applyG, segAt_loc ha, hs, if_neg hc]; exact h2 m2 ha
    · cases h
  | sti n off str cnt e vs =>
    obtain ⟨z, rfl, h2⟩ := segSt_loc h
    exact Loc.turn fun m2 ha => h2 m2 ha
  | _ => simp [applyG] at h

/-- Whether the elder operations tell of it is told alike. -/
theorem apply_none {d : D} {nm : Nat} (h : apply G m nm d = none) (hg : (applyG m d).isSome = true) {m2 : Mem} (hl : m2.length = m.length) (ha : Agree ((fpX nm (.old d)).1 ++ (fpX nm (.old d)).2) m m2) : apply G m2 nm d = none := by
  cases d with
  | ld n off sz ag => simp only [apply, blkC_loc (ha n (by simp [fpX]))] at h ⊢; split at h <;> simp_all
  | ldi n off str cnt e sz ag => simp only [apply, blkC_loc (ha n (by simp [fpX]))] at h ⊢; split at h <;> simp_all
  | st n off vs =>
    simp only [apply, blkC_loc (ha n (by simp [fpX]))] at h ⊢
    split at h
    · rename_i g ty cs hb
      have : wrC cs off vs = none := by simpa using h
      simp [this]
    · rfl
  | sti n off str cnt e vs =>
    simp only [apply, blkC_loc (ha n (by simp [fpX]))] at h ⊢
    split at h
    · rename_i g ty cs hb
      split at h
      · rename_i hc
        have : wrsC e off str vs cnt 0 cs = none := by simpa using h
        simp [this]
      · rename_i hc
        simp [hc]
    · rfl
  | _ => simp [applyG] at hg

theorem mapAt_loc {t n : Nat} {key : SV} (h : m2.at n = m.at n) : mapAt P m2 t n key = mapAt P m t n key := by simp only [mapAt, h]
theorem applyN_loc {x : X} {nm : Nat} {g : E} {v : SV} (h : applyN P m nm x = some (g, v, m')) : Loc (fun m => applyN P m nm x) m (fpX nm x) g v m' := by
  cases x with
  | mnew t =>
    simp only [applyN] at h
    split at h
    · rename_i k vs ag hm
      split at h
      · rename_i hc
        simp only [Option.some.injEq, Prod.mk.injEq] at h
        obtain ⟨rfl, rfl, rfl⟩ := h
        refine ⟨by simp, fun k hk => Mem.at_set_other (fun e => hk (by simp [fpX, e])) _, fun m2 hl2 ha => ⟨m2.set nm (some (mkB true, .mp [.i k] vs false ag NILL)), ?_, by simp, fun k hk => at_set_congr (m2 := m2) nm _ hl2 (ha k (by simp [fpX] at hk ⊢; exact hk)), fun k hk => Mem.at_set_other (fun e => hk (by simp [fpX, e])) _⟩⟩
        simp only [applyN, hm]
        rw [if_pos ⟨by rw [hl2]; exact hc.1, by rw [ha nm (by simp [fpX])]; exact hc.2⟩]
      · cases h
    · cases h
  | mlk t n key ok =>
    simp only [applyN] at h
    split at h
    · rename_i g' k vs ag c e hm
      simp only [Option.some.injEq, Prod.mk.injEq] at h
      obtain ⟨rfl, rfl, rfl⟩ := h
      exact Loc.read fun m2 _ ha => by simp only [applyN, mapAt_loc (ha n (by simp)), hm]
    · cases h
  | mup t n key val =>
    simp only [applyN] at h
    split at h
    · rename_i g' k vs ag c e hm
      split at h
      · rename_i es hs
        split at h
        · rename_i hc
          simp only [Option.some.injEq, Prod.mk.injEq] at h
          obtain ⟨rfl, rfl, rfl⟩ := h
          exact Loc.turn fun m2 ha => by simp only [applyN, mapAt_loc ha, hm, hs, if_pos hc]
        · cases h
      · cases h
    · cases h
  | mdl t kt ty n key =>
    simp only [applyN] at h
    split at h
    · rename_i g' k vs ag c e hm
      simp only [Option.some.injEq, Prod.mk.injEq] at h
      obtain ⟨rfl, rfl, rfl⟩ := h
      exact Loc.turn fun m2 ha => by simp only [applyN, mapAt_loc ha, hm]
    · cases h
  | mln t ty n =>
    simp only [applyN] at h
    split at h
    · rename_i g' ks vs kag vag c hn
      split at h
      · rename_i hc
        simp only [Option.some.injEq, Prod.mk.injEq] at h
        obtain ⟨rfl, rfl, rfl⟩ := h
        exact Loc.read fun m2 _ ha => by simp only [applyN, ha n (by simp), hn, if_pos hc]
      · cases h
    · cases h
  | vix t n str l0 lo hi i =>
    simp only [applyN] at h
    split at h
    · rename_i g' ty row own le c hn
      split at h
      · rename_i V hV
        split at h
        · rename_i hc
          simp only [Option.some.injEq, Prod.mk.injEq] at h
          obtain ⟨rfl, rfl, rfl⟩ := h
          exact Loc.read fun m2 _ ha => by
            have hv := (viewL_loc (m2 := m2) hV fun k hk => ha k (by simp [namesV] at hk; simp [hk])).1
            simp only [applyN, ha n (by simp), hn, hv, if_pos hc]
        · cases h
      · cases h
    · cases h
  | clr t ty e n le =>
    simp only [applyN] at h
    split at h
    · rename_i g' e' row le' c hn
      split at h
      · rename_i ks hr
        split at h
        · rename_i hc
          simp only [Option.some.injEq, Prod.mk.injEq] at h
          obtain ⟨rfl, rfl, rfl⟩ := h
          exact Loc.turn fun m2 ha => by simp only [applyN, ha, hn, hr, if_pos hc]
        · cases h
      · cases h
    · cases h
  | lds n off str e sz ag =>
    obtain ⟨rfl, h2⟩ := segLd_loc h
    exact Loc.read fun m2 _ ha => h2 m2 (ha n (by simp))
  | sts n off str e vs =>
    obtain ⟨z, rfl, h2⟩ := segSt_loc h
    exact Loc.turn fun m2 ha => h2 m2 ha
  | _ => simp [applyN] at h

theorem subV_loc {t e : Nat} {x : SV} {lo hi : Option E} {g : E} {v : SV} (h : subV P m t e x lo hi = some (g, v, m')) : m' = m ∧ ∀ m2 : Mem, Agree (namesV x) m m2 → subV P m2 t e x lo hi = some (g, v, m2) := by
  unfold subV at h
  split at h
  · rename_i n le
    split at h
    · rename_i g' ty row le' c hn
      simp only at h
      split at h
      · rename_i hc
        simp only [Option.some.injEq, Prod.mk.injEq] at h
        obtain ⟨rfl, rfl, rfl⟩ := h
        exact ⟨rfl, fun m2 ha => by simp only [subV, ha n (by simp [namesV]), hn, if_pos hc]⟩
      · cases h
    · cases h
  · cases h
theorem subV_none {t e : Nat} {x : SV} {lo hi : Option E} (h : subV P m t e x lo hi = none) {m2 : Mem} (ha : Agree (namesV x) m m2) : subV P m2 t e x lo hi = none := by
  cases x with
  | ls n le => unfold subV at h ⊢; simp only [ha n (by simp [namesV])] at h ⊢; split at h <;> simp_all
  | _ => rfl

theorem applyX_loc {x : X} {nm : Nat} {g : E} {v : SV} (h : applyX P G m nm x = some (g, v, m')) : Loc (fun m => applyX P G m nm x) m (fpX nm x) g v m' := by
  cases x with
  | old d =>
    simp only [applyX] at h
    cases ha : apply G m nm d with
    | some r =>
      rw [ha] at h
      simp only [Option.some.injEq] at h; subst h
      have hL := apply_loc ha
      refine ⟨hL.len, hL.frame, fun m2 hl hag => ?_⟩
      obtain ⟨m2', a1, a2⟩ := hL.loc m2 hl hag
      exact ⟨m2', by simp only [applyX]; rw [a1], a2⟩
    | none =>
      rw [ha] at h
      simp only at h
      have hL := applyG_loc (nm := nm) h
      refine ⟨hL.len, hL.frame, fun m2 hl hag => ?_⟩
      obtain ⟨m2', a1, a2⟩ := hL.loc m2 hl hag
      exact ⟨m2', by simp only [applyX]; rw [apply_none ha (by rw [h]; rfl) hl hag]; exact a1, a2⟩
  | len x =>
    have key : ∀ {ty row}, (viewL m ty row x).map (fun V => (V.g, SV.sc V.le, m)) = some (g, v, m') → m' = m ∧ ∀ m2, Agree (namesV x) m m2 → (viewL m2 ty row x).map (fun V => (V.g, SV.sc V.le, m2)) = some (g, v, m2) := fun {ty row} h => by
      obtain ⟨V, hV, he⟩ := Option.map_eq_some_iff.1 h
      simp only [Prod.mk.injEq] at he
      obtain ⟨rfl, rfl, rfl⟩ := he
      exact ⟨rfl, fun m2 ha => by rw [(viewL_loc hV ha).1]; rfl⟩
    simp only [applyX] at h
    split at h
    · rename_i ty row ht
      obtain ⟨rfl, k⟩ := key h
      exact Loc.read fun m2 _ ha => by simp only [applyX, tyL_loc ha, ht]; exact k m2 ha
    · rename_i ht
      obtain ⟨rfl, k⟩ := key h
      exact Loc.read fun m2 _ ha => by simp only [applyX, tyL_loc ha, ht]; exact k m2 ha
  | lde n str i o sz ag =>
    simp only [applyX] at h
    have hm : m' = m := by
      split at h
      · split at h
        · split at h
          · obtain ⟨u, _, h2⟩ := Option.map_eq_some_iff.1 h; simp only [Prod.mk.injEq] at h2; exact h2.2.2.symm
          · cases h
        · cases h
      · cases h
    subst hm
    refine Loc.read fun m2 _ ha => ?_
    split at h
    · rename_i g' ty row own le c hn
      split at h
      · rename_i ks hr
        split at h
        · rename_i hc
          obtain ⟨u, h1, h2⟩ := Option.map_eq_some_iff.1 h
          simp only [Prod.mk.injEq] at h2
          obtain ⟨rfl, rfl, _⟩ := h2
          simp only [applyX, ha n (by simp), hn, hr]
          rw [if_pos hc]
          simp [h1]
        · cases h
      · cases h
    · cases h
  | ste n str i o cs =>
    simp only [applyX] at h
    split at h
    · rename_i g' ty row le c hn
      split at h
      · rename_i ks hr
        split at h
        · rename_i es he
          split at h
          · rename_i hc
            simp only [Option.some.injEq, Prod.mk.injEq] at h
            obtain ⟨rfl, rfl, rfl⟩ := h
            refine ⟨by simp, fun k hk => Mem.at_set_other (fun e => hk (by simp [fpX, e])) _, fun m2 hl2 ha => ⟨m2.set n (some (g', .lst ty row true le (.app .x 0 6 (c :: i :: .lit .x o :: es)))), ?_, by simp, fun k hk => ?_, fun k hk => Mem.at_set_other (fun e => hk (by simp [fpX, e])) _⟩⟩
            · simp only [applyX, ha n (by simp [fpX]), hn, hr, he, if_pos hc]
            · exact at_set_congr n _ hl2 (ha k (by simp [fpX] at hk ⊢; exact hk))
          · cases h
        · cases h
      · cases h
    · cases h
  | app t e rt x y =>
    simp only [applyX] at h
    split at h
    · rename_i ks hks
      split at h
      · rename_i V size bytes hV hi
        split at h
        · rename_i hc
          have hc' := hc
          obtain ⟨rfl, ho, ht, hn1, hn2⟩ := hc
          have put : ∀ (z : E × Blk) (m2 : Mem), m2.length = m.length → Agree (namesV x ++ namesV y ++ (namesV x ++ [nm])) m m2 → ((killL m2 V.ns).set nm (some z)).length = m2.length ∧ (∀ n ∈ namesV x ++ [nm], Mem.at ((killL m2 V.ns).set nm (some z)) n = Mem.at ((killL m V.ns).set nm (some z)) n) := fun z m2 hl ha => by
            refine ⟨by simp [killL_len], fun n hn => ?_⟩
            have hVn := (viewL_loc (m2 := m) hV fun _ _ => rfl).2
            exact at_set_congr nm _ (by rw [killL_len, killL_len]; exact hl) (killL_congr V.ns hl (fun k hk => ha k (by simp [hVn k hk])) n (ha n (by simp only [List.mem_append] at hn ⊢; exact Or.inr hn)))
          have frm : ∀ (z : E × Blk) (m2 : Mem) n, n ∉ namesV x ++ [nm] → Mem.at ((killL m2 V.ns).set nm (some z)) n = m2.at n := fun z m2 n hn => by
            simp only [List.mem_append, List.mem_singleton, not_or] at hn
            have hVn := (viewL_loc (m2 := m) hV fun _ _ => rfl).2
            rw [Mem.at_set_other (fun e => hn.2 e.symm), killL_other V.ns fun hk => hn.1 (hVn n hk)]
          have pre : ∀ m2 : Mem, m2.length = m.length → Agree (namesV x ++ namesV y ++ (namesV x ++ [nm])) m m2 → tyL m2 x = tyL m x ∧ viewL m2 e (Row.ofKs ks) x = some V ∧ m2.at nm = m.at nm := fun m2 hl ha =>
            ⟨tyL_loc fun n hn => ha n (by simp [hn]), (viewL_loc hV fun n hn => ha n (by simp [hn])).1, ha nm (by simp)⟩
          split at h
          · rename_i n2 len cp
            split at h
            · rename_i g2 ty2 cs hb
              split at h
              · rename_i hl
                obtain ⟨c', hs, he⟩ := Option.map_eq_some_iff.1 h
                simp only [Prod.mk.injEq] at he
                obtain ⟨rfl, rfl, rfl⟩ := he
                refine ⟨by simp [killL_len], fun n hn => frm _ m n hn, fun m2 hl2 ha => ?_⟩
                obtain ⟨p1, p2, p3⟩ := pre m2 hl2 ha
                obtain ⟨q1, q2⟩ := put (mkB true, .lst e (Row.ofKs ks) true (LEN c') c') m2 hl2 ha
                refine ⟨_, ?_, q1, q2, fun n hn => frm _ m2 n hn⟩
                simp only [applyX, p1]
                simp only [hks, p2, hi]
                rw [if_pos ⟨trivial, ho, ht, by omega, by rw [p3]; exact hn2⟩]
                simp only [blkC_loc (ha n2 (by simp [fpX, namesV])), hb, if_pos hl, hs, Option.map_some]
              · cases h
            · cases h
          · rename_i hy
            split at h
            · rename_i V2 hV2
              simp only [Option.some.injEq, Prod.mk.injEq] at h
              obtain ⟨rfl, rfl, rfl⟩ := h
              refine ⟨by simp [killL_len], fun n hn => frm _ m n hn, fun m2 hl2 ha => ?_⟩
              obtain ⟨p1, p2, p3⟩ := pre m2 hl2 ha
              obtain ⟨q1, q2⟩ := put (mkB true, .lst e (Row.ofKs ks) true (LEN (.app .x 0 4 [V.c, V2.c])) (.app .x 0 4 [V.c, V2.c])) m2 hl2 ha
              refine ⟨_, ?_, q1, q2, fun n hn => frm _ m2 n hn⟩
              have hv2 := (viewL_loc (m2 := m2) hV2 fun n hn => ha n (by simp [fpX, hn])).1
              simp only [applyX, p1]
              simp only [hks, p2, hi]
              rw [if_pos ⟨trivial, ho, ht, by omega, by rw [p3]; exact hn2⟩]
              cases y with
              | sl n2 off len cp => simp [viewL] at hV2
              | _ => simp only [hv2]
            · cases h
        · cases h
      · cases h
    · cases h
  | sub t e x lo hi =>
    simp only [applyX] at h
    cases hsv : subV P m t e x lo hi with
    | some r =>
      rw [hsv] at h
      simp only [Option.some.injEq] at h; subst h
      obtain ⟨rfl, h2⟩ := subV_loc hsv
      refine ⟨rfl, fun _ _ => rfl, fun m2 hl ha => ⟨m2, by simp only [applyX]; rw [h2 m2 fun n hn => ha n (by simp [fpX, hn])], rfl, fun n hn => ha n (by simp only [List.mem_append]; exact Or.inr hn), fun _ _ => rfl⟩⟩
    | none =>
    rw [hsv] at h
    simp only at h
    split at h
    · rename_i ty row hrow
      split at h
      · rename_i V0 hV0
        split at h
        · rename_i V hV
          split at h
          · rename_i hc
            simp only [Option.some.injEq, Prod.mk.injEq] at h
            obtain ⟨rfl, rfl, rfl⟩ := h
            have hV0n := (viewL_loc (m2 := m) hV0 fun _ _ => rfl).2
            refine ⟨by simp [shareL_len], fun n hn => ?_, fun m2 hl2 ha => ?_⟩
            · simp only [fpX, List.mem_append, List.mem_singleton, not_or] at hn
              rw [Mem.at_set_other (fun e => hn.2 e.symm), shareL_other V0.ns fun hk => hn.1 (hV0n n hk)]
            · have hAg : ∀ n, n ∈ namesV x ++ [nm] → (shareL m2 V0.ns).at n = (shareL m V0.ns).at n := fun n hn => shareL_congr V0.ns hl2 (fun k hk => ha k (by simp [fpX, hV0n k hk])) n (ha n (by simp only [fpX, List.mem_append] at hn ⊢; exact Or.inr hn))
              refine ⟨(shareL m2 V0.ns).set nm (some (mkB true, .lst e row false (LEN (.app .x 0 5 [V.c, lo.getD (.lit (.i .i64) 0), hi.getD V.le])) (.app .x 0 5 [V.c, lo.getD (.lit (.i .i64) 0), hi.getD V.le]))), ?_, by simp [shareL_len], fun n hn => ?_, fun n hn => ?_⟩
              · have v0 := (viewL_loc (m2 := m2) hV0 fun n hn => ha n (by simp [fpX, hn])).1
                have v1 := (viewL_loc (m2 := shareL m2 V0.ns) hV fun n hn => hAg n (by simp [hn])).1
                simp only [applyX, subV_none hsv (m2 := m2) fun n hn => ha n (by simp [fpX, hn]), tyL_loc (v := x) (m := m) (m2 := m2) fun n hn => ha n (by simp [fpX, hn]), hrow, v0, v1]
                rw [if_pos ⟨hc.1, hc.2.1, hc.2.2.1, by rw [hl2]; exact hc.2.2.2.1, by rw [hAg nm (by simp)]; exact hc.2.2.2.2.1, hc.2.2.2.2.2⟩]
              · exact at_set_congr nm _ (by rw [shareL_len, shareL_len]; exact hl2) (hAg n hn)
              · simp only [fpX, List.mem_append, List.mem_singleton, not_or] at hn
                rw [Mem.at_set_other (fun e => hn.2 e.symm), shareL_other V0.ns fun hk => hn.1 (hV0n n hk)]
          · cases h
        · cases h
      · cases h
    · cases h
  | mk t e n c =>
    simp only [applyX] at h
    split at h
    · rename_i ks size bytes hks hi
      split at h
      · rename_i hc
        simp only [Option.some.injEq, Prod.mk.injEq] at h
        obtain ⟨rfl, rfl, rfl⟩ := h
        refine ⟨by simp, fun k hk => Mem.at_set_other (fun e => hk (by simp [fpX, e])) _, fun m2 hl2 ha => ⟨m2.set nm (some (mkB true, .lst e (Row.ofKs ks) true (LEN (.app .x 0 7 (n :: ks.map fun k => .lit k 0))) (.app .x 0 7 (n :: ks.map fun k => .lit k 0)))), ?_, ?_, fun k hk => at_set_congr (m2 := m2) nm _ hl2 (ha k (by simp [fpX] at hk ⊢; exact hk)), fun k hk => Mem.at_set_other (fun e => hk (by simp [fpX, e])) _⟩⟩
        · simp only [applyX, hks, hi]
          rw [if_pos ⟨hc.1, hc.2.1, hc.2.2.1, hc.2.2.2.1, hc.2.2.2.2.1, by rw [hl2]; exact hc.2.2.2.2.2.1, by rw [ha nm (by simp [fpX])]; exact hc.2.2.2.2.2.2⟩]
        · simp
      · cases h
    · cases h
  | bl e ks cs len =>
    simp only [applyX] at h
    split at h
    · rename_i c' size bytes hks hi
      split at h
      · rename_i hc
        simp only [Option.some.injEq, Prod.mk.injEq] at h
        obtain ⟨rfl, rfl, rfl⟩ := h
        refine ⟨by simp, fun k hk => Mem.at_set_other (fun e => hk (by simp [fpX, e])) _, fun m2 hl2 ha => ⟨m2.set nm (some (mkB true, .lst e (Row.ofKs ks) true (.lit (.i .i64) len) c')), ?_, ?_, fun k hk => at_set_congr (m2 := m2) nm _ hl2 (ha k (by simp [fpX] at hk ⊢; exact hk)), fun k hk => Mem.at_set_other (fun e => hk (by simp [fpX, e])) _⟩⟩
        · simp only [applyX, hks, hi]
          rw [if_pos ⟨hc.1, hc.2.1, by rw [hl2]; exact hc.2.2.1, by rw [ha nm (by simp [fpX])]; exact hc.2.2.2⟩]
        · simp
      · cases h
    · cases h
  | mnew t => exact applyN_loc (P := P) (nm := nm) (x := .mnew t) h
  | mlk t n k ok => exact applyN_loc (P := P) (nm := nm) (x := .mlk t n k ok) h
  | mup t n k w1 => exact applyN_loc (P := P) (nm := nm) (x := .mup t n k w1) h
  | mdl t kt ty n k => exact applyN_loc (P := P) (nm := nm) (x := .mdl t kt ty n k) h
  | mln t ty n => exact applyN_loc (P := P) (nm := nm) (x := .mln t ty n) h
  | vix t n str l0 lo hi i => exact applyN_loc (P := P) (nm := nm) (x := .vix t n str l0 lo hi i) h
  | clr t ty e n le => exact applyN_loc (P := P) (nm := nm) (x := .clr t ty e n le) h
  | lds n off str e sz ag => exact applyN_loc (P := P) (nm := nm) (x := .lds n off str e sz ag) h
  | sts n off str e cs => exact applyN_loc (P := P) (nm := nm) (x := .sts n off str e cs) h
end
end Go.Proofs.Ytmolkkphnehgcaa.Ew

/- One operation of a region: its plan, what it does, what it touches; that it tells what the operation does. -/
set_option linter.unusedVariables false
set_option linter.unusedSimpArgs false
namespace Go.Proofs.Ytmolkkphnehgcaa.Ew
open Go Go.RowKit

abbrev FP := List Nat × List Nat
abbrev Tab := Nat → List Ent
def SumOK (P : Program) (G : Glob) (l : Tabs) (T : Tab) : Prop := ∀ f e, e ∈ T f → e.f = f ∧ l.get e.key = some e ∧ EntryOK P G e

section
variable {m m2 m' : Mem}
theorem viewL_ns {ty : Nat} {row : Row} : ∀ {v : SV} {V : LV}, viewL m ty row v = some V → V.ns = namesV v
  | .ls n le, V, h => by
    simp only [viewL] at h
    split at h
    · split at h
      · simp only [Option.some.injEq] at h; subst h; rfl
      · cases h
    · cases h
  | .sv n str l0 lo hi, V, h => by
    simp only [viewL] at h
    split at h
    · split at h
      · simp only [Option.some.injEq] at h; subst h; rfl
      · cases h
    · cases h
  | .nilp c, V, h => by
    cases c <;> simp only [viewL, Option.some.injEq, reduceCtorEq] at h
    subst h; rfl
  | .ite p a b, V, h => by
    simp only [viewL] at h
    split at h
    · rename_i x y hx hy
      split at h
      · simp only [Option.some.injEq] at h; subst h
        simp only [namesV, viewL_ns hx, viewL_ns hy]
      · cases h
    · cases h
  | .sc _, V, h | .ptr .., V, h | .pi .., V, h | .sl .., V, h | .pe .., V, h | .mp .., V, h | .oq .., V, h | .fn .., V, h | .agg .., V, h | .tup .., V, h | .gd .., V, h | .und, V, h | .gl .., V, h => by simp [viewL] at h

mutual
theorem get_loc : ∀ (s : Sh) (acc : List Src) (v : SV) (r : List E × List Src × E), s.get m acc v = some r → Agree (r.2.1.flatMap Src.ns) m m2 → s.get m2 acc v = some r
  | .sc k, acc, v, r, h, ha => by cases v <;> simp only [Sh.get, reduceCtorEq] at h ⊢; exact h
  | .lt k n, acc, v, r, h, ha => by
    cases v with
    | sc e => cases e <;> simp only [Sh.get, reduceCtorEq] at h ⊢; exact h
    | _ => simp [Sh.get] at h
  | .agg l, acc, v, r, h, ha => by cases v <;> simp only [Sh.get, reduceCtorEq] at h ⊢; exact getL_loc l acc _ r h ha
  | .lst ty row own, acc, v, r, h, ha => by
    have h' : getLst m ty row own v = some r := by cases v <;> simpa only [Sh.get] using h
    have : getLst m2 ty row own v = some r := by
      unfold getLst at h' ⊢
      split at h'
      · rename_i V hV
        split at h'
        · rename_i ho
          simp only [Option.some.injEq] at h'; subst h'
          have := (viewL_loc (m2 := m2) hV (by rw [← viewL_ns hV]; exact fun n hn => ha n (by simp only [List.flatMap_cons, List.flatMap_nil, List.append_nil, Src.ns]; exact mem_dd.2 hn))).1
          simp only [this, if_pos ho]
        · cases h'
      · cases h'
    cases v <;> simpa only [Sh.get] using this
  | .lsn ty row, acc, v, r, h, ha => by
    have h' : getLsn m ty row v = some r := by cases v <;> simpa only [Sh.get] using h
    have h0 := h'
    obtain ⟨n, le, g, c, rfl, hn, rfl, h3, h4, h5⟩ := getLsn_spec h'
    have hx := ha n (by simp [Src.ns])
    have : getLsn m2 ty row (.ls n le) = getLsn m ty row (.ls n le) := by simp only [getLsn, hx]
    simp only [Sh.get, this, h0]
  | .obj ty cs, acc, v, r, h, ha => by
    cases v with
    | ptr n o =>
      cases o with
      | zero =>
        simp only [Sh.get] at h ⊢
        split at h
        · rename_i g ty' vs hb
          split at h
          · rename_i hty
            obtain ⟨q, hq, rfl⟩ := Option.map_eq_some_iff.1 h
            have hn := ha n (by simp [Src.ns])
            have := getL_loc cs _ vs q hq fun k hk => ha k (by simp only [List.flatMap_cons]; exact List.mem_append_right _ hk)
            simp only [blkC_loc hn, hb, if_pos hty, this, Option.map_some]
          · cases h
        · cases h
      | succ o => simp [Sh.get] at h
    | _ => simp [Sh.get] at h
  | .pin j off str, acc, v, r, h, ha => by
    cases v <;> simp only [Sh.get, reduceCtorEq] at h ⊢
    exact h
  | .ref j, acc, v, r, h, ha => by
    cases v with
    | ptr n o =>
      cases o with
      | zero => simp only [Sh.get] at h ⊢; exact h
      | succ o => simp [Sh.get] at h
    | _ => simp [Sh.get] at h
  | .fnc f l, acc, v, r, h, ha => by
    cases v <;> simp only [Sh.get, reduceCtorEq] at h ⊢
    split at h
    · rename_i hf; rw [if_pos hf]; exact getL_loc l acc _ r h ha
    · cases h
  | .nul c, acc, v, r, h, ha => by cases v <;> simp only [Sh.get, reduceCtorEq] at h ⊢; exact h
  | .tup l, acc, v, r, h, ha => by cases v <;> simp only [Sh.get, reduceCtorEq] at h ⊢; exact getL_loc l acc _ r h ha
  | .opt s, acc, v, r, h, ha => by
    have h' : getOpt (mkB true :: s.ks.map fun k => E.lit k 0, List.replicate s.nn Src.dm, mkB true) v (fun u => s.get m acc u) = some r := by cases v <;> simpa only [Sh.get] using h
    have : getOpt (mkB true :: s.ks.map fun k => E.lit k 0, List.replicate s.nn Src.dm, mkB true) v (fun u => s.get m2 acc u) = some r := by
      unfold getOpt at h' ⊢
      split at h'
      · exact h'
      · split at h'
        · rename_i hc
          obtain ⟨q, hq, rfl⟩ := Option.map_eq_some_iff.1 h'
          have hx := get_loc s acc _ q hq ha
          simp only [if_pos hc, hx, Option.map_some]
        · cases h'
      · cases h'
    cases v <;> simpa only [Sh.get] using this
  | .und, acc, v, r, h, ha => by cases v <;> simp only [Sh.get, reduceCtorEq] at h ⊢; exact h
  | .mp ks vs kag vag, acc, v, r, h, ha => by
    cases v <;> simp only [Sh.get, reduceCtorEq] at h ⊢
    case mp k =>
      obtain ⟨g, c, h1, rfl, h3, h4⟩ := getMp_spec h
      have hn := ha _ (by simp only [List.flatMap_cons, Src.ns]; exact List.mem_append_left _ (List.mem_singleton.2 rfl))
      unfold getMp at h ⊢
      rw [hn]; exact h
    case ite p a b =>
      obtain ⟨q, h1, rfl⟩ := Option.map_eq_some_iff.1 h
      have := getMpV_loc h1 fun n hn => ha n (by simp only [List.flatMap_cons, Src.ns]; exact List.mem_append_left _ (mem_dd.2 hn))
      unfold getMpI
      rw [this]; rfl
  | .seg ty ks cs, acc, v, r, h, ha => by
    cases v with
    | ptr n o =>
      cases o with
      | zero =>
        simp only [Sh.get] at h ⊢
        split at h
        · rename_i g ty' vs ks' c hb
          split at h
          · rename_i hty
            obtain ⟨q, hq, rfl⟩ := Option.map_eq_some_iff.1 h
            have hn := ha n (by simp [Src.ns])
            have := getL_loc cs _ vs q hq fun k hk => ha k (by simp only [List.flatMap_cons]; exact List.mem_append_right _ hk)
            have hbb : blkS m2 n = some (g, ty', vs, ks', c) := by unfold blkS at hb ⊢; rw [hn]; exact hb
            simp only [hbb, if_pos hty, this, Option.map_some]
          · cases h
        · cases h
      | succ o => simp [Sh.get] at h
    | _ => simp [Sh.get] at h
theorem getL_loc : ∀ (l : List Sh) (acc : List Src) (vs : List SV) (r : List E × List Src × E), Sh.getL m l acc vs = some r → Agree (r.2.1.flatMap Src.ns) m m2 → Sh.getL m2 l acc vs = some r
  | [], acc, [], r, h, ha => by simp only [Sh.getL] at h ⊢; exact h
  | [], acc, _ :: _, r, h, ha => by simp [Sh.getL] at h
  | _ :: _, acc, [], r, h, ha => by simp [Sh.getL] at h
  | s :: l, acc, v :: vs, r, h, ha => by
    simp only [Sh.getL] at h ⊢
    split at h
    · rename_i es ns g hs
      obtain ⟨q, hq, rfl⟩ := Option.map_eq_some_iff.1 h
      simp only [List.flatMap_append] at ha
      have h1 := get_loc s acc v _ hs ha.left
      have h2 := getL_loc l _ vs q hq ha.right
      simp only [h1, h2, Option.map_some]
    · cases h
end

theorem objSet_loc {srcs : List Src} : ∀ {os : List Ob} {vs : List SV} {l : List (Nat × E × Blk)}, objSet srcs m os vs = some l → Agree (srcs.flatMap Src.ns) m m2 → objSet srcs m2 os vs = some l
  | [], vs, l, h, ha => h
  | o :: r, vs, l, h, ha => by
    simp only [objSet] at h ⊢
    split at h
    · rename_i n hn
      have hx := ha n (List.mem_flatMap.2 ⟨_, List.mem_of_getElem? hn, by simp [Src.ns]⟩)
      split at h
      · rename_i g b0 hm
        split at h
        · rename_i hty
          obtain ⟨l', hl, rfl⟩ := Option.map_eq_some_iff.1 h
          simp only [hn, hx, hm, if_pos hty, objSet_loc hl ha, Option.map_some]
        · cases h
      · cases h
    · cases h

theorem srcOf_sub {srcs : List Src} {j n : Nat} (h : n ∈ srcOf srcs j) : n ∈ srcs.flatMap Src.ns := by
  unfold srcOf at h
  split at h
  · rename_i s hs
    exact List.mem_flatMap.2 ⟨s, List.mem_of_getElem? hs, h⟩
  · cases h

theorem callE_loc {e : Ent} {nm : Nat} {args : List SV} {g : E} {v : SV} (h : callE e m nm args = some (g, v, m')) :
    Loc (fun m => callE e m nm args) m (fpC e m nm args) g v m' ∧ ∀ m2, Agree ((fpC e m nm args).1 ++ (fpC e m nm args).2) m m2 → fpC e m2 nm args = fpC e m nm args := by
  have h0 := h
  unfold callE at h
  split at h
  · rename_i es srcs g0 hget
    simp only at h
    split at h
    · rename_i sets hsets
      split at h
      · rename_i hc
        simp only [Option.some.injEq, Prod.mk.injEq] at h
        obtain ⟨rfl, rfl, rfl⟩ := h
        have hfp : fpC e m nm args = (srcs.flatMap Src.ns, ((mutJ e.pgen.2).filter fun j => !e.kp.contains j).flatMap (srcOf srcs) ++ (List.range (Sh.nnL e.outL)).map fun i => nm + i) := by simp only [fpC, hget]
        have hfp2 : ∀ m2, Agree ((fpC e m nm args).1 ++ (fpC e m nm args).2) m m2 → fpC e m2 nm args = fpC e m nm args := fun m2 ha => by
          rw [hfp] at ha ⊢
          simp only [fpC, getL_loc e.ps [] args _ hget ha.left]
        refine ⟨?_, hfp2⟩
        rw [hfp]
        have hdeadW : ∀ n ∈ ((mutJ e.pgen.2).filter fun j => !e.kp.contains j && !(e.os.any fun o => o.j == j)).flatMap (srcOf srcs), n ∈ ((mutJ e.pgen.2).filter fun j => !e.kp.contains j).flatMap (srcOf srcs) := fun n hn => by
          obtain ⟨j, hj, hjn⟩ := List.mem_flatMap.1 hn
          have hj1 := List.mem_filter.1 hj
          have hj2 := hj1.2
          simp only [Bool.and_eq_true] at hj2
          exact List.mem_flatMap.2 ⟨j, List.mem_filter.2 ⟨hj1.1, hj2.1⟩, hjn⟩
        have hsetW : ∀ y ∈ sets, y.1 ∈ ((mutJ e.pgen.2).filter fun j => !e.kp.contains j).flatMap (srcOf srcs) := fun y hy => by
          obtain ⟨j, b0, X, s1, s2, s4, s5⟩ := objSet_spec hsets y hy
          obtain ⟨o, ho1, ho2⟩ := List.mem_map.1 s2
          have := List.all_eq_true.1 hc.2.2.2.2.2.1 o ho1
          simp only [Bool.and_eq_true, List.contains_iff_mem] at this
          rw [ho2] at this
          exact List.mem_flatMap.2 ⟨j, List.mem_filter.2 ⟨this.1, this.2⟩, by simp [srcOf, s1, Src.ns]⟩
        have hnewW : ∀ y ∈ ((Sh.genL (Ew.evC es (outV e.key nm es e.oks)) (nvC srcs e.nn nm (Sh.nnL e.outL)) e.outL (mkB true) e.np e.nn).2.map fun x => (nvC srcs e.nn nm (Sh.nnL e.outL) x.1, x.2.1, x.2.2)), y.1 ∈ (List.range (Sh.nnL e.outL)).map fun i => nm + i := fun y hy => by
          obtain ⟨x, hx, rfl⟩ := List.mem_map.1 hy
          obtain ⟨⟨a, b⟩, _⟩ := (genL_ok (p := fun _ => True) e.outL (mkB true) e.np e.nn (fun _ _ _ => trivial) (fun _ _ => trivial)).2 x hx
          refine List.mem_map.2 ⟨x.1 - e.nn, List.mem_range.2 (by omega), ?_⟩
          simp only [nvC]
          rw [if_neg (by omega), if_pos (by omega)]
        have frm : ∀ (m2 : Mem) n, n ∉ ((mutJ e.pgen.2).filter fun j => !e.kp.contains j).flatMap (srcOf srcs) ++ ((List.range (Sh.nnL e.outL)).map fun i => nm + i) →
            (setEs (setEs (killL m2 (((mutJ e.pgen.2).filter fun j => !e.kp.contains j && !(e.os.any fun o => o.j == j)).flatMap (srcOf srcs))) sets) ((Sh.genL (Ew.evC es (outV e.key nm es e.oks)) (nvC srcs e.nn nm (Sh.nnL e.outL)) e.outL (mkB true) e.np e.nn).2.map fun x => (nvC srcs e.nn nm (Sh.nnL e.outL) x.1, x.2.1, x.2.2))).at n = m2.at n := fun m2 n hn => by
          simp only [List.mem_append, not_or] at hn
          exact (setEs_other _ fun y hy e' => hn.2 (by rw [← e']; exact hnewW y hy)).trans ((setEs_other _ fun y hy e' => hn.1 (by rw [← e']; exact hsetW y hy)).trans (killL_other _ fun hk => hn.1 (hdeadW n hk)))
        refine ⟨by rw [setEs_len, setEs_len, killL_len], fun n hn => frm m n hn, fun m2 hl ha => ⟨_, ?_, ?_, fun n hn => ?_, fun n hn => frm m2 n hn⟩⟩
        · have hg2 := getL_loc e.ps [] args _ hget ha.left
          have hs2 := objSet_loc hsets ha.left
          have hfree : freeB m2 nm (Sh.nnL e.outL) = true := by
            unfold freeB
            rw [List.all_eq_true]
            intro i hi
            obtain ⟨r1, r2⟩ := freeB_spec hc.2.2.1 (List.mem_range.1 hi)
            have := ha (nm + i) (by simp only [List.mem_append]; exact Or.inr (Or.inr (List.mem_map.2 ⟨i, hi, rfl⟩)))
            rw [this]
            simp only [hl, r1, r2, decide_true, Bool.and_self]
          unfold callE
          simp only [hg2, hs2]
          rw [if_pos ⟨hc.1, hc.2.1, hfree, by rw [hl]; exact hc.2.2.2.1, hc.2.2.2.2⟩]
        · rw [setEs_len, setEs_len, killL_len]
        · refine setEs_congr _ (by rw [setEs_len, setEs_len, killL_len, killL_len]; exact hl) n (setEs_congr _ (by rw [killL_len, killL_len]; exact hl) n (killL_congr _ hl (fun k hk => ha k ?_) n (ha n (List.mem_append_right _ hn))))
          simp only [List.mem_append]
          exact Or.inr (Or.inl (hdeadW k hk))
      · cases h
    · cases h
  · cases h
end
end Go.Proofs.Ytmolkkphnehgcaa.Ew

/- A call that only reads the lists that it is handed, whosever they are: each list is taken for a shared one while the call lasts. -/
set_option linter.unusedVariables false
set_option linter.unusedSimpArgs false
namespace Go.Proofs.Ytmolkkphnehgcaa.Ew
open Go Go.RowKit

mutual
def allN : SV → List Nat
  | .ptr n _ | .pi n _ _ _ | .sl n _ _ _ | .ls n _ | .sv n _ _ _ _ | .pe n _ _ _ | .mp n | .oq n => [n]
  | .fn _ cs | .agg cs | .tup cs => allNL cs
  | .gd _ v => allN v
  | .ite _ a b => allN a ++ allN b
  | _ => []
def allNL : List SV → List Nat
  | [] => []
  | v :: r => allN v ++ allNL r
end
mutual
theorem allN_ok {p : Nat → Prop} : ∀ v : SV, (∀ n ∈ allN v, p n) → v.ok p
  | .ptr n _, h | .pi n _ _ _, h | .sl n _ _ _, h | .ls n _, h | .sv n _ _ _ _, h | .pe n _ _ _, h | .mp n, h | .oq n, h => h n (by simp [allN])
  | .fn _ cs, h | .agg cs, h | .tup cs, h => allNL_ok cs h
  | .gd _ v, h => allN_ok v h
  | .ite _ a b, h => ⟨allN_ok a fun n hn => h n (by simp only [allN]; exact List.mem_append_left _ hn), allN_ok b fun n hn => h n (by simp only [allN]; exact List.mem_append_right _ hn)⟩
  | .sc _, _ | .und, _ | .nilp _, _ | .gl _ _, _ => by simp [SV.ok]
theorem allNL_ok {p : Nat → Prop} : ∀ l : List SV, (∀ n ∈ allNL l, p n) → SV.okL p l
  | [], _ => trivial
  | v :: r, h => ⟨allN_ok v fun n hn => h n (by simp only [allNL]; exact List.mem_append_left _ hn), allNL_ok r fun n hn => h n (by simp only [allNL]; exact List.mem_append_right _ hn)⟩
end


def virtB : Blk → Blk
  | .lst ty row _ le c => .lst ty row false le c
  | _ => .dead
def virt (m : Mem) : Mem := m.map fun x => x.map fun y => (y.1, virtB y.2)
theorem virt_at (m : Mem) (n : Nat) : (virt m).at n = (m.at n).map fun y => (y.1, virtB y.2) := by
  unfold virt Mem.at
  by_cases h : n < m.length
  · simp [List.getD, h]
  · simp [List.getD, List.getElem?_eq_none (show m.length ≤ n by omega)]
theorem virt_len (m : Mem) : (virt m).length = m.length := by simp [virt]
theorem virt_al (m : Mem) (n : Nat) : al (virt m) n ↔ al m n := by unfold al; rw [virt_at, Option.isSome_map]

def isNew (nm k n : Nat) : Bool := decide (nm ≤ n) && decide (n < nm + k)
def copyN (m m1 : Mem) (nm k : Nat) : Mem := zipR (fun n x y => bif isNew nm k n then x else y) 0 m1 m
theorem copyN_len (m m1 : Mem) (nm k : Nat) : (copyN m m1 nm k).length = m.length := zipR_len _ _ _
theorem copyN_at (m m1 : Mem) (nm k n : Nat) (h : n < m.length) : (copyN m m1 nm k).at n = bif isNew nm k n then m1.at n else m.at n := by
  unfold copyN
  rw [zipR_at _ _ _ _ h, Nat.zero_add]
theorem copyN_other (m m1 : Mem) {nm k n : Nat} (h : isNew nm k n = false) : (copyN m m1 nm k).at n = m.at n := by
  by_cases hn : n < m.length
  · rw [copyN_at _ _ _ _ _ hn, h]; rfl
  · have e1 : m.at n = none := by simp [Mem.at, List.getD, List.getElem?_eq_none (show m.length ≤ n by omega)]
    have e3 : (copyN m m1 nm k).at n = none := by simp [Mem.at, List.getD, List.getElem?_eq_none (show (copyN m m1 nm k).length ≤ n by rw [copyN_len]; omega)]
    rw [e1, e3]
def newB (x : Option (E × Blk)) : Bool :=
  match x with
  | some (_, .lst _ row true _ _) => (rowKs row).isSome
  | _ => false
def newOK (m1 : Mem) (nm k : Nat) : Bool := (List.range k).all fun i => decide (nm + i < m1.length) && newB (m1.at (nm + i))

def callP (e : Ent) (m : Mem) (nm : Nat) (args : List SV) : Option (E × SV × Mem) :=
  match callE e (virt m) nm args with
  | some (g, v, m1) => if newOK m1 nm (Sh.nnL e.outL) = true ∧ ((allN v).all fun n => isNew nm (Sh.nnL e.outL) n) = true then some (g, v, copyN m m1 nm (Sh.nnL e.outL)) else none
  | none => none
def callX (lent : Bool) (e : Ent) (m : Mem) (nm : Nat) (args : List SV) : Option (E × SV × Mem) := bif lent then callP e m nm args else callE e m nm args
def fpCX (lent : Bool) (e : Ent) (m : Mem) (nm : Nat) (args : List SV) : List Nat × List Nat := fpC e (bif lent then virt m else m) nm args

section
variable {P : Program} {ρ : Nat → Int} {G : Glob} {w0 w : World} {M0 Im0 Im : Nat → Prop} {ad : Nat → Hd} {m m2 m' : Mem}

theorem isNew_iff {nm k n : Nat} : isNew nm k n = true ↔ nm ≤ n ∧ n < nm + k := by simp [isNew]
theorem newOK_spec {m1 : Mem} {nm k n : Nat} (h : newOK m1 nm k = true) (hn : isNew nm k n = true) : n < m1.length ∧ newB (m1.at n) = true := by
  obtain ⟨a, b⟩ := isNew_iff.1 hn
  have := List.all_eq_true.1 h (n - nm) (List.mem_range.2 (by omega))
  rw [show nm + (n - nm) = n by omega] at this
  simpa using this
theorem newB_spec {x : Option (E × Blk)} (h : newB x = true) : ∃ g ty ks le c, x = some (g, .lst ty (Row.ofKs ks) true le c) := by
  unfold newB at h
  split at h
  · rename_i g ty row le c
    obtain ⟨ks, hk⟩ := Option.isSome_iff_exists.1 h
    exact ⟨g, ty, ks, le, c, by rw [rowKs_eq hk]⟩
  · cases h

theorem virt_rel {F : Fam} (hR : Rel F ρ w0 M0 Im0 ad m w) : Rel F ρ w (fun _ => False) (fun b => b < w.heap.size) ad (virt m) w := by
  obtain ⟨hM, Im, h1, h2, hI⟩ := hR
  refine ⟨fun b hb => hb.elim, fun b => b < w.heap.size, fun b hb => hb, fun b hb => Or.inl hb, ⟨fun n g x hn hg => ?_, fun n g x hn => ?_, fun n k g x g' y b a1 a2 a3 a4 a5 a6 => ?_, fun b hb => hb, Fr.refl _ _⟩⟩
  · rw [virt_at] at hn
    obtain ⟨⟨g0, x0⟩, h0, he⟩ := Option.map_eq_some_iff.1 hn
    simp only [Prod.mk.injEq] at he
    obtain ⟨rfl, rfl⟩ := he
    obtain ⟨i1, i2⟩ := hI.ent n g0 x0 h0 hg
    cases x0 with
    | lst ty row own le c =>
      obtain ⟨j1, j2, j3⟩ := i1
      refine ⟨⟨j1, j2, ?_⟩, fun b hb => by simp [virtB, mutB] at hb⟩
      simp only [cond_false]
      cases own with
      | false =>
        simp only [cond_false] at j3
        exact j3.fr fun b hb => ⟨hI.im b hb, rfl⟩
      | true =>
        simp only [cond_true] at j3
        have hlen : (le.den F ρ).toNat = (dc (c.den F ρ)).length := by rw [j2]; simp
        refine j3.share.fr fun b hb => ⟨?_, rfl⟩
        rcases hb with hb | hb
        · exact hI.im b hb
        · exact (i2 b (by simp only [mutB, hlen]; exact hb)).2.2
    | _ => exact ⟨trivial, fun b hb => by simp [virtB, mutB] at hb⟩
  · rw [virt_at] at hn
    obtain ⟨⟨g0, x0⟩, h0, he⟩ := Option.map_eq_some_iff.1 hn
    simp only [Prod.mk.injEq] at he
    obtain ⟨rfl, rfl⟩ := he
    cases x0 <;> trivial
  · exfalso
    rw [virt_at] at a1
    obtain ⟨⟨g0, x0⟩, h0, he⟩ := Option.map_eq_some_iff.1 a1
    simp only [Prod.mk.injEq] at he
    obtain ⟨rfl, rfl⟩ := he
    cases x0 <;> simp [virtB, mutB] at a5

theorem callP_sound {l : Tabs} {e : Ent} (he : l.get e.key = some e) (hE : EntryOK P G e) (hG : GOK G Im0 w0) (hR : Rel l.F ρ w0 M0 Im0 ad m w) {nm : Nat} {args : List SV} {g : E} {v : SV}
    (h : callP e m nm args = some (g, v, m')) : g.kind = .b ∧ (g.tt l.F ρ = true → Calls P e.f (SV.concL l.F ρ ad args).toArray w fun en w' => ∃ ad', en = .returned (v.conc l.F ρ ad') ∧ Rel l.F ρ w0 M0 Im0 ad' m' w' ∧ Ext ad ad' m m' ∧ v.ok (al m')) := by
  unfold callP at h
  split at h
  · rename_i g1 v1 m1 hc
    split at h
    · rename_i hok
      simp only [Option.some.injEq, Prod.mk.injEq] at h
      obtain ⟨rfl, rfl, rfl⟩ := h
      have hGw := hG.now hR
      have hGV : GOK G (fun b => b < w.heap.size) w := fun F ρ b off v hv => by
        obtain ⟨a, b', c, d⟩ := hGw F ρ b off v hv
        exact ⟨b', b', c, d⟩
      obtain ⟨k1, k2⟩ := callE_sound he hE hGV (virt_rel hR) hc
      refine ⟨k1, fun hg => (k2 hg).mono ?_⟩
      rintro en w' ⟨ad', rfl, r2, r3, r4⟩
      obtain ⟨hM, Im, h1, h2, hI⟩ := hR
      obtain ⟨_, Im1, q1, q2, qI⟩ := r2
      let k := Sh.nnL e.outL
      have hnl : ∀ n, isNew nm k n = true → n < m.length := fun n hn => by
        have hl : m1.length = (virt m).length := (callE_loc hc).1.len
        have := (newOK_spec hok.1 hn).1
        rw [hl, virt_len] at this; exact this
      have hfree : ∀ n, isNew nm k n = true → m.at n = none := fun n hn => by
        have hf : freeB (virt m) nm k = true := by
          have hc' := hc
          unfold callE at hc'
          split at hc'
          · simp only at hc'
            split at hc'
            · split at hc'
              · rename_i hcc; exact hcc.2.2.1
              · cases hc'
            · cases hc'
          · cases hc'
        obtain ⟨a, b⟩ := isNew_iff.1 hn
        have := (freeB_spec hf (i := n - nm) (by omega)).2
        rw [show nm + (n - nm) = n by omega, virt_at] at this
        simpa using this
      have hAt : ∀ n, (copyN m m1 nm k).at n = bif isNew nm k n then m1.at n else m.at n := fun n => by
        cases hn : isNew nm k n
        · rw [copyN_other _ _ hn]; rfl
        · rw [copyN_at _ _ _ _ _ (hnl n hn), hn]
      have hkeep : ∀ n, al m n → al (copyN m m1 nm k) n := fun n hn => by
        unfold al at hn ⊢
        rw [hAt]
        cases hnew : isNew nm k n
        · exact hn
        · rw [hfree n hnew] at hn; cases hn
      have hsame : ∀ n, al m n → ad n = ad' n := fun n hn => r3.same n ((virt_al m n).2 hn)
      have hnewal : ∀ n, isNew nm k n = true → al (copyN m m1 nm k) n := fun n hn => by
        unfold al
        rw [hAt, hn]
        obtain ⟨g', ty, ks, le, c, e'⟩ := newB_spec (newOK_spec hok.1 hn).2
        simp only [cond_true, e']; rfl
      refine ⟨ad', rfl, ⟨hM, Im, h1, h2, ?_⟩, ⟨hsame, hkeep⟩, allN_ok _ fun n hn => hnewal n (List.all_eq_true.1 hok.2 n hn)⟩
      have hnewE : ∀ n g x, (copyN m m1 nm k).at n = some (g, x) → isNew nm k n = true → g.tt l.F ρ = true → BlkOK l.F ρ Im ad' n w' x ∧ ∀ b, mutB l.F ρ ad' n x = some b → w.heap.size ≤ b ∧ b < w'.heap.size := fun n g x hn hnew hg' => by
        rw [hAt, hnew] at hn
        obtain ⟨i1, i2⟩ := qI.ent n g x hn hg'
        obtain ⟨g0, ty, ks, le, c, e'⟩ := newB_spec (newOK_spec hok.1 hnew).2
        simp only [cond_true] at hn
        rw [hn] at e'
        simp only [Option.some.injEq, Prod.mk.injEq] at e'
        obtain ⟨rfl, rfl⟩ := e'
        obtain ⟨j1, j2, j3⟩ := i1
        simp only [cond_true] at j3
        obtain ⟨o1, xs, o2, o3⟩ := j3
        refine ⟨⟨j1, j2, o1, xs, o2, RowsV_any o3⟩, fun b hb => ?_⟩
        obtain ⟨c1, c2, c3⟩ := i2 b hb
        exact ⟨c1.resolve_left fun x => x, c3⟩
      have hw0 := hI.fr.size
      refine hI.step (T := fun _ => False) qI.fr (fun b _ hb => hb.elim) (fun b hb => hb) (fun b hb => Nat.lt_of_lt_of_le (hI.im b hb) qI.fr.size) hsame hkeep (fun n g x hn hg' => ?_) (fun n g x hn => ?_) (fun n k' g x g' y b a1 a2 a3 a4 a5 a6 a7 => ?_)
      · cases hnew : isNew nm k n
        · left
          rw [hAt, hnew] at hn
          refine ⟨⟨g, hn, hg'⟩, fun b hb => ⟨fun x => x, ?_⟩⟩
          exact ((hI.ent n g x hn hg').2 b hb).2.1
        · right
          obtain ⟨i1, i2⟩ := hnewE n g x hn hnew hg'
          refine ⟨i1, fun b hb => ?_⟩
          obtain ⟨j1, j2⟩ := i2 b hb
          exact ⟨⟨Or.inr (by omega), fun hi => by have := hI.im b hi; omega, j2⟩, Or.inr j1⟩
      · cases hnew : isNew nm k n
        · rw [hAt, hnew] at hn
          exact SV.okL_mono hkeep _ (hI.ok n g x hn)
        · rw [hAt, hnew] at hn
          obtain ⟨g0, ty, ks, le, c, e'⟩ := newB_spec (newOK_spec hok.1 hnew).2
          simp only [cond_true] at hn
          rw [hn] at e'
          simp only [Option.some.injEq, Prod.mk.injEq] at e'
          obtain ⟨rfl, rfl⟩ := e'
          trivial
      · have hbig : w.heap.size ≤ b := by
          rcases a7 with a7 | a7
          · exact a7.elim
          · exact a7
        have side : ∀ n g x, (copyN m m1 nm k).at n = some (g, x) → g.tt l.F ρ = true → mutB l.F ρ ad' n x = some b → m1.at n = some (g, x) := fun n g x hn hg' hb => by
          cases hnew : isNew nm k n
          · exfalso
            rw [hAt, hnew] at hn
            simp only [cond_false] at hn
            rw [mutB_congr (hsame n (Mem.at_al hn)).symm] at hb
            have := ((hI.ent n g x hn hg').2 b hb).2.2
            omega
          · rw [hAt, hnew] at hn; exact hn
        exact qI.inj n k' g x g' y b (side n g x a1 a2 a5) a2 (side k' g' y a3 a4 a6) a4 a5 a6
    · cases h
  · cases h

theorem callP_loc {e : Ent} {nm : Nat} {args : List SV} {g : E} {v : SV} (h : callP e m nm args = some (g, v, m')) :
    Loc (fun m => callP e m nm args) m (fpC e (virt m) nm args) g v m' ∧ ∀ m2, Agree ((fpC e (virt m) nm args).1 ++ (fpC e (virt m) nm args).2) m m2 → fpC e (virt m2) nm args = fpC e (virt m) nm args := by
  unfold callP at h
  split at h
  · rename_i g1 v1 m1 hc
    split at h
    · rename_i hok
      simp only [Option.some.injEq, Prod.mk.injEq] at h
      obtain ⟨rfl, rfl, rfl⟩ := h
      obtain ⟨c1, c2⟩ := callE_loc hc
      have hvA : ∀ {L : List Nat} {m2 : Mem}, Agree L m m2 → Agree L (virt m) (virt m2) := fun {L m2} ha n hn => by rw [virt_at, virt_at, ha n hn]
      have hnewfp : ∀ n, isNew nm (Sh.nnL e.outL) n = true → n ∈ (fpC e (virt m) nm args).2 := fun n hn => by
        have hc' := hc
        unfold callE at hc'
        split at hc'
        · rename_i es srcs g0 hget
          simp only [fpC, hget]
          obtain ⟨a, b⟩ := isNew_iff.1 hn
          exact List.mem_append_right _ (List.mem_map.2 ⟨n - nm, List.mem_range.2 (by omega), by omega⟩)
        · cases hc'
      have hnl : ∀ n, isNew nm (Sh.nnL e.outL) n = true → n < m.length := fun n hn => by
        have := (newOK_spec hok.1 hn).1
        rw [c1.len, virt_len] at this; exact this
      refine ⟨⟨copyN_len _ _ _ _, fun n hn => copyN_other _ _ ?_, fun m2 hl ha => ?_⟩, fun m2 ha => c2 _ (hvA ha)⟩
      · cases hnew : isNew nm (Sh.nnL e.outL) n
        · rfl
        · exact (hn (hnewfp n hnew)).elim
      · obtain ⟨m1', r1, r2, r3, r4⟩ := c1.loc (virt m2) (by rw [virt_len, virt_len]; exact hl) (hvA ha)
        have hsame : ∀ n, isNew nm (Sh.nnL e.outL) n = true → m1'.at n = m1.at n := fun n hn => r3 n (hnewfp n hn)
        have hok' : newOK m1' nm (Sh.nnL e.outL) = true := by
          unfold newOK
          rw [List.all_eq_true]
          intro i hi
          have hn : isNew nm (Sh.nnL e.outL) (nm + i) = true := isNew_iff.2 ⟨by omega, by have := List.mem_range.1 hi; omega⟩
          obtain ⟨a, b⟩ := newOK_spec hok.1 hn
          rw [hsame _ hn, b]
          have : nm + i < m1'.length := by rw [r2, virt_len, hl]; exact hnl _ hn
          simp [this]
        refine ⟨copyN m2 m1' nm (Sh.nnL e.outL), ?_, copyN_len _ _ _ _, fun n hn => ?_, fun n hn => copyN_other _ _ ?_⟩
        · unfold callP
          rw [r1]
          simp only
          rw [if_pos ⟨hok', hok.2⟩]
        · cases hnew : isNew nm (Sh.nnL e.outL) n
          · rw [copyN_other _ _ hnew, copyN_other _ _ hnew]
            exact ha n (List.mem_append_right _ hn)
          · rw [copyN_at _ _ _ _ _ (by rw [hl]; exact hnl n hnew), copyN_at _ _ _ _ _ (hnl n hnew), hnew]
            exact hsame n hnew
        · cases hnew : isNew nm (Sh.nnL e.outL) n
          · rfl
          · exact (hn (hnewfp n hnew)).elim
    · cases h
  · cases h

theorem callX_sound {l : Tabs} {lent : Bool} {e : Ent} (he : l.get e.key = some e) (hE : EntryOK P G e) (hG : GOK G Im0 w0) (hR : Rel l.F ρ w0 M0 Im0 ad m w) {nm : Nat} {args : List SV} {g : E} {v : SV}
    (h : callX lent e m nm args = some (g, v, m')) : g.kind = .b ∧ (g.tt l.F ρ = true → Calls P e.f (SV.concL l.F ρ ad args).toArray w fun en w' => ∃ ad', en = .returned (v.conc l.F ρ ad') ∧ Rel l.F ρ w0 M0 Im0 ad' m' w' ∧ Ext ad ad' m m' ∧ v.ok (al m')) := by
  cases lent
  · exact callE_sound he hE hG hR h
  · exact callP_sound he hE hG hR h
theorem callX_loc {lent : Bool} {e : Ent} {nm : Nat} {args : List SV} {g : E} {v : SV} (h : callX lent e m nm args = some (g, v, m')) :
    Loc (fun m => callX lent e m nm args) m (fpCX lent e m nm args) g v m' ∧ ∀ m2, Agree ((fpCX lent e m nm args).1 ++ (fpCX lent e m nm args).2) m m2 → fpCX lent e m2 nm args = fpCX lent e m nm args := by
  cases lent
  · exact callE_loc h
  · exact callP_loc h
end
end Go.Proofs.Ytmolkkphnehgcaa.Ew

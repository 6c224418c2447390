/- The evaluator's state; guards; merging of states; ways out. -/
import Derived.Test.YtmolkkphnehgcaaWU
import Derived.LoopN
set_option linter.unusedVariables false
set_option linter.unusedSimpArgs false
namespace Go.Proofs.Ytmolkkphnehgcaa.Ew
open Go Go.RowKit

/-- Slots: what they hold; none: not known. -/
abbrev Tm := List (Option SV)
def Tm.at (tm : Tm) (i : Nat) : Option SV := tm.getD i none
def setT (tm : Tm) (d : Option Nat) (v : SV) : Tm :=
  match d with
  | some d => tm.set d (some v)
  | none => tm

structure RelT (F : Fam) (ρ : Nat → Int) (ad : Nat → Hd) (m : Mem) (tm : Tm) (a : Act) : Prop where
  defers : a.defers = []
  size : a.tmps.size = tm.length
  slot : ∀ i v, tm.at i = some v → a.tmps[i]? = some (v.conc F ρ ad) ∧ v.ok (al m)

/-- What is known of the slots. -/
abbrev Env := Nat → Option SV
def RelV (F : Fam) (ρ : Nat → Int) (ad : Nat → Hd) (m : Mem) (en : Env) (a : Act) : Prop :=
  ∀ i v, en i = some v → a.tmps[i]? = some (v.conc F ρ ad) ∧ v.ok (al m)

def getOp (tm : Env) : Operand → Option SV
  | .tmp t => tm t
  | .const v => ofVal v
  | .global g => some (.gl g 0)
  | .func f => some (.fn f [])

def getC (cs : List E) (tm : Env) (x : Operand) : Option SV := (getOp tm x).bind (strip cs)

section
variable {P : Program} {F : Fam} {ρ : Nat → Int} {G : Glob} {w0 w : World} {M0 Im0 Im : Nat → Prop} {ad : Nat → Hd} {m : Mem} {tm : Tm} {en : Env} {a : Act}

theorem getOp_spec (hT : RelV F ρ ad m en a) {x : Operand} {v : SV} (h : getOp en x = some v) : a.eval x = v.conc F ρ ad ∧ v.ok (al m) := by
  cases x with
  | tmp t =>
    obtain ⟨h1, h2⟩ := hT t v h
    exact ⟨by simp [Act.eval, h1], h2⟩
  | const u => exact ⟨(ofVal_conc h).symm, ofVal_ok h⟩
  | global g => simp only [getOp, Option.some.injEq] at h; subst h; exact ⟨rfl, trivial⟩
  | func f => simp only [getOp, Option.some.injEq] at h; subst h; exact ⟨rfl, trivial⟩

theorem getC_spec (hT : RelV F ρ ad m en a) {cs : List E} (hc : holds F ρ cs = true) {x : Operand} {v : SV} (h : getC cs en x = some v) : a.eval x = v.conc F ρ ad ∧ v.ok (al m) := by
  obtain ⟨u, h1, h2⟩ := Option.bind_eq_some_iff.1 h
  obtain ⟨i1, i2⟩ := getOp_spec hT h1
  exact ⟨i1.trans (strip_conc h2 hc), strip_ok h2 i2⟩

/-! ### guards -/
inductive Gd where
  | yes
  | no
  | cond (cs : List E)
  deriving Repr, Inhabited

def guardV (want : Bool) : SV → Option Gd
  | .sc e => match e.kind with
    | .b => match e.lit? with
      | some n => some (if i2b n = want then .yes else .no)
      | none => some (.cond [bif want then e else mkNot e])
    | _ => none
  | .gd gs (.sc e) => match e.kind with
    | .b => match e.lit? with
      | some n => some (if i2b n = want then .cond gs else .no)
      | none => some (.cond (gs ++ [bif want then e else mkNot e]))
    | _ => none
  | .und => some .no
  | _ => none
def guardE (ops : Array Oper) (tm : Env) (o : Oper) : Option Gd :=
  match o.guard with
  | none => some .yes
  | some (j, want) => match (ops[j]?).bind (·.dst) with
    | some d => match tm d with
      | some v => guardV want v
      | none => none
    | none => none

def Gd.tt (F : Fam) (ρ : Nat → Int) : Gd → Bool
  | .yes => true
  | .no => false
  | .cond cs => holds F ρ cs

theorem tt_want (e : E) (want : Bool) : (bif want then e else mkNot e).tt F ρ = (e.tt F ρ == want) := by
  cases want
  · simp only [cond_false, (mkNot_spec e F ρ).1]; cases e.tt F ρ <;> rfl
  · simp only [cond_true]; cases e.tt F ρ <;> rfl

theorem guardE_spec (hT : RelV F ρ ad m en a) {ops : Array Oper} {o : Oper} {g : Gd} (h : guardE ops en o = some g) : Region.wanted o (yielded ops a.tmps) = g.tt F ρ := by
  unfold guardE at h
  unfold Region.wanted
  split at h
  · rename_i hg
    simp only [Option.some.injEq] at h; subst h
    simp [hg, Gd.tt]
  · rename_i j want hg
    simp only [hg]
    split at h
    · rename_i d hd
      split at h
      · rename_i v hv
        have i1 := (hT d v hv).1
        have hy : yielded ops a.tmps j = match v.conc F ρ ad with | .bool b => some b | _ => none := by
          unfold yielded
          rw [hd]
          simp only [Option.bind_some, i1]
          cases v.conc F ρ ad <;> rfl
        rw [hy]
        unfold guardV at h
        split at h
        · rename_i e
          split at h
          · rename_i hk
            simp only [SV.conc, E.val_b hk]
            split at h
            · rename_i n hn
              simp only [Option.some.injEq] at h; subst h
              rw [lit?_tt hn]
              by_cases hw : i2b n = want
              · simp [hw, Gd.tt]
              · simp [hw, Gd.tt]
            · simp only [Option.some.injEq] at h; subst h
              simp only [Gd.tt, holds, List.all_cons, List.all_nil, Bool.and_true, tt_want]
              cases e.tt F ρ <;> cases want <;> rfl
          · cases h
        · rename_i gs e
          split at h
          · rename_i hk
            simp only [SV.conc, E.val_b hk]
            split at h
            · rename_i n hn
              simp only [Option.some.injEq] at h; subst h
              rw [lit?_tt hn]
              by_cases hw : i2b n = want
              · rw [if_pos hw]
                simp only [Gd.tt, holds]
                cases hgs : gs.all (fun g => g.tt F ρ)
                · simp [undef]
                · simp [hw]
              · rw [if_neg hw]
                simp only [Gd.tt]
                cases hgs : gs.all (fun g => g.tt F ρ)
                · simp [undef]
                · simp [hw]
            · simp only [Option.some.injEq] at h; subst h
              simp only [Gd.tt, holds, List.all_append, List.all_cons, List.all_nil, Bool.and_true, tt_want]
              cases hgs : gs.all (fun g => g.tt F ρ)
              · simp [undef]
              · cases e.tt F ρ <;> cases want <;> rfl
          · cases h
        · simp only [Option.some.injEq] at h; subst h
          rfl
        · cases h
      · cases h
    · cases h


end
def opPick (cs : List E) (tm : Env) (c a b : Operand) : Option SV :=
  match getC cs tm c with
  | some (.sc ce) => if ce.kind = .b then
      match ce.lit? with
      | some n => bif i2b n then getC cs tm a else getC cs tm b
      | none => match getC (cs ++ [ce]) tm a, getC (cs ++ [mkNot ce]) tm b with
        | some x, some y => some (merge ce x y)
        | _, _ => none
    else none
  | _ => none

def pick? : Op → Option (Operand × Operand × Operand)
  | .pick c a b => some (c, a, b)
  | _ => none

section
variable {P : Program} {F : Fam} {ρ : Nat → Int} {G : Glob} {w0 w : World} {M0 Im0 Im : Nat → Prop} {ad : Nat → Hd} {m : Mem} {tm : Tm} {en : Env} {a : Act}
theorem opPick_spec (hT : RelV F ρ ad m en a) {cs : List E} (hc : holds F ρ cs = true) {x y z : Operand} {v : SV} (h : opPick cs en x y z = some v) :
    (asBool (a.eval x)).run P w = .ok (match a.eval x with | .bool b => b | _ => false) w ∧ (bif (match a.eval x with | .bool b => b | _ => false) then a.eval y else a.eval z) = v.conc F ρ ad ∧ v.ok (al m) := by
  unfold opPick at h
  split at h
  · rename_i ce h1
    split at h
    · rename_i hk
      obtain ⟨e1, _⟩ := getC_spec hT hc h1
      simp only [SV.conc, E.val_b hk] at e1
      rw [e1]
      refine ⟨rfl, ?_⟩
      simp only
      split at h
      · rename_i n hn
        rw [lit?_tt hn]
        cases hi : i2b n <;> rw [hi] at h <;> simp only [cond_true, cond_false] at h ⊢ <;> exact getC_spec hT hc h
      · split at h
        · rename_i u t hu ht
          simp only [Option.some.injEq] at h; subst h
          rw [merge_conc hk]
          have mono : ∀ {q : E} {o : Operand} {s : SV}, getC (cs ++ [q]) en o = some s → s.ok (al m) := fun {q o s} hq => by
            obtain ⟨r, r1, r2⟩ := Option.bind_eq_some_iff.1 hq
            exact strip_ok r2 (getOp_spec hT r1).2
          refine ⟨?_, merge_ok _ _ (mono hu) (mono ht)⟩
          cases hct : ce.tt F ρ
          · simp only [cond_false]
            exact (getC_spec hT (cs := cs ++ [mkNot ce]) (by
              unfold holds at hc ⊢
              simp only [List.all_append, hc, Bool.true_and, List.all_cons, List.all_nil, Bool.and_true, (mkNot_spec ce F ρ).1, hct]
              rfl) ht).1
          · simp only [cond_true]
            exact (getC_spec hT (cs := cs ++ [ce]) (by
              unfold holds at hc ⊢
              simp only [List.all_append, hc, Bool.true_and, List.all_cons, List.all_nil, Bool.and_true, hct]) hu).1
        · cases h
    · cases h
  · cases h

theorem opPick_run (hT : RelV F ρ ad m en a) {cs : List E} (hc : holds F ρ cs = true) {x y z : Operand} {v : SV} (h : opPick cs en x y z = some v) {o : Oper} (ho : o.op = .pick x y z) :
    (execOp a.eval o).run P w = .ok (.value (v.conc F ρ ad)) w ∧ v.ok (al m) := by
  obtain ⟨i1, i2, i3⟩ := opPick_spec (P := P) (w := w) hT hc h
  refine ⟨?_, i3⟩
  simp only [execOp, ho, Sem.run_bind, i1, Result.andThen_ok, Sem.run_pure]
  rw [← i2]
  cases (match a.eval x with | .bool b => b | _ => false) <;> rfl
theorem RelT.ext {ad' : Nat → Hd} {m' : Mem} (hT : RelT F ρ ad m tm a) (h : Ext ad ad' m m') : RelT F ρ ad' m' tm a :=
  ⟨hT.defers, hT.size, fun i v hv => by
    obtain ⟨h1, h2⟩ := hT.slot i v hv
    exact ⟨by rw [h1, SV.conc_congr h.same v h2], SV.ok_mono h.keep v h2⟩⟩

theorem RelT.put (hT : RelT F ρ ad m tm a) (d : Option Nat) {v : SV} (hv : v.ok (al m)) : RelT F ρ ad m (setT tm d v) (a.put d (v.conc F ρ ad)) := by
  cases d with
  | none => exact hT
  | some d =>
    refine ⟨hT.defers, by simp [Act.put, setT, hT.size], fun i u hu => ?_⟩
    simp only [setT, Tm.at, List.getD, List.getElem?_set] at hu
    simp only [Act.put, Array.getElem?_setIfInBounds]
    by_cases hd : d = i
    · subst hd
      rw [hT.size]
      by_cases hl : d < tm.length
      · simp only [if_true, hl, Option.getD_some, Option.some.injEq] at hu ⊢
        subst hu
        exact ⟨rfl, hv⟩
      · simp [hl] at hu
    · simp only [hd, if_false] at hu ⊢
      exact hT.slot i u (by simpa [Tm.at, List.getD] using hu)

theorem RelT.envV (hT : RelT F ρ ad m tm a) : RelV F ρ ad m tm.at a := hT.slot
end

abbrev St := Tm × Mem
def RelS (F : Fam) (ρ : Nat → Int) (w0 : World) (M0 Im0 : Nat → Prop) (ad : Nat → Hd) (s : St) (a : Act) (w : World) : Prop := RelT F ρ ad s.2 s.1 a ∧ Rel F ρ w0 M0 Im0 ad s.2 w

end Go.Proofs.Ytmolkkphnehgcaa.Ew

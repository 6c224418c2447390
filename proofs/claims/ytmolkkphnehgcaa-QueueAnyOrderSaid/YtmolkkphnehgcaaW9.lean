/- Summaries gathered: a list of functions' summaries and of loops' summaries, and what is told from it. -/
import Derived.Test.YtmolkkphnehgcaaW8
set_option linter.unusedVariables false
set_option linter.unusedSimpArgs false
namespace Go.Proofs.Ytmolkkphnehgcaa.Ew
open Go Go.RowKit

structure Ctx where
  fs : List Ent
  ls : List (Nat × List Bool × LEnt)
def Ctx.l (c : Ctx) : Tabs := c.fs ++ c.ls.map fun x => x.2.2.ent
def tabOf (l : List Ent) : Tab := fun f => l.filter fun e => e.f == f
def eqP : List Bool → List Bool → Bool
  | [], [] => true
  | a :: l, b :: r => (a == b) && eqP l r
  | _, _ => false
theorem eqP_eq : ∀ {a b : List Bool}, eqP a b = true → a = b
  | [], [], _ => rfl
  | [], _ :: _, h => by simp [eqP] at h
  | _ :: _, [], h => by simp [eqP] at h
  | a :: l, b :: r, h => by
    simp only [eqP, Bool.and_eq_true, beq_iff_eq] at h
    rw [h.1, eqP_eq h.2]
def ltOf (l : List (Nat × List Bool × LEnt)) : Nat → Loops := fun f p => (l.find? fun x => x.1 == f && eqP x.2.1 p).map fun x => x.2.2
def bodyAt (P : Program) (f : Nat) (p : List Bool) : Code :=
  match P.funcs[f]? with
  | some fn => match fn.body with
    | some c => match codeAt c p with
      | some (.loop b) => b
      | _ => .skip
    | none => .skip
  | none => .skip
def codeAtF (P : Program) (f : Nat) (p : List Bool) : Code :=
  match P.funcs[f]? with
  | some fn => match fn.body with
    | some c => (codeAt c p).getD .skip
    | none => .skip
  | none => .skip
/-- What is told of the code at a path: of a loop, or of a piece. -/
def ItemOK (P : Program) (G : Glob) (f : Nat) (p : List Bool) (le : LEnt) : Prop := CodeOK P G (codeAtF P f p) le
def keysB : List Ent → Bool
  | [] => true
  | e :: r => (!r.any fun x => x.key == e.key) && keysB r

structure Ctx.OK (P : Program) (G : Glob) (c : Ctx) : Prop where
  keys : keysB c.l = true
  fs : ∀ e ∈ c.fs, EntryOK P G e
  ls : ∀ x ∈ c.ls, ItemOK P G x.1 x.2.1 x.2.2

theorem keysB_get : ∀ {l : List Ent}, keysB l = true → ∀ e ∈ l, Tabs.get l e.key = some e
  | [], _, e, he => by cases he
  | x :: r, h, e, he => by
    simp only [keysB, Bool.and_eq_true, Bool.not_eq_true', List.any_eq_false, beq_iff_eq] at h
    rcases List.mem_cons.1 he with rfl | he
    · simp [Tabs.get]
    · have hne : ¬ x.key = e.key := fun e' => h.1 e he e'.symm
      have := keysB_get h.2 e he
      simp only [Tabs.get] at this ⊢
      rw [List.find?_cons_of_neg (by simpa using hne)]
      exact this

section
variable {P : Program} {G : Glob} {c : Ctx}

theorem tabOf_sum (hc : ∀ e ∈ c.fs, EntryOK P G e) {l : Tabs} (hl : ∀ e ∈ c.fs, l.get e.key = some e) : SumOK P G l (tabOf c.fs) := by
  intro f e he
  simp only [tabOf, List.mem_filter, beq_iff_eq] at he
  exact ⟨he.2, hl e he.1, hc e he.1⟩
theorem Ctx.OK.get (hc : c.OK P G) : ∀ e ∈ c.l, c.l.get e.key = some e := keysB_get hc.keys
theorem Ctx.OK.getF (hc : c.OK P G) : ∀ e ∈ c.fs, c.l.get e.key = some e := fun e he => hc.get e (List.mem_append_left _ he)
theorem Ctx.OK.getL (hc : c.OK P G) : ∀ x ∈ c.ls, c.l.get x.2.2.ent.key = some x.2.2.ent := fun x hx => hc.get _ (List.mem_append_right _ (List.mem_map.2 ⟨x, hx, rfl⟩))

theorem ltOf_ok (hc : ∀ x ∈ c.ls, ItemOK P G x.1 x.2.1 x.2.2) {l : Tabs} (hl : ∀ x ∈ c.ls, l.get x.2.2.ent.key = some x.2.2.ent) : LTOK P G l (ltOf c.ls) := by
  intro f fn cd hf hb p le h body hbody
  unfold ltOf at h
  obtain ⟨x, hx, rfl⟩ := Option.map_eq_some_iff.1 h
  have hp := List.find?_some hx
  simp only [Bool.and_eq_true, beq_iff_eq] at hp
  obtain ⟨rfl, hp⟩ := hp
  have hp := eqP_eq hp
  have hm := List.mem_of_find?_eq_some hx
  refine ⟨hl x hm, ?_⟩
  have := hc x hm
  have hbd : codeAtF P x.1 x.2.1 = body := by
    unfold codeAtF
    rw [hp]
    simp only [hf, hb, hbody, Option.getD_some]
  unfold ItemOK at this
  rw [hbd] at this
  exact this

theorem Ctx.OK.entry (hc : c.OK P G) (hm : P.follows .mixedOrders = true) {N n : Nat} {e : Ent} {ob : E} {es : List E} (h : evE P G (tabOf c.fs) (ltOf c.ls) N n e = some (ob, es))
    (hu : ∀ xs, fits e.pks xs → e.pre xs → ob.tt c.l.F (env xs) = true ∧ ∀ (i : Nat) (k : K), e.oks[i]? = some k → k.norm (e.fn i xs) = (es.getD i (mkB false)).den c.l.F (env xs)) : EntryOK P G e :=
  entry_ok hm (tabOf_sum hc.fs hc.getF) (ltOf_ok hc.ls hc.getL) h hu

/-- The loops inside of a loop. -/
def subL (l : List (Nat × List Bool × LEnt)) (f : Nat) (p : List Bool) : Loops := fun q => ltOf l f (p ++ false :: q)
theorem codeAt_app {p q : List Bool} {c b : Code} (h : codeAt c p = some b) : codeAt c (p ++ q) = codeAt b q := by
  induction p generalizing c with
  | nil =>
    have : c = b := by cases c <;> simpa [codeAt] using h
    subst this; rfl
  | cons x p ih =>
    cases c with
    | seq a d => cases x <;> exact ih (by simpa [codeAt] using h)
    | cond o a d => cases x <;> exact ih (by simpa [codeAt] using h)
    | block i a => exact ih (by simpa [codeAt] using h)
    | loop a => exact ih (by simpa [codeAt] using h)
    | _ => simp [codeAt] at h
theorem get_fresh {l : Tabs} {e x : Ent} (h : l.get x.key = some x) (hk : (l.any fun y => y.key == e.key) = false) : Tabs.get (e :: l) x.key = some x := by
  have hx : x ∈ l := List.mem_of_find?_eq_some h
  have hne : ¬ e.key = x.key := fun e' => by
    rw [List.any_eq_false] at hk
    exact hk x hx (by simp [e'])
  simp only [Tabs.get] at h ⊢
  rw [List.find?_cons_of_neg (by simpa using hne)]
  exact h

theorem Ctx.OK.loop (hc : c.OK P G) (hm : P.follows .mixedOrders = true) {N n : Nat} {f : Nat} {p : List Bool} {le : LEnt} {ob : E} {es : List E} (mu : List Int → Nat)
    (hk : (c.l.any fun y => y.key == le.ent.key) = false) (hb : ∃ fn cd b, P.funcs[f]? = some fn ∧ fn.body = some cd ∧ codeAt cd p = some (.loop b))
    (h : evL P G (tabOf c.fs) (evFn P G (tabOf c.fs) (ltOf c.ls) N n) N (subL c.ls f p) le (bodyAt P f p) = some (ob, es))
    (hu : ∀ n xs, fits le.ent.pks xs → le.ent.pre xs → mu xs ≤ n → ob.tt (Tabs.F (enL le mu n :: c.l)) (env xs) = true ∧ ∀ (i : Nat) (k : K), le.ent.oks[i]? = some k → k.norm (le.ent.fn i xs) = (es.getD i (mkB false)).den (Tabs.F (enL le mu n :: c.l)) (env xs)) :
    ItemOK P G f p le := by
  obtain ⟨fn, cd, b, b1, b2, b3⟩ := hb
  have hcf : codeAtF P f p = .loop b := by unfold codeAtF; simp only [b1, b2, b3, Option.getD_some]
  unfold ItemOK
  rw [hcf]
  show LoopOK P G b le
  have hbd : bodyAt P f p = b := by unfold bodyAt; simp only [b1, b2, b3]
  rw [hbd] at h
  have g1 : ∀ n, ∀ e ∈ c.fs, Tabs.get (enL le mu n :: c.l) e.key = some e := fun n e he => get_fresh (e := enL le mu n) (hc.getF e he) hk
  have g2 : ∀ n, ∀ x ∈ c.ls, Tabs.get (enL le mu n :: c.l) x.2.2.ent.key = some x.2.2.ent := fun n x hx => get_fresh (e := enL le mu n) (hc.getL x hx) hk
  have g3 : ∀ n, LTOK P G (enL le mu n :: c.l) (ltOf c.ls) := fun n => ltOf_ok hc.ls (g2 n)
  refine loop_ok hm mu (fun n => tabOf_sum hc.fs (g1 n)) (fun n ρ w0 M0 Im0 hG => evFn_sound hm (tabOf_sum hc.fs (g1 n)) hG (g3 n) _) (fun n => ?_) h hu
  intro q le' hq body hbody
  exact g3 n f fn cd b1 b2 (p ++ false :: q) le' hq body (by rw [codeAt_app b3]; exact hbody)

theorem Ctx.OK.loopR0 (hc : c.OK P G) (hm : P.follows .mixedOrders = true) {N n : Nat} {f : Nat} {p : List Bool} {le : LEnt} {ob : E} {es : List E} (mu : List Int → Nat)
    (hk : (c.l.any fun y => y.key == le.ent.key) = false) (hb : ∃ fn cd b, P.funcs[f]? = some fn ∧ fn.body = some cd ∧ codeAt cd p = some (.loop b))
    (h : evL P G (tabOf c.fs) (evFn P G (tabOf c.fs) (ltOf c.ls) N n) N (subL c.ls f p) le (bodyAt P f p) = some (ob, es))
    (hu : ∀ n xs, fits le.ent.pks xs → le.ent.pre xs → mu xs ≤ n → ∃ ρ : Nat → Int, (∀ i, i < le.ent.np → ρ i = env xs i) ∧ ob.tt (Tabs.F (enL le mu n :: c.l)) ρ = true ∧ ∀ (i : Nat) (k : K), le.ent.oks[i]? = some k → k.norm (le.ent.fn i xs) = (es.getD i (mkB false)).den (Tabs.F (enL le mu n :: c.l)) ρ) :
    ItemOK P G f p le := by
  obtain ⟨fn, cd, b, b1, b2, b3⟩ := hb
  have hcf : codeAtF P f p = .loop b := by unfold codeAtF; simp only [b1, b2, b3, Option.getD_some]
  unfold ItemOK
  rw [hcf]
  show LoopOK P G b le
  have hbd : bodyAt P f p = b := by unfold bodyAt; simp only [b1, b2, b3]
  rw [hbd] at h
  have g1 : ∀ n, ∀ e ∈ c.fs, Tabs.get (enL le mu n :: c.l) e.key = some e := fun n e he => get_fresh (e := enL le mu n) (hc.getF e he) hk
  have g2 : ∀ n, ∀ x ∈ c.ls, Tabs.get (enL le mu n :: c.l) x.2.2.ent.key = some x.2.2.ent := fun n x hx => get_fresh (e := enL le mu n) (hc.getL x hx) hk
  have g3 : ∀ n, LTOK P G (enL le mu n :: c.l) (ltOf c.ls) := fun n => ltOf_ok hc.ls (g2 n)
  refine loop_okR hm mu (fun n => tabOf_sum hc.fs (g1 n)) (fun n ρ w0 M0 Im0 hG => evFn_sound hm (tabOf_sum hc.fs (g1 n)) hG (g3 n) _) (fun n => ?_) h hu
  intro q le' hq body hbody
  exact g3 n f fn cd b1 b2 (p ++ false :: q) le' hq body (by rw [codeAt_app b3]; exact hbody)

/-- The summaries inside of a piece of code. -/
def subP (l : List (Nat × List Bool × LEnt)) (f : Nat) (p : List Bool) : Loops := fun q => match q with
  | [] => none
  | _ :: _ => ltOf l f (p ++ q)
theorem Ctx.OK.piece (hc : c.OK P G) (hm : P.follows .mixedOrders = true) {N n : Nat} {f : Nat} {p : List Bool} {le : LEnt} {ob : E} {es : List E}
    (hb : ∃ fn cd b, P.funcs[f]? = some fn ∧ fn.body = some cd ∧ codeAt cd p = some b)
    (h : evP P G (tabOf c.fs) (evFn P G (tabOf c.fs) (ltOf c.ls) N n) N (subP c.ls f p) le (codeAtF P f p) = some (ob, es))
    (hu : ∀ xs, fits le.ent.pks xs → le.ent.pre xs → ∃ ρ : Nat → Int, (∀ i, i < le.ent.np → ρ i = env xs i) ∧ ob.tt c.l.F ρ = true ∧ ∀ (i : Nat) (k : K), le.ent.oks[i]? = some k → k.norm (le.ent.fn i xs) = (es.getD i (mkB false)).den c.l.F ρ) :
    ItemOK P G f p le := by
  obtain ⟨fn, cd, b, b1, b2, b3⟩ := hb
  have hcf : codeAtF P f p = b := by unfold codeAtF; simp only [b1, b2, b3, Option.getD_some]
  have g3 : LTOK P G c.l (ltOf c.ls) := ltOf_ok hc.ls hc.getL
  refine piece_okR hm (tabOf_sum hc.fs hc.getF) (fun ρ w0 M0 Im0 hG => evFn_sound hm (tabOf_sum hc.fs hc.getF) hG g3 _) ?_ h hu
  intro q le' hq body hbody
  rw [hcf] at hbody
  cases q with
  | nil => cases hq
  | cons x q => exact g3 f fn cd b1 b2 (p ++ x :: q) le' hq body (by rw [codeAt_app b3]; exact hbody)

/-- The outputs, one by one. -/
def outsP (fn : Nat → List Int → Int) (xs : List Int) (F : Fam) (ρ : Nat → Int) : Nat → List K → List E → Prop
  | _, [], _ => True
  | j, k :: ks, es => k.norm (fn j xs) = (es.headD (mkB false)).den F ρ ∧ outsP fn xs F ρ (j + 1) ks es.tail
theorem outsP_get {fn : Nat → List Int → Int} {xs : List Int} {F : Fam} {ρ : Nat → Int} : ∀ {ks : List K} {es : List E} {j : Nat}, outsP fn xs F ρ j ks es → ∀ (i : Nat) (k : K), ks[i]? = some k → k.norm (fn (j + i) xs) = (es.getD i (mkB false)).den F ρ
  | [], es, j, h, i, k, hi => by simp at hi
  | k' :: ks, es, j, h, 0, k, hi => by
    simp only [List.getElem?_cons_zero, Option.some.injEq] at hi
    subst hi
    have := h.1
    cases es <;> simpa using this
  | k' :: ks, es, j, h, i + 1, k, hi => by
    have := outsP_get h.2 i k (by simpa using hi)
    rw [show j + 1 + i = j + (i + 1) by omega] at this
    cases es with
    | nil => simpa using this
    | cons x es => simpa using this
theorem Ctx.OK.entryP (hc : c.OK P G) (hm : P.follows .mixedOrders = true) {N n : Nat} {e : Ent} {ob : E} {es : List E} (h : evE P G (tabOf c.fs) (ltOf c.ls) N n e = some (ob, es)) (ks : List K) (hks : e.pks = ks) (os : List K) (hos : e.oks = os)
    (hu : ∀ xs, fits ks xs → e.pre xs → ob.tt c.l.F (env xs) = true ∧ outsP e.fn xs c.l.F (env xs) 0 os es) : EntryOK P G e := by
  subst hks; subst hos
  exact hc.entry hm h fun xs hf hp => ⟨(hu xs hf hp).1, fun i k hi => by simpa using outsP_get (hu xs hf hp).2 i k hi⟩
theorem Ctx.OK.loopP (hc : c.OK P G) (hm : P.follows .mixedOrders = true) {N n : Nat} {f : Nat} {p : List Bool} {le : LEnt} {ob : E} {es : List E} (mu : List Int → Nat)
    (hk : (c.l.any fun y => y.key == le.ent.key) = false) (hb : ∃ fn cd b, P.funcs[f]? = some fn ∧ fn.body = some cd ∧ codeAt cd p = some (.loop b))
    (h : evL P G (tabOf c.fs) (evFn P G (tabOf c.fs) (ltOf c.ls) N n) N (subL c.ls f p) le (bodyAt P f p) = some (ob, es)) (ks : List K) (hks : le.ent.pks = ks) (os : List K) (hos : le.ent.oks = os)
    (hu : ∀ n xs, fits ks xs → le.ent.pre xs → mu xs ≤ n → ob.tt (Tabs.F (enL le mu n :: c.l)) (env xs) = true ∧ outsP le.ent.fn xs (Tabs.F (enL le mu n :: c.l)) (env xs) 0 os es) :
    ItemOK P G f p le := by
  subst hks; subst hos
  exact hc.loop hm mu hk hb h fun n xs hf hp hmu => ⟨(hu n xs hf hp hmu).1, fun i k hi => by simpa using outsP_get (hu n xs hf hp hmu).2 i k hi⟩

theorem Ctx.OK.loopR (hc : c.OK P G) (hm : P.follows .mixedOrders = true) {N n : Nat} {f : Nat} {p : List Bool} {le : LEnt} {ob : E} {es : List E} (mu : List Int → Nat)
    (hk : (c.l.any fun y => y.key == le.ent.key) = false) (hb : ∃ fn cd b, P.funcs[f]? = some fn ∧ fn.body = some cd ∧ codeAt cd p = some (.loop b))
    (h : evL P G (tabOf c.fs) (evFn P G (tabOf c.fs) (ltOf c.ls) N n) N (subL c.ls f p) le (bodyAt P f p) = some (ob, es)) (ks : List K) (hks : le.ent.pks = ks) (os : List K) (hos : le.ent.oks = os)
    (hu : ∀ n xs, fits ks xs → le.ent.pre xs → mu xs ≤ n → ∃ ρ : Nat → Int, (∀ i, i < ks.length → ρ i = env xs i) ∧ ob.tt (Tabs.F (enL le mu n :: c.l)) ρ = true ∧ outsP le.ent.fn xs (Tabs.F (enL le mu n :: c.l)) ρ 0 os es) :
    ItemOK P G f p le := by
  subst hks; subst hos
  refine hc.loopR0 hm mu hk hb h fun n xs hf hp hmu => ?_
  obtain ⟨ρ, u1, u2, u3⟩ := hu n xs hf hp hmu
  exact ⟨ρ, u1, u2, fun i k hi => by simpa using outsP_get u3 i k hi⟩

theorem Ctx.OK.pieceP (hc : c.OK P G) (hm : P.follows .mixedOrders = true) {N n : Nat} {f : Nat} {p : List Bool} {le : LEnt} {ob : E} {es : List E}
    (hb : ∃ fn cd b, P.funcs[f]? = some fn ∧ fn.body = some cd ∧ codeAt cd p = some b)
    (h : evP P G (tabOf c.fs) (evFn P G (tabOf c.fs) (ltOf c.ls) N n) N (subP c.ls f p) le (codeAtF P f p) = some (ob, es)) (ks : List K) (hks : le.ent.pks = ks) (os : List K) (hos : le.ent.oks = os)
    (hu : ∀ xs, fits ks xs → le.ent.pre xs → ob.tt c.l.F (env xs) = true ∧ outsP le.ent.fn xs c.l.F (env xs) 0 os es) :
    ItemOK P G f p le := by
  subst hks; subst hos
  exact hc.piece hm hb h fun xs hf hp => ⟨env xs, fun _ _ => rfl, (hu xs hf hp).1, fun i k hi => by simpa using outsP_get (hu xs hf hp).2 i k hi⟩
theorem Ctx.OK.pieceR (hc : c.OK P G) (hm : P.follows .mixedOrders = true) {N n : Nat} {f : Nat} {p : List Bool} {le : LEnt} {ob : E} {es : List E}
    (hb : ∃ fn cd b, P.funcs[f]? = some fn ∧ fn.body = some cd ∧ codeAt cd p = some b)
    (h : evP P G (tabOf c.fs) (evFn P G (tabOf c.fs) (ltOf c.ls) N n) N (subP c.ls f p) le (codeAtF P f p) = some (ob, es)) (ks : List K) (hks : le.ent.pks = ks) (os : List K) (hos : le.ent.oks = os)
    (hu : ∀ xs, fits ks xs → le.ent.pre xs → ∃ ρ : Nat → Int, (∀ i, i < ks.length → ρ i = env xs i) ∧ ob.tt c.l.F ρ = true ∧ outsP le.ent.fn xs c.l.F ρ 0 os es) :
    ItemOK P G f p le := by
  subst hks; subst hos
  refine hc.piece hm hb h fun xs hf hp => ?_
  obtain ⟨ρ, u1, u2, u3⟩ := hu xs hf hp
  exact ⟨ρ, u1, u2, fun i k hi => by simpa using outsP_get u3 i k hi⟩
theorem Ctx.OK.entryR (hc : c.OK P G) (hm : P.follows .mixedOrders = true) {N n : Nat} {e : Ent} {ob : E} {es : List E} (h : evE P G (tabOf c.fs) (ltOf c.ls) N n e = some (ob, es)) (ks : List K) (hks : e.pks = ks) (os : List K) (hos : e.oks = os)
    (hu : ∀ xs, fits ks xs → e.pre xs → ∃ ρ : Nat → Int, (∀ i, i < ks.length → ρ i = env xs i) ∧ ob.tt c.l.F ρ = true ∧ outsP e.fn xs c.l.F ρ 0 os es) : EntryOK P G e := by
  subst hks; subst hos
  refine entry_okR hm (tabOf_sum hc.fs hc.getF) (ltOf_ok hc.ls hc.getL) h fun xs hf hp => ?_
  obtain ⟨ρ, u1, u2, u3⟩ := hu xs hf hp
  exact ⟨ρ, u1, u2, fun i k hi => by simpa using outsP_get u3 i k hi⟩

theorem Ctx.OK.addF (hc : c.OK P G) {e : Ent} (h : EntryOK P G e) (hk : (c.l.any fun y => y.key == e.key) = false) : Ctx.OK P G ⟨e :: c.fs, c.ls⟩ := by
  refine ⟨?_, fun x hx => ?_, hc.ls⟩
  · show keysB (e :: c.l) = true
    simp only [keysB, hk, Bool.not_false, Bool.true_and]
    exact hc.keys
  · rcases List.mem_cons.1 hx with rfl | hx
    · exact h
    · exact hc.fs x hx
theorem keysB_ins : ∀ {a b : List Ent} {e : Ent}, keysB (a ++ b) = true → ((a ++ b).any fun y => y.key == e.key) = false → keysB (a ++ e :: b) = true
  | [], b, e, h, hk => by simp only [List.nil_append, keysB, hk, Bool.not_false, Bool.true_and] at *; exact h
  | x :: a, b, e, h, hk => by
    simp only [List.cons_append, keysB, Bool.and_eq_true, List.any_cons, Bool.or_eq_false_iff, Bool.not_eq_true'] at h hk ⊢
    refine ⟨?_, keysB_ins h.2 hk.2⟩
    have h1 := h.1
    simp only [List.any_append, Bool.or_eq_false_iff, List.any_cons] at h1 ⊢
    refine ⟨h1.1, ?_, h1.2⟩
    have := hk.1
    simp only [beq_eq_false_iff_ne, ne_eq] at this ⊢
    exact fun e' => this e'.symm
theorem Ctx.OK.addL (hc : c.OK P G) {f : Nat} {p : List Bool} {le : LEnt} (h : ItemOK P G f p le) (hk : (c.l.any fun y => y.key == le.ent.key) = false) : Ctx.OK P G ⟨c.fs, (f, p, le) :: c.ls⟩ := by
  refine ⟨?_, hc.fs, fun x hx => ?_⟩
  · show keysB (c.fs ++ le.ent :: c.ls.map fun x => x.2.2.ent) = true
    exact keysB_ins hc.keys hk
  · rcases List.mem_cons.1 hx with rfl | hx
    · exact h
    · exact hc.ls x hx
theorem Ctx.OK.nil : Ctx.OK P G ⟨[], []⟩ := ⟨rfl, fun _ h => (by cases h), fun _ h => (by cases h)⟩
/-- The same summaries in another order, or fewer. -/
theorem Ctx.OK.sub (hc : c.OK P G) {d : Ctx} (hk : keysB d.l = true) (h1 : ∀ e ∈ d.fs, e ∈ c.fs) (h2 : ∀ x ∈ d.ls, x ∈ c.ls) : Ctx.OK P G d := ⟨hk, fun e he => hc.fs e (h1 e he), fun x hx => hc.ls x (h2 x hx)⟩
end

/-! ### reading expressions -/
theorem i64w {z : Int} (h1 : -9223372036854775808 ≤ z) (h2 : z ≤ 9223372036854775807) : IntKind.i64.wrap z = z := by rw [IntKind.wrap_i64]; omega
theorem i64r {z : Int} (h : IntKind.i64.wrap z = z) : -9223372036854775808 ≤ z ∧ z ≤ 9223372036854775807 := by rw [IntKind.wrap_i64] at h; omega
theorem tt_and (a b : E) (F : Fam) (ρ : Nat → Int) : (E.and a b).tt F ρ = (a.tt F ρ && b.tt F ρ) := by simp [E.tt, E.den]
theorem tt_or (a b : E) (F : Fam) (ρ : Nat → Int) : (E.or a b).tt F ρ = (a.tt F ρ || b.tt F ρ) := by simp [E.tt, E.den]
theorem tt_not (a : E) (F : Fam) (ρ : Nat → Int) : (E.not a).tt F ρ = !a.tt F ρ := by simp [E.tt, E.den]
theorem tt_cmp (op : BinOp) (a b : E) (F : Fam) (ρ : Nat → Int) : (E.cmp op a b).tt F ρ = cmpB op (a.den F ρ) (b.den F ρ) := by simp [E.tt, E.den]
theorem tt_lit (n : Int) (F : Fam) (ρ : Nat → Int) : (E.lit .b n).tt F ρ = decide (n ≠ 0) := by
  by_cases h : n = 0 <;> simp [E.tt, E.den, K.norm, i2b, h]
theorem tt_ite (c a b : E) (F : Fam) (ρ : Nat → Int) : (E.ite c a b).tt F ρ = bif c.tt F ρ then a.tt F ρ else b.tt F ρ := by
  simp only [E.tt, E.den]; cases i2b (c.den F ρ) <;> rfl
theorem den_cmp (op : BinOp) (a b : E) (F : Fam) (ρ : Nat → Int) : (E.cmp op a b).den F ρ = b2i (cmpB op (a.den F ρ) (b.den F ρ)) := rfl
theorem den_not (a : E) (F : Fam) (ρ : Nat → Int) : (E.not a).den F ρ = b2i (!a.tt F ρ) := rfl
theorem den_and (a b : E) (F : Fam) (ρ : Nat → Int) : (E.and a b).den F ρ = b2i (a.tt F ρ && b.tt F ρ) := rfl
theorem den_or (a b : E) (F : Fam) (ρ : Nat → Int) : (E.or a b).den F ρ = b2i (a.tt F ρ || b.tt F ρ) := rfl
theorem den_ite (c a b : E) (F : Fam) (ρ : Nat → Int) : (E.ite c a b).den F ρ = bif c.tt F ρ then a.den F ρ else b.den F ρ := rfl
theorem den_lit (k : K) (n : Int) (F : Fam) (ρ : Nat → Int) : (E.lit k n).den F ρ = k.norm n := rfl
theorem den_var (k : K) (i : Nat) (F : Fam) (ρ : Nat → Int) : (E.var k i).den F ρ = k.norm (ρ i) := rfl
theorem den_bin (op : BinOp) (k : IntKind) (a b : E) (F : Fam) (ρ : Nat → Int) : (E.bin op k a b).den F ρ = binI op k (a.den F ρ) (b.den F ρ) := rfl
theorem den_dv (op : BinOp) (k : IntKind) (a : E) (n : Int) (F : Fam) (ρ : Nat → Int) : (E.dv op k a n).den F ρ = dvI op k (a.den F ρ) n := rfl
theorem den_sh (op : BinOp) (k : IntKind) (a b : E) (F : Fam) (ρ : Nat → Int) : (E.sh op k a b).den F ρ = shI op k (a.den F ρ) (b.den F ρ) := rfl
theorem den_conv (k : IntKind) (a : E) (F : Fam) (ρ : Nat → Int) : (E.conv k a).den F ρ = k.wrap (a.den F ρ) := rfl
theorem den_app (k : K) (f j : Nat) (as : List E) (F : Fam) (ρ : Nat → Int) : (E.app k f j as).den F ρ = k.norm (F f j (as.map (E.den F ρ))) := by simp only [E.den, denL_eq]
theorem tt_app (f j : Nat) (as : List E) (F : Fam) (ρ : Nat → Int) : (E.app .b f j as).tt F ρ = i2b (K.b.norm (F f j (as.map (E.den F ρ)))) := by simp only [E.tt, E.den, denL_eq]
theorem tt_var (i : Nat) (F : Fam) (ρ : Nat → Int) : (E.var .b i).tt F ρ = i2b (ρ i) := by
  by_cases h : ρ i = 0 <;> simp [E.tt, E.den, K.norm, i2b, h]
theorem tt_pre {l : Tabs} (e : Ent) {key : Nat} {args : List E} {ρ : Nat → Int} (hk : e.key = key) (he : l.get key = some e) (h : key ≠ 0) (hp : e.pre (args.map (E.den l.F ρ))) : (E.app .b key preC args).tt l.F ρ = true := by
  subst hk
  have := (Tabs.F_pre (xs := args.map (E.den l.F ρ)) he h rfl).2 hp
  simpa only [E.tt, E.den, denL_eq] using this
theorem norm_i (k : IntKind) (n : Int) : K.norm (.i k) n = k.wrap n := rfl
theorem nb1 : K.b.norm 1 = 1 := rfl
theorem nb0 : K.b.norm 0 = 0 := rfl
theorem i2b1 : i2b 1 = true := rfl
theorem i2b0 : i2b 0 = false := rfl
theorem bt : b2i true = 1 := rfl
theorem bf : b2i false = 0 := rfl
theorem norm_x (n : Int) : K.norm .x n = n := rfl
theorem F_bi (l : Tabs) (j : Nat) (xs : List Int) : l.F 0 j xs = bi j xs := l.BI j xs
theorem F_fn {l : Tabs} (e : Ent) {key : Nat} (hk : e.key = key) (he : l.get key = some e) (h : key ≠ 0) {j : Nat} (hj : (j == preC) = false) (xs : List Int) : l.F key j xs = e.fn j xs := by
  subst hk
  exact Tabs.F_fn he h (by simpa using hj) xs
open Classical in
theorem F_p {l : Tabs} (e : Ent) {key : Nat} (hk : e.key = key) (he : l.get key = some e) (h : key ≠ 0) (xs : List Int) : i2b (K.b.norm (l.F key 1000000 xs)) = decide (e.pre xs) := by
  subst hk
  have := Tabs.F_pre (xs := xs) he h rfl
  by_cases hp : e.pre xs
  · simp only [hp, decide_true]; exact this.2 hp
  · simp only [hp, decide_false]
    rw [← Bool.not_eq_true]
    exact fun h => hp (this.1 h)
/-- What the family says of a loop's own next round. -/
theorem self_F (le : LEnt) (mu : List Int → Nat) (n : Nat) (l0 : Tabs) (hk : le.ent.key ≠ 0) : ∃ l : Tabs, enL le mu n :: l0 = l ∧ (∀ j, (j == preC) = false → ∀ xs, l.F le.ent.key j xs = le.ent.fn j xs) ∧
    (∀ xs, le.ent.pre xs ∧ mu xs < n → i2b (K.b.norm (l.F le.ent.key 1000000 xs)) = true) ∧
    ∀ e : Ent, l0.get e.key = some e → e.key ≠ le.ent.key → e.key ≠ 0 → (∀ j, (j == preC) = false → ∀ xs, l.F e.key j xs = e.fn j xs) ∧ ∀ xs, e.pre xs → i2b (K.b.norm (l.F e.key 1000000 xs)) = true := by
  have g : Tabs.get (enL le mu n :: l0) le.ent.key = some (enL le mu n) := by simp [Tabs.get, enL]
  refine ⟨_, rfl, fun j hj xs => F_fn (enL le mu n) rfl g hk hj xs, fun xs h => (Tabs.F_pre (e := enL le mu n) g hk rfl).2 h, fun e he h1 h2 => ?_⟩
  have ge : Tabs.get (enL le mu n :: l0) e.key = some e := by
    have : (le.ent.key == e.key) = false := by simpa using fun e' => h1 e'.symm
    simp only [Tabs.get, enL, List.find?_cons, this]
    exact he
  exact ⟨fun j hj xs => F_fn e rfl ge h2 hj xs, fun xs h => (Tabs.F_pre ge h2 rfl).2 h⟩
theorem ctx_F {l0 : Tabs} : ∃ l : Tabs, l0 = l ∧ ∀ e : Ent, l0.get e.key = some e → e.key ≠ 0 → (∀ j, (j == preC) = false → ∀ xs, l.F e.key j xs = e.fn j xs) ∧ ∀ xs, e.pre xs → i2b (K.b.norm (l.F e.key 1000000 xs)) = true :=
  ⟨_, rfl, fun e ge h2 => ⟨fun j hj xs => F_fn e rfl ge h2 hj xs, fun xs h => (Tabs.F_pre ge h2 rfl).2 h⟩⟩
end Go.Proofs.Ytmolkkphnehgcaa.Ew

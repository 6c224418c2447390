/- Loops by summaries. -/
import Derived.Test.YtmolkkphnehgcaaW4
set_option linter.unusedVariables false
set_option linter.unusedSimpArgs false
namespace Go.Proofs.Ytmolkkphnehgcaa.Ew
open Go Go.RowKit

/-- A summary of a loop: the slots it takes (the parameters), those it gives (behind the labels' bits), those it may write besides, the ways out. -/
structure LEnt where
  ent : Ent
  sl : List Nat
  so : List Nat
  wr : List Nat
  labs : List Lab
  nt : Nat
  shr : List Nat

def dtOf : List Lab → List SV → Option (DT × List SV)
  | [], _ => none
  | [l], vs => some (.leaf l, vs)
  | l :: k :: ls, .sc e :: vs => if e.kind = .b then (dtOf (k :: ls) vs).map fun r => (.br e (.leaf l) r.1, r.2) else none
  | _ :: _ :: _, _ => none
def labV : List Lab → List Value → Option (Lab × List Value)
  | [], _ => none
  | [l], vs => some (l, vs)
  | l :: k :: ls, .bool b :: vs => (labV (k :: ls) vs).map fun r => (bif b then l else r.1, r.2)
  | _ :: _ :: _, _ => none
def setSl : List Nat → List SV → Tm → Option Tm
  | [], [], tm => some tm
  | t :: ts, v :: vs, tm => if t < tm.length ∧ !ts.contains t = true then setSl ts vs (tm.set t (some v)) else none
  | _, _, _ => none
def clrSl : List Nat → Tm → Tm
  | [], tm => tm
  | t :: ts, tm => clrSl ts (tm.set t none)
def getSl (tm : Tm) : List Nat → Option (List SV)
  | [] => some []
  | t :: ts => match tm.at t, getSl tm ts with
    | some v, some l => some (v :: l)
    | _, _ => none
def callF (e : Ent) (m : Mem) (nm : Nat) (args : List SV) (fo : Bool) : Option (E × SV × Mem) :=
  (callE e m nm (fArgs fo args)).map fun r => (andB (bif fo then forceL args else mkB true) r.1, r.2.1, r.2.2)
def callFF (e : Ent) (m : Mem) (nm : Nat) (args : List SV) : Option (E × SV × Mem) :=
  match callF e m nm args false with
  | some r => some r
  | none => callF e m nm args true
/-- The names of the lists in these slots. -/
def shrN (tm : Tm) (l : List Nat) : List Nat := l.filterMap fun t => match tm.at t with
  | some (.ls n _) => some n
  | _ => none
def callL (le : LEnt) (s : St) : Option (E × Out) :=
  match (if s.1.length = le.nt then getSl s.1 le.sl else none) with
  | some args => match callFF le.ent (shareL s.2 (shrN s.1 le.shr) ++ List.replicate (Sh.nnL le.ent.outL) none) s.2.length args with
    | some (g, .tup vs, m') => match dtOf le.labs vs with
      | some (d, us) => match setSl le.so us (clrSl le.wr s.1) with
        | some tm' => some (g, d, le.labs.map fun l => (l, (tm', m')))
        | none => none
      | none => none
    | _ => none
  | none => none

/-- What a loop's summary says. -/
def LoopC (G : Glob) (le : LEnt) (C : (Exit → Act → World → Prop) → Act → World → Prop) : Prop :=
  ∀ xs, fits le.ent.pks xs → le.ent.pre xs → ∀ (w : World) (M0 Im : Nat → Prop) (hs : Nat → Hd), (∀ b, M0 b → ¬ Im b ∧ b < w.heap.size) → GOK G Im w → RelE F0 (env xs) w M0 Im hs le.ent.pgen.2 w →
    ∀ a : Act, a.defers = [] → a.tmps.size = le.nt → (∀ (i t : Nat), le.sl[i]? = some t → a.tmps[t]? = (SV.concL F0 (env xs) hs le.ent.pgen.1)[i]?) → ∀ Q : Exit → Act → World → Prop,
      (∀ (a' : Act) (w' : World) (hs' : Nat → Hd) (Im' : Nat → Prop) (Vs : List Value) (lab : Lab) (us : List Value), (∀ j, j < le.ent.nn → hs' j = hs j) → (∀ b, Im b → Im' b) → (∀ b, Im' b → Im b ∨ M0 b ∨ w.heap.size ≤ b) →
        RelE F0 (env (xs ++ outsE le.ent.fn xs 0 le.ent.oks)) w M0 Im' hs' le.ent.oents w' →
        (lastV le.ent.ogen.1).conc F0 (env (xs ++ outsE le.ent.fn xs 0 le.ent.oks)) hs' = .tuple Vs.toArray → labV le.labs Vs = some (lab, us) →
        (∀ (i t : Nat), le.so[i]? = some t → a'.tmps[t]? = us[i]?) → (∀ k, k ∉ le.so → k ∉ le.wr → a'.tmps[k]? = a.tmps[k]?) → a'.tmps.size = a.tmps.size → a'.defers = [] → Q lab.exit a' w') →
      C Q a w
/-- What a summary of a piece of code says. -/
def CodeOK (P : Program) (G : Glob) (c : Code) (le : LEnt) : Prop := LoopC G le fun Q => c.wp P Q
def LoopOK (P : Program) (G : Glob) (body : Code) (le : LEnt) : Prop := LoopC G le fun Q => (Code.loop body).wp P Q

section
variable {P : Program} {ρ : Nat → Int} {G : Glob} {T : Tab} {l : Tabs} {w0 w : World} {M0 Im0 : Nat → Prop} {ad : Nat → Hd} {m m2 m' : Mem} {tm : Tm} {en : Env} {a : Act}

theorem dtOf_labV {F : Fam} : ∀ {ls : List Lab} {vs us : List SV} {d : DT}, dtOf ls vs = some (d, us) → labV ls (SV.concL F ρ ad vs) = some (d.eval F ρ, SV.concL F ρ ad us) ∧ (∀ p, SV.okL p vs → SV.okL p us) ∧ d.eval F ρ ∈ ls
  | [], vs, us, d, h => by simp [dtOf] at h
  | [k], vs, us, d, h => by
    simp only [dtOf, Option.some.injEq, Prod.mk.injEq] at h
    obtain ⟨rfl, rfl⟩ := h
    exact ⟨rfl, fun _ h => h, by simp [DT.eval]⟩
  | k :: k' :: ls, [], us, d, h => by simp [dtOf] at h
  | k :: k' :: ls, v :: vs, us, d, h => by
    cases v with
    | sc e =>
      simp only [dtOf] at h
      split at h
      · rename_i hk
        obtain ⟨⟨d', us'⟩, h1, h2⟩ := Option.map_eq_some_iff.1 h
        simp only [Prod.mk.injEq] at h2
        obtain ⟨rfl, rfl⟩ := h2
        obtain ⟨i1, i2, i3⟩ := dtOf_labV (F := F) h1
        refine ⟨?_, fun p hp => i2 p hp.2, ?_⟩
        · simp only [SV.concL, SV.conc, E.val_b hk, labV, i1, Option.map_some, DT.eval]
        · simp only [DT.eval]
          cases e.tt F ρ
          · simp only [cond_false]; exact List.mem_cons_of_mem _ i3
          · simp
      · cases h
    | _ => simp [dtOf] at h

theorem clrSl_spec : ∀ (ts : List Nat) (tm : Tm), (clrSl ts tm).length = tm.length ∧ ∀ k v, (clrSl ts tm).at k = some v → tm.at k = some v ∧ k ∉ ts
  | [], tm => ⟨rfl, fun k v h => ⟨h, by simp⟩⟩
  | t :: ts, tm => by
    obtain ⟨i1, i2⟩ := clrSl_spec ts (tm.set t none)
    refine ⟨by simp only [clrSl, i1, List.length_set], fun k v h => ?_⟩
    obtain ⟨j1, j2⟩ := i2 k v h
    by_cases hk : t = k
    · subst hk
      exfalso
      simp only [Tm.at, List.getD, List.getElem?_set] at j1
      by_cases hl : t < tm.length <;> simp [hl] at j1
    · refine ⟨by simpa [Tm.at, List.getD, List.getElem?_set, hk] using j1, ?_⟩
      simp only [List.mem_cons, not_or]
      exact ⟨fun e => hk e.symm, j2⟩

theorem setSl_spec : ∀ {ts : List Nat} {vs : List SV} {tm tm' : Tm}, setSl ts vs tm = some tm' → tm'.length = tm.length ∧ vs.length = ts.length ∧ (∀ k, k ∉ ts → tm'.at k = tm.at k) ∧ ∀ (i t : Nat), ts[i]? = some t → tm'.at t = vs[i]?
  | [], [], tm, tm', h => by
    simp only [setSl, Option.some.injEq] at h; subst h
    exact ⟨rfl, rfl, fun _ _ => rfl, fun i t h => by simp at h⟩
  | [], _ :: _, tm, tm', h => by simp [setSl] at h
  | _ :: _, [], tm, tm', h => by simp [setSl] at h
  | t :: ts, v :: vs, tm, tm', h => by
    simp only [setSl] at h
    split at h
    · rename_i hc
      obtain ⟨i1, i2, i3, i4⟩ := setSl_spec h
      have hnot : t ∉ ts := by have := hc.2; simpa using this
      refine ⟨by simpa using i1, by simp [i2], fun k hk => ?_, fun i k hi => ?_⟩
      · simp only [List.mem_cons, not_or] at hk
        rw [i3 k hk.2]
        have : ¬ t = k := fun e => hk.1 e.symm
        simp [Tm.at, List.getD, List.getElem?_set, this]
      · cases i with
        | zero =>
          simp only [List.getElem?_cons_zero, Option.some.injEq] at hi
          subst hi
          rw [i3 t hnot]
          simp [Tm.at, List.getD, List.getElem?_set, hc.1]
        | succ i =>
          simp only [List.getElem?_cons_succ] at hi ⊢
          exact i4 i k hi
    · cases h

theorem getSl_spec : ∀ {ts : List Nat} {vs : List SV}, getSl tm ts = some vs → vs.length = ts.length ∧ ∀ (i t : Nat), ts[i]? = some t → tm.at t = vs[i]?
  | [], vs, h => by simp only [getSl, Option.some.injEq] at h; subst h; exact ⟨rfl, fun i t h => by simp at h⟩
  | t :: ts, vs, h => by
    simp only [getSl] at h
    split at h
    · rename_i v l h1 h2
      simp only [Option.some.injEq] at h; subst h
      obtain ⟨i1, i2⟩ := getSl_spec h2
      refine ⟨by simp [i1], fun i k hi => ?_⟩
      cases i with
      | zero => simp only [List.getElem?_cons_zero, Option.some.injEq] at hi ⊢; subst hi; exact h1
      | succ i => simp only [List.getElem?_cons_succ] at hi ⊢; exact i2 i k hi
    · cases h

theorem callF_core {e : Ent} (he : l.get e.key = some e) (hG : GOK G Im0 w0) (hR : Rel l.F ρ w0 M0 Im0 ad m w) {nm : Nat} {args : List SV} {fo : Bool} {g : E} {v : SV}
    (h : callF e m nm args fo = some (g, v, m')) (ht : g.tt l.F ρ = true) : ∃ (xs : List Int) (hs : Nat → Hd) (M1 Im : Nat → Prop), fits e.pks xs ∧ e.pre xs ∧ SV.concL l.F ρ ad args = SV.concL F0 (env xs) hs e.pgen.1 ∧
      (∀ b, M1 b → ¬ Im b ∧ b < w.heap.size) ∧ GOK G Im w ∧ RelE F0 (env xs) w M1 Im hs e.pgen.2 w ∧
      ∀ (w' : World) (hs' : Nat → Hd) (Im' : Nat → Prop), (∀ j, j < e.nn → hs' j = hs j) → (∀ b, Im b → Im' b) → (∀ b, Im' b → Im b ∨ M1 b ∨ w.heap.size ≤ b) → RelE F0 (env (xs ++ outsE e.fn xs 0 e.oks)) w M1 Im' hs' e.oents w' →
        ∃ ad', v.conc l.F ρ ad' = (lastV e.ogen.1).conc F0 (env (xs ++ outsE e.fn xs 0 e.oks)) hs' ∧ Rel l.F ρ w0 M0 Im0 ad' m' w' ∧ Ext ad ad' m m' ∧ v.ok (al m') := by
  unfold callF at h
  obtain ⟨⟨g1, v1, m1⟩, h1, h2⟩ := Option.map_eq_some_iff.1 h
  simp only [Prod.mk.injEq] at h2
  obtain ⟨rfl, rfl, rfl⟩ := h2
  obtain ⟨t1, t2⟩ := andB_tt ht
  have := (callE_core he hG hR h1).2 t2
  rw [fArgs_spec t1] at this
  exact this

theorem callL_sound {le : LEnt} {C : (Exit → Act → World → Prop) → Act → World → Prop} (he : l.get le.ent.key = some le.ent) (hL : LoopC G le C) (hG : GOK G Im0 w0) {s : St} {g : E} {o : Out} (h : callL le s = some (g, o)) (ht : g.tt l.F ρ = true) (hR : RelS l.F ρ w0 M0 Im0 ad s a w) {Q : Exit → Act → World → Prop}
    (hA : After l.F ρ w0 M0 Im0 ad s.2 o Q) : C Q a w := by
  unfold callL at h
  split at h
  · rename_i args hargs
    have hnt : s.1.length = le.nt ∧ getSl s.1 le.sl = some args := by
      split at hargs
      · rename_i h; exact ⟨h, hargs⟩
      · cases hargs
    obtain ⟨hnt, hargs⟩ := hnt
    split at h
    · rename_i g1 vs m' hcall
      split at h
      · rename_i d us hd
        split at h
        · rename_i tm' hset
          simp only [Option.some.injEq, Prod.mk.injEq] at h
          obtain ⟨rfl, rfl⟩ := h
          have hR1 : RelS l.F ρ w0 M0 Im0 ad (s.1, shareL s.2 (shrN s.1 le.shr)) a w := ⟨⟨hR.1.defers, hR.1.size, fun i v hv => ⟨(hR.1.slot i v hv).1, SV.ok_mono (fun k hk => (shareL_al _ _ _).2 hk) v (hR.1.slot i v hv).2⟩⟩, Rel.shareL _ hR.2⟩
          have hR' := hR1.extend (Sh.nnL le.ent.outL)
          have hcore : ∃ fo, callF le.ent (shareL s.2 (shrN s.1 le.shr) ++ List.replicate (Sh.nnL le.ent.outL) none) s.2.length args fo = some (g1, .tup vs, m') := by
            unfold callFF at hcall
            split at hcall
            · rename_i r hr
              simp only [Option.some.injEq] at hcall; subst hcall
              exact ⟨_, hr⟩
            · exact ⟨_, hcall⟩
          obtain ⟨fo, hcf⟩ := hcore
          obtain ⟨xs, hs, M1, Im, a1, a2, a3, a4, a5, a6, a7⟩ := callF_core he hG hR'.2 hcf ht
          obtain ⟨g1, g2⟩ := getSl_spec hargs
          refine hL xs a1 a2 w M1 Im hs a4 a5 a6 a hR.1.defers (by rw [← hnt]; exact hR.1.size) (fun i t hi => ?_) Q ?_
          · rw [← a3]
            have hv := g2 i t hi
            have hil : i < args.length := by have := (List.getElem?_eq_some_iff.1 hi).1; omega
            rw [List.getElem?_eq_getElem hil] at hv
            rw [(hR.1.slot t _ hv).1, concL_eq, List.getElem?_map, List.getElem?_eq_getElem hil, Option.map_some]
          · intro a' w' hs' Im' Vs lab uv q1 q2 q3 q4 q5 q6 q7 q8 q9 q10
            obtain ⟨ad', r1, r2, r3, r4⟩ := a7 w' hs' Im' q1 q2 q3 q4
            rw [← r1] at q5
            simp only [SV.conc, Value.tuple.injEq] at q5
            have hVs : Vs = SV.concL l.F ρ ad' vs := by
              have := congrArg Array.toList q5
              simpa using this.symm
            subst hVs
            obtain ⟨l1, l2, l3⟩ := dtOf_labV (F := l.F) (ρ := ρ) (ad := ad') hd
            rw [l1] at q6
            simp only [Option.some.injEq, Prod.mk.injEq] at q6
            obtain ⟨rfl, rfl⟩ := q6
            obtain ⟨s1, s2, s3, s4⟩ := setSl_spec hset
            obtain ⟨c1, c2⟩ := clrSl_spec le.wr s.1
            have hx : Ext ad ad' s.2 m' := ⟨fun k hk => r3.same k (by rw [al_append, shareL_al]; exact hk), fun k hk => r3.keep k (by rw [al_append, shareL_al]; exact hk)⟩
            refine hA (tm', m') ad' a' w' ?_ ⟨⟨q10, ?_, fun k v hv => ?_⟩, r2⟩ hx
            · have : ∀ (ls : List Lab) (x : Lab), x ∈ ls → lk x (ls.map fun l => (l, (tm', m'))) = some (tm', m') := by
                intro ls x hx
                induction ls with
                | nil => cases hx
                | cons k ls ih =>
                  simp only [List.map_cons, lk]
                  split
                  · rfl
                  · rename_i hne
                    rcases List.mem_cons.1 hx with h | h
                    · exact (hne h.symm).elim
                    · exact ih h
              exact this le.labs _ l3
            · show a'.tmps.size = tm'.length
              rw [s1, c1, q9]; exact hR.1.size
            · have hokus := l2 _ r4
              change tm'.at k = some v at hv
              by_cases hk : k ∈ le.so
              · obtain ⟨i, hi, hik⟩ := List.getElem_of_mem hk
                have hik' : le.so[i]? = some k := by rw [List.getElem?_eq_getElem hi, hik]
                have h1 := s4 i k hik'
                rw [hv] at h1
                have h2 := q7 i k hik'
                rw [concL_eq, List.getElem?_map, ← h1, Option.map_some] at h2
                exact ⟨h2, okL_get hokus h1.symm⟩
              · rw [s3 k hk] at hv
                obtain ⟨j1, j2⟩ := c2 k v hv
                obtain ⟨k1, k2⟩ := hR.1.slot k v j1
                exact ⟨by rw [q8 k hk j2, k1, SV.conc_congr hx.same v k2], SV.ok_mono hx.keep v k2⟩
        · cases h
      · cases h
    · cases h
  · cases h
end
end Go.Proofs.Ytmolkkphnehgcaa.Ew

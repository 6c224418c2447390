/- The evaluator: code, loops, functions. -/
import Derived.Test.YtmolkkphnehgcaaW3
set_option linter.unusedVariables false
set_option linter.unusedSimpArgs false
namespace Go.Proofs.Ytmolkkphnehgcaa.Ew
open Go Go.RowKit

/-! ### obligations -/
def andB (a b : E) : E := if a.kind = .b ∧ b.kind = .b then mkAnd a b else mkB false
def impB (c b : E) : E := if c.kind = .b ∧ b.kind = .b then mkOr (mkNot c) b else mkB false
theorem andB_kind (a b : E) : (andB a b).kind = .b := by
  unfold andB; split
  · rename_i h; exact (mkAnd_spec a b h.1 h.2 (fun _ _ _ => 0) fun _ => 0).2
  · rfl
theorem impB_kind (a b : E) : (impB a b).kind = .b := by
  unfold impB; split
  · rename_i h; exact (mkOr_spec (mkNot a) b (mkNot_spec a (fun _ _ _ => 0) fun _ => 0).2 h.2 (fun _ _ _ => 0) fun _ => 0).2
  · rfl
theorem andB_tt {a b : E} {F : Fam} {ρ : Nat → Int} (h : (andB a b).tt F ρ = true) : a.tt F ρ = true ∧ b.tt F ρ = true := by
  unfold andB at h; split at h
  · rename_i hk; rw [(mkAnd_spec a b hk.1 hk.2 F ρ).1, Bool.and_eq_true] at h; exact h
  · simp at h
theorem impB_tt {c b : E} {F : Fam} {ρ : Nat → Int} (h : (impB c b).tt F ρ = true) (hc : c.tt F ρ = true) : b.tt F ρ = true := by
  unfold impB at h; split at h
  · rename_i hk
    rw [(mkOr_spec (mkNot c) b (mkNot_spec c F ρ).2 hk.2 F ρ).1, (mkNot_spec c F ρ).1, hc, Bool.or_eq_true] at h
    rcases h with h | h
    · cases h
    · exact h
  · simp at h

/-! ### operations in the order of the text -/
/-- How a call is walked into. -/
abbrev Into := Nat → List SV → Mem → Option (E × SV × Mem)

def chOf (T : Tab) (m : Mem) (nm : Nat) : PL → Ch
  | .run _ (.call _ f args) => findK T m nm f args
  | _ => none
def runAt (P : Program) (G : Glob) (T : Tab) (m : Mem) (nm : Nat) (pl : PL) : Option (E × SV × Mem) := runPL P G T m nm (chOf T m nm pl) pl
def intoF (call : Into) (f : Nat) (args : List SV) (m : Mem) : Option (E × SV × Mem) :=
  match call f args m with
  | some r => some r
  | none => bif SV.sameL args (fArgs true args) then none else (call f (fArgs true args) m).map fun r => (andB (forceL args) r.1, r.2.1, r.2.2)
def evOper (P : Program) (G : Glob) (T : Tab) (call : Into) (ops : Array Oper) (o : Oper) (s : St) : Option (E × St) :=
  match planE P ops o s.1.at with
  | some pl => match runAt P G T s.2 s.2.length pl with
    | some (g, v, m') => some (g, setT s.1 o.dst v, m')
    | none => match runAt P G T (s.2 ++ List.replicate WD none) s.2.length pl with
      | some (g, v, m') => some (g, setT s.1 o.dst v, m')
      | none => match pl with
        | .run none (.call g f args) => match intoF call f args s.2 with
          | some (g2, v, m') => some (andB g g2, setT s.1 o.dst v, m')
          | none => none
        | _ => none
  | none => none
def evSeq (P : Program) (G : Glob) (T : Tab) (call : Into) (ops : Array Oper) : List Oper → St → Option (E × St)
  | [], s => some (mkB true, s)
  | o :: r, s => match evOper P G T call ops o s with
    | some (g, s1) => match evSeq P G T call ops r s1 with
      | some (g2, s2) => some (andB g g2, s2)
      | none => none
    | none => none

/-- A condition's slot. -/
def condE (s : St) (c : Operand) : Option E :=
  match getC [] s.1.at c with
  | some (.sc e) => if e.kind = .b then some e else none
  | _ => none

section
variable {P : Program} {ρ : Nat → Int} {G : Glob} {T : Tab} {l : Tabs} {w0 w : World} {M0 Im0 : Nat → Prop} {ad : Nat → Hd} {m m2 m' : Mem} {tm : Tm} {en : Env} {a : Act}

/-- What is asked of a way to walk into calls. -/
def IntoOK (P : Program) (l : Tabs) (ρ : Nat → Int) (w0 : World) (M0 Im0 : Nat → Prop) (call : Into) : Prop :=
  ∀ f args m ob v m', call f args m = some (ob, v, m') → ob.tt l.F ρ = true → ∀ ad w, Rel l.F ρ w0 M0 Im0 ad m w → SV.okL (al m) args →
    Calls P f (SV.concL l.F ρ ad args).toArray w fun e w' => ∃ ad', e = .returned (v.conc l.F ρ ad') ∧ Rel l.F ρ w0 M0 Im0 ad' m' w' ∧ Ext ad ad' m m' ∧ v.ok (al m')

theorem fArgs_ok {p : Nat → Prop} {F : Fam} {ρ : Nat → Int} {ad : Nat → Hd} : ∀ {args : List SV}, SV.okL p args → SV.okL p (fArgs true args)
  | [], _ => trivial
  | v :: r, h => ⟨(force_spec (F := F) (ρ := ρ) (ad := ad) v).2 h.1, fArgs_ok (F := F) (ρ := ρ) (ad := ad) (args := r) h.2⟩

theorem intoF_ok {call : Into} (hI : IntoOK P l ρ w0 M0 Im0 call) : IntoOK P l ρ w0 M0 Im0 (intoF call) := by
  intro f args m ob v m' h ht ad w hR hok
  unfold intoF at h
  split at h
  · rename_i r hr
    simp only [Option.some.injEq] at h; subst h
    exact hI f args m _ _ _ hr ht ad w hR hok
  · cases hs : SV.sameL args (fArgs true args)
    · rw [hs] at h
      obtain ⟨⟨o2, v2, m2⟩, h2, h3⟩ := Option.map_eq_some_iff.1 h
      simp only [Prod.mk.injEq] at h3
      obtain ⟨rfl, rfl, rfl⟩ := h3
      obtain ⟨t1, t2⟩ := andB_tt ht
      have := hI f _ m _ _ _ h2 t2 ad w hR (fArgs_ok (F := l.F) (ρ := ρ) (ad := ad) hok)
      rw [fArgs_spec (fo := true) t1] at this
      exact this
    · rw [hs] at h; cases h

/-- A call that is walked into. -/
theorem planE_call {s : St} (hE : RelV l.F ρ ad s.2 en a) {ops : Array Oper} {o : Oper} {g : E} {f : Nat} {args : List SV} (hp : planE P ops o en = some (.run none (.call g f args))) (hg : g.tt l.F ρ = true) :
    Region.wanted o (yielded ops a.tmps) = true ∧ (execOp a.eval o).run P w = .ok (.enter f (SV.concL l.F ρ ad args).toArray) w ∧ SV.okL (al s.2) args := by
  unfold planE at hp
  split at hp
  · simp at hp
  · rename_i hgd
    obtain ⟨W, hW, he⟩ := Option.map_eq_some_iff.1 hp
    simp only [PL.run.injEq, true_and] at he
    subst he
    refine ⟨by rw [guardE_spec hE hgd]; rfl, ?_⟩
    unfold opPlan at hW
    split at hW
    · obtain ⟨u, h1, h2⟩ := Option.map_eq_some_iff.1 hW; cases h2
    · split at hW
      · rename_i g0 f' args' hds
        simp only [Option.some.injEq, W.call.injEq] at hW
        obtain ⟨rfl, rfl, rfl⟩ := hW
        obtain ⟨j1, j2⟩ := descX_run l.BI (P := P) (w := w) (F := l.F) (ρ := ρ) (ad := ad) (p := al s.2) (ev := a.eval) (fun x s hx => getC_spec hE (cs := []) rfl hx) hds
        obtain ⟨d1, d2⟩ := j2 hg
        exact ⟨by rw [d1]; rfl, d2⟩
      · simp at hW
      · cases hW
  · obtain ⟨W, hW, he⟩ := Option.map_eq_some_iff.1 hp
    simp at he
  · cases hp

theorem evOper_sound (hS : SumOK P G l T) (hG : GOK G Im0 w0) {call : Into} (hI : IntoOK P l ρ w0 M0 Im0 call) {ops : Array Oper} {o : Oper} {s s' : St} {g : E} (h : evOper P G T call ops o s = some (g, s')) (ht : g.tt l.F ρ = true)
    (hR : RelS l.F ρ w0 M0 Im0 ad s a w) {K : Act → World → Prop} {Q : Exit → Act → World → Prop} (hK : ∀ ad' a' w', RelS l.F ρ w0 M0 Im0 ad' s' a' w' → Ext ad ad' s.2 s'.2 → K a' w') :
    if Region.wanted o (yielded ops a.tmps) = true then o.wp P a w K Q else K (a.put o.dst undef) w := by
  unfold evOper at h
  split at h
  · rename_i pl hp
    split at h
    · rename_i g1 v m' hr
      simp only [Option.some.injEq, Prod.mk.injEq] at h
      obtain ⟨rfl, rfl⟩ := h
      exact (runPL_sound hS hG hR hR.1.envV hp hr).2 ht K Q hK
    · split at h
      · rename_i g1 v m' hr
        simp only [Option.some.injEq, Prod.mk.injEq] at h
        obtain ⟨rfl, rfl⟩ := h
        have hR' := hR.extend WD
        exact (runPL_sound hS hG hR' hR'.1.envV hp hr).2 ht K Q fun ad' a' w' h1 h2 => hK ad' a' w' h1 ⟨fun k hk => h2.same k (by simpa [al_append] using hk), fun k hk => h2.keep k (by simpa [al_append] using hk)⟩
      · split at h
        · rename_i g1 f args hn1 hn2
          split at h
          · rename_i g2 v m' hc
            simp only [Option.some.injEq, Prod.mk.injEq] at h
            obtain ⟨rfl, rfl⟩ := h
            obtain ⟨t1, t2⟩ := andB_tt ht
            obtain ⟨p1, p2, p3⟩ := planE_call (w := w) hR.1.envV hp t1
            rw [if_pos p1]
            unfold Oper.wp
            rw [p2]
            simp only [Oper.upon]
            refine (intoF_ok hI f args s.2 _ _ _ hc t2 ad w hR.2 p3).mono ?_
            rintro e w' ⟨ad', rfl, r2, r3, r4⟩
            exact hK ad' _ w' ⟨(hR.1.ext r3).put o.dst r4, r2⟩ r3
          · cases h
        · cases h
  · cases h

theorem evSeq_sound (hS : SumOK P G l T) (hG : GOK G Im0 w0) {call : Into} (hI : IntoOK P l ρ w0 M0 Im0 call) {ops : Array Oper} {Q : Exit → Act → World → Prop} : ∀ (os : List Oper) (s s' : St) (g : E) (ad : Nat → Hd) (a : Act) (w : World),
    evSeq P G T call ops os s = some (g, s') → g.tt l.F ρ = true → RelS l.F ρ w0 M0 Im0 ad s a w → (∀ ad' a' w', RelS l.F ρ w0 M0 Im0 ad' s' a' w' → Ext ad ad' s.2 s'.2 → Q .normal a' w') → wpList P ops Q os a w
  | [], s, s', g, ad, a, w, h, ht, hR, hQ => by
    simp only [evSeq, Option.some.injEq, Prod.mk.injEq] at h
    obtain ⟨rfl, rfl⟩ := h
    exact hQ ad a w hR (Ext.refl _ _)
  | o :: r, s, s', g, ad, a, w, h, ht, hR, hQ => by
    simp only [evSeq] at h
    split at h
    · rename_i g1 s1 h1
      split at h
      · rename_i g2 s2 h2
        simp only [Option.some.injEq, Prod.mk.injEq] at h
        obtain ⟨rfl, rfl⟩ := h
        obtain ⟨t1, t2⟩ := andB_tt ht
        have := evOper_sound (K := wpList P ops Q r) (Q := Q) hS hG hI h1 t1 hR fun ad' a' w' hR' hx => evSeq_sound hS hG hI r s1 _ g2 ad' a' w' h2 t2 hR' fun ad'' a'' w'' hR'' hx' => hQ ad'' a'' w'' hR'' (hx.trans hx')
        unfold wpList
        by_cases hw : Region.wanted o (yielded ops a.tmps) = true
        · rw [if_pos hw] at this ⊢; exact .inl this
        · rw [if_neg hw] at this ⊢; exact this
      · cases h
    · cases h

theorem condE_spec {F : Fam} (hT : RelT F ρ ad m tm a) {c : Operand} {e : E} (h : condE (tm, m) c = some e) : e.kind = .b ∧ a.eval c = .bool (e.tt F ρ) := by
  unfold condE at h
  split at h
  · rename_i e' h1
    split at h
    · rename_i hk
      simp only [Option.some.injEq] at h; subst h
      obtain ⟨i1, _⟩ := getC_spec hT.envV (cs := []) rfl h1
      exact ⟨hk, by rw [i1]; simp [SV.conc, E.val_b hk]⟩
    · cases h
  · cases h
end
end Go.Proofs.Ytmolkkphnehgcaa.Ew

/- The evaluator: code, loops, functions; that what it says of a function holds of the function's calls; summaries made of it. -/
import Derived.Test.YtbolcnlenmphhaaDoorEvI
set_option linter.unusedVariables false
set_option linter.unusedSimpArgs false
namespace Go.Proofs.YtbolcnlenmphhaaDoor.Ev
open Go Go.RowKit

/-- How a call is walked into. -/
abbrev Into := Nat → List SV → Mem → Option (SV × Mem)

def makes : Op → Bool
  | .alloc _ | .box .. | .buildSlice .. => true
  | _ => false

def evSeq (P : Program) (F : Fam) (G : Glob) (T : Tab) (call : Into) (ops : Array Oper) : List Oper → St → Option St
  | [], s => some s
  | o :: r, s => match guardE ops s.1.at o with
    | some .no => evSeq P F G T call ops r (setT s.1 o.dst .und, s.2)
    | some .yes => match opStep P F G T false [] s.1.at (bif makes o.op then s.2 ++ List.replicate 1 none else s.2) s.2.length o with
      | some (.ok v m') => evSeq P F G T call ops r (setT s.1 o.dst v, m')
      | some (.call f args) => match call f args s.2 with
        | some (v, m') => evSeq P F G T call ops r (setT s.1 o.dst v, m')
        | none => none
      | none => none
    | some (.cond cs) => match opStep P F G T true cs s.1.at s.2 0 o with
      | some (.ok v _) => evSeq P F G T call ops r (setT s.1 o.dst (.gd cs v), s.2)
      | _ => none
    | none => none

def evLoop (f : St → Option Out) : Nat → St → Option Out
  | 0, _ => none
  | n + 1, s => match f s with
    | some o => match lk .nrm o.2 with
      | none => some o
      | some s1 => match evLoop f n s1 with
        | some o2 => joinOut s.2 o o2
        | none => none
    | none => none

/-- A condition's slot. -/
def condE (s : St) (c : Operand) : Option E :=
  match getC [] s.1.at c with
  | some (.sc e) => if e.kind = .b then some e else none
  | _ => none

def evC (P : Program) (F : Fam) (G : Glob) (T : Tab) (call : Into) (N : Nat) : Code → St → Option Out
  | .skip, s => some (.leaf .nrm, [(.nrm, s)])
  | .label _, s => some (.leaf .nrm, [(.nrm, s)])
  | .region _ ops true, s => (evDraw P F G T ops s).map fun s' => (.leaf .nrm, [(.nrm, s')])
  | .region _ ops false, s => (evSeq P F G T call ops ops.toList s).map fun s' => (.leaf .nrm, [(.nrm, s')])
  | .seq x y, s => match evC P F G T call N x s with
    | some ox => match lk .nrm ox.2 with
      | none => some ox
      | some s1 => match evC P F G T call N y s1 with
        | some oy => joinOut s.2 ox oy
        | none => none
    | none => none
  | .cond c x y, s => match condE s c with
    | some e => match e.lit? with
      | some n => bif i2b n then evC P F G T call N x s else evC P F G T call N y s
      | none => match evC P F G T call N x s, evC P F G T call N y s with
        | some ox, some oy => brOut s.2 e ox oy
        | _, _ => none
    | none => none
  | .block id body, s => match evC P F G T call N body s with
    | some o => relOut s.2 id o
    | none => none
  | .loop body, s => evLoop (evC P F G T call N body) N s
  | .exit id, s => some (.leaf (.ex id), [(.ex id, s)])
  | .ret, s => some (.leaf .ret, [(.ret, s)])
  | _, _ => none

def resOf (s : St) : ResultVar → Option SV
  | .tmp t => getC [] s.1.at (.tmp t)
  | .cell t _ => none
def resS (P : Program) (s : St) : List ResultVar → Option (List SV)
  | [] => some []
  | .tmp t :: r => match getC [] s.1.at (.tmp t), resS P s r with
    | some v, some l => some (v :: l)
    | _, _ => none
  | .cell t ty :: r => match getC [] s.1.at (.tmp t), aggOf P ty, szOf P ty with
    | some (.ptr n off), some ag, some sz => match rdM s.2 n off sz ag, resS P s r with
      | some v, some l => some (v :: l)
      | _, _ => none
    | _, _, _ => none
def tupOf : List SV → SV
  | [v] => v
  | l => .tup l

def finish (P : Program) (fn : Func) (s : St) : Option (SV × Mem) := (resS P s fn.results.toList).map fun l => (tupOf l, s.2)

def onlyRet : List (Lab × St) → Bool
  | [] => true
  | (l, _) :: r => (decide (l = .nrm) || decide (l = .ret)) && onlyRet r

def evFn (P : Program) (F : Fam) (G : Glob) (T : Tab) (N : Nat) : Nat → Into
  | 0, _, _, _ => none
  | n + 1, f, args, m => match P.funcs[f]? with
    | some fn => match fn.body with
      | some c => match evC P F G T (evFn P F G T N n) N c (args.map some ++ List.replicate (fn.ntmps - args.length) (some .und), m) with
        | some o => bif onlyRet o.2 then
            match lk .ret o.2, lk .nrm o.2 with
            | some s, none => finish P fn s
            | none, some s => finish P fn s
            | some s, some s' => (mergeSt (o.1.is .ret) m s s').bind (finish P fn)
            | none, none => none
          else none
        | none => none
      | none => none
    | none => none

section
variable {P : Program} {F : Fam} {ρ : Nat → Int} {G : Glob} {T : Tab} {w0 w : World} {ad : Nat → Nat} {m : Mem} {tm : Tm} {en : Env} {a : Act}

/-- What is asked of a way to walk into calls. -/
def IntoOK (P : Program) (F : Fam) (ρ : Nat → Int) (w0 : World) (call : Into) : Prop :=
  ∀ f args m v m', call f args m = some (v, m') → ∀ ad w, Rel F ρ w0 ad m w → SV.okL (al m) args →
    Calls P f (SV.concL F ρ ad args).toArray w fun e w' => ∃ ad', e = .returned (v.conc F ρ ad') ∧ Rel F ρ w0 ad' m' w' ∧ Ext ad ad' m m' ∧ v.ok (al m')

theorem opStep_call (hT : RelE F ρ ad m en a) {cs : List E} (hc : holds F ρ cs = true) {only : Bool} {m1 : Mem} {nm : Nat} {o : Oper} {f : Nat} {args : List SV}
    (h : opStep P F G T only cs en m1 nm o = some (.call f args)) : (execOp a.eval o).run P w = .ok (.enter f (SV.concL F ρ ad args).toArray) w ∧ SV.okL (al m) args := by
  obtain ⟨W, hp, hd⟩ := Option.bind_eq_some_iff.1 h
  cases W with
  | val v => simp [doW] at hd
  | dd d =>
    simp only [doW] at hd
    cases hb : (only && !d.isRd)
    · rw [hb] at hd
      obtain ⟨x, _, hx⟩ := Option.map_eq_some_iff.1 hd
      cases hx
    · rw [hb] at hd; cases hd
  | call f' args' =>
    cases only
    · simp only [doW, cond_false, Option.some.injEq, R.call.injEq] at hd
      obtain ⟨rfl, rfl⟩ := hd
      unfold opPlan at hp
      split at hp
      · obtain ⟨u, _, hu⟩ := Option.map_eq_some_iff.1 hp; cases hu
      · split at hp
        · rename_i f'' args'' hds
          split at hp
          · simp at hp
          · simp only [Option.some.injEq, W.call.injEq] at hp
            obtain ⟨rfl, rfl⟩ := hp
            exact desc_run (P := P) (w := w) (F := F) (ρ := ρ) (ad := ad) (p := al m) (ev := a.eval) (fun x s hx => getC_spec hT hc hx) hds
        · simp at hp
        · cases hp
    · simp [doW] at hd

theorem evSeq_sound (hS : SumOK P F G T) (hG : GOK G w0) {call : Into} (hI : IntoOK P F ρ w0 call) {ops : Array Oper} {Q : Exit → Act → World → Prop} : ∀ (l : List Oper) (s s' : St) (ad : Nat → Nat) (a : Act) (w : World),
    evSeq P F G T call ops l s = some s' → RelS F ρ w0 ad s a w → (∀ ad' a' w', RelS F ρ w0 ad' s' a' w' → Ext ad ad' s.2 s'.2 → Q .normal a' w') → wpList P ops Q l a w
  | [], s, s', ad, a, w, h, hR, hQ => by
    simp only [evSeq, Option.some.injEq] at h; subst h
    exact hQ ad a w hR (Ext.refl _ _)
  | o :: r, s, s', ad, a, w, h, hR, hQ => by
    obtain ⟨hT, hM⟩ := hR
    have hE := hT.env
    simp only [evSeq] at h
    split at h
    · rename_i hg
      have hw := guardE_spec hE hg
      unfold wpList
      rw [if_neg (by rw [hw]; exact Bool.false_ne_true)]
      exact evSeq_sound hS hG hI r _ s' ad _ w h ⟨hT.put o.dst (v := .und) trivial, hM⟩ fun ad' a' w' hR' hx => hQ ad' a' w' hR' hx
    · rename_i hg
      have hw := guardE_spec hE hg
      unfold wpList
      rw [if_pos (by rw [hw]; rfl)]
      refine .inl ?_
      split at h
      · rename_i v m' ho
        have hx0 : Ext ad ad s.2 (bif makes o.op then s.2 ++ List.replicate 1 none else s.2) := by
          cases makes o.op
          · exact Ext.refl _ _
          · exact ⟨fun _ _ => rfl, fun k hk => by simp only [cond_true, al_append]; exact hk⟩
        have hR0 : RelS F ρ w0 ad (s.1, bif makes o.op then s.2 ++ List.replicate 1 none else s.2) a w := by
          cases makes o.op
          · exact ⟨hT, hM⟩
          · exact RelS.extend ⟨hT, hM⟩ 1
        refine opStep_ok hS hG (hR0.1.env) hR0.2 (cs := []) rfl ho fun ad' w' hr hx hv => ?_
        refine evSeq_sound hS hG hI r _ s' ad' _ w' h ⟨(hR0.1.ext hx).put o.dst hv, hr⟩ fun ad'' a' w'' hR' hx' => hQ ad'' a' w'' hR' ((hx0.trans hx).trans hx')
      · rename_i f args ho
        obtain ⟨j1, j2⟩ := opStep_call (P := P) (w := w) hE (cs := []) rfl ho
        split at h
        · rename_i v m' hcall
          unfold Oper.wp
          rw [j1]
          simp only [Oper.upon]
          refine (hI f args s.2 v m' hcall ad w hM j2).mono ?_
          rintro e w' ⟨ad', rfl, hr, hx, hv⟩
          simp only
          exact evSeq_sound hS hG hI r _ s' ad' _ w' h ⟨(hT.ext hx).put o.dst hv, hr⟩ fun ad'' a' w'' hR' hx' => hQ ad'' a' w'' hR' (hx.trans hx')
        · cases h
      · cases h
    · rename_i cs hg
      have hw := guardE_spec hE hg
      split at h
      · rename_i v m' ho
        have hstep : stepE P F G T ops 0 o s.1.at s = some (setT s.1 o.dst (.gd cs v), s.2) := by
          unfold stepE
          rw [hg]
          simp only [ho]
        unfold wpList
        have := stepE_sound (K := wpList P ops Q r) (Q := Q) hS hG (s := s) ⟨hT, hM⟩ hE hstep fun ad' a' w' hR' hx => evSeq_sound hS hG hI r _ s' ad' a' w' h hR' fun ad'' a'' w'' hR'' hx' => hQ ad'' a'' w'' hR'' (hx.trans hx')
        by_cases hwd : Region.wanted o (yielded ops a.tmps) = true
        · rw [if_pos hwd] at this ⊢; exact .inl this
        · rw [if_neg hwd] at this ⊢; exact this
      · cases h
    · cases h

theorem condE_spec (hT : RelT F ρ ad m tm a) {c : Operand} {e : E} (h : condE (tm, m) c = some e) : e.kind = .b ∧ a.eval c = .bool (e.tt F ρ) := by
  unfold condE at h
  split at h
  · rename_i e' h1
    split at h
    · rename_i hk
      simp only [Option.some.injEq] at h; subst h
      obtain ⟨i1, _⟩ := getC_spec hT.env (cs := []) rfl h1
      exact ⟨hk, by rw [i1]; simp [SV.conc, E.val_b hk]⟩
    · cases h
  · cases h

theorem lk_one (l : Lab) (s : St) {q : St} (h : lk l [(l, s)] = some q) : q = s := by simp [lk] at h; exact h.symm

theorem evC_sound (hm : P.follows .mixedOrders = true) (hS : SumOK P F G T) (hG : GOK G w0) {call : Into} (hI : IntoOK P F ρ w0 call) {N : Nat} : ∀ (c : Code) (s : St) (o : Out) (ad : Nat → Nat) (a : Act) (w : World) (Q : Exit → Act → World → Prop),
    evC P F G T call N c s = some o → RelS F ρ w0 ad s a w → After F ρ w0 ad s.2 o Q → c.wp P Q a w := by
  intro c
  induction c with
  | skip =>
    intro s o ad a w Q h hR hA
    simp only [evC, Option.some.injEq] at h; subst h
    exact wp_skip (hA s ad a w (by simp [lk, DT.eval]) hR (Ext.refl _ _))
  | label l =>
    intro s o ad a w Q h hR hA
    simp only [evC, Option.some.injEq] at h; subst h
    exact wp_label (hA s ad a w (by simp [lk, DT.eval]) hR (Ext.refl _ _))
  | region id ops draw =>
    intro s o ad a w Q h hR hA
    cases draw with
    | true =>
      simp only [evC] at h
      obtain ⟨s', h1, rfl⟩ := Option.map_eq_some_iff.1 h
      exact draw_sound hm hS hG h1 hR fun ad' a' w' hR' hx => hA s' ad' a' w' (by simp [lk, DT.eval]) hR' hx
    | false =>
      simp only [evC] at h
      obtain ⟨s', h1, rfl⟩ := Option.map_eq_some_iff.1 h
      exact wp_region_list (evSeq_sound hS hG hI ops.toList s s' ad a w h1 hR fun ad' a' w' hR' hx => hA s' ad' a' w' (by simp [lk, DT.eval]) hR' hx)
  | seq x y ihx ihy =>
    intro s o ad a w Q h hR hA
    simp only [evC] at h
    split at h
    · rename_i ox hox
      refine wp_seq (ihx s ox ad a w _ hox hR ?_)
      split at h
      · rename_i hn
        simp only [Option.some.injEq] at h; subst h
        intro q ad' a' w' hq hR' hx
        have hne : ox.1.eval F ρ ≠ .nrm := fun e => by rw [e, hn] at hq; cases hq
        have := hA q ad' a' w' hq hR' hx
        cases hl : ox.1.eval F ρ with
        | nrm => exact (hne hl).elim
        | ret => rw [hl] at this; exact this
        | ex id => rw [hl] at this; exact this
      · rename_i s1 hn
        split at h
        · rename_i oy hoy
          obtain ⟨j1, j2⟩ := After.join h hA
          intro q ad' a' w' hq hR' hx
          by_cases he : ox.1.eval F ρ = .nrm
          · rw [he] at hq ⊢
            rw [hn] at hq
            simp only [Option.some.injEq] at hq
            subst hq
            refine ihy s1 oy ad' a' w' Q hoy hR' fun q' ad'' a'' w'' hq' hR'' hx' => ?_
            exact j2 he q' ad'' a'' w'' hq' hR'' (hx.trans hx')
          · have := j1 he q ad' a' w' hq hR' hx
            cases hl : ox.1.eval F ρ with
            | nrm => exact (he hl).elim
            | ret => rw [hl] at this; exact this
            | ex id => rw [hl] at this; exact this
        · cases h
    · cases h
  | cond c x y ihx ihy =>
    intro s o ad a w Q h hR hA
    simp only [evC] at h
    split at h
    · rename_i e he
      obtain ⟨hk, hev⟩ := condE_spec hR.1 he
      split at h
      · rename_i n hn
        have ht := lit?_tt hn F ρ
        rw [ht] at hev
        cases hi : i2b n
        · rw [hi] at h hev
          exact wp_cond (t := false) hev (ihy s o ad a w Q h hR hA)
        · rw [hi] at h hev
          exact wp_cond (t := true) hev (ihx s o ad a w Q h hR hA)
      · split at h
        · rename_i ox oy hox hoy
          obtain ⟨j1, j2⟩ := After.br h hA
          rcases Bool.eq_false_or_eq_true (e.tt F ρ) with ht | ht
          · rw [ht] at hev
            exact wp_cond (t := true) hev (ihx s ox ad a w Q hox hR (j1 ht))
          · rw [ht] at hev
            exact wp_cond (t := false) hev (ihy s oy ad a w Q hoy hR (j2 ht))
        · cases h
    · cases h
  | block id body ih =>
    intro s o ad a w Q h hR hA
    simp only [evC] at h
    split at h
    · rename_i o' ho'
      exact wp_block (ih s o' ad a w _ ho' hR (After.rel h hA))
    · cases h
  | loop body ih =>
    intro s o ad a w Q h hR hA
    simp only [evC] at h
    refine wp_loop_rounds N ?_
    have key : ∀ (n : Nat) (s : St) (o : Out) (ad : Nat → Nat) (a : Act) (w : World), evLoop (evC P F G T call N body) n s = some o → RelS F ρ w0 ad s a w → After F ρ w0 ad s.2 o Q → Code.rounds P body Q n a w := by
      intro n
      induction n with
      | zero => intro s o ad a w h; simp [evLoop] at h
      | succ n ihn =>
        intro s o ad a w h hR hA
        simp only [evLoop] at h
        split at h
        · rename_i o1 ho1
          rw [rounds_succ]
          refine ih s o1 ad a w _ ho1 hR ?_
          split at h
          · rename_i hn
            simp only [Option.some.injEq] at h; subst h
            intro q ad' a' w' hq hR' hx
            have hne : o1.1.eval F ρ ≠ .nrm := fun e => by rw [e, hn] at hq; cases hq
            have := hA q ad' a' w' hq hR' hx
            cases hl : o1.1.eval F ρ with
            | nrm => exact (hne hl).elim
            | ret => rw [hl] at this; exact this
            | ex id => rw [hl] at this; exact this
          · rename_i s1 hn
            split at h
            · rename_i o2 ho2
              obtain ⟨j1, j2⟩ := After.join h hA
              intro q ad' a' w' hq hR' hx
              by_cases he : o1.1.eval F ρ = .nrm
              · rw [he] at hq ⊢
                rw [hn] at hq
                simp only [Option.some.injEq] at hq
                subst hq
                refine ihn s1 o2 ad' a' w' ho2 hR' fun q' ad'' a'' w'' hq' hR'' hx' => ?_
                exact j2 he q' ad'' a'' w'' hq' hR'' (hx.trans hx')
              · have := j1 he q ad' a' w' hq hR' hx
                cases hl : o1.1.eval F ρ with
                | nrm => exact (he hl).elim
                | ret => rw [hl] at this; exact this
                | ex id => rw [hl] at this; exact this
            · cases h
        · cases h
    exact key N s o ad a w h hR hA
  | exit id =>
    intro s o ad a w Q h hR hA
    simp only [evC, Option.some.injEq] at h; subst h
    exact wp_exit (hA s ad a w (by simp [lk, DT.eval]) hR (Ext.refl _ _))
  | ret =>
    intro s o ad a w Q h hR hA
    simp only [evC, Option.some.injEq] at h; subst h
    exact wp_ret (hA s ad a w (by simp [lk, DT.eval]) hR (Ext.refl _ _))
  | _ => intro s o ad a w Q h; simp [evC] at h

def resM (a : Act) : ResultVar → Sem Value
  | .tmp t => pure (a.tmps.getD t undef)
  | .cell t ty => do loadVar ty (← asAddr (a.tmps.getD t undef))
theorem resS_run (hR : RelS F ρ w0 ad (tm, m) a w) : ∀ (rs : List ResultVar) (l : List SV), resS P (tm, m) rs = some l →
    (rs.mapM (resM a)).run P w = .ok (SV.concL F ρ ad l) w ∧ SV.okL (al m) l
  | [], l, h => by simp [resS] at h; subst h; exact ⟨rfl, trivial⟩
  | .tmp t :: r, l, h => by
    simp only [resS] at h
    split at h
    · rename_i v l' h1 h2
      simp only [Option.some.injEq] at h; subst h
      obtain ⟨i1, i2⟩ := getC_spec hR.1.env (cs := []) rfl h1
      obtain ⟨j1, j2⟩ := resS_run hR r l' h2
      have i1' : a.tmps.getD t undef = v.conc F ρ ad := i1
      refine ⟨?_, i2, j2⟩
      simp only [List.mapM_cons, Sem.run_bind, Sem.run_pure, Result.andThen_ok, resM, j1, i1', SV.concL]
    · cases h
  | .cell t ty :: r, l, h => by
    simp only [resS] at h
    split at h
    · rename_i n off ag sz h1 h2 h3
      split at h
      · rename_i v l' h4 h5
        simp only [Option.some.injEq] at h; subst h
        obtain ⟨i1, i2⟩ := getC_spec hR.1.env (cs := []) rfl h1
        obtain ⟨j1, j2⟩ := resS_run hR r l' h5
        obtain ⟨k1, k2⟩ := rdM_run (P := P) hR.2 h4
        have i1' : a.tmps.getD t undef = .pointer (some ⟨ad n, off, none⟩) := i1
        refine ⟨?_, k2, j2⟩
        have hl := loadAt_run (P := P) (w := w) (b := ad n) (off := off) h2 h3
        rw [k1] at hl
        simp only [Instr.loadAt, Instr.sureAddr, Sem.run_bind, Sem.run_pure, Result.andThen_ok] at hl
        have hlv : (loadVar ty ⟨ad n, off, none⟩).run P w = .ok (v.conc F ρ ad) w := by
          cases hx : (loadVar ty ⟨ad n, off, none⟩).run P w with
          | ok x w' =>
            rw [hx] at hl
            simp only [Result.andThen_ok, Result.ok.injEq, Next.value.injEq] at hl
            rw [hl.1, hl.2]
          | halt x w' => rw [hx] at hl; cases hl
        have ha : asAddr (.pointer (some ⟨ad n, off, none⟩)) = (pure ⟨ad n, off, none⟩ : Sem Addr) := rfl
        simp only [List.mapM_cons, Sem.run_bind, Sem.run_pure, Result.andThen_ok, resM, j1, i1', SV.concL, ha, hlv]
      · cases h
    · cases h

theorem finish_spec (hR : RelS F ρ w0 ad (tm, m) a w) {fn : Func} {v : SV} {m' : Mem} (h : finish P fn (tm, m) = some (v, m')) :
    m' = m ∧ (results fn a.tmps).run P w = .ok (v.conc F ρ ad) w ∧ v.ok (al m) := by
  unfold finish at h
  obtain ⟨l, h1, h2⟩ := Option.map_eq_some_iff.1 h
  simp only [Prod.mk.injEq] at h2
  obtain ⟨rfl, rfl⟩ := h2
  obtain ⟨j1, j2⟩ := resS_run hR fn.results.toList l h1
  have ht : (tupOf l).conc F ρ ad = if hs : (SV.concL F ρ ad l).toArray.size = 1 then (SV.concL F ρ ad l).toArray[0] else .tuple (SV.concL F ρ ad l).toArray := by
    unfold tupOf
    split
    · simp [SV.concL]
    · rename_i hne
      rw [dif_neg]
      · rfl
      · intro hs
        rw [concL_eq, List.size_toArray, List.length_map] at hs
        obtain ⟨v, hv⟩ := List.length_eq_one_iff.1 hs
        exact hne v hv
  refine ⟨rfl, ?_, ?_⟩
  · rw [ht]
    have hres : results fn a.tmps = (do let vs ← fn.results.mapM (resM a); pure (if h : vs.size = 1 then vs[0] else .tuple vs)) := by
      unfold results
      congr 2
    rw [hres, Array.mapM_eq_mapM_toList]
    simp only [Sem.run_bind, Sem.run_map, Sem.run_pure]
    rw [j1]
    rfl
  · unfold tupOf
    split
    · exact j2.1
    · simp only [SV.ok]; exact j2

theorem onlyRet_spec : ∀ {xs : List (Lab × St)}, onlyRet xs = true → ∀ l q, lk l xs = some q → l = .nrm ∨ l = .ret
  | [], _, l, q, h => by simp [lk] at h
  | (k, s) :: r, h, l, q, hq => by
    simp only [onlyRet, Bool.and_eq_true, Bool.or_eq_true, decide_eq_true_eq] at h
    simp only [lk] at hq
    split at hq
    · rename_i hk; subst hk; exact h.1
    · exact onlyRet_spec h.2 l q hq

theorem evFn_sound (hm : P.follows .mixedOrders = true) (hS : SumOK P F G T) (hG : GOK G w0) {N : Nat} : ∀ n, IntoOK P F ρ w0 (evFn P F G T N n)
  | 0 => fun f args m v m' h => by simp [evFn] at h
  | n + 1 => fun f args m v m' h ad w hM hok => by
    simp only [evFn] at h
    split at h
    · rename_i fn hf
      split at h
      · rename_i c hc
        split at h
        · rename_i o ho
          cases hor : onlyRet o.2
          · rw [hor] at h; cases h
          · rw [hor] at h
            simp only [cond_true] at h
            refine calls_of_wp hf hc ?_
            have hT : RelT F ρ ad m (args.map some ++ List.replicate (fn.ntmps - args.length) (some .und)) { tmps := (SV.concL F ρ ad args).toArray ++ Array.replicate (fn.ntmps - (SV.concL F ρ ad args).toArray.size) undef, defers := [] } := by
              refine ⟨rfl, by simp [concL_eq], fun i u hu => ?_⟩
              simp only [Tm.at, List.getD] at hu
              by_cases hi : i < args.length
              · rw [List.getElem?_append_left (by simpa using hi)] at hu
                simp only [List.getElem?_map, List.getElem?_eq_getElem hi, Option.map_some, Option.getD_some, Option.some.injEq] at hu
                subst hu
                refine ⟨?_, okL_get hok (List.getElem?_eq_getElem hi)⟩
                simp only [concL_eq, Array.getElem?_append, List.size_toArray, List.length_map, hi, if_true]
                simp [hi]
              · rw [List.getElem?_append_right (by simpa using hi), List.getElem?_replicate] at hu
                split at hu
                · rename_i hlt
                  simp only [Option.getD_some, Option.some.injEq] at hu
                  subst hu
                  refine ⟨?_, trivial⟩
                  simp only [List.length_map] at hlt
                  simp only [concL_eq, List.size_toArray, List.length_map, Array.getElem?_append]
                  rw [if_neg hi]
                  simp [Array.getElem?_replicate, hlt, SV.conc]
                · simp at hu
            refine evC_sound hm hS hG (evFn_sound hm hS hG n) c _ o ad _ w _ ho ⟨hT, hM⟩ ?_
            intro q ad' a' w' hq hR' hx
            have hdone : ∀ (s : St), finish P fn s = some (v, m') → RelS F ρ w0 ad' s a' w' → (∀ k, al m k → al s.2 k) → bodyPost P fn (fun e w' => ∃ ad', e = .returned (v.conc F ρ ad') ∧ Rel F ρ w0 ad' m' w' ∧ Ext ad ad' m m' ∧ v.ok (al m')) (o.1.eval F ρ).exit a' w' := by
              intro s hfin hRs hk
              obtain ⟨rfl, f2, f3⟩ := finish_spec (tm := s.1) (m := s.2) hRs hfin
              have hb : a'.defers = [] ∧ ∃ u, (results fn a'.tmps).run P w' = .ok u w' ∧ (fun e w' => ∃ ad', e = Ending.returned (v.conc F ρ ad') ∧ Rel F ρ w0 ad' s.2 w' ∧ Ext ad ad' m s.2 ∧ v.ok (al s.2)) (.returned u) w' :=
                ⟨hRs.1.defers, _, f2, ad', rfl, hRs.2, ⟨hx.same, hk⟩, f3⟩
              rcases onlyRet_spec hor _ _ hq with hl | hl <;> rw [hl] <;> exact hb
            split at h
            · rename_i s h1 h2
              rcases onlyRet_spec hor _ _ hq with hl | hl
              · rw [hl, h2] at hq; cases hq
              · rw [hl, h1] at hq
                simp only [Option.some.injEq] at hq; subst hq
                exact hdone s h hR' hx.keep
            · rename_i s h1 h2
              rcases onlyRet_spec hor _ _ hq with hl | hl
              · rw [hl, h2] at hq
                simp only [Option.some.injEq] at hq; subst hq
                exact hdone s h hR' hx.keep
              · rw [hl, h1] at hq; cases hq
            · rename_i s s' h1 h2
              obtain ⟨q0, hq0, hfin⟩ := Option.bind_eq_some_iff.1 h
              obtain ⟨k1, k2, k3⟩ := mergeSt_spec (F := F) (ρ := ρ) (w0 := w0) hq0
              rcases onlyRet_spec hor _ _ hq with hl | hl
              · rw [hl, h2] at hq
                simp only [Option.some.injEq] at hq; subst hq
                exact hdone q0 hfin (k3 ad' a' w' (DT.is_false (by rw [hl]; exact fun e => by cases e)) hR') k1
              · rw [hl, h1] at hq
                simp only [Option.some.injEq] at hq; subst hq
                exact hdone q0 hfin (k2 ad' a' w' (DT.is_true hl) hR') k1
            · cases h
        · cases h
      · cases h
    · cases h
end
end Go.Proofs.YtbolcnlenmphhaaDoor.Ev

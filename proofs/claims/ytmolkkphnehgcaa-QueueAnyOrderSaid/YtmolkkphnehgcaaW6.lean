/- The evaluator: code and functions; that what it says of a function holds of the function's calls. -/
import Derived.Test.YtmolkkphnehgcaaW5
set_option linter.unusedVariables false
set_option linter.unusedSimpArgs false
namespace Go.Proofs.Ytmolkkphnehgcaa.Ew
open Go Go.RowKit

abbrev Loops := List Bool → Option LEnt
def codeAt : Code → List Bool → Option Code
  | .seq x y, b :: p => bif b then codeAt y p else codeAt x p
  | .cond _ x y, b :: p => bif b then codeAt y p else codeAt x p
  | .block _ c, _ :: p => codeAt c p
  | .loop c, _ :: p => codeAt c p
  | c, [] => some c
  | _, _ :: _ => none

def seqOut (f : St → Option (E × Out)) (r : E × Out) : Option (E × Out) :=
  match lk .nrm r.2.2 with
  | none => some r
  | some s1 => match f s1 with
    | some q => match joinOut r.2 q.2 with
      | some o => some (andB r.1 (impB (r.2.1.is .nrm) q.1), o)
      | none => none
    | none => none
def evLoop (f : St → Option (E × Out)) : Nat → St → Option (E × Out)
  | 0, _ => none
  | n + 1, s => match f s with
    | some r => seqOut (evLoop f n) r
    | none => none
def padTo (m : Mem) (o : Option (E × Out)) : Nat :=
  match o with
  | some r => r.2.2.foldl (fun k x => max k x.2.2.length) m.length - m.length
  | none => 0
def brE (e : E) (x y : Option (E × Out)) : Option (E × Out) :=
  match x, y with
  | some ox, some oy => match brOut e ox.2 oy.2 with
    | some o => some (andB (impB e ox.1) (impB (mkNot e) oy.1), o)
    | none => none
  | some ox, none => some (andB e ox.1, ox.2)
  | none, some oy => some (andB (mkNot e) oy.1, oy.2)
  | none, none => none

def evCode (P : Program) (G : Glob) (T : Tab) (call : Into) (N : Nat) : Loops → Code → St → Option (E × Out)
  | _, .skip, s => some (mkB true, .leaf .nrm, [(.nrm, s)])
  | _, .label _, s => some (mkB true, .leaf .nrm, [(.nrm, s)])
  | _, .region _ ops true, s => match evDraw P G T ops s with
    | some (g, s') => some (g, .leaf .nrm, [(.nrm, s')])
    | none => none
  | _, .region _ ops false, s => match evSeq P G T call ops ops.toList s with
    | some (g, s') => some (g, .leaf .nrm, [(.nrm, s')])
    | none => none
  | L, .seq x y, s => match L [] with
    | some le => callL le s
    | none => match evCode P G T call N (fun p => L (false :: p)) x s with
      | some r => seqOut (evCode P G T call N (fun p => L (true :: p)) y) r
      | none => none
  | L, .cond c x y, s => match condE s c with
    | some e => match e.lit? with
      | some n => bif i2b n then evCode P G T call N (fun p => L (false :: p)) x s else evCode P G T call N (fun p => L (true :: p)) y s
      | none => match evCode P G T call N (fun p => L (false :: p)) x s with
        | ox => brE e ox (evCode P G T call N (fun p => L (true :: p)) y (s.1, s.2 ++ List.replicate (padTo s.2 ox) none))
    | none => none
  | L, .block id body, s => match evCode P G T call N (fun p => L (false :: p)) body s with
    | some r => match relOut id r.2 with
      | some o => some (r.1, o)
      | none => none
    | none => none
  | L, .loop body, s => match L [] with
    | some le => callL le s
    | none => evLoop (evCode P G T call N (fun p => L (false :: p)) body) N s
  | _, .exit id, s => some (mkB true, .leaf (.ex id), [(.ex id, s)])
  | _, .ret, s => some (mkB true, .leaf .ret, [(.ret, s)])
  | _, _, _ => none

def resS (P : Program) (s : St) : List ResultVar → Option (E × List SV)
  | [] => some (mkB true, [])
  | .tmp t :: r => match getC [] s.1.at (.tmp t), resS P s r with
    | some v, some l => some (l.1, v :: l.2)
    | _, _ => none
  | .cell t ty :: r => match getC [] s.1.at (.tmp t), aggOf P ty, szOf P ty with
    | some (.ptr n off), some ag, some sz => match blkC s.2 n with
      | some (g, _, cs) => match rdC cs off sz ag, resS P s r with
        | some v, some l => some (andB g l.1, v :: l.2)
        | _, _ => none
      | none => none
    | _, _, _ => none
def tupOf : List SV → SV
  | [v] => v
  | l => .tup l

def finish (P : Program) (fn : Func) (s : St) : Option (E × SV × Mem) := (resS P s fn.results.toList).map fun l => (l.1, tupOf l.2, s.2)

def onlyRet : List (Lab × St) → Bool
  | [] => true
  | (l, _) :: r => (decide (l = .nrm) || decide (l = .ret)) && onlyRet r

/-- The one state at a function's end. -/
def endSt (m : Mem) (o : Out) : Option St :=
  bif onlyRet o.2 then
    match lk .ret o.2, lk .nrm o.2 with
    | some s, none => some s
    | none, some s => some s
    | some s, some s' => mergeSt (o.1.is .ret) s s'
    | none, none => none
  else none
def tm0 (n : Nat) (args : List SV) : Tm := args.map some ++ List.replicate (n - args.length) (some .und)

def evFn (P : Program) (G : Glob) (T : Tab) (LT : Nat → Loops) (N : Nat) : Nat → Into
  | 0, _, _, _ => none
  | n + 1, f, args, m => match P.funcs[f]? with
    | some fn => match fn.body with
      | some c => match evCode P G T (evFn P G T LT N n) N (LT f) c (tm0 fn.ntmps args, m) with
        | some r => match endSt m r.2 with
          | some s => match finish P fn s with
            | some q => some (andB r.1 q.1, q.2)
            | none => none
          | none => none
        | none => none
      | none => none
    | none => none

section
variable {P : Program} {ρ : Nat → Int} {G : Glob} {T : Tab} {l : Tabs} {w0 w : World} {M0 Im0 : Nat → Prop} {ad : Nat → Hd} {m m2 m' : Mem} {tm : Tm} {en : Env} {a : Act}

/-- The loops' summaries hold of the code's loops. -/
def LoopsOK (P : Program) (G : Glob) (l : Tabs) (L : Loops) (c : Code) : Prop :=
  ∀ p le, L p = some le → ∀ body, codeAt c p = some body → l.get le.ent.key = some le.ent ∧ CodeOK P G body le

theorem seqOut_sound {f : St → Option (E × Out)} {r : E × Out} {s0 : Mem} {g : E} {o : Out} (h : seqOut f r = some (g, o)) (ht : g.tt l.F ρ = true) {Q : Exit → Act → World → Prop} {K : Act → World → Prop}
    (hA : After l.F ρ w0 M0 Im0 ad s0 o Q)
    (hK : ∀ s1 g2 o2 ad' a' w', f s1 = some (g2, o2) → g2.tt l.F ρ = true → RelS l.F ρ w0 M0 Im0 ad' s1 a' w' → After l.F ρ w0 M0 Im0 ad' s1.2 o2 Q → K a' w') :
    r.1.tt l.F ρ = true ∧ After l.F ρ w0 M0 Im0 ad s0 r.2 (Exit.then K Q) := by
  unfold seqOut at h
  split at h
  · rename_i hn
    simp only [Option.some.injEq] at h; subst h
    refine ⟨ht, fun q ad' a' w' hq hR' hx => ?_⟩
    have hne : o.1.eval l.F ρ ≠ .nrm := fun e => by rw [e, hn] at hq; cases hq
    have := hA q ad' a' w' hq hR' hx
    cases hl : o.1.eval l.F ρ with
    | nrm => exact (hne hl).elim
    | ret => rw [hl] at this; exact this
    | ex id => rw [hl] at this; exact this
  · rename_i s1 hn
    split at h
    · rename_i q0 hq0
      split at h
      · rename_i o' ho'
        simp only [Option.some.injEq, Prod.mk.injEq] at h
        obtain ⟨rfl, rfl⟩ := h
        obtain ⟨t1, t2⟩ := andB_tt ht
        obtain ⟨j1, j2⟩ := After.join ho' hA
        refine ⟨t1, fun q ad' a' w' hq hR' hx => ?_⟩
        by_cases he : r.2.1.eval l.F ρ = .nrm
        · rw [he] at hq ⊢
          rw [hn] at hq
          simp only [Option.some.injEq] at hq
          subst hq
          refine hK s1 q0.1 q0.2 ad' a' w' hq0 (impB_tt t2 (DT.is_true he)) hR' fun q' ad'' a'' w'' hq' hR'' hx' => ?_
          exact j2 he q' ad'' a'' w'' hq' hR'' (hx.trans hx')
        · have := j1 he q ad' a' w' hq hR' hx
          cases hl : r.2.1.eval l.F ρ with
          | nrm => exact (he hl).elim
          | ret => rw [hl] at this; exact this
          | ex id => rw [hl] at this; exact this
      · cases h
    · cases h

theorem brE_sound {e : E} {x y : Option (E × Out)} {s0 : Mem} {g : E} {o : Out} (h : brE e x y = some (g, o)) (ht : g.tt l.F ρ = true) {Q : Exit → Act → World → Prop} (hA : After l.F ρ w0 M0 Im0 ad s0 o Q) :
    (e.tt l.F ρ = true → ∃ g1 o1, x = some (g1, o1) ∧ g1.tt l.F ρ = true ∧ After l.F ρ w0 M0 Im0 ad s0 o1 Q) ∧ (e.tt l.F ρ = false → ∃ g1 o1, y = some (g1, o1) ∧ g1.tt l.F ρ = true ∧ After l.F ρ w0 M0 Im0 ad s0 o1 Q) := by
  have hnot : e.tt l.F ρ = false → (mkNot e).tt l.F ρ = true := fun h => by rw [(mkNot_spec e l.F ρ).1, h]; rfl
  unfold brE at h
  split at h
  · rename_i ox oy
    split at h
    · rename_i o' ho'
      simp only [Option.some.injEq, Prod.mk.injEq] at h
      obtain ⟨rfl, rfl⟩ := h
      obtain ⟨t1, t2⟩ := andB_tt ht
      obtain ⟨j1, j2⟩ := After.br ho' hA
      exact ⟨fun he => ⟨ox.1, ox.2, rfl, impB_tt t1 he, j1 he⟩, fun he => ⟨oy.1, oy.2, rfl, impB_tt t2 (hnot he), j2 he⟩⟩
    · cases h
  · rename_i ox
    simp only [Option.some.injEq, Prod.mk.injEq] at h
    obtain ⟨rfl, rfl⟩ := h
    obtain ⟨t1, t2⟩ := andB_tt ht
    exact ⟨fun _ => ⟨ox.1, ox.2, rfl, t2, hA⟩, fun he => by rw [t1] at he; cases he⟩
  · rename_i oy
    simp only [Option.some.injEq, Prod.mk.injEq] at h
    obtain ⟨rfl, rfl⟩ := h
    obtain ⟨t1, t2⟩ := andB_tt ht
    rw [(mkNot_spec e l.F ρ).1] at t1
    exact ⟨fun he => (by rw [he] at t1; cases t1), fun _ => ⟨oy.1, oy.2, rfl, t2, hA⟩⟩
  · cases h

theorem evCode_sound (hm : P.follows .mixedOrders = true) (hS : SumOK P G l T) (hG : GOK G Im0 w0) {call : Into} (hI : IntoOK P l ρ w0 M0 Im0 call) {N : Nat} : ∀ (c : Code) (L : Loops) (s : St) (g : E) (o : Out) (ad : Nat → Hd) (a : Act) (w : World) (Q : Exit → Act → World → Prop),
    LoopsOK P G l L c → evCode P G T call N L c s = some (g, o) → g.tt l.F ρ = true → RelS l.F ρ w0 M0 Im0 ad s a w → After l.F ρ w0 M0 Im0 ad s.2 o Q → c.wp P Q a w := by
  intro c
  induction c with
  | skip =>
    intro L s g o ad a w Q hL h ht hR hA
    simp only [evCode, Option.some.injEq, Prod.mk.injEq] at h
    obtain ⟨rfl, rfl⟩ := h
    exact wp_skip (hA s ad a w (by simp [lk, DT.eval]) hR (Ext.refl _ _))
  | label k =>
    intro L s g o ad a w Q hL h ht hR hA
    simp only [evCode, Option.some.injEq, Prod.mk.injEq] at h
    obtain ⟨rfl, rfl⟩ := h
    exact wp_label (hA s ad a w (by simp [lk, DT.eval]) hR (Ext.refl _ _))
  | region id ops draw =>
    intro L s g o ad a w Q hL h ht hR hA
    cases draw with
    | true =>
      simp only [evCode] at h
      split at h
      · rename_i g1 s' h1
        simp only [Option.some.injEq, Prod.mk.injEq] at h
        obtain ⟨rfl, rfl⟩ := h
        exact (draw_sound hm hS hG h1).2 ht hR fun ad' a' w' hR' hx => hA s' ad' a' w' (by simp [lk, DT.eval]) hR' hx
      · cases h
    | false =>
      simp only [evCode] at h
      split at h
      · rename_i g1 s' h1
        simp only [Option.some.injEq, Prod.mk.injEq] at h
        obtain ⟨rfl, rfl⟩ := h
        exact wp_region_list (evSeq_sound hS hG hI ops.toList s s' g1 ad a w h1 ht hR fun ad' a' w' hR' hx => hA s' ad' a' w' (by simp [lk, DT.eval]) hR' hx)
      · cases h
  | seq x y ihx ihy =>
    intro L s g o ad a w Q hL h ht hR hA
    simp only [evCode] at h
    split at h
    · rename_i le hle
      obtain ⟨l1, l2⟩ := hL [] le hle (.seq x y) rfl
      exact callL_sound l1 l2 hG h ht hR hA
    split at h
    · rename_i r hr
      obtain ⟨t1, t2⟩ := seqOut_sound (K := y.wp P Q) h ht hA fun s1 g2 o2 ad' a' w' h2 ht2 hR' hA' => ihy _ s1 g2 o2 ad' a' w' Q (fun p le hp body hb => hL (true :: p) le hp body hb) h2 ht2 hR' hA'
      exact wp_seq (ihx _ s r.1 r.2 ad a w _ (fun p le hp body hb => hL (false :: p) le hp body hb) hr t1 hR t2)
    · cases h
  | cond c x y ihx ihy =>
    intro L s g o ad a w Q hL h ht hR hA
    simp only [evCode] at h
    split at h
    · rename_i e he
      obtain ⟨hk, hev⟩ := condE_spec hR.1 he
      split at h
      · rename_i n hn
        have htn := lit?_tt hn l.F ρ
        rw [htn] at hev
        cases hi : i2b n
        · rw [hi] at h hev
          exact wp_cond (t := false) hev (ihy _ s g o ad a w Q (fun p le hp body hb => hL (true :: p) le hp body hb) h ht hR hA)
        · rw [hi] at h hev
          exact wp_cond (t := true) hev (ihx _ s g o ad a w Q (fun p le hp body hb => hL (false :: p) le hp body hb) h ht hR hA)
      · obtain ⟨j1, j2⟩ := brE_sound h ht hA
        rcases Bool.eq_false_or_eq_true (e.tt l.F ρ) with hte | hte
        · rw [hte] at hev
          obtain ⟨g1, o1, k1, k2, k3⟩ := j1 hte
          exact wp_cond (t := true) hev (ihx _ s g1 o1 ad a w Q (fun p le hp body hb => hL (false :: p) le hp body hb) k1 k2 hR k3)
        · rw [hte] at hev
          obtain ⟨g1, o1, k1, k2, k3⟩ := j2 hte
          refine wp_cond (t := false) hev (ihy _ _ g1 o1 ad a w Q (fun p le hp body hb => hL (true :: p) le hp body hb) k1 k2 (hR.extend _) fun q ad' a' w' hq hR' hx => k3 q ad' a' w' hq hR' ⟨fun k hk => hx.same k ?_, fun k hk => hx.keep k ?_⟩) <;> simpa [al_append] using hk
    · cases h
  | block id body ih =>
    intro L s g o ad a w Q hL h ht hR hA
    simp only [evCode] at h
    split at h
    · rename_i r hr
      split at h
      · rename_i o' ho'
        simp only [Option.some.injEq, Prod.mk.injEq] at h
        obtain ⟨rfl, rfl⟩ := h
        exact wp_block (ih _ s r.1 r.2 ad a w _ (fun p le hp body hb => hL (false :: p) le hp body hb) hr ht hR (After.rel ho' hA))
      · cases h
    · cases h
  | loop body ih =>
    intro L s g o ad a w Q hL h ht hR hA
    simp only [evCode] at h
    split at h
    · rename_i le hle
      obtain ⟨l1, l2⟩ := hL [] le hle (.loop body) rfl
      exact callL_sound l1 l2 hG h ht hR hA
    · refine wp_loop_rounds N ?_
      have key : ∀ (n : Nat) (s : St) (g : E) (o : Out) (ad : Nat → Hd) (a : Act) (w : World), evLoop (evCode P G T call N (fun p => L (false :: p)) body) n s = some (g, o) → g.tt l.F ρ = true → RelS l.F ρ w0 M0 Im0 ad s a w → After l.F ρ w0 M0 Im0 ad s.2 o Q → Code.rounds P body Q n a w := by
        intro n
        induction n with
        | zero => intro s g o ad a w h; simp [evLoop] at h
        | succ n ihn =>
          intro s g o ad a w h ht hR hA
          simp only [evLoop] at h
          split at h
          · rename_i r hr
            rw [rounds_succ]
            obtain ⟨t1, t2⟩ := seqOut_sound (K := Code.rounds P body Q n) h ht hA fun s1 g2 o2 ad' a' w' h2 ht2 hR' hA' => ihn s1 g2 o2 ad' a' w' h2 ht2 hR' hA'
            exact ih _ s r.1 r.2 ad a w _ (fun p le hp body hb => hL (false :: p) le hp body hb) hr t1 hR t2
          · cases h
      exact key N s g o ad a w h ht hR hA
  | exit id =>
    intro L s g o ad a w Q hL h ht hR hA
    simp only [evCode, Option.some.injEq, Prod.mk.injEq] at h
    obtain ⟨rfl, rfl⟩ := h
    exact wp_exit (hA s ad a w (by simp [lk, DT.eval]) hR (Ext.refl _ _))
  | ret =>
    intro L s g o ad a w Q hL h ht hR hA
    simp only [evCode, Option.some.injEq, Prod.mk.injEq] at h
    obtain ⟨rfl, rfl⟩ := h
    exact wp_ret (hA s ad a w (by simp [lk, DT.eval]) hR (Ext.refl _ _))
  | _ => intro L s g o ad a w Q hL h; simp [evCode] at h

def resM (a : Act) : ResultVar → Sem Value
  | .tmp t => pure (a.tmps.getD t undef)
  | .cell t ty => do loadVar ty (← asAddr (a.tmps.getD t undef))
theorem resS_run {F : Fam} (hR : RelS F ρ w0 M0 Im0 ad (tm, m) a w) : ∀ (rs : List ResultVar) (q : E × List SV), resS P (tm, m) rs = some q → q.1.tt F ρ = true →
    (rs.mapM (resM a)).run P w = .ok (SV.concL F ρ ad q.2) w ∧ SV.okL (al m) q.2
  | [], q, h, ht => by simp only [resS, Option.some.injEq] at h; subst h; exact ⟨rfl, trivial⟩
  | .tmp t :: r, q, h, ht => by
    simp only [resS] at h
    split at h
    · rename_i v l' h1 h2
      simp only [Option.some.injEq] at h; subst h
      obtain ⟨i1, i2⟩ := getC_spec hR.1.envV (cs := []) rfl h1
      obtain ⟨j1, j2⟩ := resS_run hR r l' h2 ht
      have i1' : a.tmps.getD t undef = v.conc F ρ ad := i1
      refine ⟨?_, i2, j2⟩
      simp only [List.mapM_cons, Sem.run_bind, Sem.run_pure, Result.andThen_ok, resM, j1, i1', SV.concL]
    · cases h
  | .cell t ty :: r, q, h, ht => by
    simp only [resS] at h
    split at h
    · rename_i n off ag sz h1 h2 h3
      split at h
      · rename_i g ty' cs h4
        split at h
        · rename_i v l' h5 h6
          simp only [Option.some.injEq] at h; subst h
          obtain ⟨t1, t2⟩ := andB_tt ht
          obtain ⟨i1, i2⟩ := getC_spec hR.1.envV (cs := []) rfl h1
          obtain ⟨j1, j2⟩ := resS_run hR r l' h6 t2
          obtain ⟨_, Im, _, _, hI⟩ := hR.2
          obtain ⟨b1, b2⟩ := blkC_spec h4
          have hh : w.heap[(ad n).blk]? = some (.cells (SV.concL F ρ ad cs).toArray ty' (0, 0)) := (hI.ent n g _ b1 t1).1
          have hcell : ∀ j u, (SV.concL F ρ ad cs)[j]? = some u → w.cell? ⟨(ad n).blk, 0 + j, none⟩ = some u := fun j u hu => by
            rw [Nat.zero_add, cell_of_heap hh]; simpa using hu
          obtain ⟨k1, k2⟩ := rdC_run (P := P) hcell h5
          rw [Nat.zero_add] at k1
          have i1' : a.tmps.getD t undef = .pointer (some ⟨(ad n).blk, off, none⟩) := i1
          refine ⟨?_, k2 _ (hI.ok n g _ b1), j2⟩
          have hl := loadAt_run (P := P) (w := w) (b := (ad n).blk) (off := off) h2 h3
          rw [k1] at hl
          simp only [Instr.loadAt, Instr.sureAddr, Sem.run_bind, Sem.run_pure, Result.andThen_ok] at hl
          have hlv : (loadVar ty ⟨(ad n).blk, off, none⟩).run P w = .ok (v.conc F ρ ad) w := by
            cases hx : (loadVar ty ⟨(ad n).blk, off, none⟩).run P w with
            | ok x w' =>
              rw [hx] at hl
              simp only [Result.andThen_ok, Result.ok.injEq, Next.value.injEq] at hl
              rw [hl.1, hl.2]
            | halt x w' => rw [hx] at hl; cases hl
          have ha : asAddr (.pointer (some ⟨(ad n).blk, off, none⟩)) = (pure ⟨(ad n).blk, off, none⟩ : Sem Addr) := rfl
          simp only [List.mapM_cons, Sem.run_bind, Sem.run_pure, Result.andThen_ok, resM, j1, i1', SV.concL, ha, hlv]
        · cases h
      · cases h
    · cases h

theorem finish_spec {F : Fam} (hR : RelS F ρ w0 M0 Im0 ad (tm, m) a w) {fn : Func} {g : E} {v : SV} {m' : Mem} (h : finish P fn (tm, m) = some (g, v, m')) (ht : g.tt F ρ = true) :
    m' = m ∧ (results fn a.tmps).run P w = .ok (v.conc F ρ ad) w ∧ v.ok (al m) := by
  unfold finish at h
  obtain ⟨q, h1, h2⟩ := Option.map_eq_some_iff.1 h
  obtain ⟨gq, l⟩ := q
  simp only [Prod.mk.injEq] at h2
  obtain ⟨rfl, rfl, rfl⟩ := h2
  obtain ⟨j1, j2⟩ := resS_run hR fn.results.toList _ h1 ht
  simp only at j1 j2
  have htu : (tupOf l).conc F ρ ad = if hs : (SV.concL F ρ ad l).toArray.size = 1 then (SV.concL F ρ ad l).toArray[0] else .tuple (SV.concL F ρ ad l).toArray := by
    unfold tupOf
    split
    · simp [SV.concL]
    · rename_i hne
      rw [dif_neg]
      · rfl
      · intro hs
        rw [concL_eq, List.size_toArray, List.length_map] at hs
        obtain ⟨v, hv⟩ := List.length_eq_one_iff.1 hs
        exact hne v hv
  refine ⟨rfl, ?_, ?_⟩
  · rw [htu]
    have hres : results fn a.tmps = (do let vs ← fn.results.mapM (resM a); pure (if h : vs.size = 1 then vs[0] else .tuple vs)) := by
      unfold results
      congr 2
    rw [hres, Array.mapM_eq_mapM_toList]
    simp only [Sem.run_bind, Sem.run_map, Sem.run_pure]
    rw [j1]
    rfl
  · unfold tupOf
    split
    · exact j2.1
    · simp only [SV.ok]; exact j2

theorem onlyRet_spec : ∀ {xs : List (Lab × St)}, onlyRet xs = true → ∀ l q, lk l xs = some q → l = .nrm ∨ l = .ret
  | [], _, l, q, h => by simp [lk] at h
  | (k, s) :: r, h, l, q, hq => by
    simp only [onlyRet, Bool.and_eq_true, Bool.or_eq_true, decide_eq_true_eq] at h
    simp only [lk] at hq
    split at hq
    · rename_i hk; subst hk; exact h.1
    · exact onlyRet_spec h.2 l q hq


theorem tm0_rel {F : Fam} {args : List SV} {n : Nat} (hok : SV.okL (al m) args) : RelT F ρ ad m (tm0 n args) { tmps := (SV.concL F ρ ad args).toArray ++ Array.replicate (n - (SV.concL F ρ ad args).toArray.size) undef, defers := [] } := by
  refine ⟨rfl, by simp [concL_eq, tm0], fun i u hu => ?_⟩
  simp only [Tm.at, List.getD, tm0] at hu
  by_cases hi : i < args.length
  · rw [List.getElem?_append_left (by simpa using hi)] at hu
    simp only [List.getElem?_map, List.getElem?_eq_getElem hi, Option.map_some, Option.getD_some, Option.some.injEq] at hu
    subst hu
    refine ⟨?_, okL_get hok (List.getElem?_eq_getElem hi)⟩
    simp only [concL_eq, Array.getElem?_append, List.size_toArray, List.length_map, hi, if_true]
    simp [hi]
  · rw [List.getElem?_append_right (by simpa using hi), List.getElem?_replicate] at hu
    split at hu
    · rename_i hlt
      simp only [Option.getD_some, Option.some.injEq] at hu
      subst hu
      refine ⟨?_, trivial⟩
      simp only [List.length_map] at hlt
      simp only [concL_eq, List.size_toArray, List.length_map, Array.getElem?_append]
      rw [if_neg hi]
      simp [Array.getElem?_replicate, hlt, SV.conc]
    · simp at hu

/-- The one state at the end tells of every way out. -/
theorem endSt_spec {F : Fam} {o : Out} {s : St} (h : endSt m o = some s) {q : St} (hq : lk (o.1.eval F ρ) o.2 = some q) : (o.1.eval F ρ = .nrm ∨ o.1.eval F ρ = .ret) ∧ (∀ ad a w, RelS F ρ w0 M0 Im0 ad q a w → RelS F ρ w0 M0 Im0 ad s a w) ∧ ∀ k, al q.2 k → al s.2 k := by
  unfold endSt at h
  cases hor : onlyRet o.2
  · rw [hor] at h; cases h
  · rw [hor] at h
    simp only [cond_true] at h
    have hlab := onlyRet_spec hor _ _ hq
    refine ⟨hlab, ?_⟩
    split at h
    · rename_i s' h1 h2
      simp only [Option.some.injEq] at h; subst h
      rcases hlab with hl | hl
      · rw [hl, h2] at hq; cases hq
      · rw [hl, h1] at hq
        simp only [Option.some.injEq] at hq; subst hq
        exact ⟨fun _ _ _ h => h, fun _ h => h⟩
    · rename_i s' h1 h2
      simp only [Option.some.injEq] at h; subst h
      rcases hlab with hl | hl
      · rw [hl, h2] at hq
        simp only [Option.some.injEq] at hq; subst hq
        exact ⟨fun _ _ _ h => h, fun _ h => h⟩
      · rw [hl, h1] at hq; cases hq
    · rename_i s1 s2 h1 h2
      obtain ⟨k1, k2, k3⟩ := mergeSt_spec (F := F) (ρ := ρ) (w0 := w0) (M0 := M0) (Im0 := Im0) h
      rcases hlab with hl | hl
      · rw [hl, h2] at hq
        simp only [Option.some.injEq] at hq; subst hq
        exact ⟨fun ad a w hR => k3 ad a w (DT.is_false (by rw [hl]; exact fun e => by cases e)) hR, fun k hk => k1 k (Or.inr hk)⟩
      · rw [hl, h1] at hq
        simp only [Option.some.injEq] at hq; subst hq
        exact ⟨fun ad a w hR => k2 ad a w (DT.is_true hl) hR, fun k hk => k1 k (Or.inl hk)⟩
    · cases h

/-- The summaries of loops, by functions. -/
def LTOK (P : Program) (G : Glob) (l : Tabs) (LT : Nat → Loops) : Prop := ∀ f fn c, P.funcs[f]? = some fn → fn.body = some c → LoopsOK P G l (LT f) c

theorem evFn_sound (hm : P.follows .mixedOrders = true) (hS : SumOK P G l T) (hG : GOK G Im0 w0) {LT : Nat → Loops} (hLT : LTOK P G l LT) {N : Nat} : ∀ n, IntoOK P l ρ w0 M0 Im0 (evFn P G T LT N n)
  | 0 => fun f args m ob v m' h => by simp [evFn] at h
  | n + 1 => fun f args m ob v m' h ht ad w hM hok => by
    simp only [evFn] at h
    split at h
    · rename_i fn hf
      split at h
      · rename_i c hc
        split at h
        · rename_i r hr
          split at h
          · rename_i s hs
            split at h
            · rename_i q hq
              obtain ⟨gq, vq, mq⟩ := q
              simp only [Option.some.injEq, Prod.mk.injEq] at h
              obtain ⟨rfl, rfl, rfl⟩ := h
              obtain ⟨t1, t2⟩ := andB_tt ht
              refine calls_of_wp hf hc ?_
              refine evCode_sound hm hS hG (evFn_sound hm hS hG hLT n) c (LT f) _ r.1 r.2 ad _ w _ (hLT f fn c hf hc) hr t1 ⟨tm0_rel hok, hM⟩ ?_
              intro q0 ad' a' w' hq0 hR' hx
              obtain ⟨e1, e2, e3⟩ := endSt_spec (w0 := w0) (M0 := M0) (Im0 := Im0) hs hq0
              have hRs := e2 ad' a' w' hR'
              obtain ⟨f1, f2, f3⟩ := finish_spec (P := P) (tm := s.1) (m := s.2) hRs (fn := fn) hq t2
              subst f1
              have hb : a'.defers = [] ∧ ∃ u, (results fn a'.tmps).run P w' = .ok u w' ∧ (fun e w' => ∃ ad', e = Ending.returned (vq.conc l.F ρ ad') ∧ Rel l.F ρ w0 M0 Im0 ad' s.2 w' ∧ Ext ad ad' m s.2 ∧ vq.ok (al s.2)) (.returned u) w' :=
                ⟨hRs.1.defers, _, f2, ad', rfl, hRs.2, ⟨hx.same, fun k hk => e3 k (hx.keep k hk)⟩, f3⟩
              rcases e1 with hl | hl <;> rw [hl] <;> exact hb
            · cases h
          · cases h
        · cases h
      · cases h
    · cases h
end
end Go.Proofs.Ytmolkkphnehgcaa.Ew

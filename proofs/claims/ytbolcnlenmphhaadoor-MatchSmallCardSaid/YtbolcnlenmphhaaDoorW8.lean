/- The evaluator: code and functions; that what it says of a function holds of the function's calls. -/
import Derived.Test.YtbolcnlenmphhaaDoorW5
set_option linter.unusedVariables false
set_option linter.unusedSimpArgs false
namespace Go.Proofs.YtbolcnlenmphhaaDoor.Ew
open Go Go.RowKit

abbrev Loops := List Bool → Option LEnt
def codeAt : Code → List Bool → Option Code
  | .seq x y, b :: p => bif b then codeAt y p else codeAt x p
  | .cond _ x y, b :: p => bif b then codeAt y p else codeAt x p
  | .block _ c, _ :: p => codeAt c p
  | .loop c, _ :: p => codeAt c p
  | c, [] => some c
  | _, _ :: _ => none

def seqOut (f : St → Option (E × Out)) (r : E × Out) : Option (E × Out) :=
  match lk .nrm r.2.2 with
  | none => some r
  | some s1 => match f s1 with
    | some q => match joinOut r.2 q.2 with
      | some o => some (andB r.1 (impB (r.2.1.is .nrm) q.1), o)
      | none => none
    | none => none
def evLoop (f : St → Option (E × Out)) : Nat → St → Option (E × Out)
  | 0, _ => none
  | n + 1, s => match f s with
    | some r => seqOut (evLoop f n) r
    | none => none
def padTo (m : Mem) (o : Option (E × Out)) : Nat :=
  match o with
  | some r => r.2.2.foldl (fun k x => max k x.2.2.length) m.length - m.length
  | none => 0
def brE (e : E) (x y : Option (E × Out)) : Option (E × Out) :=
  match x, y with
  | some ox, some oy => match brOut e ox.2 oy.2 with
    | some o => some (andB (impB e ox.1) (impB (mkNot e) oy.1), o)
    | none => none
  | some ox, none => some (andB e ox.1, ox.2)
  | none, some oy => some (andB (mkNot e) oy.1, oy.2)
  | none, none => none

def evCode (P : Program) (G : Glob) (T : Tab) (call : Into) (N : Nat) : Loops → Code → St → Option (E × Out)
  | _, .skip, s => some (mkB true, .leaf .nrm, [(.nrm, s)])
  | _, .label _, s => some (mkB true, .leaf .nrm, [(.nrm, s)])
  | _, .region _ ops true, s => match evDraw P G T ops s with
    | some (g, s') => some (g, .leaf .nrm, [(.nrm, s')])
    | none => none
  | _, .region _ ops false, s => match evSeq P G T call ops ops.toList s with
    | some (g, s') => some (g, .leaf .nrm, [(.nrm, s')])
    | none => none
  | L, .seq x y, s => match evCode P G T call N (fun p => L (false :: p)) x s with
    | some r => seqOut (evCode P G T call N (fun p => L (true :: p)) y) r
    | none => none
  | L, .cond c x y, s => match condE s c with
    | some e => match e.lit? with
      | some n => bif i2b n then evCode P G T call N (fun p => L (false :: p)) x s else evCode P G T call N (fun p => L (true :: p)) y s
      | none => match evCode P G T call N (fun p => L (false :: p)) x s with
        | ox => brE e ox (evCode P G T call N (fun p => L (true :: p)) y (s.1, s.2 ++ List.replicate (padTo s.2 ox) none))
    | none => none
  | L, .block id body, s => match evCode P G T call N (fun p => L (false :: p)) body s with
    | some r => match relOut id r.2 with
      | some o => some (r.1, o)
      | none => none
    | none => none
  | L, .loop body, s => match L [] with
    | some le => callL le s
    | none => evLoop (evCode P G T call N (fun p => L (false :: p)) body) N s
  | _, .exit id, s => some (mkB true, .leaf (.ex id), [(.ex id, s)])
  | _, .ret, s => some (mkB true, .leaf .ret, [(.ret, s)])
  | _, _, _ => none

def resS (P : Program) (s : St) : List ResultVar → Option (E × List SV)
  | [] => some (mkB true, [])
  | .tmp t :: r => match getC [] s.1.at (.tmp t), resS P s r with
    | some v, some l => some (l.1, v :: l.2)
    | _, _ => none
  | .cell t ty :: r => match getC [] s.1.at (.tmp t), aggOf P ty, szOf P ty with
    | some (.ptr n off), some ag, some sz => match blkC s.2 n with
      | some (g, _, cs) => match rdC cs off sz ag, resS P s r with
        | some v, some l => some (andB g l.1, v :: l.2)
        | _, _ => none
      | none => none
    | _, _, _ => none
def tupOf : List SV → SV
  | [v] => v
  | l => .tup l

def finish (P : Program) (fn : Func) (s : St) : Option (E × SV × Mem) := (resS P s fn.results.toList).map fun l => (l.1, tupOf l.2, s.2)

def onlyRet : List (Lab × St) → Bool
  | [] => true
  | (l, _) :: r => (decide (l = .nrm) || decide (l = .ret)) && onlyRet r

/-- The one state at a function's end. -/
def endSt (m : Mem) (o : Out) : Option St :=
  bif onlyRet o.2 then
    match lk .ret o.2, lk .nrm o.2 with
    | some s, none => some s
    | none, some s => some s
    | some s, some s' => mergeSt (o.1.is .ret) s s'
    | none, none => none
  else none
def tm0 (n : Nat) (args : List SV) : Tm := args.map some ++ List.replicate (n - args.length) (some .und)

def evFn (P : Program) (G : Glob) (T : Tab) (LT : Nat → Loops) (N : Nat) : Nat → Into
  | 0, _, _, _ => none
  | n + 1, f, args, m => match P.funcs[f]? with
    | some fn => match fn.body with
      | some c => match evCode P G T (evFn P G T LT N n) N (LT f) c (tm0 fn.ntmps args, m) with
        | some r => match endSt m r.2 with
          | some s => match finish P fn s with
            | some q => some (andB r.1 q.1, q.2)
            | none => none
          | none => none
        | none => none
      | none => none
    | none => none

section
variable {P : Program} {ρ : Nat → Int} {G : Glob} {T : Tab} {l : Tabs} {w0 w : World} {M0 Im0 : Nat → Prop} {ad : Nat → Hd} {m m2 m' : Mem} {tm : Tm} {en : Env} {a : Act}

/-- The loops' summaries hold of the code's loops. -/
def LoopsOK (P : Program) (G : Glob) (l : Tabs) (L : Loops) (c : Code) : Prop :=
  ∀ p le, L p = some le → ∀ body, codeAt c p = some (.loop body) → l.get le.ent.key = some le.ent ∧ LoopOK P G body le

theorem seqOut_sound {f : St → Option (E × Out)} {r : E × Out} {s0 : Mem} {g : E} {o : Out} (h : seqOut f r = some (g, o)) (ht : g.tt l.F ρ = true) {Q : Exit → Act → World → Prop} {K : Act → World → Prop}
    (hA : After l.F ρ w0 M0 Im0 ad s0 o Q)
    (hK : ∀ s1 g2 o2 ad' a' w', f s1 = some (g2, o2) → g2.tt l.F ρ = true → RelS l.F ρ w0 M0 Im0 ad' s1 a' w' → After l.F ρ w0 M0 Im0 ad' s1.2 o2 Q → K a' w') :
    r.1.tt l.F ρ = true ∧ After l.F ρ w0 M0 Im0 ad s0 r.2 (Exit.then K Q) := by
  unfold seqOut at h
  split at h
  · rename_i hn
    simp only [Option.some.injEq] at h; subst h
    refine ⟨ht, fun q ad' a' w' hq hR' hx => ?_⟩
    have hne : o.1.eval l.F ρ ≠ .nrm := fun e => by rw [e, hn] at hq; cases hq
    have := hA q ad' a' w' hq hR' hx
    cases hl : o.1.eval l.F ρ with
    | nrm => exact (hne hl).elim
    | ret => rw [hl] at this; exact this
    | ex id => rw [hl] at this; exact this
  · rename_i s1 hn
    split at h
    · rename_i q0 hq0
      split at h
      · rename_i o' ho'
        simp only [Option.some.injEq, Prod.mk.injEq] at h
        obtain ⟨rfl, rfl⟩ := h
        obtain ⟨t1, t2⟩ := andB_tt ht
        obtain ⟨j1, j2⟩ := After.join ho' hA
        refine ⟨t1, fun q ad' a' w' hq hR' hx => ?_⟩
        by_cases he : r.2.1.eval l.F ρ = .nrm
        · rw [he] at hq ⊢
          rw [hn] at hq
          simp only [Option.some.injEq] at hq
          subst hq
          refine hK s1 q0.1 q0.2 ad' a' w' hq0 (impB_tt t2 (DT.is_true he)) hR' fun q' ad'' a'' w'' hq' hR'' hx' => ?_
          exact j2 he q' ad'' a'' w'' hq' hR'' (hx.trans hx')
        · have := j1 he q ad' a' w' hq hR' hx
          cases hl : r.2.1.eval l.F ρ with
          | nrm => exact (he hl).elim
          | ret => rw [hl] at this; exact this
          | ex id => rw [hl] at this; exact this
      · cases h
    · cases h

theorem brE_sound {e : E} {x y : Option (E × Out)} {s0 : Mem} {g : E} {o : Out} (h : brE e x y = some (g, o)) (ht : g.tt l.F ρ = true) {Q : Exit → Act → World → Prop} (hA : After l.F ρ w0 M0 Im0 ad s0 o Q) :
    (e.tt l.F ρ = true → ∃ g1 o1, x = some (g1, o1) ∧ g1.tt l.F ρ = true ∧ After l.F ρ w0 M0 Im0 ad s0 o1 Q) ∧ (e.tt l.F ρ = false → ∃ g1 o1, y = some (g1, o1) ∧ g1.tt l.F ρ = true ∧ After l.F ρ w0 M0 Im0 ad s0 o1 Q) := by
  have hnot : e.tt l.F ρ = false → (mkNot e).tt l.F ρ = true := fun h => by rw [(mkNot_spec e l.F ρ).1, h]; rfl
  unfold brE at h
  split at h
  · rename_i ox oy
    split at h
    · rename_i o' ho'
      simp only [Option.some.injEq, Prod.mk.injEq] at h
      obtain ⟨rfl, rfl⟩ := h
      obtain ⟨t1, t2⟩ := andB_tt ht
      obtain ⟨j1, j2⟩ := After.br ho' hA
      exact ⟨fun he => ⟨ox.1, ox.2, rfl, impB_tt t1 he, j1 he⟩, fun he => ⟨oy.1, oy.2, rfl, impB_tt t2 (hnot he), j2 he⟩⟩
    · cases h
  · rename_i ox
    simp only [Option.some.injEq, Prod.mk.injEq] at h
    obtain ⟨rfl, rfl⟩ := h
    obtain ⟨t1, t2⟩ := andB_tt ht
    exact ⟨fun _ => ⟨ox.1, ox.2, rfl, t2, hA⟩, fun he => by rw [t1] at he; cases he⟩
  · rename_i oy
    simp only [Option.some.injEq, Prod.mk.injEq] at h
    obtain ⟨rfl, rfl⟩ := h
    obtain ⟨t1, t2⟩ := andB_tt ht
    rw [(mkNot_spec e l.F ρ).1] at t1
    exact ⟨fun he => (by rw [he] at t1; cases t1), fun _ => ⟨oy.1, oy.2, rfl, t2, hA⟩⟩
  · cases h

theorem evCode_sound (hm : P.follows .mixedOrders = true) (hS : SumOK P G l T) (hG : GOK G Im0 w0) {call : Into} (hI : IntoOK P l ρ w0 M0 Im0 call) {N : Nat} : ∀ (c : Code) (L : Loops) (s : St) (g : E) (o : Out) (ad : Nat → Hd) (a : Act) (w : World) (Q : Exit → Act → World → Prop),
    LoopsOK P G l L c → evCode P G T call N L c s = some (g, o) → g.tt l.F ρ = true → RelS l.F ρ w0 M0 Im0 ad s a w → After l.F ρ w0 M0 Im0 ad s.2 o Q → c.wp P Q a w := by
  intro c
  induction c with
  | skip =>
    intro L s g o ad a w Q hL h ht hR hA
    simp only [evCode, Option.some.injEq, Prod.mk.injEq] at h
    obtain ⟨rfl, rfl⟩ := h
    exact wp_skip (hA s ad a w (by simp [lk, DT.eval]) hR (Ext.refl _ _))
  | label k =>
    intro L s g o ad a w Q hL h ht hR hA
    simp only [evCode, Option.some.injEq, Prod.mk.injEq] at h
    obtain ⟨rfl, rfl⟩ := h
    exact wp_label (hA s ad a w (by simp [lk, DT.eval]) hR (Ext.refl _ _))
  | region id ops draw =>
    intro L s g o ad a w Q hL h ht hR hA
    cases draw with
    | true =>
      simp only [evCode] at h
      split at h
      · rename_i g1 s' h1
        simp only [Option.some.injEq, Prod.mk.injEq] at h
        obtain ⟨rfl, rfl⟩ := h
        exact (draw_sound hm hS hG h1).2 ht hR fun ad' a' w' hR' hx => hA s' ad' a' w' (by simp [lk, DT.eval]) hR' hx
      · cases h
    | false =>
      simp only [evCode] at h
      split at h
      · rename_i g1 s' h1
        simp only [Option.some.injEq, Prod.mk.injEq] at h
        obtain ⟨rfl, rfl⟩ := h
        exact wp_region_list (evSeq_sound hS hG hI ops.toList s s' g1 ad a w h1 ht hR fun ad' a' w' hR' hx => hA s' ad' a' w' (by simp [lk, DT.eval]) hR' hx)
      · cases h
  | seq x y ihx ihy =>
    intro L s g o ad a w Q hL h ht hR hA
    simp only [evCode] at h
    split at h
    · rename_i r hr
      obtain ⟨t1, t2⟩ := seqOut_sound (K := y.wp P Q) h ht hA fun s1 g2 o2 ad' a' w' h2 ht2 hR' hA' => ihy _ s1 g2 o2 ad' a' w' Q (fun p le hp body hb => hL (true :: p) le hp body hb) h2 ht2 hR' hA'
      exact wp_seq (ihx _ s r.1 r.2 ad a w _ (fun p le hp body hb => hL (false :: p) le hp body hb) hr t1 hR t2)
    · cases h
  | cond c x y ihx ihy =>
    intro L s g o ad a w Q hL h ht hR hA
    simp only [evCode] at h
    split at h
    · rename_i e he
      obtain ⟨hk, hev⟩ := condE_spec hR.1 he
      split at h
      · rename_i n hn
        have htn := lit?_tt hn l.F ρ
        rw [htn] at hev
        cases hi : i2b n
        · rw [hi] at h hev
          exact wp_cond (t := false) hev (ihy _ s g o ad a w Q (fun p le hp body hb => hL (true :: p) le hp body hb) h ht hR hA)
        · rw [hi] at h hev
          exact wp_cond (t := true) hev (ihx _ s g o ad a w Q (fun p le hp body hb => hL (false :: p) le hp body hb) h ht hR hA)
      · obtain ⟨j1, j2⟩ := brE_sound h ht hA
        rcases Bool.eq_false_or_eq_true (e.tt l.F ρ) with hte | hte
        · rw [hte] at hev
          obtain ⟨g1, o1, k1, k2, k3⟩ := j1 hte
          exact wp_cond (t := true) hev (ihx _ s g1 o1 ad a w Q (fun p le hp body hb => hL (false :: p) le hp body hb) k1 k2 hR k3)
        · rw [hte] at hev
          obtain ⟨g1, o1, k1, k2, k3⟩ := j2 hte
          refine wp_cond (t := false) hev (ihy _ _ g1 o1 ad a w Q (fun p le hp body hb => hL (true :: p) le hp body hb) k1 k2 (hR.extend _) fun q ad' a' w' hq hR' hx => k3 q ad' a' w' hq hR' ⟨fun k hk => hx.same k ?_, fun k hk => hx.keep k ?_⟩) <;> simpa [al_append] using hk
    · cases h
  | block id body ih =>
    intro L s g o ad a w Q hL h ht hR hA
    simp only [evCode] at h
    split at h
    · rename_i r hr
      split at h
      · rename_i o' ho'
        simp only [Option.some.injEq, Prod.mk.injEq] at h
        obtain ⟨rfl, rfl⟩ := h
        exact wp_block (ih _ s r.1 r.2 ad a w _ (fun p le hp body hb => hL (false :: p) le hp body hb) hr ht hR (After.rel ho' hA))
      · cases h
    · cases h
  | loop body ih =>
    intro L s g o ad a w Q hL h ht hR hA
    simp only [evCode] at h
    split at h
    · rename_i le hle
      obtain ⟨l1, l2⟩ := hL [] le hle body rfl
      exact callL_sound l1 l2 hG h ht hR hA
    · refine wp_loop_rounds N ?_
      have key : ∀ (n : Nat) (s : St) (g : E) (o : Out) (ad : Nat → Hd) (a : Act) (w : World), evLoop (evCode P G T call N (fun p => L (false :: p)) body) n s = some (g, o) → g.tt l.F ρ = true → RelS l.F ρ w0 M0 Im0 ad s a w → After l.F ρ w0 M0 Im0 ad s.2 o Q → Code.rounds P body Q n a w := by
        intro n
        induction n with
        | zero => intro s g o ad a w h; simp [evLoop] at h
        | succ n ihn =>
          intro s g o ad a w h ht hR hA
          simp only [evLoop] at h
          split at h
          · rename_i r hr
            rw [rounds_succ]
            obtain ⟨t1, t2⟩ := seqOut_sound (K := Code.rounds P body Q n) h ht hA fun s1 g2 o2 ad' a' w' h2 ht2 hR' hA' => ihn s1 g2 o2 ad' a' w' h2 ht2 hR' hA'
            exact ih _ s r.1 r.2 ad a w _ (fun p le hp body hb => hL (false :: p) le hp body hb) hr t1 hR t2
          · cases h
      exact key N s g o ad a w h ht hR hA
  | exit id =>
    intro L s g o ad a w Q hL h ht hR hA
    simp only [evCode, Option.some.injEq, Prod.mk.injEq] at h
    obtain ⟨rfl, rfl⟩ := h
    exact wp_exit (hA s ad a w (by simp [lk, DT.eval]) hR (Ext.refl _ _))
  | ret =>
    intro L s g o ad a w Q hL h ht hR hA
    simp only [evCode, Option.some.injEq, Prod.mk.injEq] at h
    obtain ⟨rfl, rfl⟩ := h
    exact wp_ret (hA s ad a w (by simp [lk, DT.eval]) hR (Ext.refl _ _))
  | _ => intro L s g o ad a w Q hL h; simp [evCode] at h

def resM (a : Act) : ResultVar → Sem Value
  | .tmp t => pure (a.tmps.getD t undef)
  | .cell t ty => do loadVar ty (← asAddr (a.tmps.getD t undef))
theorem resS_run {F : Fam} (hR : RelS F ρ w0 M0 Im0 ad (tm, m) a w) : ∀ (rs : List ResultVar) (q : E × List SV), resS P (tm, m) rs = some q → q.1.tt F ρ = true →
    (rs.mapM (resM a)).run P w = .ok (SV.concL F ρ ad q.2) w ∧ SV.okL (al m) q.2
  | [], q, h, ht => by simp only [resS, Option.some.injEq] at h; subst h; exact ⟨rfl, trivial⟩
  | .tmp t :: r, q, h, ht => by
    simp only [resS] at h
    split at h
    · rename_i v l' h1 h2
      simp only [Option.some.injEq] at h; subst h
      obtain ⟨i1, i2⟩ := getC_spec hR.1.envV (cs := []) rfl h1
      obtain ⟨j1, j2⟩ := resS_run hR r l' h2 ht
      have i1' : a.tmps.getD t undef = v.conc F ρ ad := i1
      refine ⟨?_, i2, j2⟩
      simp only [List.mapM_cons, Sem.run_bind, Sem.run_pure, Result.andThen_ok, resM, j1, i1', SV.concL]
    · cases h
  | .cell t ty :: r, q, h, ht => by
    simp only [resS] at h
    split at h
    · rename_i n off ag sz h1 h2 h3
      split at h
      · rename_i g ty' cs h4
        split at h
        · rename_i v l' h5 h6
          simp only [Option.some.injEq] at h; subst h
          obtain ⟨t1, t2⟩ := andB_tt ht
          obtain ⟨i1, i2⟩ := getC_spec hR.1.envV (cs := []) rfl h1
          obtain ⟨j1, j2⟩ := resS_run hR r l' h6 t2
          obtain ⟨_, Im, _, _, hI⟩ := hR.2
          obtain ⟨b1, b2⟩ := blkC_spec h4
          have hh : w.heap[(ad n).blk]? = some (.cells (SV.concL F ρ ad cs).toArray ty' (0, 0)) := (hI.ent n g _ b1 t1).1
          have hcell : ∀ j u, (SV.concL F ρ ad cs)[j]? = some u → w.cell? ⟨(ad n).blk, 0 + j, none⟩ = some u := fun j u hu => by
            rw [Nat.zero_add, cell_of_heap hh]; simpa using hu
          obtain ⟨k1, k2⟩ := rdC_run (P := P) hcell h5
          rw [Nat.zero_add] at k1
          have i1' : a.tmps.getD t undef = .pointer (some ⟨(ad n).blk, off, none⟩) := i1
          refine ⟨?_, k2 _ (hI.ok n g ty' cs b1), j2⟩
          have hl := loadAt_run (P := P) (w := w) (b := (ad n).blk) (off := off) h2 h3
          rw [k1] at hl
          simp only [Instr.loadAt, Instr.sureAddr, Sem.run_bind, Sem.run_pure, Result.andThen_ok] at hl
          have hlv : (loadVar ty ⟨(ad n).blk, off, none⟩).run P w = .ok (v.conc F ρ ad) w := by
            cases hx : (loadVar ty ⟨(ad n).blk, off, none⟩).run P w with
            | ok x w' =>
              rw [hx] at hl
              simp only [Result.andThen_ok, Result.ok.injEq, Next.value.injEq] at hl
              rw [hl.1, hl.2]
            | halt x w' => rw [hx] at hl; cases hl
          have ha : asAddr (.pointer (some ⟨(ad n).blk, off, none⟩)) = (pure ⟨(ad n).blk, off, none⟩ : Sem Addr) := rfl
          simp only [List.mapM_cons, Sem.run_bind, Sem.run_pure, Result.andThen_ok, resM, j1, i1', SV.concL, ha, hlv]
        · cases h
      · cases h
    · cases h

theorem finish_spec {F : Fam} (hR : RelS F ρ w0 M0 Im0 ad (tm, m) a w) {fn : Func} {g : E} {v : SV} {m' : Mem} (h : finish P fn (tm, m) = some (g, v, m')) (ht : g.tt F ρ = true) :
    m' = m ∧ (results fn a.tmps).run P w = .ok (v.conc F ρ ad) w ∧ v.ok (al m) := by
  unfold finish at h
  obtain ⟨q, h1, h2⟩ := Option.map_eq_some_iff.1 h
  obtain ⟨gq, l⟩ := q
  simp only [Prod.mk.injEq] at h2
  obtain ⟨rfl, rfl, rfl⟩ := h2
  obtain ⟨j1, j2⟩ := resS_run hR fn.results.toList _ h1 ht
  simp only at j1 j2
  have htu : (tupOf l).conc F ρ ad = if hs : (SV.concL F ρ ad l).toArray.size = 1 then (SV.concL F ρ ad l).toArray[0] else .tuple (SV.concL F ρ ad l).toArray := by
    unfold tupOf
    split
    · simp [SV.concL]
    · rename_i hne
      rw [dif_neg]
      · rfl
      · intro hs
        rw [concL_eq, List.size_toArray, List.length_map] at hs
        obtain ⟨v, hv⟩ := List.length_eq_one_iff.1 hs
        exact hne v hv
  refine ⟨rfl, ?_, ?_⟩
  · rw [htu]
    have hres : results fn a.tmps = (do let vs ← fn.results.mapM (resM a); pure (if h : vs.size = 1 then vs[0] else .tuple vs)) := by
      unfold results
      congr 2
    rw [hres, Array.mapM_eq_mapM_toList]
    simp only [Sem.run_bind, Sem.run_map, Sem.run_pure]
    rw [j1]
    rfl
  · unfold tupOf
    split
    · exact j2.1
    · simp only [SV.ok]; exact j2

theorem onlyRet_spec : ∀ {xs : List (Lab × St)}, onlyRet xs = true → ∀ l q, lk l xs = some q → l = .nrm ∨ l = .ret
  | [], _, l, q, h => by simp [lk] at h
  | (k, s) :: r, h, l, q, hq => by
    simp only [onlyRet, Bool.and_eq_true, Bool.or_eq_true, decide_eq_true_eq] at h
    simp only [lk] at hq
    split at hq
    · rename_i hk; subst hk; exact h.1
    · exact onlyRet_spec h.2 l q hq


theorem tm0_rel {F : Fam} {args : List SV} {n : Nat} (hok : SV.okL (al m) args) : RelT F ρ ad m (tm0 n args) { tmps := (SV.concL F ρ ad args).toArray ++ Array.replicate (n - (SV.concL F ρ ad args).toArray.size) undef, defers := [] } := by
  refine ⟨rfl, by simp [concL_eq, tm0], fun i u hu => ?_⟩
  simp only [Tm.at, List.getD, tm0] at hu
  by_cases hi : i < args.length
  · rw [List.getElem?_append_left (by simpa using hi)] at hu
    simp only [List.getElem?_map, List.getElem?_eq_getElem hi, Option.map_some, Option.getD_some, Option.some.injEq] at hu
    subst hu
    refine ⟨?_, okL_get hok (List.getElem?_eq_getElem hi)⟩
    simp only [concL_eq, Array.getElem?_append, List.size_toArray, List.length_map, hi, if_true]
    simp [hi]
  · rw [List.getElem?_append_right (by simpa using hi), List.getElem?_replicate] at hu
    split at hu
    · rename_i hlt
      simp only [Option.getD_some, Option.some.injEq] at hu
      subst hu
      refine ⟨?_, trivial⟩
      simp only [List.length_map] at hlt
      simp only [concL_eq, List.size_toArray, List.length_map, Array.getElem?_append]
      rw [if_neg hi]
      simp [Array.getElem?_replicate, hlt, SV.conc]
    · simp at hu

/-- The one state at the end tells of every way out. -/
theorem endSt_spec {F : Fam} {o : Out} {s : St} (h : endSt m o = some s) {q : St} (hq : lk (o.1.eval F ρ) o.2 = some q) : (o.1.eval F ρ = .nrm ∨ o.1.eval F ρ = .ret) ∧ (∀ ad a w, RelS F ρ w0 M0 Im0 ad q a w → RelS F ρ w0 M0 Im0 ad s a w) ∧ ∀ k, al q.2 k → al s.2 k := by
  unfold endSt at h
  cases hor : onlyRet o.2
  · rw [hor] at h; cases h
  · rw [hor] at h
    simp only [cond_true] at h
    have hlab := onlyRet_spec hor _ _ hq
    refine ⟨hlab, ?_⟩
    split at h
    · rename_i s' h1 h2
      simp only [Option.some.injEq] at h; subst h
      rcases hlab with hl | hl
      · rw [hl, h2] at hq; cases hq
      · rw [hl, h1] at hq
        simp only [Option.some.injEq] at hq; subst hq
        exact ⟨fun _ _ _ h => h, fun _ h => h⟩
    · rename_i s' h1 h2
      simp only [Option.some.injEq] at h; subst h
      rcases hlab with hl | hl
      · rw [hl, h2] at hq
        simp only [Option.some.injEq] at hq; subst hq
        exact ⟨fun _ _ _ h => h, fun _ h => h⟩
      · rw [hl, h1] at hq; cases hq
    · rename_i s1 s2 h1 h2
      obtain ⟨k1, k2, k3⟩ := mergeSt_spec (F := F) (ρ := ρ) (w0 := w0) (M0 := M0) (Im0 := Im0) h
      rcases hlab with hl | hl
      · rw [hl, h2] at hq
        simp only [Option.some.injEq] at hq; subst hq
        exact ⟨fun ad a w hR => k3 ad a w (DT.is_false (by rw [hl]; exact fun e => by cases e)) hR, fun k hk => k1 k (Or.inr hk)⟩
      · rw [hl, h1] at hq
        simp only [Option.some.injEq] at hq; subst hq
        exact ⟨fun ad a w hR => k2 ad a w (DT.is_true hl) hR, fun k hk => k1 k (Or.inl hk)⟩
    · cases h

/-- The summaries of loops, by functions. -/
def LTOK (P : Program) (G : Glob) (l : Tabs) (LT : Nat → Loops) : Prop := ∀ f fn c, P.funcs[f]? = some fn → fn.body = some c → LoopsOK P G l (LT f) c

theorem evFn_sound (hm : P.follows .mixedOrders = true) (hS : SumOK P G l T) (hG : GOK G Im0 w0) {LT : Nat → Loops} (hLT : LTOK P G l LT) {N : Nat} : ∀ n, IntoOK P l ρ w0 M0 Im0 (evFn P G T LT N n)
  | 0 => fun f args m ob v m' h => by simp [evFn] at h
  | n + 1 => fun f args m ob v m' h ht ad w hM hok => by
    simp only [evFn] at h
    split at h
    · rename_i fn hf
      split at h
      · rename_i c hc
        split at h
        · rename_i r hr
          split at h
          · rename_i s hs
            split at h
            · rename_i q hq
              obtain ⟨gq, vq, mq⟩ := q
              simp only [Option.some.injEq, Prod.mk.injEq] at h
              obtain ⟨rfl, rfl, rfl⟩ := h
              obtain ⟨t1, t2⟩ := andB_tt ht
              refine calls_of_wp hf hc ?_
              refine evCode_sound hm hS hG (evFn_sound hm hS hG hLT n) c (LT f) _ r.1 r.2 ad _ w _ (hLT f fn c hf hc) hr t1 ⟨tm0_rel hok, hM⟩ ?_
              intro q0 ad' a' w' hq0 hR' hx
              obtain ⟨e1, e2, e3⟩ := endSt_spec (w0 := w0) (M0 := M0) (Im0 := Im0) hs hq0
              have hRs := e2 ad' a' w' hR'
              obtain ⟨f1, f2, f3⟩ := finish_spec (P := P) (tm := s.1) (m := s.2) hRs (fn := fn) hq t2
              subst f1
              have hb : a'.defers = [] ∧ ∃ u, (results fn a'.tmps).run P w' = .ok u w' ∧ (fun e w' => ∃ ad', e = Ending.returned (vq.conc l.F ρ ad') ∧ Rel l.F ρ w0 M0 Im0 ad' s.2 w' ∧ Ext ad ad' m s.2 ∧ vq.ok (al s.2)) (.returned u) w' :=
                ⟨hRs.1.defers, _, f2, ad', rfl, hRs.2, ⟨hx.same, fun k hk => e3 k (hx.keep k hk)⟩, f3⟩
              rcases e1 with hl | hl <;> rw [hl] <;> exact hb
            · cases h
          · cases h
        · cases h
      · cases h
    · cases h
end
end Go.Proofs.YtbolcnlenmphhaaDoor.Ew

/- From a function's end to its summary. -/
set_option linter.unusedVariables false
set_option linter.unusedSimpArgs false
namespace Go.Proofs.YtbolcnlenmphhaaDoor.Ew
open Go Go.RowKit

/-! ### the memory at the start -/
def memOf (l : Ents) (n : Nat) : Mem := (List.range n).map fun j => (l.find? fun x => x.1 == j).map (·.2)
/-- The parameters' things; then so many names of things not told of. -/
def start (e : Ent) (k : Nat) : Mem := memOf e.pgen.2 e.nn ++ List.replicate k (some (mkB true, .dead))
def startOK (e : Ent) : Bool := (Sh.refsL e.ps).all fun j => decide (j < e.nn)

/-! ### reading the end -/
def objGet (m : Mem) : List (Nat × Nat × List Sh) → Option (E × List SV)
  | [] => some (mkB true, [])
  | (j, ty, cs) :: r => match m.at j with
    | some (g, .cells ty' vs) => if ty' = ty ∧ vs.length = cs.length then (objGet m r).map fun q => (andB g q.1, vs ++ q.2) else none
    | _ => none
def sameBlk : Blk → Blk → Bool
  | .cells ty cs, .cells ty' cs' => decide (ty = ty') && SV.sameL cs cs'
  | .lst ty row own le c, .lst ty' row' own' le' c' => decide (ty = ty') && decide (row = row') && decide (own = own') && le.same le' && c.same c'
  | _, _ => false
def keptGet (m : Mem) : Ents → Option E
  | [] => some (mkB true)
  | x :: r => match m.at x.1 with
    | some (g, b) => if sameBlk b x.2.2 = true then (keptGet m r).map fun q => andB (impB x.2.1 g) q else none
    | none => none
def accN (n : Nat) : List Src := (List.range n).map Src.nm
def matchO (e : Ent) (m : Mem) (v : SV) : Option (E × List E) :=
  match objGet m e.os, keptGet m (keptE e.kp e.pgen.2) with
  | some (g1, V), some g2 => match Sh.getL m e.outL (accN e.nn) (V ++ [v]) with
    | some (es, srcs, g3) => if (nodupB ((mutJ e.oents).flatMap (srcOf (accN e.nn ++ srcs))) && (e.os.all fun o => decide (o.1 < e.nn)) && startOK e) = true then some (andB g1 (andB g2 g3), es) else none
    | none => none
  | _, _ => none

section
variable {P : Program} {ρ : Nat → Int} {G : Glob} {T : Tab} {l : Tabs} {w0 w w' : World} {M0 Im0 Im : Nat → Prop} {ad ad' hs : Nat → Hd} {m m2 m' : Mem} {tm : Tm} {en : Env} {a : Act}

theorem memOf_at (l : Ents) (n j : Nat) : (memOf l n).at j = if j < n then (l.find? fun x => x.1 == j).map (·.2) else none := by
  unfold memOf Mem.at
  by_cases h : j < n <;> simp [List.getD, h]
theorem memOf_mem {l : Ents} {n j : Nat} {g : E} {b : Blk} (h : (memOf l n).at j = some (g, b)) : (j, g, b) ∈ l ∧ j < n := by
  rw [memOf_at] at h
  split at h
  · rename_i hj
    obtain ⟨x, hx, he⟩ := Option.map_eq_some_iff.1 h
    have h1 := List.mem_of_find?_eq_some hx
    have h2 := List.find?_some hx
    have h3 : x.1 = j := by simpa using h2
    obtain ⟨a, c⟩ := x
    simp only at h3 he
    subst h3 he
    exact ⟨h1, hj⟩
  · cases h
theorem start_len (e : Ent) (k : Nat) : (start e k).length = e.nn + k := by simp [start, memOf]
theorem start_at {e : Ent} {k j : Nat} {g : E} {b : Blk} (h : (start e k).at j = some (g, b)) : ((j, g, b) ∈ e.pgen.2 ∧ j < e.nn) ∨ b = .dead := by
  have hl : (memOf e.pgen.2 e.nn).length = e.nn := by simp [memOf]
  by_cases hj : j < e.nn
  · left
    refine memOf_mem ?_
    rw [← h]
    simp only [start, Mem.at, List.getD]
    rw [List.getElem?_append_left (by omega)]
  · right
    simp only [start, Mem.at, List.getD] at h
    rw [List.getElem?_append_right (by omega), List.getElem?_replicate] at h
    split at h
    · simp only [Option.getD_some, Option.some.injEq, Prod.mk.injEq] at h; exact h.2.symm
    · simp at h
theorem start_al (e : Ent) (k j : Nat) : al (start e k) j ↔ j < e.nn + k := by
  have hl : (memOf e.pgen.2 e.nn).length = e.nn := by simp [memOf]
  constructor
  · intro h
    obtain ⟨x, hx⟩ := Option.isSome_iff_exists.1 h
    have := Mem.at_lt hx
    rw [start_len] at this; exact this
  · intro h
    unfold al
    by_cases hj : j < e.nn
    · obtain ⟨x, x1, x2⟩ := genL_has (ev := varE e.pks) (nv := id) e.ps (mkB true) 0 0 j (Nat.zero_le _) (by rw [Nat.zero_add]; exact hj)
      have h1 : (start e k).at j = (memOf e.pgen.2 e.nn).at j := by
        simp only [start, Mem.at, List.getD]
        rw [List.getElem?_append_left (by omega)]
      rw [h1, memOf_at, if_pos hj, Option.isSome_map, List.find?_isSome]
      exact ⟨x, x1, by simp [x2]⟩
    · simp only [start, Mem.at, List.getD]
      rw [List.getElem?_append_right (by omega), List.getElem?_replicate, if_pos (by omega)]
      rfl

/-- The generic parameters read the same under the tables as alone. -/
theorem pgen_tr (l : Tabs) {e : Ent} (hr : startOK e = true) {xs : List Int} (zs : List Int) (hfit : fits e.pks xs) (had : ∀ j, j < e.nn → ad j = hs j) :
    SV.concL l.F (env xs) ad e.pgen.1 = SV.concL F0 (env (xs ++ zs)) hs e.pgen.1 ∧ ∀ x ∈ e.pgen.2, SameE l.F F0 (env xs) (env (xs ++ zs)) ad hs id id x x := by
  have hl := fits_length hfit
  have tr : Tr e.nn l.F F0 (env xs) (env (xs ++ zs)) ad hs (varE e.pks) (varE e.pks) id id := by
    refine ⟨l.BI, BI_F0, fun i => ?_, fun i => rfl, fun j hj => had j hj⟩
    unfold varE
    cases hk : e.pks[i]? with
    | none => simp
    | some k =>
      have hi := (List.getElem?_eq_some_iff.1 hk).1
      simp only [E.den, env, getD_app, hl, hi, if_true]
  obtain ⟨t1, t2⟩ := genL_tr tr e.ps (mkB true) (mkB true) 0 0 (mkB_kind _) (mkB_kind _) (by simp) (fun i k hi => by rw [Nat.zero_add]; exact varE_kind _ _ _ hi) (by rw [Nat.zero_add]; exact Nat.le_refl _) (fun j hj => by have := List.all_eq_true.1 hr j hj; simpa using this)
  exact ⟨t1, SameL.self t2⟩

theorem start_rel (l : Tabs) {e : Ent} (k : Nat) (hr : startOK e = true) {xs : List Int} (hfit : fits e.pks xs) (hM : ∀ b, M0 b → ¬ Im0 b ∧ b < w.heap.size) (hE : RelE F0 (env xs) w M0 Im0 hs e.pgen.2 w) (had : ∀ j, j < e.nn → ad j = hs j) :
    Rel l.F (env xs) w M0 Im0 ad (start e k) w ∧ SV.concL l.F (env xs) ad e.pgen.1 = SV.concL F0 (env xs) hs e.pgen.1 ∧ SV.okL (al (start e k)) e.pgen.1 := by
  obtain ⟨t1, t2⟩ := pgen_tr l hr [] hfit had
  rw [List.append_nil] at t1 t2
  have hal : ∀ j, j < e.nn → al (start e k) j := fun j hj => (start_al e k j).2 (by omega)
  obtain ⟨g1, g2⟩ := genL_ok (ev := varE e.pks) (nv := id) (p := al (start e k)) e.ps (mkB true) 0 0 (fun j _ hj => hal j (by rw [Nat.zero_add] at hj; exact hj)) (fun j hj => hal j (by have := List.all_eq_true.1 hr j hj; simpa using this))
  refine ⟨⟨hM, Im0, fun b hb => hb, fun b hb => Or.inl hb, ⟨fun n g x hn hg => ?_, fun n g ty cs hn => ?_, fun n k' g x g' y b h1 h2 h3 h4 h5 h6 => ?_, hE.im, hE.fr⟩⟩, t1, g1⟩
  · rcases start_at hn with ⟨h, _⟩ | rfl
    · have s := t2 _ h
      obtain ⟨b1, b2⟩ := hE.ent _ h (by rw [← s.gd]; exact hg)
      refine ⟨(s.ok Im0 w).2 b1, fun b hb => b2 b ?_⟩
      rw [← hb]; exact s.mu.symm
    · exact ⟨trivial, fun b hb => by simp [mutB] at hb⟩
  · rcases start_at hn with ⟨h, _⟩ | h
    · exact (g2 _ h).2 ty cs rfl
    · cases h
  · rcases start_at h1 with ⟨a1, _⟩ | rfl
    · rcases start_at h3 with ⟨a2, _⟩ | rfl
      · have s1 := t2 _ a1
        have s2 := t2 _ a2
        exact hE.inj _ a1 _ a2 (by rw [← s1.gd]; exact h2) (by rw [← s2.gd]; exact h4) b (by rw [← h5]; exact s1.mu.symm) (by rw [← h6]; exact s2.mu.symm)
      · simp [mutB] at h6
    · simp [mutB] at h5

/-! ### the end -/
theorem objGet_spec {F : Fam} {m : Mem} : ∀ {os : List (Nat × Nat × List Sh)} {g : E} {V : List SV}, objGet m os = some (g, V) → g.tt F ρ = true → ∀ (vals : List SV), ∀ x ∈ objE os (V ++ vals), x.1 ∈ os.map (·.1) ∧ ∃ g' ty vs, m.at x.1 = some (g', .cells ty vs) ∧ g'.tt F ρ = true ∧ x.2 = (mkB true, .cells ty vs)
  | [], g, V, h, ht, vals, x, hx => by cases hx
  | (j, ty, cs) :: r, g, V, h, ht, vals, x, hx => by
    simp only [objGet] at h
    split at h
    · rename_i g1 ty' vs hm
      split at h
      · rename_i hc
        obtain ⟨rfl, hlen⟩ := hc
        obtain ⟨q, hq, he⟩ := Option.map_eq_some_iff.1 h
        simp only [Prod.mk.injEq] at he
        obtain ⟨rfl, rfl⟩ := he
        obtain ⟨t1, t2⟩ := andB_tt ht
        simp only [objE, List.append_assoc] at hx
        rw [List.take_left' hlen, List.drop_left' hlen] at hx
        rcases List.mem_cons.1 hx with rfl | hx
        · exact ⟨by simp, g1, ty', vs, hm, t1, rfl⟩
        · obtain ⟨a, b⟩ := objGet_spec (g := q.1) (V := q.2) hq t2 vals x hx
          exact ⟨List.mem_cons_of_mem _ a, b⟩
      · cases h
    · cases h

theorem sameBlk_eq : ∀ {a b : Blk}, sameBlk a b = true → a = b
  | .cells ty cs, b, h => by
    cases b <;> simp only [sameBlk, Bool.false_eq_true, Bool.and_eq_true, decide_eq_true_eq] at h
    obtain ⟨rfl, h2⟩ := h
    rw [SV.sameL_eq _ _ h2]
  | .lst ty row own le c, b, h => by
    cases b <;> simp only [sameBlk, Bool.false_eq_true, Bool.and_eq_true, decide_eq_true_eq] at h
    obtain ⟨⟨⟨⟨rfl, rfl⟩, rfl⟩, h4⟩, h5⟩ := h
    rw [E.same_eq _ _ h4, E.same_eq _ _ h5]
  | .mp .., b, h => by simp [sameBlk] at h
  | .dead, b, h => by simp [sameBlk] at h

theorem keptGet_spec {F : Fam} {m : Mem} : ∀ {l : Ents} {g : E}, keptGet m l = some g → g.tt F ρ = true → ∀ x ∈ l, x.2.1.tt F ρ = true → ∃ g', m.at x.1 = some (g', x.2.2) ∧ g'.tt F ρ = true
  | [], g, h, ht, x, hx => by cases hx
  | y :: r, g, h, ht, x, hx => by
    simp only [keptGet] at h
    split at h
    · rename_i g1 b hm
      split at h
      · rename_i hs
        obtain ⟨q, hq, rfl⟩ := Option.map_eq_some_iff.1 h
        obtain ⟨t1, t2⟩ := andB_tt ht
        rcases List.mem_cons.1 hx with rfl | hx
        · exact fun hg => ⟨g1, by rw [hm, sameBlk_eq hs], impB_tt t1 hg⟩
        · exact keptGet_spec hq t2 x hx
      · cases h
    · cases h

theorem matchO_spec {e : Ent} {v : SV} {g : E} {es : List E} (h : matchO e m' v = some (g, es)) : es.map E.kind = e.oks ∧ (∀ x ∈ es, x.kind ≠ .x → x.sound = true) ∧
    ∀ {xs ys : List Int} {w w' : World} {M0 Im0 : Nat → Prop} {hs ad' : Nat → Hd}, fits e.pks xs → ys = es.map (E.den l.F (env xs)) → g.tt l.F (env xs) = true → Rel l.F (env xs) w M0 Im0 ad' m' w' → (∀ j, j < e.nn → ad' j = hs j) →
      ∃ (hs' : Nat → Hd) (Im' : Nat → Prop), (∀ j, j < e.nn → hs' j = hs j) ∧ (∀ b, Im0 b → Im' b) ∧ (∀ b, Im' b → Im0 b ∨ M0 b ∨ w.heap.size ≤ b) ∧ v.conc l.F (env xs) ad' = (lastV e.ogen.1).conc F0 (env (xs ++ ys)) hs' ∧ RelE F0 (env (xs ++ ys)) w M0 Im' hs' e.oents w' := by
  unfold matchO at h
  split at h
  · rename_i g1 V g2 hobj hkept
    split at h
    · rename_i es' srcs g3 hget
      split at h
      · rename_i hc
        simp only [Option.some.injEq, Prod.mk.injEq] at h
        obtain ⟨rfl, rfl⟩ := h
        simp only [Bool.and_eq_true] at hc
        obtain ⟨⟨c1, c2⟩, c3⟩ := hc
        obtain ⟨k1, k2, k3, k4⟩ := getL_kinds e.outL _ _ _ hget
        simp only at k1 k2 k3 k4
        refine ⟨k1, k4, fun {xs ys w w' M0 Im0 hs ad'} hfit hys ht hR had => ?_⟩
        obtain ⟨t1, t23⟩ := andB_tt ht
        obtain ⟨t2, t3⟩ := andB_tt t23
        obtain ⟨hM, Im, i1, i2, hI⟩ := hR
        have hyfit : fits e.oks ys := by rw [hys]; exact fits_of k1 k4
        have hyl : ys.length = e.oks.length := fits_length hyfit
        have hxl : xs.length = e.np := fits_length hfit
        have hall : fits (e.pks ++ e.oks) (xs ++ ys) := fits_append hfit hyfit
        have hS : ∃ S, S = accN e.nn ++ srcs := ⟨_, rfl⟩
        obtain ⟨S, hS⟩ := hS
        have hal : (accN e.nn).length = e.nn := by simp [accN]
        have hSlt : ∀ j, j < e.nn → S[j]? = some (.nm j) := fun j hj => by
          rw [hS, List.getElem?_append_left (by omega)]
          simp [accN, hj]
        have hev : EvOK l.F (env xs) (env (xs ++ ys)) (varE (e.pks ++ e.oks)) e.np es' := fun i x hi => by
          have hil := (List.getElem?_eq_some_iff.1 hi).1
          have hkl : e.oks.length = es'.length := by rw [← hyl, hys]; simp
          refine ⟨?_, ?_⟩
          · rw [varE_den hall, List.length_append, getD_app, hxl, show e.pks.length = e.np from rfl, if_pos (by omega), if_neg (by omega), show e.np + i - e.np = i by omega, hys]
            simp [List.getD, hi]
          · refine varE_kind _ _ _ ?_
            rw [List.getElem?_append_right (by rw [show e.pks.length = e.np from rfl]; omega), show e.pks.length = e.np from rfl, show e.np + i - e.np = i by omega]
            have : (es'.map E.kind)[i]? = some x.kind := by simp [hi]
            rw [k1] at this; exact this
        obtain ⟨p1, p2⟩ := shgetL_spec (F := l.F) (ρ := env xs) (ρ' := env (xs ++ ys)) (w0 := w) (w := w') (M0 := M0) (Im := Im) (ad := ad') (m := m') (ev := varE (e.pks ++ e.oks)) (S := S) (hs := fun j => match S[j]? with | some s => srcHd l.F (env xs) w' Im ad' m' s | none => default)
          l.BI hI (fun j s hj => by simp only [hj]) e.outL (accN e.nn) _ _ (mkB true) e.np hget (mkB_kind _) (fun j s hj => by rw [Nat.zero_add, hS, List.getElem?_append_left (List.getElem?_eq_some_iff.1 hj).1]; exact hj) (fun j s hj => by rw [hS, List.getElem?_append_right (by omega)]; simpa using hj) hev t3
        generalize hhs : (fun j => match S[j]? with | some s => srcHd l.F (env xs) w' Im ad' m' s | none => default : Nat → Hd) = hs' at p1 p2
        rw [hal] at p1 p2
        change SV.concL l.F (env xs) ad' (V ++ [v]) = SV.concL F0 (env (xs ++ ys)) hs' e.ogen.1 at p1
        change ∀ x ∈ e.ogen.2, _ at p2
        have hlt : ∀ j, j < e.nn → hs' j = ad' j := fun j hj => by rw [← hhs]; simp only [hSlt j hj]; rfl
        obtain ⟨q1, q2⟩ := pgen_tr (ad := ad') (hs := hs') l c3 ys hfit fun j hj => (hlt j hj).symm
        have hsrc : ∀ j, j < e.nn → srcOf S j = [j] := fun j hj => by simp [srcOf, hSlt j hj, Src.ns]
        have ogn : ∀ x ∈ e.ogen.2, e.nn ≤ x.1 := fun x hx => ((genL_ok (ev := varE (e.pks ++ e.oks)) (nv := id) (p := fun _ => True) e.outL (mkB true) e.np e.nn (fun _ _ _ => trivial) fun _ _ => trivial).2 x hx).1.1
        have core : ∀ z ∈ e.oents, z.2.1.tt F0 (env (xs ++ ys)) = true → BlkOK F0 (env (xs ++ ys)) Im hs' z.1 w' z.2.2 ∧
            ∀ b, mutB F0 (env (xs ++ ys)) hs' z.1 z.2.2 = some b → ∃ n ∈ srcOf S z.1, ∃ g y, m'.at n = some (g, y) ∧ g.tt l.F (env xs) = true ∧ mutB l.F (env xs) ad' n y = some b := by
          intro z hz hg
          unfold Ent.oents at hz
          rcases List.mem_append.1 hz with hz | hz
          · have hzf : ∃ j ty us, z = (j, mkB true, .cells ty us) := by
              have : ∀ {os : List (Nat × Nat × List Sh)} {vs : List SV}, ∀ z ∈ objE os vs, ∃ j ty us, z = (j, mkB true, .cells ty us) := by
                intro os
                induction os with
                | nil => intro vs z hz; cases hz
                | cons o r ih =>
                  intro vs z hz
                  obtain ⟨j, ty, cs⟩ := o
                  simp only [objE] at hz
                  rcases List.mem_cons.1 hz with rfl | hz
                  · exact ⟨_, _, _, rfl⟩
                  · exact ih z hz
              exact this z hz
            obtain ⟨j, ty, us, rfl⟩ := hzf
            obtain ⟨us', u1, u2⟩ := objE_same p1.symm j ty us hz
            obtain ⟨o1, g', ty', vs, o2, o3, o4⟩ := objGet_spec (F := l.F) (ρ := env xs) hobj t1 [v] _ u1
            simp only [Prod.mk.injEq, Blk.cells.injEq, true_and] at o4
            obtain ⟨rfl, rfl⟩ := o4
            simp only at o1 o2
            have hj : j < e.nn := by
              obtain ⟨o, ho1, ho2⟩ := List.mem_map.1 o1
              have := List.all_eq_true.1 c2 o ho1
              simp only [decide_eq_true_eq] at this
              omega
            have hb := (hI.ent j g' _ o2 o3).1
            simp only [BlkOK] at hb
            refine ⟨?_, fun b hb' => ⟨j, by simp [hsrc j hj], g', _, o2, o3, ?_⟩⟩
            · simp only [BlkOK]
              rw [hlt j hj, u2]
              exact hb
            · simp only [mutB, hlt j hj] at hb' ⊢
              exact hb'
          · rcases List.mem_append.1 hz with hz | hz
            · have hz' := (List.mem_filter.1 hz).1
              have s := q2 z hz'
              obtain ⟨g', o1, o2⟩ := keptGet_spec (F := l.F) (ρ := env xs) hkept t2 z hz (by rw [s.gd]; exact hg)
              have hj : z.1 < e.nn := by
                have := ((genL_ok (ev := varE e.pks) (nv := id) (p := fun _ => True) e.ps (mkB true) 0 0 (fun _ _ _ => trivial) fun _ _ => trivial).2 z hz').1.2
                rw [Nat.zero_add] at this; exact this
              refine ⟨(s.ok Im w').1 (hI.ent z.1 g' _ o1 o2).1, fun b hb' => ⟨z.1, by simp [hsrc z.1 hj], g', _, o1, o2, ?_⟩⟩
              rw [← hb']; exact s.mu
            · have := p2 z hz hg
              exact ⟨this.ok, this.mu⟩
        refine ⟨hs', Im, fun j hj => (hlt j hj).trans (had j hj), i1, i2, ?_, ⟨fun z hz hg => ⟨(core z hz hg).1, fun b hb => ?_⟩, fun x hx y hy hgx hgy b hbx hby => ?_, hI.im, hI.fr⟩⟩
        · have := lastV_conc p1
          rw [← this]
          congr 1
          simp [lastV]
        · obtain ⟨n, _, g', y, a1, a2, a3⟩ := (core z hz hg).2 b hb
          exact (hI.ent n g' y a1 a2).2 b a3
        · obtain ⟨n, n1, g', y', a1, a2, a3⟩ := (core x hx hgx).2 b hbx
          obtain ⟨n', n1', g'', y'', a1', a2', a3'⟩ := (core y hy hgy).2 b hby
          have := hI.inj n n' g' y' g'' y'' b a1 a2 a1' a2' a3 a3'
          subst this
          rw [← hS] at c1
          exact nodup_flat c1 x.1 (mutJ_mem hx hbx) y.1 (mutJ_mem hy hby) n n1 n1'
      · cases h
    · cases h
  · cases h
end
end Go.Proofs.YtbolcnlenmphhaaDoor.Ew

/- Summaries of functions and of loops. -/
set_option linter.unusedVariables false
set_option linter.unusedSimpArgs false
namespace Go.Proofs.YtbolcnlenmphhaaDoor.Ew
open Go Go.RowKit

def evE (P : Program) (G : Glob) (T : Tab) (LT : Nat → Loops) (N n : Nat) (e : Ent) : Option (E × List E) :=
  match evFn P G T LT N n e.f e.pgen.1 (start e 0) with
  | some (ob, v, m') => match matchO e m' v with
    | some (g, es) => some (andB ob g, es)
    | none => none
  | none => none

/-! ### loops -/
def tmL (le : LEnt) : Tm := (List.range le.nt).map fun i => match le.sl.findIdx? (· == i) with
  | some k => le.ent.pgen.1[k]?
  | none => some (.oq (le.ent.nn + i))
def bitsL : List Lab → Lab → Option (List SV)
  | [], _ => none
  | [k], x => if k = x then some [] else none
  | k :: k' :: ls, x => if k = x then some (.sc (mkB true) :: List.replicate ls.length (.sc (mkB false))) else (bitsL (k' :: ls) x).map fun r => .sc (mkB false) :: r
def keepB (so wr : List Nat) (s0 s : Tm) : Bool := (List.range s0.length).all fun k => so.contains k || wr.contains k || match s0.at k, s.at k with
  | some v, some u => v.same u
  | _, _ => false
def matchL (le : LEnt) (s : St) (lab : Lab) : Option (E × List E) :=
  match bitsL le.labs lab, getSl s.1 le.so with
  | some bs, some us => if s.1.length = le.nt ∧ keepB le.so le.wr (tmL le) s.1 = true then matchO le.ent s.2 (.tup (bs ++ us)) else none
  | _, _ => none
def iteE (c a b : E) : E := bif a.same b then a else match c.lit? with
  | some n => bif i2b n then a else b
  | none => .ite c a b
def endsL (le : LEnt) (d : DT) : List (Lab × St) → Option (E × List E)
  | [] => none
  | (lab, s) :: r => match matchL le s lab with
    | some (g, es) => match r with
      | [] => some (impB (d.is lab) g, es)
      | _ :: _ => match endsL le d r with
        | some (g2, es2) => some (andB (impB (d.is lab) g) g2, List.zipWith (iteE (d.is lab)) es es2)
        | none => none
    | none => none
def evL (P : Program) (G : Glob) (T : Tab) (call : Into) (N : Nat) (L : Loops) (le : LEnt) (body : Code) : Option (E × List E) :=
  match evCode P G T call N L body (tmL le, start le.ent le.nt) with
  | some r => match seqOut (callL le) r with
    | some q => match endsL le q.2.1 q.2.2 with
      | some (g, es) => some (andB q.1 g, es)
      | none => none
    | none => none
  | none => none

section
variable {P : Program} {ρ : Nat → Int} {G : Glob} {T : Tab} {l : Tabs} {w0 w w' : World} {M0 Im0 Im : Nat → Prop} {ad ad' hs : Nat → Hd} {m m2 m' : Mem} {tm : Tm} {en : Env} {a : Act}

theorem matchO_start {e : Ent} {v : SV} {r : E × List E} (h : matchO e m' v = some r) : startOK e = true := by
  unfold matchO at h
  split at h
  · split at h
    · split at h
      · rename_i hc
        simp only [Bool.and_eq_true] at hc
        exact hc.2
      · cases h
    · cases h
  · cases h

theorem outsE_eq {fn : Nat → List Int → Int} {xs : List Int} : ∀ (ks : List K) (j : Nat) (ys : List Int), ys.length = ks.length → (∀ (i : Nat) (k : K) (y : Int), ks[i]? = some k → ys[i]? = some y → k.norm (fn (j + i) xs) = y) → outsE fn xs j ks = ys
  | [], j, [], _, _ => rfl
  | [], j, _ :: _, h, _ => by simp at h
  | _ :: _, j, [], h, _ => by simp at h
  | k :: ks, j, y :: ys, hl, h => by
    simp only [outsE]
    have h0 := h 0 k y rfl rfl
    rw [Nat.add_zero] at h0
    rw [h0, outsE_eq ks (j + 1) ys (by simpa using hl) fun i k y h1 h2 => by
      have := h (i + 1) k y (by simpa using h1) (by simpa using h2)
      rwa [show j + 1 + i = j + (i + 1) by omega]]

/-- A function's summary. -/
theorem entry_ok (hm : P.follows .mixedOrders = true) (hS : SumOK P G l T) {LT : Nat → Loops} (hLT : LTOK P G l LT) {N n : Nat} {e : Ent} {ob : E} {es : List E} (h : evE P G T LT N n e = some (ob, es))
    (hu : ∀ xs, fits e.pks xs → e.pre xs → ob.tt l.F (env xs) = true ∧ ∀ (i : Nat) (k : K), e.oks[i]? = some k → k.norm (e.fn i xs) = (es.getD i (mkB false)).den l.F (env xs)) : EntryOK P G e := by
  unfold evE at h
  split at h
  · rename_i ob1 v m1 hev
    split at h
    · rename_i g es' hma
      simp only [Option.some.injEq, Prod.mk.injEq] at h
      obtain ⟨rfl, rfl⟩ := h
      intro xs hfit hpre w M0 Im0 hs hM hG hE
      obtain ⟨u1, u2⟩ := hu xs hfit hpre
      obtain ⟨t1, t2⟩ := andB_tt u1
      obtain ⟨r1, r2, r3⟩ := start_rel (ad := hs) l 0 (matchO_start hma) hfit hM hE fun _ _ => rfl
      obtain ⟨k1, k2, k3⟩ := matchO_spec (l := l) hma
      rw [← r2]
      refine (evFn_sound (l := l) (ρ := env xs) hm hS hG hLT n e.f _ _ _ _ _ hev t1 hs w r1 r3).mono ?_
      rintro en w' ⟨ad', rfl, a2, a3, a4⟩
      have hys : outsE e.fn xs 0 e.oks = es'.map (E.den l.F (env xs)) := by
        refine outsE_eq _ _ _ (by rw [← k1]; simp) fun i k y h1 h2 => ?_
        rw [Nat.zero_add, u2 i k h1]
        rw [List.getElem?_map] at h2
        obtain ⟨x, hx, rfl⟩ := Option.map_eq_some_iff.1 h2
        simp [List.getD, hx]
      obtain ⟨hs', Im', q1, q2, q3, q4, q5⟩ := k3 hfit hys t2 a2 fun j hj => (a3.same j ((start_al e 0 j).2 (by omega))).symm
      exact ⟨hs', Im', q1, q2, q3, by rw [q4], q5⟩
    · cases h
  · cases h

theorem bitsL_spec {F : Fam} {ad : Nat → Hd} (us : List Value) : ∀ {ls : List Lab} {x : Lab} {bs : List SV}, bitsL ls x = some bs → labV ls (SV.concL F ρ ad bs ++ us) = some (x, us) ∧ ∀ p, SV.okL p bs
  | [], x, bs, h => by simp [bitsL] at h
  | [k], x, bs, h => by
    simp only [bitsL] at h
    split at h
    · rename_i hk
      simp only [Option.some.injEq] at h; subst h
      subst hk
      exact ⟨rfl, fun _ => trivial⟩
    · cases h
  | k :: k' :: ls, x, bs, h => by
    have ht : (SV.sc (mkB true)).conc F ρ ad = .bool true := by simp only [SV.conc, E.val_b (mkB_kind true), mkB_tt]
    have hf : (SV.sc (mkB false)).conc F ρ ad = .bool false := by simp only [SV.conc, E.val_b (mkB_kind false), mkB_tt]
    simp only [bitsL] at h
    split at h
    · rename_i hk
      simp only [Option.some.injEq] at h; subst h
      subst hk
      have falses : ∀ (ls : List Lab) (k : Lab), ∃ y, labV (k :: ls) (SV.concL F ρ ad (List.replicate ls.length (.sc (mkB false))) ++ us) = some (y, us) := by
        intro ls
        induction ls with
        | nil => intro k; exact ⟨k, rfl⟩
        | cons k2 ls ih =>
          intro k
          obtain ⟨y, hy⟩ := ih k2
          refine ⟨y, ?_⟩
          simp only [List.length_cons, List.replicate_succ, SV.concL, hf, List.cons_append, labV, hy, Option.map_some, cond_false]
      obtain ⟨y, hy⟩ := falses ls k'
      refine ⟨?_, fun p => ⟨trivial, ?_⟩⟩
      · simp only [SV.concL, ht, List.cons_append, labV, hy, Option.map_some, cond_true]
      · generalize ls.length = n
        induction n with
        | zero => trivial
        | succ n ih => rw [List.replicate_succ]; exact ⟨trivial, ih⟩
    · obtain ⟨r, hr, rfl⟩ := Option.map_eq_some_iff.1 h
      obtain ⟨i1, i2⟩ := bitsL_spec (F := F) (ad := ad) us hr
      refine ⟨?_, fun p => ⟨trivial, i2 p⟩⟩
      simp only [SV.concL, hf, List.cons_append, labV, i1, Option.map_some, cond_false]

theorem iteE_den (c a b : E) (F : Fam) : (iteE c a b).den F ρ = bif c.tt F ρ then a.den F ρ else b.den F ρ := by
  unfold iteE
  cases hs : a.same b
  · simp only [cond_false]
    split
    · rename_i n hn
      rw [lit?_tt hn]
      cases i2b n <;> rfl
    · simp only [E.den, E.tt]
  · rw [E.same_eq _ _ hs]
    cases c.tt F ρ <;> rfl

theorem matchL_kind {le : LEnt} {s : St} {lab : Lab} {g : E} {es : List E} (h : matchL le s lab = some (g, es)) : es.length = le.ent.oks.length := by
  unfold matchL at h
  split at h
  · split at h
    · rw [← (matchO_spec (l := []) h).1]; simp
    · cases h
  · cases h

theorem endsL_spec {le : LEnt} {d : DT} {F : Fam} : ∀ {ss : List (Lab × St)} {g : E} {es : List E}, endsL le d ss = some (g, es) → es.length = le.ent.oks.length ∧ (g.tt F ρ = true → ∀ s, lk (d.eval F ρ) ss = some s →
    ∃ g1 es1, matchL le s (d.eval F ρ) = some (g1, es1) ∧ g1.tt F ρ = true ∧ es.map (E.den F ρ) = es1.map (E.den F ρ))
  | [], g, es, h => by simp [endsL] at h
  | (lab, s0) :: r, g, es, h => by
    simp only [endsL] at h
    split at h
    · rename_i g1 es1 h1
      have hl1 := matchL_kind h1
      split at h
      · simp only [Option.some.injEq, Prod.mk.injEq] at h
        obtain ⟨rfl, rfl⟩ := h
        refine ⟨hl1, fun ht s hs => ?_⟩
        simp only [lk] at hs
        split at hs
        · rename_i hk
          simp only [Option.some.injEq] at hs; subst hs
          exact ⟨g1, es1, by rw [← hk]; exact h1, impB_tt ht (DT.is_true hk.symm), rfl⟩
        · cases hs
      · rename_i x y
        split at h
        · rename_i g2 es2 h2
          simp only [Option.some.injEq, Prod.mk.injEq] at h
          obtain ⟨rfl, rfl⟩ := h
          obtain ⟨l2, i2⟩ := endsL_spec (F := F) h2
          refine ⟨by simp [hl1, l2], fun ht s hs => ?_⟩
          obtain ⟨t1, t2⟩ := andB_tt ht
          have hz : (List.zipWith (iteE (d.is lab)) es1 es2).map (E.den F ρ) = bif (d.is lab).tt F ρ then es1.map (E.den F ρ) else es2.map (E.den F ρ) := by
            have : ∀ (u v : List E), u.length = v.length → (List.zipWith (iteE (d.is lab)) u v).map (E.den F ρ) = bif (d.is lab).tt F ρ then u.map (E.den F ρ) else v.map (E.den F ρ) := by
              intro u
              induction u with
              | nil => intro v hv; cases v with
                | nil => cases (d.is lab).tt F ρ <;> rfl
                | cons _ _ => simp at hv
              | cons x u ih => intro v hv; cases v with
                | nil => simp at hv
                | cons y v =>
                  simp only [List.zipWith_cons_cons, List.map_cons, iteE_den, ih v (by simpa using hv)]
                  cases (d.is lab).tt F ρ <;> rfl
            exact this es1 es2 (by omega)
          rw [show lk (d.eval F ρ) ((lab, s0) :: x :: y) = if lab = d.eval F ρ then some s0 else lk (d.eval F ρ) (x :: y) from rfl] at hs
          split at hs
          · rename_i hk
            simp only [Option.some.injEq] at hs; subst hs
            refine ⟨g1, es1, by rw [← hk]; exact h1, impB_tt t1 (DT.is_true hk.symm), ?_⟩
            rw [hz, DT.is_true hk.symm]; rfl
          · rename_i hk
            obtain ⟨g3, es3, a1, a2, a3⟩ := i2 t2 s hs
            refine ⟨g3, es3, a1, a2, ?_⟩
            rw [hz, DT.is_false (fun e => hk e.symm)]
            exact a3
        · cases h
    · cases h

/-- The loop's own summary, for so many rounds. -/
def enL (le : LEnt) (mu : List Int → Nat) (n : Nat) : Ent := { le.ent with pre := fun xs => le.ent.pre xs ∧ mu xs < n }

theorem loop_ok (hm : P.follows .mixedOrders = true) {body : Code} {le : LEnt} {l0 : Tabs} {call : Into} {N : Nat} {L : Loops} (mu : List Int → Nat)
    (hS : ∀ n, SumOK P G (enL le mu n :: l0) T) (hI : ∀ n ρ w0 M0 Im0, GOK G Im0 w0 → IntoOK P (enL le mu n :: l0) ρ w0 M0 Im0 call) (hL : ∀ n, LoopsOK P G (enL le mu n :: l0) L body)
    {ob : E} {es : List E} (h : evL P G T call N L le body = some (ob, es))
    (hu : ∀ n xs, fits le.ent.pks xs → le.ent.pre xs → mu xs ≤ n → ob.tt (Tabs.F (enL le mu n :: l0)) (env xs) = true ∧ ∀ (i : Nat) (k : K), le.ent.oks[i]? = some k → k.norm (le.ent.fn i xs) = (es.getD i (mkB false)).den (Tabs.F (enL le mu n :: l0)) (env xs)) :
    LoopOK P G body le := by
  have main : ∀ n, LoopC G { le with ent := enL le mu n } fun Q => Code.rounds P body Q n := by
    intro n
    induction n with
    | zero => intro xs hfit hpre; exact absurd hpre.2 (Nat.not_lt_zero _)
    | succ n ih =>
      intro xs hfit hpre w M0 Im hs hM hG hE a hdef hsz hsl Q hQ
      obtain ⟨hpre1, hpre2⟩ := hpre
      obtain ⟨u1, u2⟩ := hu n xs hfit hpre1 (by omega)
      obtain ⟨l, hl⟩ : ∃ l : Tabs, l = enL le mu n :: l0 := ⟨_, rfl⟩
      have hS' := hS n
      have hI' := hI n
      have hL' := hL n
      rw [← hl] at u1 u2 hS' hI' hL'
      unfold evL at h
      split at h
      · rename_i r hr
        split at h
        · rename_i q hq
          split at h
          · rename_i g es' hends
            simp only [Option.some.injEq, Prod.mk.injEq] at h
            obtain ⟨rfl, rfl⟩ := h
            obtain ⟨t1, t2⟩ := andB_tt u1
            obtain ⟨elen, espec⟩ := endsL_spec (F := l.F) (ρ := env xs) hends
            have hst : startOK le.ent = true := by
              revert hends
              cases hqq : q.2.2 with
              | nil => intro hends; simp [endsL] at hends
              | cons x y =>
                intro hends
                obtain ⟨lab, s0⟩ := x
                simp only [endsL] at hends
                cases hml : matchL le s0 lab with
                | none => rw [hml] at hends; cases hends
                | some z =>
                  unfold matchL at hml
                  split at hml
                  · split at hml
                    · exact matchO_start hml
                    · cases hml
                  · cases hml
            let ad0 : Nat → Hd := fun j => if j < le.ent.nn then hs j else { blk := 0, v := a.tmps.getD (j - le.ent.nn) undef }
            obtain ⟨r1, r2, r3⟩ := start_rel (ad := ad0) l le.nt hst hfit hM hE fun j hj => if_pos hj
            have hT0 : RelT l.F (env xs) ad0 (start le.ent le.nt) (tmL le) a := by
              refine ⟨hdef, by simp [tmL]; exact hsz, fun i v hv => ?_⟩
              simp only [Tm.at, tmL, List.getD, List.getElem?_map] at hv
              by_cases hi : i < le.nt
              · rw [List.getElem?_range hi] at hv
                simp only [Option.map_some, Option.getD_some] at hv
                split at hv
                · rename_i k hk
                  have hk2 := List.findIdx?_eq_some_iff_getElem.1 hk
                  obtain ⟨hk3, hk4, _⟩ := hk2
                  have hski : le.sl[k]? = some i := by rw [List.getElem?_eq_getElem hk3]; simpa using hk4
                  have h1 := hsl k i hski
                  change a.tmps[i]? = (SV.concL F0 (env xs) hs le.ent.pgen.1)[k]? at h1
                  rw [← r2, concL_eq, List.getElem?_map, hv, Option.map_some] at h1
                  exact ⟨h1, okL_get r3 hv⟩
                · simp only [Option.some.injEq] at hv
                  subst hv
                  have hsz' : a.tmps.size = le.nt := hsz
                  have hia : i < a.tmps.size := by rw [hsz']; exact hi
                  refine ⟨?_, (start_al le.ent le.nt _).2 (by omega)⟩
                  simp only [SV.conc, ad0]
                  rw [if_neg (by omega), show le.ent.nn + i - le.ent.nn = i by omega]
                  simp [Array.getD, hia]
              · rw [List.getElem?_eq_none (by simpa using hi)] at hv
                simp at hv
            have hget : l.get (enL le mu n).key = some (enL le mu n) := by
              rw [hl]; simp [Tabs.get]
            have hA : After l.F (env xs) w M0 Im ad0 (start le.ent le.nt) q.2 Q := by
              intro s ad' a' w' hlk hRs hx
              obtain ⟨g1, es1, m1, m2, m3⟩ := espec t2 s hlk
              have m1' := m1
              unfold matchL at m1'
              split at m1'
              · rename_i bs us hbs hus
                split at m1'
                · rename_i hkeep
                  obtain ⟨hlen, hkeep⟩ := hkeep
                  obtain ⟨b1, b2, b3⟩ := matchO_spec (l := l) m1'
                  have hys : outsE le.ent.fn xs 0 le.ent.oks = es1.map (E.den l.F (env xs)) := by
                    rw [← m3]
                    refine outsE_eq _ _ _ (by simp [elen]) fun i k y h1 h2 => ?_
                    rw [Nat.zero_add, u2 i k h1]
                    rw [List.getElem?_map] at h2
                    obtain ⟨x, hx, rfl⟩ := Option.map_eq_some_iff.1 h2
                    simp [List.getD, hx]
                  obtain ⟨hs', Im', q1, q2, q3, q4, q5⟩ := b3 (hs := hs) hfit hys m2 hRs.2 fun j hj => by
                    rw [← hx.same j ((start_al le.ent le.nt j).2 (by omega))]
                    exact if_pos hj
                  obtain ⟨g1', g2'⟩ := getSl_spec hus
                  have hbits := bitsL_spec (F := l.F) (ρ := env xs) (ad := ad') (SV.concL l.F (env xs) ad' us) hbs
                  refine hQ a' w' hs' Im' (SV.concL l.F (env xs) ad' (bs ++ us)) (q.2.1.eval l.F (env xs)) (SV.concL l.F (env xs) ad' us) q1 q2 q3 q5 ?_ ?_ ?_ ?_ ?_ hRs.1.defers
                  · show (lastV le.ent.ogen.1).conc _ _ _ = _
                    rw [show outsE (enL le mu (n+1)).fn xs 0 (enL le mu (n+1)).oks = es1.map (E.den l.F (env xs)) from hys]
                    rw [hys] at q4
                    rw [← q4]
                    simp only [SV.conc]
                  · rw [show SV.concL l.F (env xs) ad' (bs ++ us) = SV.concL l.F (env xs) ad' bs ++ SV.concL l.F (env xs) ad' us by rw [concL_eq, concL_eq, concL_eq, List.map_append]]
                    exact hbits.1
                  · intro i t hi
                    have hv := g2' i t hi
                    have hil : i < us.length := by have := (List.getElem?_eq_some_iff.1 hi).1; change i < le.so.length at this; omega
                    rw [List.getElem?_eq_getElem hil] at hv
                    rw [(hRs.1.slot t _ hv).1, concL_eq, List.getElem?_map, List.getElem?_eq_getElem hil, Option.map_some]
                  · intro k hk1 hk2
                    have hsz' : a.tmps.size = le.nt := hsz
                    by_cases hkn : k < le.nt
                    · have hkk := List.all_eq_true.1 hkeep k (List.mem_range.2 (by simp [tmL]; exact hkn))
                      have c1 : le.so.contains k = false := by simpa using hk1
                      have c2 : le.wr.contains k = false := by simpa using hk2
                      rw [c1, c2, Bool.false_or, Bool.false_or] at hkk
                      split at hkk
                      · rename_i v u hv0 hv1
                        have := SV.same_eq _ _ hkk
                        subst this
                        obtain ⟨e1, e2⟩ := hT0.slot k v hv0
                        rw [(hRs.1.slot k v hv1).1, e1, SV.conc_congr hx.same v e2]
                      · cases hkk
                    · have h1 : a'.tmps.size = le.nt := by rw [← hlen]; exact hRs.1.size
                      rw [Array.getElem?_eq_none (by omega), Array.getElem?_eq_none (by omega)]
                  · have h1 : a'.tmps.size = le.nt := by rw [← hlen]; exact hRs.1.size
                    have hsz' : a.tmps.size = le.nt := hsz
                    omega
                · cases m1'
              · cases m1'
            show Code.rounds P body Q (n + 1) a w
            rw [rounds_succ]
            obtain ⟨v1, v2⟩ := seqOut_sound (l := l) (ρ := env xs) (w0 := w) (M0 := M0) (Im0 := Im) (ad := ad0) (K := Code.rounds P body Q n) (g := q.1) (o := q.2) (f := callL le) hq t1 hA fun s1 g2 o2 ad' a' w' h2 ht2 hR' hA' =>
              callL_sound (le := { le with ent := enL le mu n }) (C := fun Q => Code.rounds P body Q n) hget ih hG (g := g2) (o := o2) h2 ht2 hR' hA'
            exact evCode_sound hm hS' hG (hI' (env xs) w M0 Im hG) body L _ r.1 r.2 ad0 a w _ hL' hr v1 ⟨hT0, r1⟩ v2
          · cases h
        · cases h
      · cases h
  intro xs hfit hpre w M0 Im hs hM hG hE a hdef hsz hsl Q hQ
  exact wp_loop_rounds (mu xs + 1) (main (mu xs + 1) xs hfit ⟨hpre, Nat.lt_succ_self _⟩ w M0 Im hs hM hG hE a hdef hsz hsl Q hQ)
end
end Go.Proofs.YtbolcnlenmphhaaDoor.Ew

/- Guarded operations; a region that draws its order: where no two operations that the edges leave open touch the same, one walk in the order of the text serves every order. -/
import Derived.Test.YtmolkkphnehgcaaW1
set_option linter.unusedVariables false
set_option linter.unusedSimpArgs false
namespace Go.Proofs.Ytmolkkphnehgcaa.Ew
open Go Go.RowKit

/-! ### conditions together -/
def conjE : List E → E
  | [] => mkB true
  | c :: r => mkAnd c (conjE r)
def bAll (cs : List E) : Bool := cs.all fun c => decide (c.kind = .b)
theorem conjE_spec {F : Fam} {ρ : Nat → Int} : ∀ {cs : List E}, bAll cs = true → (conjE cs).kind = .b ∧ (conjE cs).tt F ρ = holds F ρ cs
  | [], _ => ⟨rfl, by simp [conjE, holds]⟩
  | c :: r, h => by
    simp only [bAll, List.all_cons, Bool.and_eq_true, decide_eq_true_eq] at h
    obtain ⟨i1, i2⟩ := conjE_spec (F := F) (ρ := ρ) (cs := r) h.2
    have := mkAnd_spec c (conjE r) h.1 i1 F ρ
    exact ⟨this.2, by simp only [conjE, this.1, i2, holds, List.all_cons]⟩

/-! ### an operation with its guard -/
inductive PL where
  | put (v : SV)
  | run (cs : Option (List E)) (w : W)
  deriving Repr, Inhabited

def planE (P : Program) (ops : Array Oper) (o : Oper) (en : Env) : Option PL :=
  match guardE ops en o with
  | some .no => some (.put .und)
  | some .yes => (opPlan P [] en o).map (.run none)
  | some (.cond cs) => (opPlan P cs en o).map (.run (some cs))
  | none => none

/-- Where a condition holds, what an operation has written by some names; else what was there. -/
def mergeOn (c : E) (m' : Mem) (W : List Nat) (m : Mem) : Mem := zipR (fun n x y => bif W.contains n then mergeBlk c x y else y) 0 m' m
theorem mergeOn_len (c : E) (m' : Mem) (W : List Nat) (m : Mem) : (mergeOn c m' W m).length = m.length := zipR_len _ _ _
theorem mergeOn_at (c : E) (m' : Mem) (W : List Nat) (m : Mem) (hl : m'.length = m.length) (n : Nat) : (mergeOn c m' W m).at n = if n ∈ W then mergeBlk c (m'.at n) (m.at n) else m.at n := by
  by_cases hn : n < m.length
  · unfold mergeOn
    rw [zipR_at _ _ _ _ hn, Nat.zero_add]
    by_cases hw : n ∈ W <;> simp [hw]
  · have e1 : m'.at n = none := by simp [Mem.at, List.getD, List.getElem?_eq_none (show m'.length ≤ n by omega)]
    have e2 : m.at n = none := by simp [Mem.at, List.getD, List.getElem?_eq_none (show m.length ≤ n by omega)]
    have e3 : (mergeOn c m' W m).at n = none := by simp [Mem.at, List.getD, List.getElem?_eq_none (show (mergeOn c m' W m).length ≤ n by rw [mergeOn_len]; omega)]
    rw [e1, e2, e3]
    simp [mergeBlk]
/-- The names that what was written speaks of. -/
def refsW (m' : Mem) (v : SV) (W : List Nat) : List Nat := allN v ++ W.flatMap fun n => match m'.at n with
  | some (_, b) => allNL b.cs
  | _ => []

def runPL (P : Program) (G : Glob) (T : Tab) (m : Mem) (nm : Nat) (ch : Ch) : PL → Option (E × SV × Mem)
  | .put v => some (mkB true, v, m)
  | .run none w => runW P G T m nm ch w
  | .run (some cs) w => match runW P G T m nm ch w with
    | some (g, v, m') => if bAll cs = true ∧ g.kind = .b ∧ ((refsW m' v (fpW T m nm ch w).2).all fun n => (m'.at n).isSome) = true then
        some (mkOr (mkNot (conjE cs)) g, .gd cs v, mergeOn (conjE cs) m' (fpW T m nm ch w).2 m) else none
    | none => none
def fpPL (P : Program) (G : Glob) (T : Tab) (m : Mem) (nm : Nat) (ch : Ch) : PL → FP
  | .put _ => ([], [])
  | .run none w => fpW T m nm ch w
  | .run (some _) w => match runW P G T m nm ch w with
    | some (_, v, m') => ((fpW T m nm ch w).1 ++ refsW m' v (fpW T m nm ch w).2, (fpW T m nm ch w).2)
    | none => ([], [])

section
variable {P : Program} {ρ : Nat → Int} {G : Glob} {T : Tab} {l : Tabs} {w0 w : World} {M0 Im0 : Nat → Prop} {ad : Nat → Hd} {m m2 m' : Mem} {tm : Tm} {en : Env} {a : Act}

theorem refsW_congr {m' m2' : Mem} (v : SV) {W : List Nat} (h : ∀ n ∈ W, m2'.at n = m'.at n) : refsW m2' v W = refsW m' v W := by
  unfold refsW
  congr 1
  have : ∀ (W : List Nat), (∀ n ∈ W, m2'.at n = m'.at n) → (W.flatMap fun n => match m2'.at n with | some (_, b) => allNL b.cs | _ => []) = W.flatMap fun n => match m'.at n with | some (_, b) => allNL b.cs | _ => [] := by
    intro W
    induction W with
    | nil => intro _; rfl
    | cons n W ih =>
      intro h
      rw [List.flatMap_cons, List.flatMap_cons, ih fun k hk => h k (List.mem_cons_of_mem _ hk), h n (List.mem_cons_self ..)]
  exact this W h

theorem runPL_loc {nm : Nat} {ch : Ch} {pl : PL} {g : E} {v : SV} (h : runPL P G T m nm ch pl = some (g, v, m')) :
    Loc (fun m => runPL P G T m nm ch pl) m (fpPL P G T m nm ch pl) g v m' ∧ ∀ m2, m2.length = m.length → Agree ((fpPL P G T m nm ch pl).1 ++ (fpPL P G T m nm ch pl).2) m m2 → fpPL P G T m2 nm ch pl = fpPL P G T m nm ch pl := by
  cases pl with
  | put u =>
    simp only [runPL, Option.some.injEq, Prod.mk.injEq] at h
    obtain ⟨rfl, rfl, rfl⟩ := h
    exact ⟨Loc.read fun _ _ _ => rfl, fun _ _ _ => rfl⟩
  | run cs w =>
    cases cs with
    | none =>
      obtain ⟨h1, h2⟩ := runW_loc h
      exact ⟨h1, fun m2 _ ha => h2 m2 ha⟩
    | some cs =>
      simp only [runPL] at h
      split at h
      · rename_i g1 v1 m1 hr
        split at h
        · rename_i hc
          simp only [Option.some.injEq, Prod.mk.injEq] at h
          obtain ⟨rfl, rfl, rfl⟩ := h
          obtain ⟨hL, hF⟩ := runW_loc hr
          have hfp : fpPL P G T m nm ch (.run (some cs) w) = ((fpW T m nm ch w).1 ++ refsW m1 v1 (fpW T m nm ch w).2, (fpW T m nm ch w).2) := by simp only [fpPL, hr]
          rw [hfp]
          have step : ∀ m2, m2.length = m.length → Agree (((fpW T m nm ch w).1 ++ refsW m1 v1 (fpW T m nm ch w).2) ++ (fpW T m nm ch w).2) m m2 → fpW T m2 nm ch w = fpW T m nm ch w ∧ ∃ m2', runW P G T m2 nm ch w = some (g1, v1, m2') ∧ m2'.length = m2.length ∧ (∀ n ∈ (fpW T m nm ch w).2, m2'.at n = m1.at n) ∧ (∀ n, n ∉ (fpW T m nm ch w).2 → m2'.at n = m2.at n) ∧ refsW m2' v1 (fpW T m nm ch w).2 = refsW m1 v1 (fpW T m nm ch w).2 := fun m2 hl ha => by
            have ha' : Agree ((fpW T m nm ch w).1 ++ (fpW T m nm ch w).2) m m2 := fun n hn => by
              rcases List.mem_append.1 hn with hn | hn
              · exact ha n (by simp [hn])
              · exact ha n (by simp [hn])
            obtain ⟨m2', r1, r2, r3, r4⟩ := hL.loc m2 hl ha'
            exact ⟨hF m2 ha', m2', r1, r2, r3, r4, refsW_congr v1 r3⟩
          refine ⟨⟨mergeOn_len _ _ _ _, fun n hn => by rw [mergeOn_at _ _ _ _ hL.len, if_neg hn], fun m2 hl ha => ?_⟩, fun m2 hl ha => ?_⟩
          · obtain ⟨f1, m2', r1, r2, r3, r4, r5⟩ := step m2 hl ha
            refine ⟨mergeOn (conjE cs) m2' (fpW T m nm ch w).2 m2, ?_, mergeOn_len _ _ _ _, fun n hn => ?_, fun n hn => by rw [mergeOn_at _ _ _ _ r2, if_neg hn]⟩
            · simp only [runPL, r1, f1]
              rw [r5, if_pos]
              refine ⟨hc.1, hc.2.1, ?_⟩
              rw [List.all_eq_true]
              intro k hk
              have h0 := List.all_eq_true.1 hc.2.2 k hk
              by_cases hw : k ∈ (fpW T m nm ch w).2
              · rw [r3 k hw]; exact h0
              · rw [r4 k hw, ha k (by simp [hk]), ← hL.frame k hw]; exact h0
            · rw [mergeOn_at _ _ _ _ r2, mergeOn_at _ _ _ _ hL.len, if_pos hn, if_pos hn, r3 n hn, ha n (by simp [hn])]
          · obtain ⟨f1, m2', r1, r2, r3, r4, r5⟩ := step m2 hl ha
            simp only [fpPL, r1, f1, r5]
        · cases h
      · cases h

theorem runPL_sound (hS : SumOK P G l T) (hG : GOK G Im0 w0) {s : St} (hR : RelS l.F ρ w0 M0 Im0 ad s a w) (hE : RelV l.F ρ ad s.2 en a) {ops : Array Oper} {nm : Nat} {ch : Ch} {o : Oper} {pl : PL} (hp : planE P ops o en = some pl) {g : E} {v : SV}
    (h : runPL P G T s.2 nm ch pl = some (g, v, m')) : g.kind = .b ∧ (g.tt l.F ρ = true → ∀ (K : Act → World → Prop) (Q : Exit → Act → World → Prop),
      (∀ ad' a' w', RelS l.F ρ w0 M0 Im0 ad' (setT s.1 o.dst v, m') a' w' → Ext ad ad' s.2 m' → K a' w') →
      if Region.wanted o (yielded ops a.tmps) = true then o.wp P a w K Q else K (a.put o.dst undef) w) := by
  obtain ⟨hT, hM⟩ := hR
  unfold planE at hp
  split at hp
  · rename_i hg
    simp only [Option.some.injEq] at hp
    subst hp
    simp only [runPL, Option.some.injEq, Prod.mk.injEq] at h
    obtain ⟨rfl, rfl, rfl⟩ := h
    refine ⟨rfl, fun _ K Q hK => ?_⟩
    rw [guardE_spec hE hg]
    simp only [Gd.tt, Bool.false_eq_true, if_false]
    exact hK ad _ w ⟨hT.put o.dst (v := .und) trivial, hM⟩ (Ext.refl _ _)
  · rename_i hg
    obtain ⟨W, hW, rfl⟩ := Option.map_eq_some_iff.1 hp
    simp only [runPL] at h
    obtain ⟨r1, r2⟩ := runW_sound hS hG hE hM (cs := []) rfl hW h
    refine ⟨r1, fun ht K Q hK => ?_⟩
    rw [guardE_spec hE hg]
    simp only [Gd.tt, if_true]
    exact r2 ht K Q fun ad' w' hr x hv => hK ad' _ w' ⟨(hT.ext x).put o.dst hv, hr⟩ x
  · rename_i cs hg
    obtain ⟨W, hW, rfl⟩ := Option.map_eq_some_iff.1 hp
    have hwant := guardE_spec hE hg
    simp only [runPL] at h
    split at h
    · rename_i g1 v1 m1 hr
      split at h
      · rename_i hc
        simp only [Option.some.injEq, Prod.mk.injEq] at h
        obtain ⟨rfl, rfl, rfl⟩ := h
        obtain ⟨hb, hgk, hrefs⟩ := hc
        obtain ⟨c1, c2⟩ := conjE_spec (F := l.F) (ρ := ρ) hb
        have hor := mkOr_spec (mkNot (conjE cs)) g1 (mkNot_spec _ l.F ρ).2 hgk l.F ρ
        obtain ⟨hL, _⟩ := runW_loc hr
        have hPM : PM (conjE cs) m1 s.2 (mergeOn (conjE cs) m1 (fpW T s.2 nm ch W).2 s.2) := fun n => by
          rw [mergeOn_at _ _ _ _ hL.len]
          by_cases hn : n ∈ (fpW T s.2 nm ch W).2
          · rw [if_pos hn]; exact Or.inr rfl
          · rw [if_neg hn]; exact Or.inl ⟨(hL.frame n hn).symm, rfl⟩
        have hal : ∀ k, al s.2 k ∨ al m1 k → al (mergeOn (conjE cs) m1 (fpW T s.2 nm ch W).2 s.2) k := fun k hk => by rw [hPM.al]; exact hk.symm
        have hal1 : ∀ k ∈ refsW m1 v1 (fpW T s.2 nm ch W).2, al m1 k := fun k hk => List.all_eq_true.1 hrefs k hk
        have hvok : v1.ok (al m1) := allN_ok v1 fun n hn => hal1 n (by simp [refsW, hn])
        have hok1 : ∀ n g x, m1.at n = some (g, x) → SV.okL (al m1) x.cs ∨ s.2.at n = some (g, x) := fun n g x hn => by
          by_cases hw : n ∈ (fpW T s.2 nm ch W).2
          · left
            refine allNL_ok x.cs fun k hk => hal1 k ?_
            unfold refsW
            exact List.mem_append_right _ (List.mem_flatMap.2 ⟨n, hw, by rw [hn]; exact hk⟩)
          · right; rw [← hL.frame n hw]; exact hn
        have keep1 : ∀ k, al s.2 k → k ∉ (fpW T s.2 nm ch W).2 → al m1 k := fun k hk hw => by unfold al at hk ⊢; rw [hL.frame k hw]; exact hk
        refine ⟨hor.2, fun ht K Q hK => ?_⟩
        rw [hor.1, Bool.or_eq_true, (mkNot_spec (conjE cs) l.F ρ).1, c2] at ht
        rcases Bool.eq_false_or_eq_true (holds l.F ρ cs) with hh | hh
        · rw [if_pos (by rw [hwant]; exact hh)]
          have hgt : g1.tt l.F ρ = true := by
            rcases ht with ht | ht
            · rw [hh] at ht; cases ht
            · exact ht
          refine (runW_sound hS hG hE hM hh hW hr).2 hgt K Q fun ad' w' hr' x hv => ?_
          have x' : Ext ad ad' s.2 (mergeOn (conjE cs) m1 (fpW T s.2 nm ch W).2 s.2) := ⟨x.same, fun k hk => hal k (Or.inl hk)⟩
          have hp' := (hT.ext x').put o.dst (v := .gd cs v1) (by simpa [SV.ok] using SV.ok_mono (fun k hk => hal k (Or.inr hk)) v1 hv)
          simp only [SV.conc] at hp'
          unfold holds at hh
          rw [hh] at hp'
          refine hK ad' _ w' ⟨hp', hPM.rel c1 (t := true) (by rw [c2]; exact hh) hr' fun n g x hn => ?_⟩ x'
          obtain ⟨_, Im, _, _, hI⟩ := hM
          exact hI.ok n g x hn
        · rw [if_neg (by rw [hwant]; show ¬ holds l.F ρ cs = true; rw [hh]; exact Bool.false_ne_true)]
          have x' : Ext ad ad s.2 (mergeOn (conjE cs) m1 (fpW T s.2 nm ch W).2 s.2) := ⟨fun _ _ => rfl, fun k hk => hal k (Or.inl hk)⟩
          have hp' := (hT.ext x').put o.dst (v := .gd cs v1) (by simpa [SV.ok] using SV.ok_mono (fun k hk => hal k (Or.inr hk)) v1 hvok)
          have hh' := hh
          simp only [SV.conc] at hp'
          unfold holds at hh
          rw [hh] at hp'
          obtain ⟨_, Im, _, _, hI⟩ := id hM
          refine hK ad _ w ⟨hp', ?_⟩ x'
          refine (PM.rel' c1 hPM (by rw [c2]; exact hh') hM fun n g x hn => ?_)
          rcases hok1 n g x hn with h | h
          · exact SV.okL_mono (fun k hk => hal k (Or.inr hk)) _ h
          · exact SV.okL_mono (fun k hk => hal k (Or.inl hk)) _ (hI.ok n g x h)
      · cases h
    · cases h
  · cases hp
end
end Go.Proofs.Ytmolkkphnehgcaa.Ew

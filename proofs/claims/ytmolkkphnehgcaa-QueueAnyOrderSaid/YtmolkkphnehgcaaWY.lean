/- What a described operation, or a call by a summary, touches: it leaves all other names, and hangs on none but these. -/
import Derived.Test.YtmolkkphnehgcaaWX
set_option linter.unusedVariables false
set_option linter.unusedSimpArgs false
namespace Go.Proofs.Ytmolkkphnehgcaa.Ew
open Go Go.RowKit

def namesV : SV → List Nat
  | .ls n _ => [n]
  | .sv n _ _ _ _ => [n]
  | .sl n _ _ _ => [n]
  | .ite _ a b => namesV a ++ namesV b
  | _ => []
/-- The names that are looked at, and those that are written. -/
def fpX (nm : Nat) : X → List Nat × List Nat
  | .old (.ld n ..) | .old (.ldi n ..) => ([n], [])
  | .old (.st n ..) | .old (.sti n ..) => ([n], [n])
  | .old (.new ..) => ([], [nm])
  | .old _ => ([], [])
  | .len x => (namesV x, [])
  | .lde n .. => ([n], [])
  | .ste n .. => ([n], [n])
  | .app _ _ _ x y => (namesV x ++ namesV y, namesV x ++ [nm])
  | .sub _ _ x _ _ => (namesV x, namesV x ++ [nm])
  | .mk .. => ([], [nm])
  | .bl .. => ([], [nm])
  | .mnew _ => ([], [nm])
  | .mlk _ n _ _ => ([n], [])
  | .mup _ n _ _ => ([n], [n])
  | .mdl _ _ _ n _ => ([n], [n])
  | .mln _ _ n => ([n], [])
  | .vix _ n .. => ([n], [])
  | .clr _ _ _ n _ => ([n], [n])
  | .lds n .. => ([n], [])
  | .sts n .. => ([n], [n])
def fpC (e : Ent) (m : Mem) (nm : Nat) (args : List SV) : List Nat × List Nat :=
  match Sh.getL m e.ps [] args with
  | some (_, srcs, _) => (srcs.flatMap Src.ns, ((mutJ e.pgen.2).filter fun j => !e.kp.contains j).flatMap (srcOf srcs) ++ (List.range (Sh.nnL e.outL)).map fun i => nm + i)
  | none => ([], [])

/-- The two memories hold the same by these names. -/
def Agree (l : List Nat) (m m2 : Mem) : Prop := ∀ n ∈ l, m2.at n = m.at n

section
variable {P : Program} {G : Glob} {m m2 m' : Mem}

theorem Agree.left {a b : List Nat} (h : Agree (a ++ b) m m2) : Agree a m m2 := fun n hn => h n (List.mem_append_left _ hn)
theorem Agree.right {a b : List Nat} (h : Agree (a ++ b) m m2) : Agree b m m2 := fun n hn => h n (List.mem_append_right _ hn)

theorem viewL_loc {ty : Nat} {row : Row} : ∀ {v : SV} {V : LV}, viewL m ty row v = some V → Agree (namesV v) m m2 → viewL m2 ty row v = some V ∧ ∀ n ∈ V.ns, n ∈ namesV v
  | .ls n le, V, h, ha => by
    have := ha n (by simp [namesV])
    simp only [viewL, this] at h ⊢
    refine ⟨h, ?_⟩
    split at h
    · split at h
      · simp only [Option.some.injEq] at h; subst h; simp [namesV]
      · cases h
    · cases h
  | .sv n str l0 lo hi, V, h, ha => by
    have := ha n (by simp [namesV])
    simp only [viewL, this] at h ⊢
    refine ⟨h, ?_⟩
    split at h
    · split at h
      · simp only [Option.some.injEq] at h; subst h; simp [namesV]
      · cases h
    · cases h
  | .nilp c, V, h, ha => by
    cases c <;> simp only [viewL, Option.some.injEq, reduceCtorEq] at h ⊢
    subst h
    exact ⟨rfl, by simp⟩
  | .ite p a b, V, h, ha => by
    simp only [viewL] at h ⊢
    split at h
    · rename_i x y hx hy
      obtain ⟨i1, i2⟩ := viewL_loc hx (Agree.left (b := namesV b) ha)
      obtain ⟨j1, j2⟩ := viewL_loc hy (Agree.right (a := namesV a) ha)
      simp only [i1, j1]
      split at h
      · rename_i hp
        simp only [Option.some.injEq] at h; subst h
        refine ⟨by rw [if_pos hp], fun n hn => ?_⟩
        simp only [namesV]
        rcases List.mem_append.1 hn with hn | hn
        · exact List.mem_append_left _ (i2 n hn)
        · exact List.mem_append_right _ (j2 n hn)
      · cases h
    · cases h
  | .sc _, V, h, _ | .ptr .., V, h, _ | .pi .., V, h, _ | .sl .., V, h, _ | .pe .., V, h, _ | .mp .., V, h, _ | .oq .., V, h, _ | .fn .., V, h, _ | .agg .., V, h, _ | .tup .., V, h, _ | .gd .., V, h, _ | .und, V, h, _ | .gl .., V, h, _ => by simp [viewL] at h

theorem tyL_loc : ∀ {v : SV}, Agree (namesV v) m m2 → tyL m2 v = tyL m v
  | .ls n le, ha => by simp only [tyL, ha n (by simp [namesV])]
  | .sv n str l0 lo hi, ha => by simp only [tyL, ha n (by simp [namesV])]
  | .nilp c, ha => by cases c <;> rfl
  | .ite p a b, ha => by simp only [tyL, tyL_loc (v := a) (Agree.left (b := namesV b) ha), tyL_loc (v := b) (Agree.right (a := namesV a) ha)]
  | .sc _, _ | .ptr .., _ | .pi .., _ | .sl .., _ | .pe .., _ | .mp .., _ | .oq .., _ | .fn .., _ | .agg .., _ | .tup .., _ | .gd .., _ | .und, _ | .gl .., _ => rfl

theorem at_set (m : Mem) (n k : Nat) (x : Option (E × Blk)) (hl : k < m.length) : Mem.at (List.set m k x) n = if n = k then x else m.at n := by
  by_cases h : n = k
  · subst h; rw [if_pos rfl, Mem.at_set_same hl]
  · rw [if_neg h, Mem.at_set_other (Ne.symm h)]
theorem at_set_congr (k : Nat) (x : Option (E × Blk)) (hl : m2.length = m.length) {n : Nat} (h : m2.at n = m.at n) : Mem.at (List.set m2 k x) n = Mem.at (List.set m k x) n := by
  by_cases hk : k < m.length
  · rw [at_set m n k x hk, at_set m2 n k x (by omega), h]
  · rw [List.set_eq_of_length_le (by omega), List.set_eq_of_length_le (by omega), h]
theorem killN_congr (k : Nat) (hl : m2.length = m.length) (hk : m2.at k = m.at k) {n : Nat} (h : m2.at n = m.at n) : (killN m2 k).at n = (killN m k).at n := by
  unfold killN
  rw [hk]
  cases m.at k with
  | none => exact h
  | some x => obtain ⟨g, b⟩ := x; exact at_set_congr k _ hl h
theorem killL_congr : ∀ (ks : List Nat) {m m2 : Mem}, m2.length = m.length → Agree ks m m2 → ∀ n, m2.at n = m.at n → (killL m2 ks).at n = (killL m ks).at n
  | [], m, m2, _, _, n, h => h
  | k :: r, m, m2, hl, ha, n, h => by
    have hk := ha k (List.mem_cons_self ..)
    exact killL_congr r (by rw [killN_len, killN_len]; exact hl) (fun q hq => killN_congr k hl hk (ha q (List.mem_cons_of_mem _ hq))) n (killN_congr k hl hk h)
theorem killN_other {k n : Nat} (h : n ≠ k) : (killN m k).at n = m.at n := by
  unfold killN
  split
  · rw [Mem.at_set_other (Ne.symm h)]
  · rfl
theorem killL_other : ∀ (ks : List Nat) {m : Mem} {n : Nat}, n ∉ ks → (killL m ks).at n = m.at n
  | [], _, _, _ => rfl
  | k :: r, m, n, h => by
    simp only [List.mem_cons, not_or] at h
    exact (killL_other r h.2).trans (killN_other h.1)
theorem shareN_congr (k : Nat) (hl : m2.length = m.length) (hk : m2.at k = m.at k) {n : Nat} (h : m2.at n = m.at n) : (shareN m2 k).at n = (shareN m k).at n := by
  unfold shareN
  rw [hk]
  split
  · exact at_set_congr k _ hl h
  · exact h
theorem shareN_len (m : Mem) (n : Nat) : (shareN m n).length = m.length := by unfold shareN; split <;> simp
theorem shareL_len : ∀ (ns : List Nat) (m : Mem), (shareL m ns).length = m.length
  | [], _ => rfl
  | n :: r, m => (shareL_len r (shareN m n)).trans (shareN_len m n)
theorem shareL_congr : ∀ (ks : List Nat) {m m2 : Mem}, m2.length = m.length → Agree ks m m2 → ∀ n, m2.at n = m.at n → (shareL m2 ks).at n = (shareL m ks).at n
  | [], m, m2, _, _, n, h => h
  | k :: r, m, m2, hl, ha, n, h => by
    have hk := ha k (List.mem_cons_self ..)
    exact shareL_congr r (by rw [shareN_len, shareN_len]; exact hl) (fun q hq => shareN_congr k hl hk (ha q (List.mem_cons_of_mem _ hq))) n (shareN_congr k hl hk h)
theorem shareN_other {k n : Nat} (h : n ≠ k) : (shareN m k).at n = m.at n := by
  unfold shareN
  split
  · rw [Mem.at_set_other (Ne.symm h)]
  · rfl
theorem shareL_other : ∀ (ks : List Nat) {m : Mem} {n : Nat}, n ∉ ks → (shareL m ks).at n = m.at n
  | [], _, _, _ => rfl
  | k :: r, m, n, h => by
    simp only [List.mem_cons, not_or] at h
    exact (shareL_other r h.2).trans (shareN_other h.1)
theorem setEs_congr : ∀ (l : List (Nat × E × Blk)) {m m2 : Mem}, m2.length = m.length → ∀ n, m2.at n = m.at n → (setEs m2 l).at n = (setEs m l).at n
  | [], m, m2, _, n, h => h
  | (k, g, b) :: r, m, m2, hl, n, h => setEs_congr r (by simpa using hl) n (at_set_congr k _ hl h)
theorem setEs_other : ∀ (l : List (Nat × E × Blk)) {m : Mem} {n : Nat}, (∀ y ∈ l, y.1 ≠ n) → (setEs m l).at n = m.at n
  | [], _, _, _ => rfl
  | (k, g, b) :: r, m, n, h => by
    have h0 := h _ (List.mem_cons_self ..)
    exact (setEs_other r fun y hy => h y (List.mem_cons_of_mem _ hy)).trans (Mem.at_set_other h0 _)

/-- What an operation does to the memory: only by the names that it writes, and by what stands at the names that it touches. -/
structure Loc (f : Mem → Option (E × SV × Mem)) (m : Mem) (fp : List Nat × List Nat) (g : E) (v : SV) (m' : Mem) : Prop where
  len : m'.length = m.length
  frame : ∀ n, n ∉ fp.2 → m'.at n = m.at n
  loc : ∀ m2, m2.length = m.length → Agree (fp.1 ++ fp.2) m m2 → ∃ m2', f m2 = some (g, v, m2') ∧ m2'.length = m2.length ∧ (∀ n ∈ fp.2, m2'.at n = m'.at n) ∧ ∀ n, n ∉ fp.2 → m2'.at n = m2.at n

theorem Loc.read {f : Mem → Option (E × SV × Mem)} {g : E} {v : SV} {R : List Nat} (h : ∀ m2, m2.length = m.length → Agree R m m2 → f m2 = some (g, v, m2)) : Loc f m (R, []) g v m :=
  ⟨rfl, fun _ _ => rfl, fun m2 hl ha => ⟨m2, h m2 hl (by simpa using ha), rfl, fun n hn => by simp at hn, fun _ _ => rfl⟩⟩

theorem blkC_loc {n : Nat} (h : m2.at n = m.at n) : blkC m2 n = blkC m n := by simp only [blkC, h]

theorem apply_loc {d : D} {nm : Nat} {g : E} {v : SV} (h : apply G m nm d = some (g, v, m')) : Loc (fun m => apply G m nm d) m (fpX nm (.old d)) g v m' := by
  cases d with
  | val u =>
    simp only [apply, Option.some.injEq, Prod.mk.injEq] at h
    obtain ⟨rfl, rfl, rfl⟩ := h
    exact Loc.read fun m2 _ _ => rfl
  | ld n off sz ag =>
    simp only [apply] at h
    have hm : m' = m := by
      split at h
      · obtain ⟨u, _, h2⟩ := Option.map_eq_some_iff.1 h; simp only [Prod.mk.injEq] at h2; exact h2.2.2.symm
      · cases h
    subst hm
    refine Loc.read fun m2 _ ha => ?_
    simp only [apply, blkC_loc (ha n (by simp))]
    split at h
    · obtain ⟨u, h1, h2⟩ := Option.map_eq_some_iff.1 h
      simp only [Prod.mk.injEq] at h2
      obtain ⟨rfl, rfl, _⟩ := h2
      simp [h1]
    · cases h
  | ldi n off str cnt e sz ag =>
    simp only [apply] at h
    have hm : m' = m := by
      split at h
      · split at h
        · obtain ⟨u, _, h2⟩ := Option.map_eq_some_iff.1 h; simp only [Prod.mk.injEq] at h2; exact h2.2.2.symm
        · cases h
      · cases h
    subst hm
    refine Loc.read fun m2 _ ha => ?_
    simp only [apply, blkC_loc (ha n (by simp))]
    split at h
    · split at h
      · rename_i hc
        obtain ⟨u, h1, h2⟩ := Option.map_eq_some_iff.1 h
        simp only [Prod.mk.injEq] at h2
        obtain ⟨rfl, rfl, _⟩ := h2
        simp [h1, hc]
      · cases h
    · cases h
  | ldg b off sz ag =>
    cases ag <;> simp only [apply, cond_true, cond_false] at h <;> obtain ⟨u, h1, h2⟩ := Option.map_eq_some_iff.1 h <;> simp only [Prod.mk.injEq] at h2 <;> obtain ⟨rfl, rfl, rfl⟩ := h2 <;>
      exact Loc.read fun m2 _ _ => by simp [apply, h1]
  | st n off vs =>
    simp only [apply] at h
    split at h
    · rename_i g' ty cs hb
      obtain ⟨u, h1, h2⟩ := Option.map_eq_some_iff.1 h
      simp only [Prod.mk.injEq] at h2
      obtain ⟨rfl, rfl, rfl⟩ := h2
      have hl := Mem.at_lt (blkC_spec hb).1
      refine ⟨by simp, fun k hk => Mem.at_set_other (fun e => hk (by simp [fpX, e])) _, fun m2 hl2 ha => ⟨m2.set n (some (g', .cells ty u)), ?_, by simp, fun k hk => ?_, fun k hk => Mem.at_set_other (fun e => hk (by simp [fpX, e])) _⟩⟩
      · simp only [apply, blkC_loc (ha n (by simp [fpX])), hb, h1, Option.map_some]
      · exact at_set_congr n _ hl2 (ha k (by simp [fpX] at hk ⊢; exact hk))
    · cases h
  | sti n off str cnt e vs =>
    simp only [apply] at h
    split at h
    · rename_i g' ty cs hb
      split at h
      · rename_i hc
        obtain ⟨u, h1, h2⟩ := Option.map_eq_some_iff.1 h
        simp only [Prod.mk.injEq] at h2
        obtain ⟨rfl, rfl, rfl⟩ := h2
        refine ⟨by simp, fun k hk => Mem.at_set_other (fun e => hk (by simp [fpX, e])) _, fun m2 hl2 ha => ⟨m2.set n (some (g', .cells ty u)), ?_, by simp, fun k hk => ?_, fun k hk => Mem.at_set_other (fun e => hk (by simp [fpX, e])) _⟩⟩
        · simp only [apply, blkC_loc (ha n (by simp [fpX])), hb, h1, Option.map_some, if_pos hc]
        · exact at_set_congr n _ hl2 (ha k (by simp [fpX] at hk ⊢; exact hk))
      · cases h
    · cases h
  | new ty cs sl =>
    simp only [apply] at h
    split at h
    · rename_i hc
      simp only [Option.some.injEq, Prod.mk.injEq] at h
      obtain ⟨rfl, rfl, rfl⟩ := h
      refine ⟨by simp, fun k hk => Mem.at_set_other (fun e => hk (by simp [fpX, e])) _, fun m2 hl2 ha => ⟨m2.set nm (some (mkB true, .cells ty cs)), ?_, by simp, fun k hk => ?_, fun k hk => Mem.at_set_other (fun e => hk (by simp [fpX, e])) _⟩⟩
      · have hn := ha nm (by simp [fpX])
        simp only [apply, hn, hl2, if_pos hc]
      · exact at_set_congr nm _ hl2 (ha k (by simp [fpX] at hk ⊢; exact hk))
    · cases h
  | call f args => simp [apply] at h

theorem segAt_loc {n : Nat} (h : m2.at n = m.at n) : segAt m2 n = segAt m n := by simp only [segAt, h]
theorem segLd_loc {n off str sz : Nat} {e : E} {ag : Bool} {g : E} {v : SV} (h : segLd m n off str e sz ag = some (g, v, m')) : m' = m ∧ ∀ m2 : Mem, m2.at n = m.at n → segLd m2 n off str e sz ag = some (g, v, m2) := by
  unfold segLd at h
  split at h
  · rename_i g' ty cs ks c hs
    split at h
    · rename_i hc
      obtain ⟨u, h1, h2⟩ := Option.map_eq_some_iff.1 h
      simp only [Prod.mk.injEq] at h2
      obtain ⟨rfl, rfl, rfl⟩ := h2
      refine ⟨rfl, fun m2 ha => ?_⟩
      unfold segLd
      rw [segAt_loc ha, hs]
      simp only [if_pos hc, h1, Option.map_some]
    · cases h
  · cases h
theorem segSt_loc {n off str : Nat} {e : E} {vs : List SV} {g : E} {v : SV} (h : segSt m n off str e vs = some (g, v, m')) : ∃ z, m' = m.set n (some z) ∧ ∀ m2 : Mem, m2.at n = m.at n → segSt m2 n off str e vs = some (g, v, m2.set n (some z)) := by
  unfold segSt at h
  split at h
  · rename_i g' ty cs ks c hs
    split at h
    · rename_i es he
      split at h
      · rename_i hc
        simp only [Option.some.injEq, Prod.mk.injEq] at h
        obtain ⟨rfl, rfl, rfl⟩ := h
        refine ⟨_, rfl, fun m2 ha => ?_⟩
        unfold segSt
        rw [segAt_loc ha, hs]
        simp only [he, if_pos hc]
      · cases h
    · cases h
  · cases h
theorem Loc.turn {f : Mem → Option (E × SV × Mem)} {n : Nat} {g : E} {v : SV} {z : E × Blk} (h : ∀ m2 : Mem, m2.at n = m.at n → f m2 = some (g, v, m2.set n (some z))) : Loc f m ([n], [n]) g v (m.set n (some z)) :=
  ⟨by simp, fun k hk => Mem.at_set_other (fun e => hk (by simp [e])) _, fun m2 hl2 ha => ⟨m2.set n (some z), h m2 (ha n (by simp)), by simp, fun k hk => at_set_congr n _ hl2 (ha k (by simp at hk ⊢; exact hk)), fun k hk => Mem.at_set_other (fun e => hk (by simp [e])) _⟩⟩

theorem applyG_loc {d : D} {nm : Nat} {g : E} {v : SV} (h : applyG m d = some (g, v, m')) : Loc (fun m => applyG m d) m (fpX nm (.old d)) g v m' := by
  cases d with
  | ld n off sz ag =>
    simp only [applyG] at h
    split at h
    · rename_i g' ty cs ks c hs
      split at h
      · rename_i hc
        obtain ⟨u, h1, h2⟩ := Option.map_eq_some_iff.1 h
        simp only [Prod.mk.injEq] at h2
        obtain ⟨rfl, rfl, rfl⟩ := h2
        exact Loc.read fun m2 _ ha => by simp only [applyG, segAt_loc (ha n (by simp)), hs, if_pos hc, h1, Option.map_some]
      · rename_i hc
        obtain ⟨rfl, h2⟩ := segLd_loc h
        exact Loc.read fun m2 _ ha => by simp only [applyG, segAt_loc (ha n (by simp)), hs, if_neg hc]; exact h2 m2 (ha n (by simp))
    · cases h
  | ldi n off str cnt e sz ag =>
    obtain ⟨rfl, h2⟩ := segLd_loc h
    exact Loc.read fun m2 _ ha => h2 m2 (ha n (by simp))
  | st n off vs =>
    simp only [applyG] at h
    split at h
    · rename_i g' ty cs ks c hs
      split at h
      · rename_i hc
        obtain ⟨u, h1, h2⟩ := Option.map_eq_some_iff.1 h
        simp only [Prod.mk.injEq] at h2
        obtain ⟨rfl, rfl, rfl⟩ := h2
        exact Loc.turn fun m2 ha => by simp only [applyG, segAt_loc ha, hs, if_pos hc, h1, Option.map_some]
      · rename_i hc
        obtain ⟨z, rfl, h2⟩ := segSt_loc h
        exact Loc.turn fun m2 ha => by simp only [applyG, segAt_loc ha, hs, if_neg hc]; exact h2 m2 ha
    · cases h
  | sti n off str cnt e vs =>
    obtain ⟨z, rfl, h2⟩ := segSt_loc h
    exact Loc.turn fun m2 ha => h2 m2 ha
  | _ => simp [applyG] at h

/-- Whether the elder operations tell of it is told alike. -/
theorem apply_none {d : D} {nm : Nat} (h : apply G m nm d = none) (hg : (applyG m d).isSome = true) {m2 : Mem} (hl : m2.length = m.length) (ha : Agree ((fpX nm (.old d)).1 ++ (fpX nm (.old d)).2) m m2) : apply G m2 nm d = none := by
  cases d with
  | ld n off sz ag => simp only [apply, blkC_loc (ha n (by simp [fpX]))] at h ⊢; split at h <;> simp_all
  | ldi n off str cnt e sz ag => simp only [apply, blkC_loc (ha n (by simp [fpX]))] at h ⊢; split at h <;> simp_all
  | st n off vs =>
    simp only [apply, blkC_loc (ha n (by simp [fpX]))] at h ⊢
    split at h
    · rename_i g ty cs hb
      have : wrC cs off vs = none := by simpa using h
      simp [this]
    · rfl
  | sti n off str cnt e vs =>
    simp only [apply, blkC_loc (ha n (by simp [fpX]))] at h ⊢
    split at h
    · rename_i g ty cs hb
      split at h
      · rename_i hc
        have : wrsC e off str vs cnt 0 cs = none := by simpa using h
        simp [this]
      · rename_i hc
        simp [hc]
    · rfl
  | _ => simp [applyG] at hg

theorem mapAt_loc {t n : Nat} {key : SV} (h : m2.at n = m.at n) : mapAt P m2 t n key = mapAt P m t n key := by simp only [mapAt, h]
theorem applyN_loc {x : X} {nm : Nat} {g : E} {v : SV} (h : applyN P m nm x = some (g, v, m')) : Loc (fun m => applyN P m nm x) m (fpX nm x) g v m' := by
  cases x with
  | mnew t =>
    simp only [applyN] at h
    split at h
    · rename_i k vs ag hm
      split at h
      · rename_i hc
        simp only [Option.some.injEq, Prod.mk.injEq] at h
        obtain ⟨rfl, rfl, rfl⟩ := h
        refine ⟨by simp, fun k hk => Mem.at_set_other (fun e => hk (by simp [fpX, e])) _, fun m2 hl2 ha => ⟨m2.set nm (some (mkB true, .mp [.i k] vs false ag NILL)), ?_, by simp, fun k hk => at_set_congr (m2 := m2) nm _ hl2 (ha k (by simp [fpX] at hk ⊢; exact hk)), fun k hk => Mem.at_set_other (fun e => hk (by simp [fpX, e])) _⟩⟩
        simp only [applyN, hm]
        rw [if_pos ⟨by rw [hl2]; exact hc.1, by rw [ha nm (by simp [fpX])]; exact hc.2⟩]
      · cases h
    · cases h
  | mlk t n key ok =>
    simp only [applyN] at h
    split at h
    · rename_i g' k vs ag c e hm
      simp only [Option.some.injEq, Prod.mk.injEq] at h
      obtain ⟨rfl, rfl, rfl⟩ := h
      exact Loc.read fun m2 _ ha => by simp only [applyN, mapAt_loc (ha n (by simp)), hm]
    · cases h
  | mup t n key val =>
    simp only [applyN] at h
    split at h
    · rename_i g' k vs ag c e hm
      split at h
      · rename_i es hs
        split at h
        · rename_i hc
          simp only [Option.some.injEq, Prod.mk.injEq] at h
          obtain ⟨rfl, rfl, rfl⟩ := h
          exact Loc.turn fun m2 ha => by simp only [applyN, mapAt_loc ha, hm, hs, if_pos hc]
        · cases h
      · cases h
    · cases h
  | mdl t kt ty n key =>
    simp only [applyN] at h
    split at h
    · rename_i g' k vs ag c e hm
      simp only [Option.some.injEq, Prod.mk.injEq] at h
      obtain ⟨rfl, rfl, rfl⟩ := h
      exact Loc.turn fun m2 ha => by simp only [applyN, mapAt_loc ha, hm]
    · cases h
  | mln t ty n =>
    simp only [applyN] at h
    split at h
    · rename_i g' ks vs kag vag c hn
      split at h
      · rename_i hc
        simp only [Option.some.injEq, Prod.mk.injEq] at h
        obtain ⟨rfl, rfl, rfl⟩ := h
        exact Loc.read fun m2 _ ha => by simp only [applyN, ha n (by simp), hn, if_pos hc]
      · cases h
    · cases h
  | vix t n str l0 lo hi i =>
    simp only [applyN] at h
    split at h
    · rename_i g' ty row own le c hn
      split at h
      · rename_i V hV
        split at h
        · rename_i hc
          simp only [Option.some.injEq, Prod.mk.injEq] at h
          obtain ⟨rfl, rfl, rfl⟩ := h
          exact Loc.read fun m2 _ ha => by
            have hv := (viewL_loc (m2 := m2) hV fun k hk => ha k (by simp [namesV] at hk; simp [hk])).1
            simp only [applyN, ha n (by simp), hn, hv, if_pos hc]
        · cases h
      · cases h
    · cases h
  | clr t ty e n le =>
    simp only [applyN] at h
    split at h
    · rename_i g' e' row le' c hn
      split at h
      · rename_i ks hr
        split at h
        · rename_i hc
          simp only [Option.some.injEq, Prod.mk.injEq] at h
          obtain ⟨rfl, rfl, rfl⟩ := h
          exact Loc.turn fun m2 ha => by simp only [applyN, ha, hn, hr, if_pos hc]
        · cases h
      · cases h
    · cases h
  | lds n off str e sz ag =>
    obtain ⟨rfl, h2⟩ := segLd_loc h
    exact Loc.read fun m2 _ ha => h2 m2 (ha n (by simp))
  | sts n off str e vs =>
    obtain ⟨z, rfl, h2⟩ := segSt_loc h
    exact Loc.turn fun m2 ha => h2 m2 ha
  | _ => simp [applyN] at h

theorem subV_loc {t e : Nat} {x : SV} {lo hi : Option E} {g : E} {v : SV} (h : subV P m t e x lo hi = some (g, v, m')) : m' = m ∧ ∀ m2 : Mem, Agree (namesV x) m m2 → subV P m2 t e x lo hi = some (g, v, m2) := by
  unfold subV at h
  split at h
  · rename_i n le
    split at h
    · rename_i g' ty row le' c hn
      simp only at h
      split at h
      · rename_i hc
        simp only [Option.some.injEq, Prod.mk.injEq] at h
        obtain ⟨rfl, rfl, rfl⟩ := h
        exact ⟨rfl, fun m2 ha => by simp only [subV, ha n (by simp [namesV]), hn, if_pos hc]⟩
      · cases h
    · cases h
  · cases h
theorem subV_none {t e : Nat} {x : SV} {lo hi : Option E} (h : subV P m t e x lo hi = none) {m2 : Mem} (ha : Agree (namesV x) m m2) : subV P m2 t e x lo hi = none := by
  cases x with
  | ls n le => unfold subV at h ⊢; simp only [ha n (by simp [namesV])] at h ⊢; split at h <;> simp_all
  | _ => rfl

theorem applyX_loc {x : X} {nm : Nat} {g : E} {v : SV} (h : applyX P G m nm x = some (g, v, m')) : Loc (fun m => applyX P G m nm x) m (fpX nm x) g v m' := by
  cases x with
  | old d =>
    simp only [applyX] at h
    cases ha : apply G m nm d with
    | some r =>
      rw [ha] at h
      simp only [Option.some.injEq] at h; subst h
      have hL := apply_loc ha
      refine ⟨hL.len, hL.frame, fun m2 hl hag => ?_⟩
      obtain ⟨m2', a1, a2⟩ := hL.loc m2 hl hag
      exact ⟨m2', by simp only [applyX]; rw [a1], a2⟩
    | none =>
      rw [ha] at h
      simp only at h
      have hL := applyG_loc (nm := nm) h
      refine ⟨hL.len, hL.frame, fun m2 hl hag => ?_⟩
      obtain ⟨m2', a1, a2⟩ := hL.loc m2 hl hag
      exact ⟨m2', by simp only [applyX]; rw [apply_none ha (by rw [h]; rfl) hl hag]; exact a1, a2⟩
  | len x =>
    have key : ∀ {ty row}, (viewL m ty row x).map (fun V => (V.g, SV.sc V.le, m)) = some (g, v, m') → m' = m ∧ ∀ m2, Agree (namesV x) m m2 → (viewL m2 ty row x).map (fun V => (V.g, SV.sc V.le, m2)) = some (g, v, m2) := fun {ty row} h => by
      obtain ⟨V, hV, he⟩ := Option.map_eq_some_iff.1 h
      simp only [Prod.mk.injEq] at he
      obtain ⟨rfl, rfl, rfl⟩ := he
      exact ⟨rfl, fun m2 ha => by rw [(viewL_loc hV ha).1]; rfl⟩
    simp only [applyX] at h
    split at h
    · rename_i ty row ht
      obtain ⟨rfl, k⟩ := key h
      exact Loc.read fun m2 _ ha => by simp only [applyX, tyL_loc ha, ht]; exact k m2 ha
    · rename_i ht
      obtain ⟨rfl, k⟩ := key h
      exact Loc.read fun m2 _ ha => by simp only [applyX, tyL_loc ha, ht]; exact k m2 ha
  | lde n str i o sz ag =>
    simp only [applyX] at h
    have hm : m' = m := by
      split at h
      · split at h
        · split at h
          · obtain ⟨u, _, h2⟩ := Option.map_eq_some_iff.1 h; simp only [Prod.mk.injEq] at h2; exact h2.2.2.symm
          · cases h
        · cases h
      · cases h
    subst hm
    refine Loc.read fun m2 _ ha => ?_
    split at h
    · rename_i g' ty row own le c hn
      split at h
      · rename_i ks hr
        split at h
        · rename_i hc
          obtain ⟨u, h1, h2⟩ := Option.map_eq_some_iff.1 h
          simp only [Prod.mk.injEq] at h2
          obtain ⟨rfl, rfl, _⟩ := h2
          simp only [applyX, ha n (by simp), hn, hr]
          rw [if_pos hc]
          simp [h1]
        · cases h
      · cases h
    · cases h
  | ste n str i o cs =>
    simp only [applyX] at h
    split at h
    · rename_i g' ty row le c hn
      split at h
      · rename_i ks hr
        split at h
        · rename_i es he
          split at h
          · rename_i hc
            simp only [Option.some.injEq, Prod.mk.injEq] at h
            obtain ⟨rfl, rfl, rfl⟩ := h
            refine ⟨by simp, fun k hk => Mem.at_set_other (fun e => hk (by simp [fpX, e])) _, fun m2 hl2 ha => ⟨m2.set n (some (g', .lst ty row true le (.app .x 0 6 (c :: i :: .lit .x o :: es)))), ?_, by simp, fun k hk => ?_, fun k hk => Mem.at_set_other (fun e => hk (by simp [fpX, e])) _⟩⟩
            · simp only [applyX, ha n (by simp [fpX]), hn, hr, he, if_pos hc]
            · exact at_set_congr n _ hl2 (ha k (by simp [fpX] at hk ⊢; exact hk))
          · cases h
        · cases h
      · cases h
    · cases h
  | app t e rt x y =>
    simp only [applyX] at h
    split at h
    · rename_i ks hks
      split at h
      · rename_i V size bytes hV hi
        split at h
        · rename_i hc
          have hc' := hc
          obtain ⟨rfl, ho, ht, hn1, hn2⟩ := hc
          have put : ∀ (z : E × Blk) (m2 : Mem), m2.length = m.length → Agree (namesV x ++ namesV y ++ (namesV x ++ [nm])) m m2 → ((killL m2 V.ns).set nm (some z)).length = m2.length ∧ (∀ n ∈ namesV x ++ [nm], Mem.at ((killL m2 V.ns).set nm (some z)) n = Mem.at ((killL m V.ns).set nm (some z)) n) := fun z m2 hl ha => by
            refine ⟨by simp [killL_len], fun n hn => ?_⟩
            have hVn := (viewL_loc (m2 := m) hV fun _ _ => rfl).2
            exact at_set_congr nm _ (by rw [killL_len, killL_len]; exact hl) (killL_congr V.ns hl (fun k hk => ha k (by simp [hVn k hk])) n (ha n (by simp only [List.mem_append] at hn ⊢; exact Or.inr hn)))
          have frm : ∀ (z : E × Blk) (m2 : Mem) n, n ∉ namesV x ++ [nm] → Mem.at ((killL m2 V.ns).set nm (some z)) n = m2.at n := fun z m2 n hn => by
            simp only [List.mem_append, List.mem_singleton, not_or] at hn
            have hVn := (viewL_loc (m2 := m) hV fun _ _ => rfl).2
            rw [Mem.at_set_other (fun e => hn.2 e.symm), killL_other V.ns fun hk => hn.1 (hVn n hk)]
          have pre : ∀ m2 : Mem, m2.length = m.length → Agree (namesV x ++ namesV y ++ (namesV x ++ [nm])) m m2 → tyL m2 x = tyL m x ∧ viewL m2 e (Row.ofKs ks) x = some V ∧ m2.at nm = m.at nm := fun m2 hl ha =>
            ⟨tyL_loc fun n hn => ha n (by simp [hn]), (viewL_loc hV fun n hn => ha n (by simp [hn])).1, ha nm (by simp)⟩
          split at h
          · rename_i n2 len cp
            split at h
            · rename_i g2 ty2 cs hb
              split at h
              · rename_i hl
                obtain ⟨c', hs, he⟩ := Option.map_eq_some_iff.1 h
                simp only [Prod.mk.injEq] at he
                obtain ⟨rfl, rfl, rfl⟩ := he
                refine ⟨by simp [killL_len], fun n hn => frm _ m n hn, fun m2 hl2 ha => ?_⟩
                obtain ⟨p1, p2, p3⟩ := pre m2 hl2 ha
                obtain ⟨q1, q2⟩ := put (mkB true, .lst e (Row.ofKs ks) true (LEN c') c') m2 hl2 ha
                refine ⟨_, ?_, q1, q2, fun n hn => frm _ m2 n hn⟩
                simp only [applyX, p1]
                simp only [hks, p2, hi]
                rw [if_pos ⟨trivial, ho, ht, by omega, by rw [p3]; exact hn2⟩]
                simp only [blkC_loc (ha n2 (by simp [fpX, namesV])), hb, if_pos hl, hs, Option.map_some]
              · cases h
            · cases h
          · rename_i hy
            split at h
            · rename_i V2 hV2
              simp only [Option.some.injEq, Prod.mk.injEq] at h
              obtain ⟨rfl, rfl, rfl⟩ := h
              refine ⟨by simp [killL_len], fun n hn => frm _ m n hn, fun m2 hl2 ha => ?_⟩
              obtain ⟨p1, p2, p3⟩ := pre m2 hl2 ha
              obtain ⟨q1, q2⟩ := put (mkB true, .lst e (Row.ofKs ks) true (LEN (.app .x 0 4 [V.c, V2.c])) (.app .x 0 4 [V.c, V2.c])) m2 hl2 ha
              refine ⟨_, ?_, q1, q2, fun n hn => frm _ m2 n hn⟩
              have hv2 := (viewL_loc (m2 := m2) hV2 fun n hn => ha n (by simp [fpX, hn])).1
              simp only [applyX, p1]
              simp only [hks, p2, hi]
              rw [if_pos ⟨trivial, ho, ht, by omega, by rw [p3]; exact hn2⟩]
              cases y with
              | sl n2 off len cp => simp [viewL] at hV2
              | _ => simp only [hv2]
            · cases h
        · cases h
      · cases h
    · cases h
  | sub t e x lo hi =>
    simp only [applyX] at h
    cases hsv : subV P m t e x lo hi with
    | some r =>
      rw [hsv] at h
      simp only [Option.some.injEq] at h; subst h
      obtain ⟨rfl, h2⟩ := subV_loc hsv
      refine ⟨rfl, fun _ _ => rfl, fun m2 hl ha => ⟨m2, by simp only [applyX]; rw [h2 m2 fun n hn => ha n (by simp [fpX, hn])], rfl, fun n hn => ha n (by simp only [List.mem_append]; exact Or.inr hn), fun _ _ => rfl⟩⟩
    | none =>
    rw [hsv] at h
    simp only at h
    split at h
    · rename_i ty row hrow
      split at h
      · rename_i V0 hV0
        split at h
        · rename_i V hV
          split at h
          · rename_i hc
            simp only [Option.some.injEq, Prod.mk.injEq] at h
            obtain ⟨rfl, rfl, rfl⟩ := h
            have hV0n := (viewL_loc (m2 := m) hV0 fun _ _ => rfl).2
            refine ⟨by simp [shareL_len], fun n hn => ?_, fun m2 hl2 ha => ?_⟩
            · simp only [fpX, List.mem_append, List.mem_singleton, not_or] at hn
              rw [Mem.at_set_other (fun e => hn.2 e.symm), shareL_other V0.ns fun hk => hn.1 (hV0n n hk)]
            · have hAg : ∀ n, n ∈ namesV x ++ [nm] → (shareL m2 V0.ns).at n = (shareL m V0.ns).at n := fun n hn => shareL_congr V0.ns hl2 (fun k hk => ha k (by simp [fpX, hV0n k hk])) n (ha n (by simp only [fpX, List.mem_append] at hn ⊢; exact Or.inr hn))
              refine ⟨(shareL m2 V0.ns).set nm (some (mkB true, .lst e row false (LEN (.app .x 0 5 [V.c, lo.getD (.lit (.i .i64) 0), hi.getD V.le])) (.app .x 0 5 [V.c, lo.getD (.lit (.i .i64) 0), hi.getD V.le]))), ?_, by simp [shareL_len], fun n hn => ?_, fun n hn => ?_⟩
              · have v0 := (viewL_loc (m2 := m2) hV0 fun n hn => ha n (by simp [fpX, hn])).1
                have v1 := (viewL_loc (m2 := shareL m2 V0.ns) hV fun n hn => hAg n (by simp [hn])).1
                simp only [applyX, subV_none hsv (m2 := m2) fun n hn => ha n (by simp [fpX, hn]), tyL_loc (v := x) (m := m) (m2 := m2) fun n hn => ha n (by simp [fpX, hn]), hrow, v0, v1]
                rw [if_pos ⟨hc.1, hc.2.1, hc.2.2.1, by rw [hl2]; exact hc.2.2.2.1, by rw [hAg nm (by simp)]; exact hc.2.2.2.2.1, hc.2.2.2.2.2⟩]
              · exact at_set_congr nm _ (by rw [shareL_len, shareL_len]; exact hl2) (hAg n hn)
              · simp only [fpX, List.mem_append, List.mem_singleton, not_or] at hn
                rw [Mem.at_set_other (fun e => hn.2 e.symm), shareL_other V0.ns fun hk => hn.1 (hV0n n hk)]
          · cases h
        · cases h
      · cases h
    · cases h
  | mk t e n c =>
    simp only [applyX] at h
    split at h
    · rename_i ks size bytes hks hi
      split at h
      · rename_i hc
        simp only [Option.some.injEq, Prod.mk.injEq] at h
        obtain ⟨rfl, rfl, rfl⟩ := h
        refine ⟨by simp, fun k hk => Mem.at_set_other (fun e => hk (by simp [fpX, e])) _, fun m2 hl2 ha => ⟨m2.set nm (some (mkB true, .lst e (Row.ofKs ks) true (LEN (.app .x 0 7 (n :: ks.map fun k => .lit k 0))) (.app .x 0 7 (n :: ks.map fun k => .lit k 0)))), ?_, ?_, fun k hk => at_set_congr (m2 := m2) nm _ hl2 (ha k (by simp [fpX] at hk ⊢; exact hk)), fun k hk => Mem.at_set_other (fun e => hk (by simp [fpX, e])) _⟩⟩
        · simp only [applyX, hks, hi]
          rw [if_pos ⟨hc.1, hc.2.1, hc.2.2.1, hc.2.2.2.1, hc.2.2.2.2.1, by rw [hl2]; exact hc.2.2.2.2.2.1, by rw [ha nm (by simp [fpX])]; exact hc.2.2.2.2.2.2⟩]
        · simp
      · cases h
    · cases h
  | bl e ks cs len =>
    simp only [applyX] at h
    split at h
    · rename_i c' size bytes hks hi
      split at h
      · rename_i hc
        simp only [Option.some.injEq, Prod.mk.injEq] at h
        obtain ⟨rfl, rfl, rfl⟩ := h
        refine ⟨by simp, fun k hk => Mem.at_set_other (fun e => hk (by simp [fpX, e])) _, fun m2 hl2 ha => ⟨m2.set nm (some (mkB true, .lst e (Row.ofKs ks) true (.lit (.i .i64) len) c')), ?_, ?_, fun k hk => at_set_congr (m2 := m2) nm _ hl2 (ha k (by simp [fpX] at hk ⊢; exact hk)), fun k hk => Mem.at_set_other (fun e => hk (by simp [fpX, e])) _⟩⟩
        · simp only [applyX, hks, hi]
          rw [if_pos ⟨hc.1, hc.2.1, by rw [hl2]; exact hc.2.2.1, by rw [ha nm (by simp [fpX])]; exact hc.2.2.2⟩]
        · simp
      · cases h
    · cases h
  | mnew t => exact applyN_loc (P := P) (nm := nm) (x := .mnew t) h
  | mlk t n k ok => exact applyN_loc (P := P) (nm := nm) (x := .mlk t n k ok) h
  | mup t n k w1 => exact applyN_loc (P := P) (nm := nm) (x := .mup t n k w1) h
  | mdl t kt ty n k => exact applyN_loc (P := P) (nm := nm) (x := .mdl t kt ty n k) h
  | mln t ty n => exact applyN_loc (P := P) (nm := nm) (x := .mln t ty n) h
  | vix t n str l0 lo hi i => exact applyN_loc (P := P) (nm := nm) (x := .vix t n str l0 lo hi i) h
  | clr t ty e n le => exact applyN_loc (P := P) (nm := nm) (x := .clr t ty e n le) h
  | lds n off str e sz ag => exact applyN_loc (P := P) (nm := nm) (x := .lds n off str e sz ag) h
  | sts n off str e cs => exact applyN_loc (P := P) (nm := nm) (x := .sts n off str e cs) h
end
end Go.Proofs.Ytmolkkphnehgcaa.Ew

/- One operation of a region: its plan, what it does, what it touches; that it tells what the operation does. -/
import Derived.Test.YtmolkkphnehgcaaWY
set_option linter.unusedVariables false
set_option linter.unusedSimpArgs false
namespace Go.Proofs.Ytmolkkphnehgcaa.Ew
open Go Go.RowKit

abbrev FP := List Nat × List Nat
abbrev Tab := Nat → List Ent
def SumOK (P : Program) (G : Glob) (l : Tabs) (T : Tab) : Prop := ∀ f e, e ∈ T f → e.f = f ∧ l.get e.key = some e ∧ EntryOK P G e

section
variable {m m2 m' : Mem}
theorem viewL_ns {ty : Nat} {row : Row} : ∀ {v : SV} {V : LV}, viewL m ty row v = some V → V.ns = namesV v
  | .ls n le, V, h => by
    simp only [viewL] at h
    split at h
    · split at h
      · simp only [Option.some.injEq] at h; subst h; rfl
      · cases h
    · cases h
  | .sv n str l0 lo hi, V, h => by
    simp only [viewL] at h
    split at h
    · split at h
      · simp only [Option.some.injEq] at h; subst h; rfl
      · cases h
    · cases h
  | .nilp c, V, h => by
    cases c <;> simp only [viewL, Option.some.injEq, reduceCtorEq] at h
    subst h; rfl
  | .ite p a b, V, h => by
    simp only [viewL] at h
    split at h
    · rename_i x y hx hy
      split at h
      · simp only [Option.some.injEq] at h; subst h
        simp only [namesV, viewL_ns hx, viewL_ns hy]
      · cases h
    · cases h
  | .sc _, V, h | .ptr .., V, h | .pi .., V, h | .sl .., V, h | .pe .., V, h | .mp .., V, h | .oq .., V, h | .fn .., V, h | .agg .., V, h | .tup .., V, h | .gd .., V, h | .und, V, h | .gl .., V, h => by simp [viewL] at h

mutual
theorem get_loc : ∀ (s : Sh) (acc : List Src) (v : SV) (r : List E × List Src × E), s.get m acc v = some r → Agree (r.2.1.flatMap Src.ns) m m2 → s.get m2 acc v = some r
  | .sc k, acc, v, r, h, ha => by cases v <;> simp only [Sh.get, reduceCtorEq] at h ⊢; exact h
  | .lt k n, acc, v, r, h, ha => by
    cases v with
    | sc e => cases e <;> simp only [Sh.get, reduceCtorEq] at h ⊢; exact h
    | _ => simp [Sh.get] at h
  | .agg l, acc, v, r, h, ha => by cases v <;> simp only [Sh.get, reduceCtorEq] at h ⊢; exact getL_loc l acc _ r h ha
  | .lst ty row own, acc, v, r, h, ha => by
    have h' : getLst m ty row own v = some r := by cases v <;> simpa only [Sh.get] using h
    have : getLst m2 ty row own v = some r := by
      unfold getLst at h' ⊢
      split at h'
      · rename_i V hV
        split at h'
        · rename_i ho
          simp only [Option.some.injEq] at h'; subst h'
          have := (viewL_loc (m2 := m2) hV (by rw [← viewL_ns hV]; exact fun n hn => ha n (by simp only [List.flatMap_cons, List.flatMap_nil, List.append_nil, Src.ns]; exact mem_dd.2 hn))).1
          simp only [this, if_pos ho]
        · cases h'
      · cases h'
    cases v <;> simpa only [Sh.get] using this
  | .obj ty cs, acc, v, r, h, ha => by
    cases v with
    | ptr n o =>
      cases o with
      | zero =>
        simp only [Sh.get] at h ⊢
        split at h
        · rename_i g ty' vs hb
          split at h
          · rename_i hty
            obtain ⟨q, hq, rfl⟩ := Option.map_eq_some_iff.1 h
            have hn := ha n (by simp [Src.ns])
            have := getL_loc cs _ vs q hq fun k hk => ha k (by simp only [List.flatMap_cons]; exact List.mem_append_right _ hk)
            simp only [blkC_loc hn, hb, if_pos hty, this, Option.map_some]
          · cases h
        · cases h
      | succ o => simp [Sh.get] at h
    | _ => simp [Sh.get] at h
  | .ref j, acc, v, r, h, ha => by
    cases v with
    | ptr n o =>
      cases o with
      | zero => simp only [Sh.get] at h ⊢; exact h
      | succ o => simp [Sh.get] at h
    | _ => simp [Sh.get] at h
  | .fnc f l, acc, v, r, h, ha => by
    cases v <;> simp only [Sh.get, reduceCtorEq] at h ⊢
    split at h
    · rename_i hf; rw [if_pos hf]; exact getL_loc l acc _ r h ha
    · cases h
  | .nul c, acc, v, r, h, ha => by cases v <;> simp only [Sh.get, reduceCtorEq] at h ⊢; exact h
  | .tup l, acc, v, r, h, ha => by cases v <;> simp only [Sh.get, reduceCtorEq] at h ⊢; exact getL_loc l acc _ r h ha
  | .opt s, acc, v, r, h, ha => by
    have h' : getOpt (mkB true :: s.ks.map fun k => E.lit k 0, List.replicate s.nn Src.dm, mkB true) v (fun u => s.get m acc u) = some r := by cases v <;> simpa only [Sh.get] using h
    have : getOpt (mkB true :: s.ks.map fun k => E.lit k 0, List.replicate s.nn Src.dm, mkB true) v (fun u => s.get m2 acc u) = some r := by
      unfold getOpt at h' ⊢
      split at h'
      · exact h'
      · split at h'
        · rename_i hc
          obtain ⟨q, hq, rfl⟩ := Option.map_eq_some_iff.1 h'
          have hx := get_loc s acc _ q hq ha
          simp only [if_pos hc, hx, Option.map_some]
        · cases h'
      · cases h'
    cases v <;> simpa only [Sh.get] using this
  | .und, acc, v, r, h, ha => by cases v <;> simp only [Sh.get, reduceCtorEq] at h ⊢; exact h
  | .mp ks vs kag vag, acc, v, r, h, ha => by
    cases v <;> simp only [Sh.get, reduceCtorEq] at h ⊢
    case mp k =>
      obtain ⟨g, c, h1, rfl, h3, h4⟩ := getMp_spec h
      have hn := ha _ (by simp only [List.flatMap_cons, Src.ns]; exact List.mem_append_left _ (List.mem_singleton.2 rfl))
      unfold getMp at h ⊢
      rw [hn]; exact h
    case ite p a b =>
      obtain ⟨q, h1, rfl⟩ := Option.map_eq_some_iff.1 h
      have := getMpV_loc h1 fun n hn => ha n (by simp only [List.flatMap_cons, Src.ns]; exact List.mem_append_left _ (mem_dd.2 hn))
      unfold getMpI
      rw [this]; rfl
  | .seg ty ks cs, acc, v, r, h, ha => by
    cases v with
    | ptr n o =>
      cases o with
      | zero =>
        simp only [Sh.get] at h ⊢
        split at h
        · rename_i g ty' vs ks' c hb
          split at h
          · rename_i hty
            obtain ⟨q, hq, rfl⟩ := Option.map_eq_some_iff.1 h
            have hn := ha n (by simp [Src.ns])
            have := getL_loc cs _ vs q hq fun k hk => ha k (by simp only [List.flatMap_cons]; exact List.mem_append_right _ hk)
            have hbb : blkS m2 n = some (g, ty', vs, ks', c) := by unfold blkS at hb ⊢; rw [hn]; exact hb
            simp only [hbb, if_pos hty, this, Option.map_some]
          · cases h
        · cases h
      | succ o => simp [Sh.get] at h
    | _ => simp [Sh.get] at h
theorem getL_loc : ∀ (l : List Sh) (acc : List Src) (vs : List SV) (r : List E × List Src × E), Sh.getL m l acc vs = some r → Agree (r.2.1.flatMap Src.ns) m m2 → Sh.getL m2 l acc vs = some r
  | [], acc, [], r, h, ha => by simp only [Sh.getL] at h ⊢; exact h
  | [], acc, _ :: _, r, h, ha => by simp [Sh.getL] at h
  | _ :: _, acc, [], r, h, ha => by simp [Sh.getL] at h
  | s :: l, acc, v :: vs, r, h, ha => by
    simp only [Sh.getL] at h ⊢
    split at h
    · rename_i es ns g hs
      obtain ⟨q, hq, rfl⟩ := Option.map_eq_some_iff.1 h
      simp only [List.flatMap_append] at ha
      have h1 := get_loc s acc v _ hs ha.left
      have h2 := getL_loc l _ vs q hq ha.right
      simp only [h1, h2, Option.map_some]
    · cases h
end

theorem objSet_loc {srcs : List Src} : ∀ {os : List Ob} {vs : List SV} {l : List (Nat × E × Blk)}, objSet srcs m os vs = some l → Agree (srcs.flatMap Src.ns) m m2 → objSet srcs m2 os vs = some l
  | [], vs, l, h, ha => h
  | o :: r, vs, l, h, ha => by
    simp only [objSet] at h ⊢
    split at h
    · rename_i n hn
      have hx := ha n (List.mem_flatMap.2 ⟨_, List.mem_of_getElem? hn, by simp [Src.ns]⟩)
      split at h
      · rename_i g b0 hm
        split at h
        · rename_i hty
          obtain ⟨l', hl, rfl⟩ := Option.map_eq_some_iff.1 h
          simp only [hn, hx, hm, if_pos hty, objSet_loc hl ha, Option.map_some]
        · cases h
      · cases h
    · cases h

theorem srcOf_sub {srcs : List Src} {j n : Nat} (h : n ∈ srcOf srcs j) : n ∈ srcs.flatMap Src.ns := by
  unfold srcOf at h
  split at h
  · rename_i s hs
    exact List.mem_flatMap.2 ⟨s, List.mem_of_getElem? hs, h⟩
  · cases h

theorem callE_loc {e : Ent} {nm : Nat} {args : List SV} {g : E} {v : SV} (h : callE e m nm args = some (g, v, m')) :
    Loc (fun m => callE e m nm args) m (fpC e m nm args) g v m' ∧ ∀ m2, Agree ((fpC e m nm args).1 ++ (fpC e m nm args).2) m m2 → fpC e m2 nm args = fpC e m nm args := by
  have h0 := h
  unfold callE at h
  split at h
  · rename_i es srcs g0 hget
    simp only at h
    split at h
    · rename_i sets hsets
      split at h
      · rename_i hc
        simp only [Option.some.injEq, Prod.mk.injEq] at h
        obtain ⟨rfl, rfl, rfl⟩ := h
        have hfp : fpC e m nm args = (srcs.flatMap Src.ns, ((mutJ e.pgen.2).filter fun j => !e.kp.contains j).flatMap (srcOf srcs) ++ (List.range (Sh.nnL e.outL)).map fun i => nm + i) := by simp only [fpC, hget]
        have hfp2 : ∀ m2, Agree ((fpC e m nm args).1 ++ (fpC e m nm args).2) m m2 → fpC e m2 nm args = fpC e m nm args := fun m2 ha => by
          rw [hfp] at ha ⊢
          simp only [fpC, getL_loc e.ps [] args _ hget ha.left]
        refine ⟨?_, hfp2⟩
        rw [hfp]
        have hdeadW : ∀ n ∈ ((mutJ e.pgen.2).filter fun j => !e.kp.contains j && !(e.os.any fun o => o.j == j)).flatMap (srcOf srcs), n ∈ ((mutJ e.pgen.2).filter fun j => !e.kp.contains j).flatMap (srcOf srcs) := fun n hn => by
          obtain ⟨j, hj, hjn⟩ := List.mem_flatMap.1 hn
          have hj1 := List.mem_filter.1 hj
          have hj2 := hj1.2
          simp only [Bool.and_eq_true] at hj2
          exact List.mem_flatMap.2 ⟨j, List.mem_filter.2 ⟨hj1.1, hj2.1⟩, hjn⟩
        have hsetW : ∀ y ∈ sets, y.1 ∈ ((mutJ e.pgen.2).filter fun j => !e.kp.contains j).flatMap (srcOf srcs) := fun y hy => by
          obtain ⟨j, b0, s1, s2, s4, s5⟩ := objSet_spec hsets y hy
          obtain ⟨o, ho1, ho2⟩ := List.mem_map.1 s2
          have := List.all_eq_true.1 hc.2.2.2.2.2.1 o ho1
          simp only [Bool.and_eq_true, List.contains_iff_mem] at this
          rw [ho2] at this
          exact List.mem_flatMap.2 ⟨j, List.mem_filter.2 ⟨this.1, this.2⟩, by simp [srcOf, s1, Src.ns]⟩
        have hnewW : ∀ y ∈ ((Sh.genL (Ew.evC es (outV e.key nm es e.oks)) (nvC srcs e.nn nm (Sh.nnL e.outL)) e.outL (mkB true) e.np e.nn).2.map fun x => (nvC srcs e.nn nm (Sh.nnL e.outL) x.1, x.2.1, x.2.2)), y.1 ∈ (List.range (Sh.nnL e.outL)).map fun i => nm + i := fun y hy => by
          obtain ⟨x, hx, rfl⟩ := List.mem_map.1 hy
          obtain ⟨⟨a, b⟩, _⟩ := (genL_ok (p := fun _ => True) e.outL (mkB true) e.np e.nn (fun _ _ _ => trivial) (fun _ _ => trivial)).2 x hx
          refine List.mem_map.2 ⟨x.1 - e.nn, List.mem_range.2 (by omega), ?_⟩
          simp only [nvC]
          rw [if_neg (by omega), if_pos (by omega)]
        have frm : ∀ (m2 : Mem) n, n ∉ ((mutJ e.pgen.2).filter fun j => !e.kp.contains j).flatMap (srcOf srcs) ++ ((List.range (Sh.nnL e.outL)).map fun i => nm + i) →
            (setEs (setEs (killL m2 (((mutJ e.pgen.2).filter fun j => !e.kp.contains j && !(e.os.any fun o => o.j == j)).flatMap (srcOf srcs))) sets) ((Sh.genL (Ew.evC es (outV e.key nm es e.oks)) (nvC srcs e.nn nm (Sh.nnL e.outL)) e.outL (mkB true) e.np e.nn).2.map fun x => (nvC srcs e.nn nm (Sh.nnL e.outL) x.1, x.2.1, x.2.2))).at n = m2.at n := fun m2 n hn => by
          simp only [List.mem_append, not_or] at hn
          exact (setEs_other _ fun y hy e' => hn.2 (by rw [← e']; exact hnewW y hy)).trans ((setEs_other _ fun y hy e' => hn.1 (by rw [← e']; exact hsetW y hy)).trans (killL_other _ fun hk => hn.1 (hdeadW n hk)))
        refine ⟨by rw [setEs_len, setEs_len, killL_len], fun n hn => frm m n hn, fun m2 hl ha => ⟨_, ?_, ?_, fun n hn => ?_, fun n hn => frm m2 n hn⟩⟩
        · have hg2 := getL_loc e.ps [] args _ hget ha.left
          have hs2 := objSet_loc hsets ha.left
          have hfree : freeB m2 nm (Sh.nnL e.outL) = true := by
            unfold freeB
            rw [List.all_eq_true]
            intro i hi
            obtain ⟨r1, r2⟩ := freeB_spec hc.2.2.1 (List.mem_range.1 hi)
            have := ha (nm + i) (by simp only [List.mem_append]; exact Or.inr (Or.inr (List.mem_map.2 ⟨i, hi, rfl⟩)))
            rw [this]
            simp only [hl, r1, r2, decide_true, Bool.and_self]
          unfold callE
          simp only [hg2, hs2]
          rw [if_pos ⟨hc.1, hc.2.1, hfree, by rw [hl]; exact hc.2.2.2.1, hc.2.2.2.2⟩]
        · rw [setEs_len, setEs_len, killL_len]
        · refine setEs_congr _ (by rw [setEs_len, setEs_len, killL_len, killL_len]; exact hl) n (setEs_congr _ (by rw [killL_len, killL_len]; exact hl) n (killL_congr _ hl (fun k hk => ha k ?_) n (ha n (List.mem_append_right _ hn))))
          simp only [List.mem_append]
          exact Or.inr (Or.inl (hdeadW k hk))
      · cases h
    · cases h
  · cases h
end
end Go.Proofs.Ytmolkkphnehgcaa.Ew

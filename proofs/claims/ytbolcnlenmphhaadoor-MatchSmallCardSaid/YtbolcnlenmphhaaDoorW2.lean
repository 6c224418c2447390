/- One operation of a region: its plan, what it does, what it touches; that it tells what the operation does. -/
import Derived.Test.YtbolcnlenmphhaaDoorWY
set_option linter.unusedVariables false
set_option linter.unusedSimpArgs false
namespace Go.Proofs.YtbolcnlenmphhaaDoor.Ew
open Go Go.RowKit

abbrev FP := List Nat × List Nat
abbrev Tab := Nat → List Ent
def SumOK (P : Program) (G : Glob) (l : Tabs) (T : Tab) : Prop := ∀ f e, e ∈ T f → e.f = f ∧ l.get e.key = some e ∧ EntryOK P G e

section
variable {m m2 m' : Mem}
theorem viewL_ns {ty : Nat} {row : Row} : ∀ {v : SV} {V : LV}, viewL m ty row v = some V → V.ns = namesV v
  | .ls n le, V, h => by
    simp only [viewL] at h
    split at h
    · split at h
      · simp only [Option.some.injEq] at h; subst h; rfl
      · cases h
    · cases h
  | .nilp c, V, h => by
    cases c <;> simp only [viewL, Option.some.injEq, reduceCtorEq] at h
    subst h; rfl
  | .ite p a b, V, h => by
    simp only [viewL] at h
    split at h
    · rename_i x y hx hy
      split at h
      · simp only [Option.some.injEq] at h; subst h
        simp only [namesV, viewL_ns hx, viewL_ns hy]
      · cases h
    · cases h
  | .sc _, V, h | .ptr .., V, h | .pi .., V, h | .sl .., V, h | .pe .., V, h | .mp .., V, h | .oq .., V, h | .fn .., V, h | .agg .., V, h | .tup .., V, h | .gd .., V, h | .und, V, h | .gl .., V, h => by simp [viewL] at h

mutual
theorem get_loc : ∀ (s : Sh) (acc : List Src) (v : SV) (r : List E × List Src × E), s.get m acc v = some r → Agree (r.2.1.flatMap Src.ns) m m2 → s.get m2 acc v = some r
  | .sc k, acc, v, r, h, ha => by cases v <;> simp only [Sh.get, reduceCtorEq] at h ⊢; exact h
  | .lt k n, acc, v, r, h, ha => by
    cases v with
    | sc e => cases e <;> simp only [Sh.get, reduceCtorEq] at h ⊢; exact h
    | _ => simp [Sh.get] at h
  | .agg l, acc, v, r, h, ha => by cases v <;> simp only [Sh.get, reduceCtorEq] at h ⊢; exact getL_loc l acc _ r h ha
  | .lst ty row own, acc, v, r, h, ha => by
    have h' : getLst m ty row own v = some r := by cases v <;> simpa only [Sh.get] using h
    have : getLst m2 ty row own v = some r := by
      unfold getLst at h' ⊢
      split at h'
      · rename_i V hV
        split at h'
        · rename_i ho
          simp only [Option.some.injEq] at h'; subst h'
          have := (viewL_loc (m2 := m2) hV (by rw [← viewL_ns hV]; simpa [Src.ns] using ha)).1
          simp only [this, if_pos ho]
        · cases h'
      · cases h'
    cases v <;> simpa only [Sh.get] using this
  | .obj ty cs, acc, v, r, h, ha => by
    cases v with
    | ptr n o =>
      cases o with
      | zero =>
        simp only [Sh.get] at h ⊢
        split at h
        · rename_i g ty' vs hb
          split at h
          · rename_i hty
            obtain ⟨q, hq, rfl⟩ := Option.map_eq_some_iff.1 h
            have hn := ha n (by simp [Src.ns])
            have := getL_loc cs _ vs q hq fun k hk => ha k (by simp only [List.flatMap_cons]; exact List.mem_append_right _ hk)
            simp only [blkC_loc hn, hb, if_pos hty, this, Option.map_some]
          · cases h
        · cases h
      | succ o => simp [Sh.get] at h
    | _ => simp [Sh.get] at h
  | .ref j, acc, v, r, h, ha => by
    cases v with
    | ptr n o =>
      cases o with
      | zero => simp only [Sh.get] at h ⊢; exact h
      | succ o => simp [Sh.get] at h
    | _ => simp [Sh.get] at h
  | .fnc f l, acc, v, r, h, ha => by
    cases v <;> simp only [Sh.get, reduceCtorEq] at h ⊢
    split at h
    · rename_i hf; rw [if_pos hf]; exact getL_loc l acc _ r h ha
    · cases h
  | .nul c, acc, v, r, h, ha => by cases v <;> simp only [Sh.get, reduceCtorEq] at h ⊢; exact h
  | .tup l, acc, v, r, h, ha => by cases v <;> simp only [Sh.get, reduceCtorEq] at h ⊢; exact getL_loc l acc _ r h ha
  | .opt s, acc, v, r, h, ha => by
    have h' : getOpt (mkB true :: s.ks.map fun k => E.lit k 0, List.replicate s.nn Src.dm, mkB true) v (fun u => s.get m acc u) = some r := by cases v <;> simpa only [Sh.get] using h
    have : getOpt (mkB true :: s.ks.map fun k => E.lit k 0, List.replicate s.nn Src.dm, mkB true) v (fun u => s.get m2 acc u) = some r := by
      unfold getOpt at h' ⊢
      split at h'
      · exact h'
      · split at h'
        · rename_i hc
          obtain ⟨q, hq, rfl⟩ := Option.map_eq_some_iff.1 h'
          have hx := get_loc s acc _ q hq ha
          simp only [if_pos hc, hx, Option.map_some]
        · cases h'
      · cases h'
    cases v <;> simpa only [Sh.get] using this
  | .und, acc, v, r, h, ha => by cases v <;> simp only [Sh.get, reduceCtorEq] at h ⊢; exact h
theorem getL_loc : ∀ (l : List Sh) (acc : List Src) (vs : List SV) (r : List E × List Src × E), Sh.getL m l acc vs = some r → Agree (r.2.1.flatMap Src.ns) m m2 → Sh.getL m2 l acc vs = some r
  | [], acc, [], r, h, ha => by simp only [Sh.getL] at h ⊢; exact h
  | [], acc, _ :: _, r, h, ha => by simp [Sh.getL] at h
  | _ :: _, acc, [], r, h, ha => by simp [Sh.getL] at h
  | s :: l, acc, v :: vs, r, h, ha => by
    simp only [Sh.getL] at h ⊢
    split at h
    · rename_i es ns g hs
      obtain ⟨q, hq, rfl⟩ := Option.map_eq_some_iff.1 h
      simp only [List.flatMap_append] at ha
      have h1 := get_loc s acc v _ hs ha.left
      have h2 := getL_loc l _ vs q hq ha.right
      simp only [h1, h2, Option.map_some]
    · cases h
end

theorem objSet_loc {srcs : List Src} : ∀ {os : List (Nat × Nat × List Sh)} {vs : List SV} {l : List (Nat × E × Blk)}, objSet srcs m os vs = some l → Agree (srcs.flatMap Src.ns) m m2 → objSet srcs m2 os vs = some l
  | [], vs, l, h, ha => h
  | (j, ty, cs) :: r, vs, l, h, ha => by
    simp only [objSet] at h ⊢
    split at h
    · rename_i n hn
      have hx := ha n (List.mem_flatMap.2 ⟨_, List.mem_of_getElem? hn, by simp [Src.ns]⟩)
      split at h
      · rename_i g ty' cs0 hm
        split at h
        · rename_i hty
          obtain ⟨l', hl, rfl⟩ := Option.map_eq_some_iff.1 h
          simp only [hn, hx, hm, if_pos hty, objSet_loc hl ha, Option.map_some]
        · cases h
      · cases h
    · cases h

theorem srcOf_sub {srcs : List Src} {j n : Nat} (h : n ∈ srcOf srcs j) : n ∈ srcs.flatMap Src.ns := by
  unfold srcOf at h
  split at h
  · rename_i s hs
    exact List.mem_flatMap.2 ⟨s, List.mem_of_getElem? hs, h⟩
  · cases h

theorem callE_loc {e : Ent} {nm : Nat} {args : List SV} {g : E} {v : SV} (h : callE e m nm args = some (g, v, m')) :
    Loc (fun m => callE e m nm args) m (fpC e m nm args) g v m' ∧ ∀ m2, Agree ((fpC e m nm args).1 ++ (fpC e m nm args).2) m m2 → fpC e m2 nm args = fpC e m nm args := by
  have h0 := h
  unfold callE at h
  split at h
  · rename_i es srcs g0 hget
    simp only at h
    split at h
    · rename_i sets hsets
      split at h
      · rename_i hc
        simp only [Option.some.injEq, Prod.mk.injEq] at h
        obtain ⟨rfl, rfl, rfl⟩ := h
        have hfp : fpC e m nm args = (srcs.flatMap Src.ns, (mutJ e.pgen.2).flatMap (srcOf srcs) ++ (List.range (Sh.nnL e.outL)).map fun i => nm + i) := by simp only [fpC, hget]
        have hfp2 : ∀ m2, Agree ((fpC e m nm args).1 ++ (fpC e m nm args).2) m m2 → fpC e m2 nm args = fpC e m nm args := fun m2 ha => by
          rw [hfp] at ha ⊢
          simp only [fpC, getL_loc e.ps [] args _ hget ha.left]
        refine ⟨?_, hfp2⟩
        rw [hfp]
        have hdeadW : ∀ n ∈ ((mutJ e.pgen.2).filter fun j => !e.kp.contains j && !(e.os.any fun o => o.1 == j)).flatMap (srcOf srcs), n ∈ (mutJ e.pgen.2).flatMap (srcOf srcs) := fun n hn => by
          obtain ⟨j, hj, hjn⟩ := List.mem_flatMap.1 hn
          exact List.mem_flatMap.2 ⟨j, (List.mem_filter.1 hj).1, hjn⟩
        have hsetW : ∀ y ∈ sets, y.1 ∈ (mutJ e.pgen.2).flatMap (srcOf srcs) := fun y hy => by
          obtain ⟨j, ty, vs', cs0, s1, s2, s3, s4, s5⟩ := objSet_spec hsets y hy
          obtain ⟨o, ho1, ho2⟩ := List.mem_map.1 s2
          have := List.all_eq_true.1 hc.2.2.2.2.2.1 o ho1
          simp only [Bool.and_eq_true, List.contains_iff_mem] at this
          rw [ho2] at this
          exact List.mem_flatMap.2 ⟨j, this.1, by simp [srcOf, s1, Src.ns]⟩
        have hnewW : ∀ y ∈ ((Sh.genL (Ew.evC es (appsE e.key es 0 e.oks)) (nvC srcs e.nn nm (Sh.nnL e.outL)) e.outL (mkB true) e.np e.nn).2.map fun x => (nvC srcs e.nn nm (Sh.nnL e.outL) x.1, x.2.1, x.2.2)), y.1 ∈ (List.range (Sh.nnL e.outL)).map fun i => nm + i := fun y hy => by
          obtain ⟨x, hx, rfl⟩ := List.mem_map.1 hy
          obtain ⟨⟨a, b⟩, _⟩ := (genL_ok (p := fun _ => True) e.outL (mkB true) e.np e.nn (fun _ _ _ => trivial) (fun _ _ => trivial)).2 x hx
          refine List.mem_map.2 ⟨x.1 - e.nn, List.mem_range.2 (by omega), ?_⟩
          simp only [nvC]
          rw [if_neg (by omega), if_pos (by omega)]
        have frm : ∀ (m2 : Mem) n, n ∉ (mutJ e.pgen.2).flatMap (srcOf srcs) ++ ((List.range (Sh.nnL e.outL)).map fun i => nm + i) →
            (setEs (setEs (killL m2 (((mutJ e.pgen.2).filter fun j => !e.kp.contains j && !(e.os.any fun o => o.1 == j)).flatMap (srcOf srcs))) sets) ((Sh.genL (Ew.evC es (appsE e.key es 0 e.oks)) (nvC srcs e.nn nm (Sh.nnL e.outL)) e.outL (mkB true) e.np e.nn).2.map fun x => (nvC srcs e.nn nm (Sh.nnL e.outL) x.1, x.2.1, x.2.2))).at n = m2.at n := fun m2 n hn => by
          simp only [List.mem_append, not_or] at hn
          exact (setEs_other _ fun y hy e' => hn.2 (by rw [← e']; exact hnewW y hy)).trans ((setEs_other _ fun y hy e' => hn.1 (by rw [← e']; exact hsetW y hy)).trans (killL_other _ fun hk => hn.1 (hdeadW n hk)))
        refine ⟨by rw [setEs_len, setEs_len, killL_len], fun n hn => frm m n hn, fun m2 hl ha => ⟨_, ?_, ?_, fun n hn => ?_, fun n hn => frm m2 n hn⟩⟩
        · have hg2 := getL_loc e.ps [] args _ hget ha.left
          have hs2 := objSet_loc hsets ha.left
          have hfree : freeB m2 nm (Sh.nnL e.outL) = true := by
            unfold freeB
            rw [List.all_eq_true]
            intro i hi
            obtain ⟨r1, r2⟩ := freeB_spec hc.2.2.1 (List.mem_range.1 hi)
            have := ha (nm + i) (by simp only [List.mem_append]; exact Or.inr (Or.inr (List.mem_map.2 ⟨i, hi, rfl⟩)))
            rw [this]
            simp only [hl, r1, r2, decide_true, Bool.and_self]
          unfold callE
          simp only [hg2, hs2]
          rw [if_pos ⟨hc.1, hc.2.1, hfree, by rw [hl]; exact hc.2.2.2.1, hc.2.2.2.2⟩]
        · rw [setEs_len, setEs_len, killL_len]
        · refine setEs_congr _ (by rw [setEs_len, setEs_len, killL_len, killL_len]; exact hl) n (setEs_congr _ (by rw [killL_len, killL_len]; exact hl) n (killL_congr _ hl (fun k hk => ha k ?_) n (ha n (List.mem_append_right _ hn))))
          simp only [List.mem_append]
          exact Or.inr (Or.inl (hdeadW k hk))
      · cases h
    · cases h
  · cases h
end
end Go.Proofs.YtbolcnlenmphhaaDoor.Ew

/- One operation of a region: its plan, what it does, what it touches; that it tells what the operation does. -/
set_option linter.unusedVariables false
set_option linter.unusedSimpArgs false
namespace Go.Proofs.YtbolcnlenmphhaaDoor.Ew
open Go Go.RowKit

inductive W where
  | val (v : SV)
  | dx (g : E) (x : X)
  | call (g : E) (f : Nat) (args : List SV)
  deriving Repr, Inhabited

def opPlan (P : Program) (cs : List E) (en : Env) (o : Oper) : Option W :=
  match pick? o.op with
  | some (c, a, b) => (opPick cs en c a b).map .val
  | none => match descX P (getC cs en) o with
    | some (g, .old (.call f args)) => some (.call g f args)
    | some (g, x) => some (.dx g x)
    | none => none

def forceL : List SV → E
  | [] => mkB true
  | v :: r => mkAnd (force v).1 (forceL r)
def fArgs (fo : Bool) (args : List SV) : List SV := bif fo then args.map fun v => (force v).2 else args
def callK (T : Tab) (m : Mem) (nm f : Nat) (args : List SV) (k : Nat) (fo : Bool) : Option (E × SV × Mem) :=
  match (T f)[k]? with
  | some e => (callE e m nm (fArgs fo args)).map fun r => (mkAnd (bif fo then forceL args else mkB true) r.1, r.2.1, r.2.2)
  | none => none
def fpK (T : Tab) (m : Mem) (nm f : Nat) (args : List SV) (k : Nat) (fo : Bool) : FP :=
  match (T f)[k]? with
  | some e => fpC e m nm (fArgs fo args)
  | none => ([], [])
/-- The first summary that fits. -/
def findK (T : Tab) (m : Mem) (nm f : Nat) (args : List SV) : Option (Nat × Bool) :=
  (((List.range (T f).length).map fun k => (k, false)) ++ ((List.range (T f).length).map fun k => (k, true))).find? fun c => (callK T m nm f args c.1 c.2).isSome

abbrev Ch := Option (Nat × Bool)
def runW (P : Program) (G : Glob) (T : Tab) (m : Mem) (nm : Nat) (ch : Ch) : W → Option (E × SV × Mem)
  | .val v => some (mkB true, v, m)
  | .dx g x => (applyX P G m nm x).bind fun r => if r.1.kind = .b then some (mkAnd g r.1, r.2.1, r.2.2) else none
  | .call g f args => match ch with
    | some (k, fo) => (callK T m nm f args k fo).map fun r => (mkAnd g r.1, r.2.1, r.2.2)
    | none => none
def fpW (T : Tab) (m : Mem) (nm : Nat) (ch : Ch) : W → FP
  | .val _ => ([], [])
  | .dx _ x => fpX nm x
  | .call _ f args => match ch with
    | some (k, fo) => fpK T m nm f args k fo
    | none => ([], [])

section
variable {P : Program} {ρ : Nat → Int} {G : Glob} {T : Tab} {l : Tabs} {w0 w : World} {M0 Im0 : Nat → Prop} {ad : Nat → Hd} {m m2 m' : Mem} {tm : Tm} {en : Env} {a : Act}

theorem forceL_spec {F : Fam} : ∀ (args : List SV), (forceL args).kind = .b ∧ ((forceL args).tt F ρ = true → SV.concL F ρ ad (args.map fun v => (force v).2) = SV.concL F ρ ad args)
  | [] => ⟨rfl, fun _ => rfl⟩
  | v :: r => by
    obtain ⟨i1, i2⟩ := forceL_spec (F := F) r
    have h := mkAnd_spec (force v).1 (forceL r) (force_kind v) i1 F ρ
    refine ⟨h.2, fun ht => ?_⟩
    simp only [forceL] at ht
    rw [h.1, Bool.and_eq_true] at ht
    simp only [List.map_cons, SV.concL, i2 ht.2]
    rw [(force_spec (F := F) (ρ := ρ) (ad := ad) (p := fun _ => True) v).1 ht.1]

theorem fArgs_spec {F : Fam} {fo : Bool} {args : List SV} (h : (bif fo then forceL args else mkB true).tt F ρ = true) : SV.concL F ρ ad (fArgs fo args) = SV.concL F ρ ad args := by
  cases fo
  · rfl
  · exact (forceL_spec args).2 h

theorem runW_loc {nm : Nat} {ch : Ch} {W : W} {g : E} {v : SV} (h : runW P G T m nm ch W = some (g, v, m')) :
    Loc (fun m => runW P G T m nm ch W) m (fpW T m nm ch W) g v m' ∧ ∀ m2, Agree ((fpW T m nm ch W).1 ++ (fpW T m nm ch W).2) m m2 → fpW T m2 nm ch W = fpW T m nm ch W := by
  have wrap : ∀ {f : Mem → Option (E × SV × Mem)} {q : E → E} {g0 : E} {v : SV} {m' : Mem} {fp : FP}, Loc f m fp g0 v m' → Loc (fun m => (f m).map fun r => (q r.1, r.2.1, r.2.2)) m fp (q g0) v m' := fun {f q g0 v m' fp} hL =>
    ⟨hL.len, hL.frame, fun m2 hl ha => by
      obtain ⟨m2', r1, r2, r3, r4⟩ := hL.loc m2 hl ha
      exact ⟨m2', by simp only [r1, Option.map_some], r2, r3, r4⟩⟩
  cases W with
  | val u =>
    simp only [runW, Option.some.injEq, Prod.mk.injEq] at h
    obtain ⟨rfl, rfl, rfl⟩ := h
    exact ⟨Loc.read fun _ _ _ => rfl, fun _ _ => rfl⟩
  | dx g0 x =>
    simp only [runW] at h
    obtain ⟨⟨g1, v1, m1⟩, h1, h2⟩ := Option.bind_eq_some_iff.1 h
    split at h2
    · rename_i hk
      simp only [Option.some.injEq, Prod.mk.injEq] at h2
      obtain ⟨rfl, rfl, rfl⟩ := h2
      have hL := applyX_loc h1
      refine ⟨⟨hL.len, hL.frame, fun m2 hl ha => ?_⟩, fun _ _ => rfl⟩
      obtain ⟨m2', r1, r2, r3, r4⟩ := hL.loc m2 hl ha
      refine ⟨m2', ?_, r2, r3, r4⟩
      simp only at hk
      simp only [runW, r1, Option.bind_some, if_pos hk]
    · cases h2
  | call g0 f args =>
    simp only [runW] at h
    split at h
    · rename_i k fo
      obtain ⟨⟨g1, v1, m1⟩, h1, h2⟩ := Option.map_eq_some_iff.1 h
      simp only [Prod.mk.injEq] at h2
      obtain ⟨rfl, rfl, rfl⟩ := h2
      unfold callK at h1
      split at h1
      · rename_i e he
        obtain ⟨⟨g3, v3, m3⟩, h3, h4⟩ := Option.map_eq_some_iff.1 h1
        simp only [Prod.mk.injEq] at h4
        obtain ⟨rfl, rfl, rfl⟩ := h4
        obtain ⟨c1, c2⟩ := callE_loc h3
        have hf : ∀ m, fpW T m nm (some (k, fo)) (.call g0 f args) = fpC e m nm (fArgs fo args) := fun m => by simp only [fpW, fpK, he]
        rw [hf]
        refine ⟨?_, fun m2 ha => by rw [hf]; exact c2 m2 ha⟩
        have := wrap (q := fun g => mkAnd g0 g) (wrap (q := fun g => mkAnd (bif fo then forceL args else mkB true) g) c1)
        refine ⟨this.len, this.frame, fun m2 hl ha => ?_⟩
        obtain ⟨m2', r1, r2, r3, r4⟩ := this.loc m2 hl ha
        refine ⟨m2', ?_, r2, r3, r4⟩
        simp only [runW, callK, he]
        exact r1
      · cases h1
    · cases h

/-- An operation that yields a value: what follows is met in the state behind it. -/
theorem runW_sound (hS : SumOK P G l T) (hG : GOK G Im0 w0) (hT : RelV l.F ρ ad m en a) (hR : Rel l.F ρ w0 M0 Im0 ad m w) {cs : List E} (hc : holds l.F ρ cs = true) {nm : Nat} {ch : Ch} {o : Oper} {W : W} (hp : opPlan P cs en o = some W) {g : E} {v : SV}
    (h : runW P G T m nm ch W = some (g, v, m')) : g.kind = .b ∧ (g.tt l.F ρ = true → ∀ (K : Act → World → Prop) (Q : Exit → Act → World → Prop),
      (∀ ad' w', Rel l.F ρ w0 M0 Im0 ad' m' w' → Ext ad ad' m m' → v.ok (al m') → K (a.put o.dst (v.conc l.F ρ ad')) w') → o.wp P a w K Q) := by
  have hB := l.BI
  unfold opPlan at hp
  split at hp
  · rename_i x y z hpk
    obtain ⟨u, h1, rfl⟩ := Option.map_eq_some_iff.1 hp
    simp only [runW, Option.some.injEq, Prod.mk.injEq] at h
    obtain ⟨rfl, rfl, rfl⟩ := h
    refine ⟨rfl, fun _ K Q hK => ?_⟩
    have ho : o.op = .pick x y z := by
      unfold pick? at hpk
      split at hpk
      · rename_i heq; simp only [Option.some.injEq, Prod.mk.injEq] at hpk; obtain ⟨rfl, rfl, rfl⟩ := hpk; exact heq
      · cases hpk
    obtain ⟨hrun, i3⟩ := opPick_run (P := P) (w := w) hT hc h1 ho
    unfold Oper.wp
    rw [hrun]
    exact hK ad w hR (Ext.refl _ _) i3
  · split at hp
    · rename_i g0 f args hds
      simp only [Option.some.injEq] at hp
      subst hp
      obtain ⟨j1, j2⟩ := descX_run l.BI (P := P) (w := w) (F := l.F) (ρ := ρ) (ad := ad) (p := al m) (ev := a.eval) (fun x s hx => getC_spec hT hc hx) hds
      simp only [runW] at h
      split at h
      · rename_i k fo
        obtain ⟨⟨g1, v1, m1⟩, h1, h2⟩ := Option.map_eq_some_iff.1 h
        simp only [Prod.mk.injEq] at h2
        obtain ⟨rfl, rfl, rfl⟩ := h2
        unfold callK at h1
        split at h1
        · rename_i e he
          obtain ⟨⟨g3, v3, m3⟩, h3, h4⟩ := Option.map_eq_some_iff.1 h1
          simp only [Prod.mk.injEq] at h4
          obtain ⟨rfl, rfl, rfl⟩ := h4
          obtain ⟨t1, t2, t3⟩ := hS f e (List.mem_of_getElem? he)
          obtain ⟨c1, c2⟩ := callE_sound t2 t3 hG hR h3
          have fk : (bif fo then forceL args else mkB true).kind = .b := by
            cases fo
            · rfl
            · exact (forceL_spec (F := l.F) (ρ := ρ) (ad := ad) args).1
          have a1 := mkAnd_spec _ g3 fk c1 l.F ρ
          have a2 := mkAnd_spec g0 _ j1 a1.2 l.F ρ
          refine ⟨a2.2, fun ht K Q hK => ?_⟩
          rw [a2.1, a1.1, Bool.and_eq_true, Bool.and_eq_true] at ht
          obtain ⟨d1, d2⟩ := j2 ht.1
          have hcall := c2 ht.2.2
          rw [fArgs_spec ht.2.1, t1] at hcall
          unfold Oper.wp
          rw [d1]
          simp only [X.run, D.run, Oper.upon]
          refine hcall.mono ?_
          rintro en' w' ⟨ad', rfl, r2, r3, r4⟩
          exact hK ad' w' r2 r3 r4
        · cases h1
      · cases h
    · rename_i g0 x hnc hds
      simp only [Option.some.injEq] at hp
      subst hp
      obtain ⟨j1, j2⟩ := descX_run l.BI (P := P) (w := w) (F := l.F) (ρ := ρ) (ad := ad) (p := al m) (ev := a.eval) (fun x s hx => getC_spec hT hc hx) hds
      simp only [runW] at h
      obtain ⟨⟨g1, v1, m1⟩, h1, h2⟩ := Option.bind_eq_some_iff.1 h
      split at h2
      · rename_i hk
        simp only [Option.some.injEq, Prod.mk.injEq] at h2
        obtain ⟨rfl, rfl, rfl⟩ := h2
        simp only at hk
        have a2 := mkAnd_spec g0 g1 j1 hk l.F ρ
        refine ⟨a2.2, fun ht K Q hK => ?_⟩
        rw [a2.1, Bool.and_eq_true] at ht
        obtain ⟨d1, d2⟩ := j2 ht.1
        obtain ⟨e1, e2⟩ := applyX_sound (P := P) hB hG hR d2 h1
        obtain ⟨ad', w', c1, c2, c3, c4⟩ := e2 ht.2
        unfold Oper.wp
        rw [d1]
        rcases c1 with c1 | ⟨c1, cu⟩
        · rw [c1]; exact hK ad' w' c2 c3 c4
        · rw [c1]
          have := hK ad' w' c2 c3 c4
          rw [cu] at this
          exact this
      · cases h2
    · cases hp
end
end Go.Proofs.YtbolcnlenmphhaaDoor.Ew

/- Guarded operations; a region that draws its order: where no two operations that the edges leave open touch the same, one walk in the order of the text serves every order. -/
set_option linter.unusedVariables false
set_option linter.unusedSimpArgs false
namespace Go.Proofs.YtbolcnlenmphhaaDoor.Ew
open Go Go.RowKit

/-! ### conditions together -/
def conjE : List E → E
  | [] => mkB true
  | c :: r => mkAnd c (conjE r)
def bAll (cs : List E) : Bool := cs.all fun c => decide (c.kind = .b)
theorem conjE_spec {F : Fam} {ρ : Nat → Int} : ∀ {cs : List E}, bAll cs = true → (conjE cs).kind = .b ∧ (conjE cs).tt F ρ = holds F ρ cs
  | [], _ => ⟨rfl, by simp [conjE, holds]⟩
  | c :: r, h => by
    simp only [bAll, List.all_cons, Bool.and_eq_true, decide_eq_true_eq] at h
    obtain ⟨i1, i2⟩ := conjE_spec (F := F) (ρ := ρ) (cs := r) h.2
    have := mkAnd_spec c (conjE r) h.1 i1 F ρ
    exact ⟨this.2, by simp only [conjE, this.1, i2, holds, List.all_cons]⟩

mutual
def allN : SV → List Nat
  | .ptr n _ | .pi n _ _ _ | .sl n _ _ _ | .ls n _ | .pe n _ _ _ | .mp n | .oq n => [n]
  | .fn _ cs | .agg cs | .tup cs => allNL cs
  | .gd _ v => allN v
  | .ite _ a b => allN a ++ allN b
  | _ => []
def allNL : List SV → List Nat
  | [] => []
  | v :: r => allN v ++ allNL r
end
mutual
theorem allN_ok {p : Nat → Prop} : ∀ v : SV, (∀ n ∈ allN v, p n) → v.ok p
  | .ptr n _, h | .pi n _ _ _, h | .sl n _ _ _, h | .ls n _, h | .pe n _ _ _, h | .mp n, h | .oq n, h => h n (by simp [allN])
  | .fn _ cs, h | .agg cs, h | .tup cs, h => allNL_ok cs h
  | .gd _ v, h => allN_ok v h
  | .ite _ a b, h => ⟨allN_ok a fun n hn => h n (by simp only [allN]; exact List.mem_append_left _ hn), allN_ok b fun n hn => h n (by simp only [allN]; exact List.mem_append_right _ hn)⟩
  | .sc _, _ | .und, _ | .nilp _, _ | .gl _ _, _ => by simp [SV.ok]
theorem allNL_ok {p : Nat → Prop} : ∀ l : List SV, (∀ n ∈ allNL l, p n) → SV.okL p l
  | [], _ => trivial
  | v :: r, h => ⟨allN_ok v fun n hn => h n (by simp only [allNL]; exact List.mem_append_left _ hn), allNL_ok r fun n hn => h n (by simp only [allNL]; exact List.mem_append_right _ hn)⟩
end

/-! ### an operation with its guard -/
inductive PL where
  | put (v : SV)
  | run (cs : Option (List E)) (w : W)
  deriving Repr, Inhabited

def planE (P : Program) (ops : Array Oper) (o : Oper) (en : Env) : Option PL :=
  match guardE ops en o with
  | some .no => some (.put .und)
  | some .yes => (opPlan P [] en o).map (.run none)
  | some (.cond cs) => (opPlan P cs en o).map (.run (some cs))
  | none => none

/-- Where a condition holds, what an operation has written by some names; else what was there. -/
def mergeOn (c : E) (m' : Mem) (W : List Nat) (m : Mem) : Mem := (List.range m.length).map fun n => bif W.contains n then mergeBlk c (m'.at n) (m.at n) else m.at n
theorem mergeOn_len (c : E) (m' : Mem) (W : List Nat) (m : Mem) : (mergeOn c m' W m).length = m.length := by simp [mergeOn]
theorem mergeOn_at (c : E) (m' : Mem) (W : List Nat) (m : Mem) (hl : m'.length = m.length) (n : Nat) : (mergeOn c m' W m).at n = if n ∈ W then mergeBlk c (m'.at n) (m.at n) else m.at n := by
  unfold mergeOn
  by_cases hn : n < m.length
  · by_cases hw : n ∈ W
    · simp [Mem.at, List.getD, hn, hw]
    · simp [Mem.at, List.getD, hn, hw]
  · have e1 : m'.at n = none := by simp [Mem.at, List.getD, List.getElem?_eq_none (show m'.length ≤ n by omega)]
    have e2 : m.at n = none := by simp [Mem.at, List.getD, List.getElem?_eq_none (show m.length ≤ n by omega)]
    rw [e1, e2]
    simp [Mem.at, List.getD, mergeBlk, hn]
/-- The names that what was written speaks of. -/
def refsW (m' : Mem) (v : SV) (W : List Nat) : List Nat := allN v ++ W.flatMap fun n => match m'.at n with
  | some (_, .cells _ cs) => allNL cs
  | _ => []

def runPL (P : Program) (G : Glob) (T : Tab) (m : Mem) (nm : Nat) (ch : Ch) : PL → Option (E × SV × Mem)
  | .put v => some (mkB true, v, m)
  | .run none w => runW P G T m nm ch w
  | .run (some cs) w => match runW P G T m nm ch w with
    | some (g, v, m') => if bAll cs = true ∧ g.kind = .b ∧ ((refsW m' v (fpW T m nm ch w).2).all fun n => (m'.at n).isSome) = true then
        some (mkOr (mkNot (conjE cs)) g, .gd cs v, mergeOn (conjE cs) m' (fpW T m nm ch w).2 m) else none
    | none => none
def fpPL (P : Program) (G : Glob) (T : Tab) (m : Mem) (nm : Nat) (ch : Ch) : PL → FP
  | .put _ => ([], [])
  | .run none w => fpW T m nm ch w
  | .run (some _) w => match runW P G T m nm ch w with
    | some (_, v, m') => ((fpW T m nm ch w).1 ++ refsW m' v (fpW T m nm ch w).2, (fpW T m nm ch w).2)
    | none => ([], [])

section
variable {P : Program} {ρ : Nat → Int} {G : Glob} {T : Tab} {l : Tabs} {w0 w : World} {M0 Im0 : Nat → Prop} {ad : Nat → Hd} {m m2 m' : Mem} {tm : Tm} {en : Env} {a : Act}

theorem refsW_congr {m' m2' : Mem} (v : SV) {W : List Nat} (h : ∀ n ∈ W, m2'.at n = m'.at n) : refsW m2' v W = refsW m' v W := by
  unfold refsW
  congr 1
  have : ∀ (W : List Nat), (∀ n ∈ W, m2'.at n = m'.at n) → (W.flatMap fun n => match m2'.at n with | some (_, .cells _ cs) => allNL cs | _ => []) = W.flatMap fun n => match m'.at n with | some (_, .cells _ cs) => allNL cs | _ => [] := by
    intro W
    induction W with
    | nil => intro _; rfl
    | cons n W ih =>
      intro h
      rw [List.flatMap_cons, List.flatMap_cons, ih fun k hk => h k (List.mem_cons_of_mem _ hk), h n (List.mem_cons_self ..)]
  exact this W h

theorem runPL_loc {nm : Nat} {ch : Ch} {pl : PL} {g : E} {v : SV} (h : runPL P G T m nm ch pl = some (g, v, m')) :
    Loc (fun m => runPL P G T m nm ch pl) m (fpPL P G T m nm ch pl) g v m' ∧ ∀ m2, m2.length = m.length → Agree ((fpPL P G T m nm ch pl).1 ++ (fpPL P G T m nm ch pl).2) m m2 → fpPL P G T m2 nm ch pl = fpPL P G T m nm ch pl := by
  cases pl with
  | put u =>
    simp only [runPL, Option.some.injEq, Prod.mk.injEq] at h
    obtain ⟨rfl, rfl, rfl⟩ := h
    exact ⟨Loc.read fun _ _ _ => rfl, fun _ _ _ => rfl⟩
  | run cs w =>
    cases cs with
    | none =>
      obtain ⟨h1, h2⟩ := runW_loc h
      exact ⟨h1, fun m2 _ ha => h2 m2 ha⟩
    | some cs =>
      simp only [runPL] at h
      split at h
      · rename_i g1 v1 m1 hr
        split at h
        · rename_i hc
          simp only [Option.some.injEq, Prod.mk.injEq] at h
          obtain ⟨rfl, rfl, rfl⟩ := h
          obtain ⟨hL, hF⟩ := runW_loc hr
          have hfp : fpPL P G T m nm ch (.run (some cs) w) = ((fpW T m nm ch w).1 ++ refsW m1 v1 (fpW T m nm ch w).2, (fpW T m nm ch w).2) := by simp only [fpPL, hr]
          rw [hfp]
          have step : ∀ m2, m2.length = m.length → Agree (((fpW T m nm ch w).1 ++ refsW m1 v1 (fpW T m nm ch w).2) ++ (fpW T m nm ch w).2) m m2 → fpW T m2 nm ch w = fpW T m nm ch w ∧ ∃ m2', runW P G T m2 nm ch w = some (g1, v1, m2') ∧ m2'.length = m2.length ∧ (∀ n ∈ (fpW T m nm ch w).2, m2'.at n = m1.at n) ∧ (∀ n, n ∉ (fpW T m nm ch w).2 → m2'.at n = m2.at n) ∧ refsW m2' v1 (fpW T m nm ch w).2 = refsW m1 v1 (fpW T m nm ch w).2 := fun m2 hl ha => by
            have ha' : Agree ((fpW T m nm ch w).1 ++ (fpW T m nm ch w).2) m m2 := fun n hn => by
              rcases List.mem_append.1 hn with hn | hn
              · exact ha n (by simp [hn])
              · exact ha n (by simp [hn])
            obtain ⟨m2', r1, r2, r3, r4⟩ := hL.loc m2 hl ha'
            exact ⟨hF m2 ha', m2', r1, r2, r3, r4, refsW_congr v1 r3⟩
          refine ⟨⟨mergeOn_len _ _ _ _, fun n hn => by rw [mergeOn_at _ _ _ _ hL.len, if_neg hn], fun m2 hl ha => ?_⟩, fun m2 hl ha => ?_⟩
          · obtain ⟨f1, m2', r1, r2, r3, r4, r5⟩ := step m2 hl ha
            refine ⟨mergeOn (conjE cs) m2' (fpW T m nm ch w).2 m2, ?_, mergeOn_len _ _ _ _, fun n hn => ?_, fun n hn => by rw [mergeOn_at _ _ _ _ r2, if_neg hn]⟩
            · simp only [runPL, r1, f1]
              rw [r5, if_pos]
              refine ⟨hc.1, hc.2.1, ?_⟩
              rw [List.all_eq_true]
              intro k hk
              have h0 := List.all_eq_true.1 hc.2.2 k hk
              by_cases hw : k ∈ (fpW T m nm ch w).2
              · rw [r3 k hw]; exact h0
              · rw [r4 k hw, ha k (by simp [hk]), ← hL.frame k hw]; exact h0
            · rw [mergeOn_at _ _ _ _ r2, mergeOn_at _ _ _ _ hL.len, if_pos hn, if_pos hn, r3 n hn, ha n (by simp [hn])]
          · obtain ⟨f1, m2', r1, r2, r3, r4, r5⟩ := step m2 hl ha
            simp only [fpPL, r1, f1, r5]
        · cases h
      · cases h

theorem runPL_sound (hS : SumOK P G l T) (hG : GOK G Im0 w0) {s : St} (hR : RelS l.F ρ w0 M0 Im0 ad s a w) (hE : RelV l.F ρ ad s.2 en a) {ops : Array Oper} {nm : Nat} {ch : Ch} {o : Oper} {pl : PL} (hp : planE P ops o en = some pl) {g : E} {v : SV}
    (h : runPL P G T s.2 nm ch pl = some (g, v, m')) : g.kind = .b ∧ (g.tt l.F ρ = true → ∀ (K : Act → World → Prop) (Q : Exit → Act → World → Prop),
      (∀ ad' a' w', RelS l.F ρ w0 M0 Im0 ad' (setT s.1 o.dst v, m') a' w' → Ext ad ad' s.2 m' → K a' w') →
      if Region.wanted o (yielded ops a.tmps) = true then o.wp P a w K Q else K (a.put o.dst undef) w) := by
  obtain ⟨hT, hM⟩ := hR
  unfold planE at hp
  split at hp
  · rename_i hg
    simp only [Option.some.injEq] at hp
    subst hp
    simp only [runPL, Option.some.injEq, Prod.mk.injEq] at h
    obtain ⟨rfl, rfl, rfl⟩ := h
    refine ⟨rfl, fun _ K Q hK => ?_⟩
    rw [guardE_spec hE hg]
    simp only [Gd.tt, Bool.false_eq_true, if_false]
    exact hK ad _ w ⟨hT.put o.dst (v := .und) trivial, hM⟩ (Ext.refl _ _)
  · rename_i hg
    obtain ⟨W, hW, rfl⟩ := Option.map_eq_some_iff.1 hp
    simp only [runPL] at h
    obtain ⟨r1, r2⟩ := runW_sound hS hG hE hM (cs := []) rfl hW h
    refine ⟨r1, fun ht K Q hK => ?_⟩
    rw [guardE_spec hE hg]
    simp only [Gd.tt, if_true]
    exact r2 ht K Q fun ad' w' hr x hv => hK ad' _ w' ⟨(hT.ext x).put o.dst hv, hr⟩ x
  · rename_i cs hg
    obtain ⟨W, hW, rfl⟩ := Option.map_eq_some_iff.1 hp
    have hwant := guardE_spec hE hg
    simp only [runPL] at h
    split at h
    · rename_i g1 v1 m1 hr
      split at h
      · rename_i hc
        simp only [Option.some.injEq, Prod.mk.injEq] at h
        obtain ⟨rfl, rfl, rfl⟩ := h
        obtain ⟨hb, hgk, hrefs⟩ := hc
        obtain ⟨c1, c2⟩ := conjE_spec (F := l.F) (ρ := ρ) hb
        have hor := mkOr_spec (mkNot (conjE cs)) g1 (mkNot_spec _ l.F ρ).2 hgk l.F ρ
        obtain ⟨hL, _⟩ := runW_loc hr
        have hPM : PM (conjE cs) m1 s.2 (mergeOn (conjE cs) m1 (fpW T s.2 nm ch W).2 s.2) := fun n => by
          rw [mergeOn_at _ _ _ _ hL.len]
          by_cases hn : n ∈ (fpW T s.2 nm ch W).2
          · rw [if_pos hn]; exact Or.inr rfl
          · rw [if_neg hn]; exact Or.inl ⟨(hL.frame n hn).symm, rfl⟩
        have hal : ∀ k, al s.2 k ∨ al m1 k → al (mergeOn (conjE cs) m1 (fpW T s.2 nm ch W).2 s.2) k := fun k hk => by rw [hPM.al]; exact hk.symm
        have hal1 : ∀ k ∈ refsW m1 v1 (fpW T s.2 nm ch W).2, al m1 k := fun k hk => List.all_eq_true.1 hrefs k hk
        have hvok : v1.ok (al m1) := allN_ok v1 fun n hn => hal1 n (by simp [refsW, hn])
        have hok1 : ∀ n g ty cs', m1.at n = some (g, .cells ty cs') → SV.okL (al m1) cs' ∨ s.2.at n = some (g, .cells ty cs') := fun n g ty cs' hn => by
          by_cases hw : n ∈ (fpW T s.2 nm ch W).2
          · left
            refine allNL_ok cs' fun k hk => hal1 k ?_
            unfold refsW
            exact List.mem_append_right _ (List.mem_flatMap.2 ⟨n, hw, by rw [hn]; exact hk⟩)
          · right; rw [← hL.frame n hw]; exact hn
        have keep1 : ∀ k, al s.2 k → k ∉ (fpW T s.2 nm ch W).2 → al m1 k := fun k hk hw => by unfold al at hk ⊢; rw [hL.frame k hw]; exact hk
        refine ⟨hor.2, fun ht K Q hK => ?_⟩
        rw [hor.1, Bool.or_eq_true, (mkNot_spec (conjE cs) l.F ρ).1, c2] at ht
        rcases Bool.eq_false_or_eq_true (holds l.F ρ cs) with hh | hh
        · rw [if_pos (by rw [hwant]; exact hh)]
          have hgt : g1.tt l.F ρ = true := by
            rcases ht with ht | ht
            · rw [hh] at ht; cases ht
            · exact ht
          refine (runW_sound hS hG hE hM hh hW hr).2 hgt K Q fun ad' w' hr' x hv => ?_
          have x' : Ext ad ad' s.2 (mergeOn (conjE cs) m1 (fpW T s.2 nm ch W).2 s.2) := ⟨x.same, fun k hk => hal k (Or.inl hk)⟩
          have hp' := (hT.ext x').put o.dst (v := .gd cs v1) (by simpa [SV.ok] using SV.ok_mono (fun k hk => hal k (Or.inr hk)) v1 hv)
          simp only [SV.conc] at hp'
          unfold holds at hh
          rw [hh] at hp'
          refine hK ad' _ w' ⟨hp', hPM.rel c1 (t := true) (by rw [c2]; exact hh) hr' fun n g ty cs' hn => ?_⟩ x'
          obtain ⟨_, Im, _, _, hI⟩ := hM
          exact hI.ok n g ty cs' hn
        · rw [if_neg (by rw [hwant]; show ¬ holds l.F ρ cs = true; rw [hh]; exact Bool.false_ne_true)]
          have x' : Ext ad ad s.2 (mergeOn (conjE cs) m1 (fpW T s.2 nm ch W).2 s.2) := ⟨fun _ _ => rfl, fun k hk => hal k (Or.inl hk)⟩
          have hp' := (hT.ext x').put o.dst (v := .gd cs v1) (by simpa [SV.ok] using SV.ok_mono (fun k hk => hal k (Or.inr hk)) v1 hvok)
          have hh' := hh
          simp only [SV.conc] at hp'
          unfold holds at hh
          rw [hh] at hp'
          obtain ⟨_, Im, _, _, hI⟩ := id hM
          refine hK ad _ w ⟨hp', ?_⟩ x'
          refine (PM.rel' c1 hPM (by rw [c2]; exact hh') hM fun n g ty cs' hn => ?_)
          rcases hok1 n g ty cs' hn with h | h
          · exact SV.okL_mono (fun k hk => hal k (Or.inr hk)) _ h
          · exact SV.okL_mono (fun k hk => hal k (Or.inl hk)) _ (hI.ok n g ty cs' h)
      · cases h
    · cases h
  · cases hp
end
end Go.Proofs.YtbolcnlenmphhaaDoor.Ew

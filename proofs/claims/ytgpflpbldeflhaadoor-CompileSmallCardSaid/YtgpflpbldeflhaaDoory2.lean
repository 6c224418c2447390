/- Texts that the claim needs, set narrow. -/
import Derived.Test.YtgpflpbldeflhaaDoory1
import Derived.LoopN
import Derived.Handy
import Derived.ProofKit
import Derived.OpenShut
import Derived.Deep.Slices
import Derived.Below
import Derived.DataShut
import Derived.ChangeSame
set_option linter.unusedVariables false
set_option linter.unusedSimpArgs false
set_option maxHeartbeats 8000000
namespace Go.Proofs.YtgpflpbldeflhaaDoor.Ew
open Go Go.RowKit
abbrev Tm := List (Option SV)
def Tm.at (tm : Tm) (i : Nat) : Option SV := tm.getD i none
def setT (tm : Tm) (d : Option Nat) (v : SV) : Tm :=
 match d with
 | some d => tm.set d (some v)
 | none => tm
structure RelT (F : Fam) (ρ : Nat -> Int) (ad : Nat -> Hd) (m : Mem) (tm : Tm) (a : Act) : Prop where
 defers : a.defers = []
 size : a.tmps.size = tm.length
 slot : ∀ i v, tm.at i = some v -> a.tmps[i]? = some (v.conc F ρ ad) /\ v.ok (al m)
abbrev Env := Nat -> Option SV
def RelV (F : Fam) (ρ : Nat -> Int) (ad : Nat -> Hd) (m : Mem) (en : Env) (a : Act) : Prop :=
 ∀ i v, en i = some v -> a.tmps[i]? = some (v.conc F ρ ad) /\ v.ok (al m)
def Jy (tm : Env) : Operand -> Option SV
 | .tmp t => tm t
 | .const v => CY v
 | .global g => some (.gl g 0)
 | .func f => some (.fn f [])
def getC (cs : List E) (tm : Env) (x : Operand) : Option SV := (Jy tm x).bind (Ho cs)
section
variable {P : Program} {F : Fam} {ρ : Nat -> Int} {G : Glob} {w0 w : World} {M0 Im0 Im : Nat -> Prop} {ad : Nat -> Hd} {m : Mem} {tm : Tm} {en : Env} {a : Act}
theorem HL (hT : RelV F ρ ad m en a) {x : Operand} {v : SV} (h : Jy en x = some v) : a.eval x = v.conc F ρ ad /\ v.ok (al m) := by
 cases x with
 | tmp t =>
   obtain ⟨h1, h2⟩ := hT t v h
   exact ⟨by simp [Act.eval, h1], h2⟩
 | const u => exact ⟨(Hs h).symm, JQ h⟩
 | global g => simp only [Jy, oJ] at h; subst h; exact ⟨rfl, trivial⟩
 | func f => simp only [Jy, oJ] at h; subst h; exact ⟨rfl, trivial⟩
theorem Bg (hT : RelV F ρ ad m en a) {cs : List E} (hc : holds F ρ cs = true) {x : Operand} {v : SV} (h : getC cs en x = some v) : a.eval x = v.conc F ρ ad /\ v.ok (al m) := by
 obtain ⟨u, h1, h2⟩ := Option.bind_eq_some_iff.1 h
 obtain ⟨i1, i2⟩ := HL hT h1
 grind [Ml, JN]
inductive Gd where
 | yes
 | no
 | cond (cs : List E)
 deriving Repr, Inhabited
def guardV (want : Bool) : SV -> Option Gd
 | .sc e => match e.kind with
   | .b => match e.lit? with
     | some n => some (if i2b n = want then .yes else .no)
     | none => some (.cond [bif want then e else Ak e])
   | _ => none
 | .gd gs (.sc e) => match e.kind with
   | .b => match e.lit? with
     | some n => some (if i2b n = want then .cond gs else .no)
     | none => some (.cond (gs ++ [bif want then e else Ak e]))
   | _ => none
 | .und => some .no
 | _ => none
def Kb (ops : Array Oper) (tm : Env) (o : Oper) : Option Gd :=
 match o.guard with
 | none => some .yes
 | some (j, want) => match (ops[j]?).bind (·.dst) with
   | some d => match tm d with
     | some v => guardV want v
     | none => none
   | none => none
def Gd.tt (F : Fam) (ρ : Nat -> Int) : Gd -> Bool
 | .yes => true
 | .no => false
 | .cond cs => holds F ρ cs
theorem Lx (e : E) (want : Bool) : (bif want then e else Ak e).tt F ρ = (e.tt F ρ == want) := by
 grind [Ad, E.tt]
theorem C4 (hT : RelV F ρ ad m en a) {ops : Array Oper} {o : Oper} {g : Gd} (h : Kb ops en o = some g) : Region.wanted o (yielded ops a.tmps) = g.tt F ρ := by
 unfold Kb at h
 unfold Region.wanted
 split at h
 ·grind [Gd.tt]
 ·rename_i j want hg
  simp only [hg]
  split at h
  ·rename_i d hd
   split at h
   ·rename_i v hv
    have i1 := (hT d v hv).1
    have hy : yielded ops a.tmps j = match v.conc F ρ ad with | .bool b => some b | _ => none := by
     unfold yielded
     rw [hd]
     simp only [Option.bind_some, i1]
     cases v.conc F ρ ad <;> rfl
    rw [hy]
    unfold guardV at h
    split at h
    ·rename_i e
     split at h
     ·rename_i hk
      simp only [SV.conc, E.val_b hk]
      split at h
      ·grind [lit?_tt, i2b, Gd.tt]
      ·simp only [oJ] at h; subst h
       simp only [Gd.tt, holds, List.all_cons, List.all_nil, Bool.and_true, Lx]
       simp_all
     ·cases h
    ·rename_i gs e
     split at h
     ·rename_i hk
      simp only [SV.conc, E.val_b hk]
      split at h
      ·rename_i n hn
       simp only [oJ] at h; subst h
       rw [lit?_tt hn]
       by_cases hw : i2b n = want
       ·rw [if_pos hw]
        simp only [Gd.tt, holds]
        cases hgs : gs.all (fun g => g.tt F ρ)
        ·simp [undef]
        ·simp [hw]
       ·rw [if_neg hw]
        simp only [Gd.tt]
        cases hgs : gs.all (fun g => g.tt F ρ)
        ·simp [undef]
        ·simp [hw]
      ·simp only [oJ] at h; subst h
       simp only [Gd.tt, holds, List.all_append, List.all_cons, List.all_nil, Bool.and_true, Lx]
       cases hgs : gs.all (fun g => g.tt F ρ)
       ·simp [undef]
       simp_all
     ·cases h
    ·simp only [oJ] at h; subst h
     rfl
    ·cases h
   ·cases h
  ·cases h
end
def HM (cs : List E) (tm : Env) (c a b : Operand) : Option SV :=
 match getC cs tm c with
 | some (.sc ce) => if ce.kind = .b then
  match ce.lit? with
  | some n => bif i2b n then getC cs tm a else getC cs tm b
  | none => match getC (cs ++ [ce]) tm a, getC (cs ++ [Ak ce]) tm b with
    | some x, some y => some (AR ce x y)
    | _, _ => none
   else none
 | _ => none
def pick? : Op -> Option (Operand × Operand × Operand)
 | .pick c a b => some (c, a, b)
 | _ => none
section
variable {P : Program} {F : Fam} {ρ : Nat -> Int} {G : Glob} {w0 w : World} {M0 Im0 Im : Nat -> Prop} {ad : Nat -> Hd} {m : Mem} {tm : Tm} {en : Env} {a : Act}
theorem K7 (hT : RelV F ρ ad m en a) {cs : List E} (hc : holds F ρ cs = true) {x y z : Operand} {v : SV} (h : HM cs en x y z = some v) :
 (asBool (a.eval x)).run P w = .ok (match a.eval x with | .bool b => b | _ => false) w /\ (bif (match a.eval x with | .bool b => b | _ => false) then a.eval y else a.eval z) = v.conc F ρ ad /\ v.ok (al m) := by
 unfold HM at h
 split at h
 ·rename_i ce h1
  split at h
  ·rename_i hk
   obtain ⟨e1, _⟩ := Bg hT hc h1
   simp only [SV.conc, E.val_b hk] at e1
   rw [e1]
   refine ⟨rfl, ?_⟩
   simp only
   split at h
   ·grind [lit?_tt, i2b, Bg]
   ·split at h
    ·rename_i u t hu ht
     simp only [oJ] at h; subst h
     rw [CB hk]
     have mono : ∀ {q : E} {o : Operand} {s : SV}, getC (cs ++ [q]) en o = some s -> s.ok (al m) := fun {q o s} hq => by
      obtain ⟨r, r1, r2⟩ := Option.bind_eq_some_iff.1 hq
      exact JN r2 (HL hT r1).2
     refine ⟨?_, EW _ _ (mono hu) (mono ht)⟩
     cases hct : ce.tt F ρ
     ·simp only [cond_false]
      exact (Bg hT (cs := cs ++ [Ak ce]) (by
       grind [holds, Ad]) ht).1
     ·simp only [cond_true]
      exact (Bg hT (cs := cs ++ [ce]) (by
       grind [holds]) hu).1
    ·cases h
  ·cases h
 ·cases h
theorem ML (hT : RelV F ρ ad m en a) {cs : List E} (hc : holds F ρ cs = true) {x y z : Operand} {v : SV} (h : HM cs en x y z = some v) {o : Oper} (ho : o.op = .pick x y z) :
 (execOp a.eval o).run P w = .ok (.value (v.conc F ρ ad)) w /\ v.ok (al m) := by
 obtain ⟨i1, i2, i3⟩ := K7 (P := P) (w := w) hT hc h
 refine ⟨?_, i3⟩
 simp only [execOp, ho, Sem.run_bind, i1, Result.andThen_ok, Sem.run_pure]
 grind
theorem RelT.ext {ad' : Nat -> Hd} {m' : Mem} (hT : RelT F ρ ad m tm a) (h : Ext ad ad' m m') : RelT F ρ ad' m' tm a :=
 ⟨hT.defers, hT.size, fun i v hv => by
  obtain ⟨h1, h2⟩ := hT.slot i v hv
  exact ⟨by rw [h1, SV.conc_congr h.same v h2], SV.ok_mono h.keep v h2⟩⟩
theorem RelT.put (hT : RelT F ρ ad m tm a) (d : Option Nat) {v : SV} (hv : v.ok (al m)) : RelT F ρ ad m (setT tm d v) (a.put d (v.conc F ρ ad)) := by
 cases d with
 | none => exact hT
 | some d =>
   refine ⟨hT.defers, by simp [Act.put, setT, hT.size], fun i u hu => ?_⟩
   simp only [setT, Tm.at, List.getD, List.getElem?_set] at hu
   simp only [Act.put, Array.getElem?_setIfInBounds]
   grind [size, slot, Tm.at]
theorem RelT.envV (hT : RelT F ρ ad m tm a) : RelV F ρ ad m tm.at a := hT.slot
end
abbrev St := Tm × Mem
def RelS (F : Fam) (ρ : Nat -> Int) (w0 : World) (M0 Im0 : Nat -> Prop) (ad : Nat -> Hd) (s : St) (a : Act) (w : World) : Prop := RelT F ρ ad s.2 s.1 a /\ Rel F ρ w0 M0 Im0 ad s.2 w
def Aw (c : E) : Option (E × Blk) -> Option (E × Blk) -> Option (E × Blk)
 | some (g, .cells ty cs), some (g', .cells ty' cs') => if ty = ty' /\ cs.length = cs'.length /\ g.kind = .b /\ g'.kind = .b then some (mkIte c g g', .cells ty (Bm c cs cs')) else some (mkB true, .dead)
 | some (g, .lst ty row own le k), some (g', .lst ty' row' own' le' k') =>
   if ty = ty' /\ row = row' /\ own = own' /\ le.same le' = true /\ k.kind = .x /\ k'.kind = .x /\ g.kind = .b /\ g'.kind = .b then some (mkIte c g g', .lst ty row own le (mkIte c k k')) else some (mkB true, .dead)
 | some (g, .mp ks vs ka va k), some (g', .mp ks' vs' ka' va' k') =>
   if ks = ks' /\ vs = vs' /\ ka = ka' /\ va = va' /\ k.kind = .x /\ k'.kind = .x /\ g.kind = .b /\ g'.kind = .b then some (mkIte c g g', .mp ks vs ka va (mkIte c k k')) else some (mkB true, .dead)
 | some (g, .seg ty cs ks k), some (g', .seg ty' cs' ks' k') =>
   if ty = ty' /\ ks = ks' /\ cs.length = cs'.length /\ k.kind = .x /\ k'.kind = .x /\ g.kind = .b /\ g'.kind = .b then some (mkIte c g g', .seg ty (Bm c cs cs') ks (mkIte c k k')) else some (mkB true, .dead)
 | some (g, b), none => if g.kind = .b then some (mkAnd c g, b) else some (mkB true, .dead)
 | none, some (g, b) => if g.kind = .b then some (mkAnd (Ak c) g, b) else some (mkB true, .dead)
 | none, none => none
 | some (_, .dead), some (_, .dead) => some (mkB true, .dead)
 | some (g, b), some (_, .dead) => if g.kind = .b then some (mkAnd c g, b) else some (mkB true, .dead)
 | some (_, .dead), some (g, b) => if g.kind = .b then some (mkAnd (Ak c) g, b) else some (mkB true, .dead)
 | some _, some _ => some (mkB true, .dead)
section
variable {P : Program} {F : Fam} {ρ : Nat -> Int} {G : Glob} {w0 w : World} {M0 Im0 Im : Nat -> Prop} {ad : Nat -> Hd} {m m1 m2 : Mem} {tm : Tm} {en : Env} {a : Act}
theorem Jv (c : E) (x y : Option (E × Blk)) : (Aw c x y).isSome = (x.isSome || y.isSome) := by
 rcases x with _ | ⟨g, b⟩ <;> rcases y with _ | ⟨g', b'⟩
 ·rfl
 ·grind [Aw]
 ·grind [Aw]
 ·cases b <;> cases b' <;> simp only [Aw] <;> (try split) <;> rfl
theorem Fw {c : E} (hc : c.kind = .b) {x y : Option (E × Blk)} {g : E} {b : Blk} (h : Aw c x y = some (g, b)) (hg : g.tt F ρ = true) :
 b = .dead \/ ∃ g' b', (bif c.tt F ρ then x else y) = some (g', b') /\ g'.tt F ρ = true /\ (∀ (Im : Nat -> Prop) (ad : Nat -> Hd) (n : Nat) (w : World), BlkOK F ρ Im ad n w b' -> BlkOK F ρ Im ad n w b) /\
   (∀ (ad : Nat -> Hd) (n : Nat), mutB F ρ ad n b = mutB F ρ ad n b') := by
 have one : ∀ {g1 : E} {b1 : Blk} {z : Option (E × Blk)} {q : E}, z = some (g1, b1) -> g1.kind = .b -> q.kind = .b -> (mkAnd q g1).tt F ρ = true -> q.tt F ρ = true /\ g1.tt F ρ = true := fun {g1 b1 z q} _ hk hq ht => by
  grind [Ac]
 rcases x with _ | ⟨g1, b1⟩ <;> rcases y with _ | ⟨g2, b2⟩
 ·simp [Aw] at h
 ·simp only [Aw] at h
  split at h
  ·rename_i hk
   simp only [oJ, pJ] at h
   obtain ⟨rfl, rfl⟩ := h
   obtain ⟨h1, h2⟩ := one (z := some (g2, b2)) rfl hk (Ad c F ρ).2 hg
   rw [(Ad c F ρ).1] at h1
   have hcf : c.tt F ρ = false := by simpa using h1
   exact Or.inr ⟨g2, b2, by rw [hcf]; rfl, h2, fun _ _ _ _ h => h, fun _ _ => rfl⟩
  simp_all
 ·have h' : (if g1.kind = .b then some (mkAnd c g1, b1) else some (mkB true, Blk.dead)) = some (g, b) := by cases b1 <;> simpa only [Aw] using h
  split at h'
  ·rename_i hk
   simp only [oJ, pJ] at h'
   obtain ⟨rfl, rfl⟩ := h'
   obtain ⟨h1, h2⟩ := one (z := some (g1, b1)) rfl hk hc hg
   grind
  simp_all
 ·have gite : ∀ {p q : E}, p.kind = .b -> q.kind = .b -> (mkIte c p q).tt F ρ = true -> (bif c.tt F ρ then p.tt F ρ else q.tt F ρ) = true := fun {p q} h1 h2 h3 => by grind [Gr]
  cases b1 <;> cases b2 <;> simp only [Aw] at h
  case cells.cells ty cs ty' cs' =>
   split at h
   ·rename_i hh
    obtain ⟨rfl, hl, k1, k2⟩ := hh
    simp only [oJ, pJ] at h
    obtain ⟨rfl, rfl⟩ := h
    have ht := gite k1 k2 hg
    right
    cases hct : c.tt F ρ
    ·rw [hct] at ht
     exact ⟨g2, _, rfl, ht, fun Im ad n w hb => by grind [BlkOK, Bs], fun _ _ => rfl⟩
    ·rw [hct] at ht
     exact ⟨g1, _, rfl, ht, fun Im ad n w hb => by grind [BlkOK, Bs], fun _ _ => rfl⟩
   simp_all
  case lst.lst ty row own le k ty' row' own' le' k' =>
   split at h
   ·rename_i hh
    obtain ⟨rfl, rfl, rfl, hle, x1, x2, k1, k2⟩ := hh
    have := E.same_eq _ _ hle
    subst this
    simp only [oJ, pJ] at h
    obtain ⟨rfl, rfl⟩ := h
    have ht := gite k1 k2 hg
    have hx := (Dz (F := F) (ρ := ρ) hc x1 x2).2
    right
    cases hct : c.tt F ρ
    ·rw [hct] at ht hx
     exact ⟨g2, _, rfl, ht, fun Im ad n w hb => by grind [BlkOK], fun ad n => by cases own <;> rfl⟩
    ·rw [hct] at ht hx
     exact ⟨g1, _, rfl, ht, fun Im ad n w hb => by grind [BlkOK], fun ad n => by cases own <;> rfl⟩
   simp_all
  case mp.mp ks vs ka va k ks' vs' ka' va' k' =>
   split at h
   ·rename_i hh
    obtain ⟨rfl, rfl, rfl, rfl, x1, x2, k1, k2⟩ := hh
    simp only [oJ, pJ] at h
    obtain ⟨rfl, rfl⟩ := h
    have ht := gite k1 k2 hg
    have hx := (Dz (F := F) (ρ := ρ) hc x1 x2).2
    right
    cases hct : c.tt F ρ
    ·rw [hct] at ht hx
     exact ⟨g2, _, rfl, ht, fun Im ad n w hb => by simp_all [BlkOK], fun _ _ => rfl⟩
    ·rw [hct] at ht hx
     exact ⟨g1, _, rfl, ht, fun Im ad n w hb => by simp_all [BlkOK], fun _ _ => rfl⟩
   simp_all
  case seg.seg ty cs ks k ty' cs' ks' k' =>
   split at h
   ·rename_i hh
    obtain ⟨rfl, rfl, hl, x1, x2, k1, k2⟩ := hh
    simp only [oJ, pJ] at h
    obtain ⟨rfl, rfl⟩ := h
    have ht := gite k1 k2 hg
    have hx := (Dz (F := F) (ρ := ρ) hc x1 x2).2
    right
    cases hct : c.tt F ρ
    ·rw [hct] at ht hx
     exact ⟨g2, _, rfl, ht, fun Im ad n w hb => by simp_all [BlkOK, Bs], fun _ _ => rfl⟩
    ·rw [hct] at ht hx
     exact ⟨g1, _, rfl, ht, fun Im ad n w hb => by simp_all [BlkOK, Bs], fun _ _ => rfl⟩
   simp_all
  all_goals first
   | (simp only [oJ, pJ] at h; exact Or.inl h.2.symm)
   | (split at h
      ·rename_i hk
       simp only [oJ, pJ] at h
       obtain ⟨rfl, rfl⟩ := h
       first
        | (obtain ⟨h1, h2⟩ := one (z := some (g1, Blk.dead)) rfl hk hc hg
           exact Or.inr ⟨g1, _, by rw [h1]; rfl, h2, fun _ _ _ _ h => h, fun _ _ => rfl⟩)
        | (obtain ⟨h1, h2⟩ := one (z := some (g2, Blk.dead)) rfl hk (Ad c F ρ).2 hg
           rw [(Ad c F ρ).1] at h1
           have hcf : c.tt F ρ = false := by simpa using h1
           exact Or.inr ⟨g2, _, by rw [hcf]; rfl, h2, fun _ _ _ _ h => h, fun _ _ => rfl⟩)
      simp_all)
theorem EC {c : E} {x y : Option (E × Blk)} {g : E} {b : Blk} (h : Aw c x y = some (g, b)) {p : Nat -> Prop} (hx : ∀ g b, x = some (g, b) -> SV.okL p b.cs) (hy : ∀ g b, y = some (g, b) -> SV.okL p b.cs) : SV.okL p b.cs := by
 rcases x with _ | ⟨g1, b1⟩ <;> rcases y with _ | ⟨g2, b2⟩
 ·simp [Aw] at h
 ·simp only [Aw] at h
  split at h <;> simp only [oJ, pJ] at h <;> obtain ⟨_, rfl⟩ := h
  ·exact hy _ _ rfl
  ·trivial
 ·have h' : (if g1.kind = .b then some (mkAnd c g1, b1) else some (mkB true, Blk.dead)) = some (g, b) := by cases b1 <;> simpa only [Aw] using h
  split at h' <;> simp only [oJ, pJ] at h' <;> obtain ⟨_, rfl⟩ := h'
  ·exact hx _ _ rfl
  ·trivial
 ·have h1 := hx _ _ rfl
  have h2 := hy _ _ rfl
  cases b1 <;> cases b2 <;> simp only [Aw] at h <;> (try split at h) <;> simp only [oJ, pJ] at h <;> obtain ⟨_, rfl⟩ := h <;>
   first | trivial | exact h1 | exact h2 | exact DZ _ _ h1 h2
def PM (c : E) (m1 m2 m : Mem) : Prop := ∀ n, (m.at n = m1.at n /\ m.at n = m2.at n) \/ m.at n = Aw c (m1.at n) (m2.at n)
theorem PM.al {c : E} (h : PM c m1 m2 m) (n : Nat) : al m n ↔ al m1 n \/ al m2 n := by
 unfold Ew.al
 rcases h n with ⟨h1, h2⟩ | h1
 ·simp_all
 ·rw [h1, Jv]; simp
theorem PM.rel {c : E} (hc : c.kind = .b) (h : PM c m1 m2 m) {t : Bool} (ht : c.tt F ρ = t) (hR : Rel F ρ w0 M0 Im0 ad (bif t then m1 else m2) w)
 (hok : ∀ n g x, (bif t then m2 else m1).at n = some (g, x) -> SV.okL (Ew.al (bif t then m2 else m1)) x.cs) : Rel F ρ w0 M0 Im0 ad m w := by
 obtain ⟨hM, Im, h1, h2, hI⟩ := hR
 have key : ∀ n g x, m.at n = some (g, x) -> g.tt F ρ = true -> x = .dead \/ ∃ g' x', (bif t then m1 else m2).at n = some (g', x') /\ g'.tt F ρ = true /\ (∀ w, BlkOK F ρ Im ad n w x' -> BlkOK F ρ Im ad n w x) /\ mutB F ρ ad n x = mutB F ρ ad n x' := fun n g x hn hg => by
  rcases h n with ⟨e1, e2⟩ | e1
  ·grind
  grind [Fw]
 have hal1 : ∀ k, Ew.al (bif t then m1 else m2) k -> Ew.al m k := fun k hk => by
  rw [h.al]; grind
 have hal2 : ∀ k, Ew.al (bif t then m2 else m1) k -> Ew.al m k := fun k hk => by
  grind [al]
 refine ⟨hM, Im, h1, h2, fun n g x hn hg => ?_, fun n g x hn => ?_, fun n k g x g' y b a1 a2 a3 a4 a5 a6 => ?_, hI.im, hI.fr⟩
 ·rcases key n g x hn hg with rfl | ⟨g', x', f1, f2, f3, f4⟩
  ·exact ⟨trivial, fun b hb => by simp [mutB] at hb⟩
  grind [RelI.ent]
 ·have ok1 : ∀ g x, (bif t then m1 else m2).at n = some (g, x) -> SV.okL (Ew.al m) x.cs := fun g x hh => SV.okL_mono hal1 _ (hI.ok n g x hh)
  have ok2 : ∀ g x, (bif t then m2 else m1).at n = some (g, x) -> SV.okL (Ew.al m) x.cs := fun g x hh => SV.okL_mono hal2 _ (hok n g x hh)
  rcases h n with ⟨e1, e2⟩ | e1
  ·grind
  grind [EC]
 grind [mutB, RelI.inj]
theorem PM.rel' {c : E} (hc : c.kind = .b) (h : PM c m1 m2 m) (ht : c.tt F ρ = false) (hR : Rel F ρ w0 M0 Im0 ad m2 w)
 (hok : ∀ n g x, m1.at n = some (g, x) -> SV.okL (Ew.al m) x.cs) : Rel F ρ w0 M0 Im0 ad m w := by
 obtain ⟨hM, Im, h1, h2, hI⟩ := hR
 have key : ∀ n g x, m.at n = some (g, x) -> g.tt F ρ = true -> x = .dead \/ ∃ g' x', m2.at n = some (g', x') /\ g'.tt F ρ = true /\ (∀ w, BlkOK F ρ Im ad n w x' -> BlkOK F ρ Im ad n w x) /\ mutB F ρ ad n x = mutB F ρ ad n x' := fun n g x hn hg => by
  rcases h n with ⟨e1, e2⟩ | e1
  ·grind
  grind [Fw]
 refine ⟨hM, Im, h1, h2, fun n g x hn hg => ?_, fun n g x hn => ?_, fun n k g x g' y b a1 a2 a3 a4 a5 a6 => ?_, hI.im, hI.fr⟩
 ·rcases key n g x hn hg with rfl | ⟨g', x', f1, f2, f3, f4⟩
  ·exact ⟨trivial, fun b hb => by simp [mutB] at hb⟩
  grind [RelI.ent]
 ·have ok2 : ∀ g x, m2.at n = some (g, x) -> SV.okL (Ew.al m) x.cs := fun g x hh => SV.okL_mono (fun k hk => (h.al k).2 (Or.inr hk)) _ (hI.ok n g x hh)
  rcases h n with ⟨e1, e2⟩ | e1
  ·simp_all
  ·rw [hn] at e1
   exact EC e1.symm (hok n) ok2
 grind [mutB, RelI.inj]
end
def tailG (f : Nat -> Option (E × Blk) -> Option (E × Blk) -> Option (E × Blk)) : Nat -> Mem -> Mem
 | _, [] => []
 | n, y :: b => f n none y :: tailG f (n + 1) b
def zipG (f : Nat -> Option (E × Blk) -> Option (E × Blk) -> Option (E × Blk)) : Nat -> Mem -> Mem -> Mem
 | n, [], b => tailG f n b
 | n, x :: a, [] => f n x none :: zipG f (n + 1) a []
 | n, x :: a, y :: b => f n x y :: zipG f (n + 1) a b
theorem Mem.at_nil (n : Nat) : Mem.at [] n = none := by simp [Mem.at, List.getD]
theorem Mem.at_zero (x : Option (E × Blk)) (a : Mem) : Mem.at (x :: a) 0 = x := by simp [Mem.at, List.getD]
theorem Mem.at_succ (x : Option (E × Blk)) (a : Mem) (n : Nat) : Mem.at (x :: a) (n + 1) = Mem.at a n := by simp [Mem.at, List.getD]
theorem Kc {f : Nat -> Option (E × Blk) -> Option (E × Blk) -> Option (E × Blk)} (hf : ∀ n, f n none none = none) : ∀ (b : Mem) (k n : Nat), (tailG f k b).at n = f (k + n) none (b.at n)
 | [], k, n => by simp only [tailG, Mem.at_nil, hf]
 | y :: b, k, 0 => by grind [tailG, Mem.at_zero]
 | y :: b, k, n + 1 => by
   simp only [tailG, Mem.at_succ, Kc hf b (k + 1) n]
   grind
theorem IE {f : Nat -> Option (E × Blk) -> Option (E × Blk) -> Option (E × Blk)} (hf : ∀ n, f n none none = none) : ∀ (a b : Mem) (k n : Nat), (zipG f k a b).at n = f (k + n) (a.at n) (b.at n)
 | [], b, k, n => by simp only [zipG, Mem.at_nil, Kc hf]
 | x :: a, [], k, 0 => by grind [zipG, Mem.at_zero, Mem.at_nil]
 | x :: a, [], k, n + 1 => by
   simp only [zipG, Mem.at_succ, Mem.at_nil, IE hf a [] (k + 1) n]
   grind
 | x :: a, y :: b, k, 0 => by grind [zipG, Mem.at_zero]
 | x :: a, y :: b, k, n + 1 => by
   simp only [zipG, Mem.at_succ, IE hf a b (k + 1) n]
   grind
def zipR (f : Nat -> Option (E × Blk) -> Option (E × Blk) -> Option (E × Blk)) : Nat -> Mem -> Mem -> Mem
 | _, _, [] => []
 | n, [], y :: b => f n none y :: zipR f (n + 1) [] b
 | n, x :: a, y :: b => f n x y :: zipR f (n + 1) a b
theorem E7 {f : Nat -> Option (E × Blk) -> Option (E × Blk) -> Option (E × Blk)} : ∀ (a b : Mem) (k : Nat), (zipR f k a b).length = b.length
 | [], [], k => rfl
 | _ :: _, [], k => rfl
 | [], y :: b, k => by simp only [zipR, List.length_cons, E7 [] b (k + 1)]
 | x :: a, y :: b, k => by simp only [zipR, List.length_cons, E7 a b (k + 1)]
theorem Gt {f : Nat -> Option (E × Blk) -> Option (E × Blk) -> Option (E × Blk)} : ∀ (a b : Mem) (k n : Nat), n < b.length -> (zipR f k a b).at n = f (k + n) (a.at n) (b.at n)
 | a, [], k, n, h => by simp at h
 | [], y :: b, k, 0, _ => by grind [zipR, Mem.at_zero, Mem.at_nil]
 | [], y :: b, k, n + 1, h => by
   simp only [zipR, Mem.at_succ, Mem.at_nil, Gt [] b (k + 1) n (by simpa using h)]
   grind
 | x :: a, y :: b, k, 0, _ => by grind [zipR, Mem.at_zero]
 | x :: a, y :: b, k, n + 1, h => by
   simp only [zipR, Mem.at_succ, Gt a b (k + 1) n (by simpa using h)]
   grind
def ED (c : E) (m1 m2 : Mem) : Mem := zipG (fun _ => Aw c) 0 m1 m2
theorem Ot (c : E) (m1 m2 : Mem) (n : Nat) : (ED c m1 m2).at n = Aw c (m1.at n) (m2.at n) := by
 unfold ED
 rw [IE (fun _ => rfl)]
theorem Ou (c : E) (m1 m2 : Mem) : PM c m1 m2 (ED c m1 m2) := fun n => Or.inr (Ot c m1 m2 n)
def ownD : Nat -> Mem -> Mem -> List Nat
 | n, x :: a, y :: b => match x, y with
   | some (_, .lst _ _ o _ _), some (_, .lst _ _ o' _ _) => bif o != o' then n :: ownD (n + 1) a b else ownD (n + 1) a b
   | _, _ => ownD (n + 1) a b
 | _, _, _ => []
def CO (m1 m2 : Mem) : List Nat := ownD 0 m1 m2
mutual
def SV.okB (m : Mem) : SV -> Bool
 | .ptr n _ | .pi n _ _ _ | .sl n _ _ _ | .ls n _ | .sv n _ _ _ _ | .pe n _ _ _ | .mp n | .oq n => (m.at n).isSome
 | .fn _ cs | .agg cs | .tup cs => SV.okLB m cs
 | .gd _ v => SV.okB m v
 | .ite _ a b => SV.okB m a && SV.okB m b
 | _ => true
def SV.okLB (m : Mem) : List SV -> Bool
 | [] => true
 | v :: r => SV.okB m v && SV.okLB m r
end
mutual
theorem SV.okB_spec {m : Mem} : ∀ v : SV, SV.okB m v = true -> v.ok (al m)
 | .ptr n _, h | .pi n _ _ _, h | .sl n _ _ _, h | .ls n _, h | .sv n _ _ _ _, h | .pe n _ _ _, h | .mp n, h | .oq n, h => by simp only [SV.okB] at h; exact h
 | .fn _ cs, h | .agg cs, h | .tup cs, h => by simp only [SV.okB] at h; simp only [SV.ok]; exact SV.okLB_spec cs h
 | .gd _ v, h => by simp only [SV.okB] at h; simp only [SV.ok]; exact SV.okB_spec v h
 | .ite _ a b, h => by simp only [SV.okB, Bool.and_eq_true] at h; simp only [SV.ok]; exact ⟨SV.okB_spec a h.1, SV.okB_spec b h.2⟩
 | .sc _, _ | .und, _ | .nilp _, _ | .gl _ _, _ => by simp [SV.ok]
theorem SV.okLB_spec {m : Mem} : ∀ l : List SV, SV.okLB m l = true -> SV.okL (al m) l
 | [], _ => trivial
 | v :: r, h => by simp only [SV.okLB, Bool.and_eq_true] at h; exact ⟨SV.okB_spec v h.1, SV.okLB_spec r h.2⟩
end
def Jz (m : Mem) : Bool := m.all fun
 | some (_, b) => SV.okLB m b.cs
 | _ => true
theorem HN {m : Mem} (h : Jz m = true) {k : Nat} {g : E} {b : Blk} (hk : m.at k = some (g, b)) : SV.okL (al m) b.cs := by
 unfold Jz at h
 have hlt := Mem.at_lt hk
 have hm : some (g, b) ∈ m := by
  unfold Mem.at at hk
  simp only [List.getD, List.getElem?_eq_getElem hlt, Option.getD_some] at hk
  rw [<- hk]
  exact List.getElem_mem hlt
 grind [SV.okLB_spec, Blk.cs]
def FZ (c : E) : Option SV -> Option SV -> Option SV
 | some x, some y => some (AR c x y)
 | _, _ => none
def okTm (m : Mem) (tm : Tm) : Bool := tm.all fun
 | some v => SV.okB m v
 | none => true
def DA (c : E) (s1 s2 : St) : Option St :=
 let ns := CO s1.2 s2.2
 let m1 := shareL s1.2 ns
 let m2 := shareL s2.2 ns
 if c.kind = .b /\ s1.1.length = s2.1.length /\ Jz m1 = true /\ Jz m2 = true /\ okTm s1.2 s1.1 = true /\ okTm s2.2 s2.1 = true then some (List.zipWith (FZ c) s1.1 s2.1, ED c m1 m2) else none
section
variable {P : Program} {F : Fam} {ρ : Nat -> Int} {G : Glob} {w0 w : World} {M0 Im0 Im : Nat -> Prop} {ad : Nat -> Hd} {m : Mem} {tm : Tm} {en : Env} {a : Act}
theorem Jd {m : Mem} {tm : Tm} (h : okTm m tm = true) {i : Nat} {v : SV} (hv : tm.at i = some v) : v.ok (al m) := by
 unfold okTm at h
 have hm : some v ∈ tm := by
  unfold Tm.at at hv
  simp only [List.getD] at hv
  cases hi : tm[i]? with
  | none => rw [hi] at hv; cases hv
  | some x => grind
 grind [SV.okB_spec]
theorem BC {c : E} {s1 s2 s : St} (h : DA c s1 s2 = some s) :
 (∀ k, al s1.2 k \/ al s2.2 k -> al s.2 k) /\ (∀ ad a w, c.tt F ρ = true -> RelS F ρ w0 M0 Im0 ad s1 a w -> RelS F ρ w0 M0 Im0 ad s a w) /\ (∀ ad a w, c.tt F ρ = false -> RelS F ρ w0 M0 Im0 ad s2 a w -> RelS F ρ w0 M0 Im0 ad s a w) := by
 unfold DA at h
 simp only at h
 split at h
 ·rename_i hc
  obtain ⟨hk, hl, ok1, ok2, t1, t2⟩ := hc
  simp only [oJ] at h
  subst h
  have hPM := Ou c (shareL s1.2 (CO s1.2 s2.2)) (shareL s2.2 (CO s1.2 s2.2))
  have hal : ∀ k, al s1.2 k \/ al s2.2 k -> al (ED c (shareL s1.2 (CO s1.2 s2.2)) (shareL s2.2 (CO s1.2 s2.2))) k := fun k hk => by
   rw [hPM.al, Bn, Bn]; exact hk
  have hsl : ∀ i v, Tm.at (List.zipWith (FZ c) s1.1 s2.1) i = some v -> ∃ x y, s1.1.at i = some x /\ s2.1.at i = some y /\ v = AR c x y := by
   intro i v hv
   unfold Tm.at at hv
   simp only [List.getD, List.getElem?_zipWith] at hv
   cases h1 : s1.1[i]? with
   | none => simp [h1] at hv
   | some x =>
     cases h2 : s2.1[i]? with
     | none => simp [h1, h2] at hv
     | some y =>
       simp only [h1, h2, Option.getD_some] at hv
       unfold FZ at hv
       grind [Tm.at]
  have hvok : ∀ i x y, s1.1.at i = some x -> s2.1.at i = some y -> (AR c x y).ok (al (ED c (shareL s1.2 (CO s1.2 s2.2)) (shareL s2.2 (CO s1.2 s2.2)))) := fun i x y h1 h2 =>
   EW x y (SV.ok_mono (fun k hk => hal k (Or.inl hk)) x (Jd t1 h1)) (SV.ok_mono (fun k hk => hal k (Or.inr hk)) y (Jd t2 h2))
  refine ⟨hal, fun ad a w ht hR => ?_, fun ad a w ht hR => ?_⟩
  ·obtain ⟨hT, hM⟩ := hR
   refine ⟨⟨hT.defers, by simp [hT.size, hl], fun i v hv => ?_⟩, ?_⟩
   ·obtain ⟨x, y, h1, h2, rfl⟩ := hsl i v hv
    exact ⟨by rw [CB hk, ht]; exact (hT.slot i x h1).1, hvok i x y h1 h2⟩
   ·exact hPM.rel hk ht (Rel.shareL _ hM) fun n g x hn => HN ok2 hn
  ·obtain ⟨hT, hM⟩ := hR
   refine ⟨⟨hT.defers, by simp [hT.size, hl], fun i v hv => ?_⟩, ?_⟩
   ·obtain ⟨x, y, h1, h2, rfl⟩ := hsl i v hv
    exact ⟨by rw [CB hk, ht]; exact (hT.slot i y h2).1, hvok i x y h1 h2⟩
   ·exact hPM.rel hk ht (Rel.shareL _ hM) fun n g x hn => HN ok1 hn
 ·cases h
end
inductive Lab where
 | nrm
 | ret
 | ex (id : Nat)
 deriving DecidableEq, Repr, Inhabited
def Lab.exit : Lab -> Exit
 | .nrm => .normal
 | .ret => .ret
 | .ex id => .exit id
inductive DT where
 | leaf (l : Lab)
 | br (c : E) (a b : DT)
 | join (a b : DT)
 | rel (id : Nat) (a : DT)
 deriving Repr, Inhabited
def DT.eval (F : Fam) (ρ : Nat -> Int) : DT -> Lab
 | .leaf l => l
 | .br c a b => bif c.tt F ρ then a.eval F ρ else b.eval F ρ
 | .join a b => if a.eval F ρ = .nrm then b.eval F ρ else a.eval F ρ
 | .rel id a => if a.eval F ρ = .ex id then .nrm else a.eval F ρ
def DT.is (l : Lab) : DT -> E
 | .leaf l' => mkB (decide (l' = l))
 | .br c a b => if c.kind = .b then mkIte c (a.is l) (b.is l) else .ite c (a.is l) (b.is l)
 | .join a b => if l = .nrm then mkAnd (a.is .nrm) (b.is .nrm) else mkOr (a.is l) (mkAnd (a.is .nrm) (b.is l))
 | .rel id a => if l = .nrm then mkOr (a.is .nrm) (a.is (.ex id)) else if l = .ex id then mkB false else a.is l
theorem DT.is_spec (F : Fam) (ρ : Nat -> Int) : ∀ (d : DT) (l : Lab), (d.is l).kind = .b /\ ((d.is l).tt F ρ = true ↔ d.eval F ρ = l)
 | .leaf l', l => ⟨rfl, by simp only [DT.is, Fy, DT.eval, decide_eq_true_eq]⟩
 | .br c a b, l => by
   obtain ⟨a1, a2⟩ := DT.is_spec F ρ a l
   obtain ⟨b1, b2⟩ := DT.is_spec F ρ b l
   simp only [DT.is, DT.eval]
   split
   ·rename_i hc
    obtain ⟨i1, i2⟩ := AS c (a.is l) (b.is l) hc (by rw [a1, b1]) F ρ
    grind [E.val_b, E.tt]
   ·refine ⟨a1, ?_⟩
    grind [E.tt, is, E.den, i2b]
 | .join a b, l => by
   obtain ⟨n1, n2⟩ := DT.is_spec F ρ a .nrm
   obtain ⟨a1, a2⟩ := DT.is_spec F ρ a l
   obtain ⟨b1, b2⟩ := DT.is_spec F ρ b l
   grind [is, eval, Ac, BQ]
 | .rel id a, l => by
   obtain ⟨n1, n2⟩ := DT.is_spec F ρ a .nrm
   obtain ⟨a1, a2⟩ := DT.is_spec F ρ a l
   obtain ⟨e1, e2⟩ := DT.is_spec F ρ a (.ex id)
   simp only [DT.is, DT.eval]
   by_cases hl : l = .nrm
   ·grind [BQ, is, eval]
   ·rw [if_neg hl]
    by_cases hl2 : l = .ex id
    ·rw [if_pos hl2]
     subst hl2
     refine ⟨rfl, ?_⟩
     grind [Fy, eval]
    grind
theorem DT.is_true {F : Fam} {ρ : Nat -> Int} {d : DT} {l : Lab} (h : d.eval F ρ = l) : (d.is l).tt F ρ = true := (DT.is_spec F ρ d l).2.2 h
theorem DT.is_false {F : Fam} {ρ : Nat -> Int} {d : DT} {l : Lab} (h : d.eval F ρ ≠ l) : (d.is l).tt F ρ = false := Bool.eq_false_iff.2 fun x => h ((DT.is_spec F ρ d l).2.1 x)
def Kd (a b : DT) : DT :=
 match a with
 | .leaf .nrm => b
 | .leaf l => .leaf l
 | a => .join a b
theorem K8 (F : Fam) (ρ : Nat -> Int) (a b : DT) : (Kd a b).eval F ρ = if a.eval F ρ = .nrm then b.eval F ρ else a.eval F ρ := by
 unfold Kd
 grind [DT.eval]
def HO (id : Nat) (a : DT) : DT :=
 match a with
 | .leaf l => .leaf (if l = .ex id then .nrm else l)
 | a => .rel id a
theorem E8 (F : Fam) (ρ : Nat -> Int) (id : Nat) (a : DT) : (HO id a).eval F ρ = if a.eval F ρ = .ex id then .nrm else a.eval F ρ := by
 unfold HO
 split <;> rfl
section
variable {P : Program} {F : Fam} {ρ : Nat -> Int} {G : Glob} {w0 w : World} {M0 Im0 Im : Nat -> Prop} {ad : Nat -> Hd} {m : Mem} {tm : Tm} {en : Env} {a : Act}
def lk (l : Lab) : List (Lab × St) -> Option St
 | [] => none
 | (l', s) :: r => if l' = l then some s else lk l r
def drop (l : Lab) : List (Lab × St) -> List (Lab × St)
 | [] => []
 | (k, s) :: r => if k = l then drop l r else (k, s) :: drop l r
theorem BJ {l l' : Lab} (h : l ≠ l') : ∀ xs, lk l' (drop l xs) = lk l' xs
 | [] => rfl
 | (k, s) :: r => by
   have ih := BJ h r
   grind [drop, lk]
theorem F7 (l : Lab) : ∀ xs, lk l (drop l xs) = none
 | [] => rfl
 | (k, s) :: r => by
   have ih := F7 l r
   grind [drop, lk]
def Cq (c : Lab -> E) : List (Lab × St) -> List (Lab × St) -> Option (List (Lab × St))
 | [], ys => some ys
 | (l, s) :: r, ys => match lk l ys with
   | some s' => match DA (c l) s s', Cq c r (drop l ys) with
     | some q, some t => some ((l, q) :: t)
     | _, _ => none
   | none => (Cq c r ys).map ((l, s) :: ·)
theorem Bl {c : Lab -> E} : ∀ {xs ys zs : List (Lab × St)}, Cq c xs ys = some zs -> ∀ l,
 (∀ s, lk l xs = some s -> ∃ q, lk l zs = some q /\ ((lk l ys = none /\ q = s) \/ ∃ s', lk l ys = some s' /\ DA (c l) s s' = some q)) /\
 (lk l xs = none -> lk l zs = lk l ys)
 | [], ys, zs, h, l => by
   grind [Cq, lk]
 | (l0, s0) :: r, ys, zs, h, l => by
   simp only [Cq] at h
   split at h
   ·rename_i s' hs'
    split at h
    ·rename_i q t hq ht
     simp only [oJ] at h; subst h
     by_cases hl : l0 = l
     ·grind [lk]
     ·obtain ⟨i1, i2⟩ := Bl ht l
      grind [BJ, lk]
    ·cases h
   ·rename_i hs'
    obtain ⟨t, ht, rfl⟩ := Option.map_eq_some_iff.1 h
    obtain ⟨i1, i2⟩ := Bl ht l
    grind [lk]
abbrev Out := DT × List (Lab × St)
def Ly (ox oy : Out) : Option Out :=
 (Cq (fun l => ox.1.is l) (drop .nrm ox.2) oy.2).map fun z => (Kd ox.1 oy.1, z)
def MM (c : E) (ox oy : Out) : Option Out :=
 if c.kind = .b then (Cq (fun _ => c) ox.2 oy.2).map fun z => (.br c ox.1 oy.1, z) else none
def Ke (id : Nat) (o : Out) : Option Out :=
 match lk (.ex id) o.2, lk .nrm o.2 with
 | none, _ => some (HO id o.1, o.2)
 | some s, none => some (HO id o.1, (.nrm, s) :: drop (.ex id) o.2)
 | some s, some s' => match DA (o.1.is (.ex id)) s s' with
   | some q => some (HO id o.1, (.nrm, q) :: drop (.ex id) (drop .nrm o.2))
   | none => none
def After (F : Fam) (ρ : Nat -> Int) (w0 : World) (M0 Im0 : Nat -> Prop) (ad : Nat -> Hd) (m : Mem) (o : Out) (Q : Exit -> Act -> World -> Prop) : Prop :=
 ∀ q ad' a' w', lk (o.1.eval F ρ) o.2 = some q -> RelS F ρ w0 M0 Im0 ad' q a' w' -> Ext ad ad' m q.2 -> Q (o.1.eval F ρ).exit a' w'
theorem After.join {m0 : Mem} {ox oy o : Out} (h : Ly ox oy = some o) {Q : Exit -> Act -> World -> Prop} (hA : After F ρ w0 M0 Im0 ad m0 o Q) :
 (ox.1.eval F ρ ≠ .nrm -> After F ρ w0 M0 Im0 ad m0 ox Q) /\ (ox.1.eval F ρ = .nrm -> After F ρ w0 M0 Im0 ad m0 oy Q) := by
 obtain ⟨z, hz, rfl⟩ := Option.map_eq_some_iff.1 h
 unfold After at *
 simp only [K8] at hA
 constructor
 ·intro hne q ad' a' w' hq hR hx
  simp only [if_neg hne] at hA
  obtain ⟨i1, _⟩ := Bl hz (ox.1.eval F ρ)
  obtain ⟨q', h1, h2⟩ := i1 q (by rw [BJ (Ne.symm hne)]; exact hq)
  rcases h2 with ⟨_, rfl⟩ | ⟨s', _, h3⟩
  ·grind
  ·obtain ⟨k1, k2, _⟩ := BC (F := F) (ρ := ρ) (w0 := w0) (M0 := M0) (Im0 := Im0) h3
   exact hA q' ad' a' w' h1 (k2 ad' a' w' (DT.is_true rfl) hR) ⟨hx.same, fun k hk => k1 k (Or.inl (hx.keep k hk))⟩
 ·intro he q ad' a' w' hq hR hx
  simp only [if_pos he] at hA
  obtain ⟨i1, i2⟩ := Bl hz (oy.1.eval F ρ)
  cases hlx : lk (oy.1.eval F ρ) (drop .nrm ox.2) with
  | none => grind
  | some s =>
    obtain ⟨q', h1, h2⟩ := i1 s hlx
    rcases h2 with ⟨h2, _⟩ | ⟨s', h2, h3⟩
    ·rw [h2] at hq; cases hq
    ·rw [h2] at hq
     simp only [oJ] at hq
     subst hq
     obtain ⟨k1, _, k3⟩ := BC (F := F) (ρ := ρ) (w0 := w0) (M0 := M0) (Im0 := Im0) h3
     refine hA q' ad' a' w' h1 (k3 ad' a' w' (DT.is_false ?_) hR) ⟨hx.same, fun k hk => k1 k (Or.inr (hx.keep k hk))⟩
     grind [F7]
theorem After.br {m0 : Mem} {c : E} {ox oy o : Out} (h : MM c ox oy = some o) {Q : Exit -> Act -> World -> Prop} (hA : After F ρ w0 M0 Im0 ad m0 o Q) :
 (c.tt F ρ = true -> After F ρ w0 M0 Im0 ad m0 ox Q) /\ (c.tt F ρ = false -> After F ρ w0 M0 Im0 ad m0 oy Q) := by
 unfold MM at h
 split at h
 ·obtain ⟨z, hz, rfl⟩ := Option.map_eq_some_iff.1 h
  unfold After at *
  simp only [DT.eval] at hA
  constructor
  ·intro ht q ad' a' w' hq hR hx
   simp only [ht, cond_true] at hA
   obtain ⟨i1, _⟩ := Bl hz (ox.1.eval F ρ)
   obtain ⟨q', h1, h2⟩ := i1 q hq
   rcases h2 with ⟨_, rfl⟩ | ⟨s', _, h3⟩
   ·grind
   ·obtain ⟨k1, k2, _⟩ := BC (F := F) (ρ := ρ) (w0 := w0) (M0 := M0) (Im0 := Im0) h3
    exact hA q' ad' a' w' h1 (k2 ad' a' w' ht hR) ⟨hx.same, fun k hk => k1 k (Or.inl (hx.keep k hk))⟩
  ·intro ht q ad' a' w' hq hR hx
   simp only [ht, cond_false] at hA
   obtain ⟨i1, i2⟩ := Bl hz (oy.1.eval F ρ)
   cases hlx : lk (oy.1.eval F ρ) ox.2 with
   | none => grind
   | some s =>
     obtain ⟨q', h1, h2⟩ := i1 s hlx
     rcases h2 with ⟨h2, _⟩ | ⟨s', h2, h3⟩
     ·rw [h2] at hq; cases hq
     ·rw [h2] at hq
      simp only [oJ] at hq
      subst hq
      obtain ⟨k1, _, k3⟩ := BC (F := F) (ρ := ρ) (w0 := w0) (M0 := M0) (Im0 := Im0) h3
      exact hA q' ad' a' w' h1 (k3 ad' a' w' ht hR) ⟨hx.same, fun k hk => k1 k (Or.inr (hx.keep k hk))⟩
 ·cases h
theorem E9 {id : Nat} {l : Lab} (h : l ≠ .ex id) {Q : Exit -> Act -> World -> Prop} {a : Act} {w : World} (hq : Q l.exit a w) : Exit.inBlock id Q l.exit a w := by
 cases l with
 | nrm => exact hq
 | ret => exact hq
 | ex k =>
   have : k ≠ id := fun e => h (by rw [e])
   simp only [Lab.exit, Exit.inBlock, if_neg this]
   exact hq
theorem After.rel {m0 : Mem} {id : Nat} {o' o : Out} (h : Ke id o' = some o) {Q : Exit -> Act -> World -> Prop} (hA : After F ρ w0 M0 Im0 ad m0 o Q) : After F ρ w0 M0 Im0 ad m0 o' (Exit.inBlock id Q) := by
 unfold Ke at h
 intro q ad' a' w' hq hR hx
 unfold After at hA
 split at h
 ·grind [E8, DT.eval, E9]
 ·rename_i s h1 h2
  simp only [oJ] at h; subst h
  simp only [E8] at hA
  by_cases he : o'.1.eval F ρ = .ex id
  ·simp only [if_pos he] at hA
   rw [he] at hq ⊢
   rw [h1] at hq
   simp only [oJ] at hq
   subst hq
   simp only [Lab.exit, Exit.inBlock, if_true]
   exact hA s ad' a' w' (by simp [lk]) hR hx
  grind [DT.eval, E9, lk, BJ]
 ·rename_i s s' h1 h2
  split at h
  ·rename_i q0 h3
   simp only [oJ] at h; subst h
   simp only [E8] at hA
   obtain ⟨k1, k2, k3⟩ := BC (F := F) (ρ := ρ) (w0 := w0) (M0 := M0) (Im0 := Im0) h3
   by_cases he : o'.1.eval F ρ = .ex id
   ·simp only [if_pos he] at hA
    rw [he] at hq ⊢
    rw [h1] at hq
    simp only [oJ] at hq
    subst hq
    simp only [Lab.exit, Exit.inBlock, if_true]
    exact hA q0 ad' a' w' (by simp [lk]) (k2 ad' a' w' (DT.is_true he) hR) ⟨hx.same, fun k hk => k1 k (Or.inl (hx.keep k hk))⟩
   ·simp only [if_neg he] at hA
    by_cases hn : o'.1.eval F ρ = .nrm
    ·rw [hn] at hq hA ⊢
     rw [h2] at hq
     simp only [oJ] at hq
     subst hq
     exact hA q0 ad' a' w' (by simp [lk]) (k3 ad' a' w' (DT.is_false (by omega)) hR) ⟨hx.same, fun k hk => k1 k (Or.inr (hx.keep k hk))⟩
    grind [E9, lk, BJ]
  ·cases h
end
def namesV : SV -> List Nat
 | .ls n _ => [n]
 | .sv n _ _ _ _ => [n]
 | .sl n _ _ _ => [n]
 | .ite _ a b => namesV a ++ namesV b
 | _ => []
def fpX (nm : Nat) : X -> List Nat × List Nat
 | .old (.ld n ..) | .old (.ldi n ..) => ([n], [])
 | .old (.st n ..) | .old (.sti n ..) => ([n], [n])
 | .old (.new ..) => ([], [nm])
 | .old _ => ([], [])
 | .len x => (namesV x, [])
 | .lde n .. => ([n], [])
 | .ste n .. => ([n], [n])
 | .app _ _ _ x y => (namesV x ++ namesV y, namesV x ++ [nm])
 | .sub _ _ x _ _ => (namesV x, namesV x ++ [nm])
 | .mk .. => ([], [nm])
 | .bl .. => ([], [nm])
 | .mnew _ => ([], [nm])
 | .mlk _ n _ _ => ([n], [])
 | .mup _ n _ _ => ([n], [n])
 | .mdl _ _ _ n _ => ([n], [n])
 | .mln _ _ n => ([n], [])
 | .vix _ n .. => ([n], [])
 | .clr _ _ _ n _ => ([n], [n])
 | .lds n .. => ([n], [])
 | .sts n .. => ([n], [n])
 | .ldl n .. => ([n], [nm])
 | .stl n _ _ _ x => (n :: namesV x, n :: namesV x)
 | .mkl .. => ([], [nm])
 | .gsl .. => ([], [nm])
def fpC (e : Ent) (m : Mem) (nm : Nat) (args : List SV) : List Nat × List Nat :=
 match Sh.getL m e.ps [] args with
 | some (_, srcs, _) => (srcs.flatMap Src.ns, ((mutJ e.pgen.2).filter fun j => !e.kp.contains j).flatMap (srcOf srcs) ++ (List.range (Sh.nnL e.outL)).map fun i => nm + i)
 | none => ([], [])
def Agree (l : List Nat) (m m2 : Mem) : Prop := ∀ n ∈ l, m2.at n = m.at n
section
variable {P : Program} {G : Glob} {m m2 m' : Mem}
theorem Agree.left {a b : List Nat} (h : Agree (a ++ b) m m2) : Agree a m m2 := fun n hn => h n (List.mem_append_left _ hn)
theorem Agree.right {a b : List Nat} (h : Agree (a ++ b) m m2) : Agree b m m2 := fun n hn => h n (List.mem_append_right _ hn)
theorem AG {ty : Nat} {row : Row} : ∀ {v : SV} {V : LV}, Ah m ty row v = some V -> Agree (namesV v) m m2 -> Ah m2 ty row v = some V /\ ∀ n ∈ V.ns, n ∈ namesV v
 | .ls n le, V, h, ha => by
   have := ha n (by simp [namesV])
   grind [Ah, namesV]
 | .sv n str l0 lo hi, V, h, ha => by
   have := ha n (by simp [namesV])
   grind [Ah, namesV]
 | .nilp c, V, h, ha => by
   grind [Ah]
 | .ite p a b, V, h, ha => by
   simp only [Ah] at h ⊢
   split at h
   ·rename_i x y hx hy
    obtain ⟨i1, i2⟩ := AG hx (Agree.left (b := namesV b) ha)
    obtain ⟨j1, j2⟩ := AG hy (Agree.right (a := namesV a) ha)
    grind [namesV]
   ·cases h
 | .sc _, V, h, _ | .ptr .., V, h, _ | .pi .., V, h, _ | .sl .., V, h, _ | .pe .., V, h, _ | .mp .., V, h, _ | .oq .., V, h, _ | .fn .., V, h, _ | .agg .., V, h, _ | .tup .., V, h, _ | .gd .., V, h, _ | .und, V, h, _ | .gl .., V, h, _ => by simp [Ah] at h
theorem DB : ∀ {v : SV}, Agree (namesV v) m m2 -> tyL m2 v = tyL m v
 | .ls n le, ha => by simp only [tyL, ha n (by simp [namesV])]
 | .sv n str l0 lo hi, ha => by simp only [tyL, ha n (by simp [namesV])]
 | .nilp c, ha => by cases c <;> rfl
 | .ite p a b, ha => by simp only [tyL, DB (v := a) (Agree.left (b := namesV b) ha), DB (v := b) (Agree.right (a := namesV a) ha)]
 | .sc _, _ | .ptr .., _ | .pi .., _ | .sl .., _ | .pe .., _ | .mp .., _ | .oq .., _ | .fn .., _ | .agg .., _ | .tup .., _ | .gd .., _ | .und, _ | .gl .., _ => rfl
theorem Ta (m : Mem) (n k : Nat) (x : Option (E × Blk)) (hl : k < m.length) : Mem.at (List.set m k x) n = if n = k then x else m.at n := by
 grind [Mem.at_set_same, Mem.at_set_other]
theorem An (k : Nat) (x : Option (E × Blk)) (hl : m2.length = m.length) {n : Nat} (h : m2.at n = m.at n) : Mem.at (List.set m2 k x) n = Mem.at (List.set m k x) n := by
 by_cases hk : k < m.length
 ·grind [Ta]
 ·rw [List.set_eq_of_length_le (by omega), List.set_eq_of_length_le (by omega), h]
theorem GR (k : Nat) (hl : m2.length = m.length) (hk : m2.at k = m.at k) {n : Nat} (h : m2.at n = m.at n) : (BN m2 k).at n = (BN m k).at n := by
 grind [BN, Mem.at, An]
theorem Ek : ∀ (ks : List Nat) {m m2 : Mem}, m2.length = m.length -> Agree ks m m2 -> ∀ n, m2.at n = m.at n -> (AA m2 ks).at n = (AA m ks).at n
 | [], m, m2, _, _, n, h => h
 | k :: r, m, m2, hl, ha, n, h => by
   have hk := ha k (List.mem_cons_self ..)
   exact Ek r (by grind [IY]) (fun q hq => GR k hl hk (ha q (List.mem_cons_of_mem _ hq))) n (GR k hl hk h)
theorem K9 {k n : Nat} (h : n ≠ k) : (BN m k).at n = m.at n := by
 grind [BN, Mem.at_set_other]
theorem El : ∀ (ks : List Nat) {m : Mem} {n : Nat}, n ∉ ks -> (AA m ks).at n = m.at n
 | [], _, _, _ => rfl
 | k :: r, m, n, h => by
   simp only [List.mem_cons, not_or] at h
   exact (El r h.2).trans (K9 h.1)
theorem F8 (k : Nat) (hl : m2.length = m.length) (hk : m2.at k = m.at k) {n : Nat} (h : m2.at n = m.at n) : (Bi m2 k).at n = (Bi m k).at n := by
 grind [Bi, An]
theorem HP (m : Mem) (n : Nat) : (Bi m n).length = m.length := by grind [Bi]
theorem BG : ∀ (ns : List Nat) (m : Mem), (shareL m ns).length = m.length
 | [], _ => rfl
 | n :: r, m => (BG r (Bi m n)).trans (HP m n)
theorem DM : ∀ (ks : List Nat) {m m2 : Mem}, m2.length = m.length -> Agree ks m m2 -> ∀ n, m2.at n = m.at n -> (shareL m2 ks).at n = (shareL m ks).at n
 | [], m, m2, _, _, n, h => h
 | k :: r, m, m2, hl, ha, n, h => by
   have hk := ha k (List.mem_cons_self ..)
   exact DM r (by grind [HP]) (fun q hq => F8 k hl hk (ha q (List.mem_cons_of_mem _ hq))) n (F8 k hl hk h)
theorem Kf {k n : Nat} (h : n ≠ k) : (Bi m k).at n = m.at n := by
 grind [Bi, Mem.at_set_other]
theorem B1 : ∀ (ks : List Nat) {m : Mem} {n : Nat}, n ∉ ks -> (shareL m ks).at n = m.at n
 | [], _, _, _ => rfl
 | k :: r, m, n, h => by
   simp only [List.mem_cons, not_or] at h
   exact (B1 r h.2).trans (Kf h.1)
theorem Em : ∀ (l : List (Nat × E × Blk)) {m m2 : Mem}, m2.length = m.length -> ∀ n, m2.at n = m.at n -> (AO m2 l).at n = (AO m l).at n
 | [], m, m2, _, n, h => h
 | (k, g, b) :: r, m, m2, hl, n, h => Em r (by simpa using hl) n (An k _ hl h)
theorem En : ∀ (l : List (Nat × E × Blk)) {m : Mem} {n : Nat}, (∀ y ∈ l, y.1 ≠ n) -> (AO m l).at n = m.at n
 | [], _, _, _ => rfl
 | (k, g, b) :: r, m, n, h => by
   have h0 := h _ (List.mem_cons_self ..)
   exact (En r fun y hy => h y (List.mem_cons_of_mem _ hy)).trans (Mem.at_set_other h0 _)
structure Loc (f : Mem -> Option (E × SV × Mem)) (m : Mem) (fp : List Nat × List Nat) (g : E) (v : SV) (m' : Mem) : Prop where
 len : m'.length = m.length
 frame : ∀ n, n ∉ fp.2 -> m'.at n = m.at n
 loc : ∀ m2, m2.length = m.length -> Agree (fp.1 ++ fp.2) m m2 -> ∃ m2', f m2 = some (g, v, m2') /\ m2'.length = m2.length /\ (∀ n ∈ fp.2, m2'.at n = m'.at n) /\ ∀ n, n ∉ fp.2 -> m2'.at n = m2.at n
theorem Loc.read {f : Mem -> Option (E × SV × Mem)} {g : E} {v : SV} {R : List Nat} (h : ∀ m2, m2.length = m.length -> Agree R m m2 -> f m2 = some (g, v, m2)) : Loc f m (R, []) g v m :=
 ⟨rfl, fun _ _ => rfl, fun m2 hl ha => ⟨m2, h m2 hl (by simpa using ha), rfl, fun n hn => by simp at hn, fun _ _ => rfl⟩⟩
theorem Bu {n : Nat} (h : m2.at n = m.at n) : blkC m2 n = blkC m n := by simp only [blkC, h]
theorem Ov {d : D} {nm : Nat} {g : E} {v : SV} (h : apply G m nm d = some (g, v, m')) : Loc (fun m => apply G m nm d) m (fpX nm (.old d)) g v m' := by
 cases d with
 | val u =>
   simp only [apply, oJ, pJ] at h
   obtain ⟨rfl, rfl, rfl⟩ := h
   exact Loc.read fun m2 _ _ => rfl
 | ld n off sz ag =>
   simp only [apply] at h
   have hm : m' = m := by
    split at h
    ·obtain ⟨u, _, h2⟩ := Option.map_eq_some_iff.1 h; simp_all
    ·cases h
   subst hm
   refine Loc.read fun m2 _ ha => ?_
   simp only [apply, Bu (ha n (by simp))]
   split at h
   ·simp_all
   ·cases h
 | ldi n off str cnt e sz ag =>
   simp only [apply] at h
   have hm : m' = m := by
    split at h
    ·split at h
     ·obtain ⟨u, _, h2⟩ := Option.map_eq_some_iff.1 h; simp_all
     ·cases h
    ·cases h
   subst hm
   refine Loc.read fun m2 _ ha => ?_
   simp only [apply, Bu (ha n (by simp))]
   split at h
   ·simp_all
   ·cases h
 | ldg b off sz ag =>
   cases ag <;> simp only [apply, cond_true, cond_false] at h <;> obtain ⟨u, h1, h2⟩ := Option.map_eq_some_iff.1 h <;> simp only [pJ] at h2 <;> obtain ⟨rfl, rfl, rfl⟩ := h2 <;>
    exact Loc.read fun m2 _ _ => by simp [apply, h1]
 | st n off vs =>
   simp only [apply] at h
   split at h
   ·rename_i g' ty cs hb
    obtain ⟨u, h1, h2⟩ := Option.map_eq_some_iff.1 h
    simp only [pJ] at h2
    obtain ⟨rfl, rfl, rfl⟩ := h2
    have hl := Mem.at_lt (Be hb).1
    refine ⟨by simp, fun k hk => Mem.at_set_other (fun e => hk (by simp [fpX, e])) _, fun m2 hl2 ha => ⟨m2.set n (some (g', .cells ty u)), ?_, by simp, fun k hk => ?_, fun k hk => Mem.at_set_other (fun e => hk (by simp [fpX, e])) _⟩⟩
    ·simp only [apply, Bu (ha n (by simp [fpX])), hb, h1, Option.map_some]
    ·exact An n _ hl2 (ha k (by simp_all))
   ·cases h
 | sti n off str cnt e vs =>
   simp only [apply] at h
   split at h
   ·rename_i g' ty cs hb
    split at h
    ·rename_i hc
     obtain ⟨u, h1, h2⟩ := Option.map_eq_some_iff.1 h
     simp only [pJ] at h2
     obtain ⟨rfl, rfl, rfl⟩ := h2
     refine ⟨by simp, fun k hk => Mem.at_set_other (fun e => hk (by simp [fpX, e])) _, fun m2 hl2 ha => ⟨m2.set n (some (g', .cells ty u)), ?_, by simp, fun k hk => ?_, fun k hk => Mem.at_set_other (fun e => hk (by simp [fpX, e])) _⟩⟩
     ·simp only [apply, Bu (ha n (by simp [fpX])), hb, h1, Option.map_some, if_pos hc]
     ·exact An n _ hl2 (ha k (by simp_all))
    ·cases h
   ·cases h
 | new ty cs sl =>
   simp only [apply] at h
   split at h
   ·rename_i hc
    simp only [oJ, pJ] at h
    obtain ⟨rfl, rfl, rfl⟩ := h
    refine ⟨by simp, fun k hk => Mem.at_set_other (fun e => hk (by simp [fpX, e])) _, fun m2 hl2 ha => ⟨m2.set nm (some (mkB true, .cells ty cs)), ?_, by simp, fun k hk => ?_, fun k hk => Mem.at_set_other (fun e => hk (by simp [fpX, e])) _⟩⟩
    ·have hn := ha nm (by simp [fpX])
     grind [apply]
    ·exact An nm _ hl2 (ha k (by simp_all))
   ·cases h
 | call f args => simp [apply] at h
theorem Loc.turn {f : Mem -> Option (E × SV × Mem)} {n : Nat} {g : E} {v : SV} {z : E × Blk} (h : ∀ m2 : Mem, m2.at n = m.at n -> f m2 = some (g, v, m2.set n (some z))) : Loc f m ([n], [n]) g v (m.set n (some z)) :=
 ⟨by simp, fun k hk => Mem.at_set_other (fun e => hk (by simp [e])) _, fun m2 hl2 ha => ⟨m2.set n (some z), h m2 (ha n (by simp)), by simp, fun k hk => An n _ hl2 (ha k (by simp_all)), fun k hk => Mem.at_set_other (fun e => hk (by simp [e])) _⟩⟩
theorem MN {d : D} {nm : Nat} {g : E} {v : SV} (h : Ez m d = some (g, v, m')) : Loc (fun m => Ez m d) m (fpX nm (.old d)) g v m' :=by cases h
theorem MO {d : D} {nm : Nat} (h : apply G m nm d = none) (hg : (Ez m d).isSome = true) {m2 : Mem} (hl : m2.length = m.length) (ha : Agree ((fpX nm (.old d)).1 ++ (fpX nm (.old d)).2) m m2) : apply G m2 nm d = none := by
 cases d with
 | ld n off sz ag => simp only [apply, Bu (ha n (by simp [fpX]))] at h ⊢; split at h <;> simp_all
 | ldi n off str cnt e sz ag => simp only [apply, Bu (ha n (by simp [fpX]))] at h ⊢; split at h <;> simp_all
 | st n off vs =>
   simp only [apply, Bu (ha n (by simp [fpX]))] at h ⊢
   grind [wrC]
 | sti n off str cnt e vs =>
   simp only [apply, Bu (ha n (by simp [fpX]))] at h ⊢
   split at h
   ·simp_all
   ·rfl
 | _ => simp [Ez] at hg
theorem AP {x : X} {nm : Nat} {g : E} {v : SV} (h : A0 P m nm x = some (g, v, m')) : Loc (fun m => A0 P m nm x) m (fpX nm x) g v m' := by
 cases x with
 | mnew t => cases h
 | mlk t n key ok => cases h
 | mup t n key val => cases h
 | mdl t kt ty n key => cases h
 | mln t ty n => cases h
 | vix t n str l0 lo hi i =>
   simp only [A0] at h
   split at h
   ·rename_i g' ty row own le c hn
    split at h
    ·rename_i V hV
     split at h
     ·rename_i hc
      simp only [oJ, pJ] at h
      obtain ⟨rfl, rfl, rfl⟩ := h
      exact Loc.read fun m2 _ ha => by
       have hv := (AG (m2 := m2) hV fun k hk => ha k (by grind [namesV])).1
       simp only [A0, ha n (by simp), hn, hv, if_pos hc]
     ·cases h
    ·cases h
   ·cases h
 | clr t ty e n le => cases h
 | lds n off str e sz ag => cases h
 | sts n off str e vs => cases h
 | ldl n str i o =>
   simp only [A0] at h
   split at h
   ·rename_i g' ty0 ty q own le c hn
    split at h
    ·rename_i hc
     simp only [oJ, pJ] at h
     obtain ⟨rfl, rfl, rfl⟩ := h
     refine ⟨by simp, fun k hk => Mem.at_set_other (fun e => hk (by simp [fpX, e])) _, fun m2 hl2 ha => ⟨m2.set nm (some (mkB true, .lst ty q false (LEN (CEL .x c i 0)) (CEL .x c i 0))), ?_, by simp, fun k hk => An (m2 := m2) nm _ hl2 (ha k (by simp_all)), fun k hk => Mem.at_set_other (fun e => hk (by simp [fpX, e])) _⟩⟩
     simp only [A0, ha n (by simp [fpX]), hn]
     rw [if_pos ⟨hc.1, hc.2.1, hc.2.2.1, by omega, by rw [ha nm (by simp [fpX])]; exact hc.2.2.2.2⟩]
    ·cases h
   ·cases h
 | stl n str i o y =>
   simp only [A0] at h
   split at h
   ·rename_i g0 ty0 ty' q own0 le0 c0 hn0
    split at h
    ·rename_i V0 hV0
     split at h
     ·rename_i g' ty ty2 q2 le c V hn hV
      split at h
      ·rename_i hc
       simp only [oJ, pJ] at h
       obtain ⟨rfl, rfl, rfl⟩ := h
       have hV0n := (AG (m2 := m) hV0 fun _ _ => rfl).2
       refine ⟨by simp [BG], fun k hk => ?_, fun m2 hl2 ha => ?_⟩
       ·grind [fpX, Mem.at_set_other, B1]
       ·have hAg : ∀ k, k ∈ n :: namesV y -> (shareL m2 V0.ns).at k = (shareL m V0.ns).at k := fun k hk => DM V0.ns hl2 (fun j hj => ha j (by simp [fpX, hV0n j hj])) k (ha k (by grind [fpX]))
        have v0 := (AG (m2 := m2) hV0 fun k hk => ha k (by simp [fpX, hk])).1
        have v1 := (AG (m2 := shareL m2 V0.ns) hV fun k hk => hAg k (by simp [hk])).1
        refine ⟨(shareL m2 V0.ns).set n (some (g', .lst ty (.ls ty' q .nil) true le (.app .x 0 6 [c, i, .lit .x (0 : Nat), V.c]))), ?_, by simp [BG], fun k hk => ?_, fun k hk => ?_⟩
        ·simp only [A0, ha n (by simp [fpX]), hn0, v0, v1, hAg n (by simp), hn]
         rw [if_pos hc]
        ·exact An n _ (by grind [BG]) (hAg k hk)
        grind [fpX, Mem.at_set_other, B1]
      ·cases h
     ·cases h
    ·cases h
   ·cases h
 | mkl t e n c =>
   simp only [A0] at h
   split at h
   ·rename_i ty' size bytes he hi
    split at h
    ·rename_i ks hks
     split at h
     ·rename_i hc
      simp only [oJ, pJ] at h
      obtain ⟨rfl, rfl, rfl⟩ := h
      refine ⟨by simp, fun k hk => Mem.at_set_other (fun e => hk (by simp [fpX, e])) _, fun m2 hl2 ha => ⟨m2.set nm (some (mkB true, .lst e (.ls ty' (Row.ofKs ks) .nil) true (LEN (.app .x 0 7 [n, NILL])) (.app .x 0 7 [n, NILL]))), ?_, by simp, fun k hk => An (m2 := m2) nm _ hl2 (ha k (by simp_all)), fun k hk => Mem.at_set_other (fun e => hk (by simp [fpX, e])) _⟩⟩
      simp only [A0, he, hi, hks]
      rw [if_pos ⟨hc.1, hc.2.1, hc.2.2.1, hc.2.2.2.1, hc.2.2.2.2.1, by omega, by rw [ha nm (by simp [fpX])]; exact hc.2.2.2.2.2.2⟩]
     ·cases h
    ·cases h
   ·cases h
 | _ => simp [A0] at h
theorem Kg {t e : Nat} {x : SV} {lo hi : Option E} {g : E} {v : SV} (h : subV P m t e x lo hi = some (g, v, m')) : m' = m /\ ∀ m2 : Mem, Agree (namesV x) m m2 -> subV P m2 t e x lo hi = some (g, v, m2) := by
 unfold subV at h
 split at h
 ·rename_i n le
  split at h
  ·rename_i g' ty row le' c hn
   simp only at h
   split at h
   ·rename_i hc
    simp only [oJ, pJ] at h
    obtain ⟨rfl, rfl, rfl⟩ := h
    exact ⟨rfl, fun m2 ha => by simp only [subV, ha n (by simp [namesV]), hn, if_pos hc]⟩
   ·cases h
  ·cases h
 ·cases h
theorem Ow {t e : Nat} {x : SV} {lo hi : Option E} (h : subV P m t e x lo hi = none) {m2 : Mem} (ha : Agree (namesV x) m m2) : subV P m2 t e x lo hi = none := by
 cases x with
 | ls n le => unfold subV at h ⊢; simp only [ha n (by simp [namesV])] at h ⊢; split at h <;> simp_all
 | _ => rfl
theorem MP {x : X} {nm : Nat} {g : E} {v : SV} (h : applyX P G m nm x = some (g, v, m')) : Loc (fun m => applyX P G m nm x) m (fpX nm x) g v m' := by
 cases x with
 | old d =>
   simp only [applyX] at h
   cases ha : apply G m nm d with
   | some r =>
     rw [ha] at h
     simp only [oJ] at h; subst h
     have hL := Ov ha
     refine ⟨hL.len, hL.frame, fun m2 hl hag => ?_⟩
     grind [Loc.loc, applyX]
   | none =>
     rw [ha] at h
     simp only at h
     have hL := MN (nm := nm) h
     refine ⟨hL.len, hL.frame, fun m2 hl hag => ?_⟩
     grind [Loc.loc, applyX, MO]
 | len x =>
   have key : ∀ {ty row}, (Ah m ty row x).map (fun V => (V.g, SV.sc V.le, m)) = some (g, v, m') -> m' = m /\ ∀ m2, Agree (namesV x) m m2 -> (Ah m2 ty row x).map (fun V => (V.g, SV.sc V.le, m2)) = some (g, v, m2) := fun {ty row} h => by
    obtain ⟨V, hV, he⟩ := Option.map_eq_some_iff.1 h
    grind [AG]
   simp only [applyX] at h
   split at h
   ·rename_i ty row ht
    obtain ⟨rfl, k⟩ := key h
    exact Loc.read fun m2 _ ha => by grind [applyX, DB]
   ·rename_i ht
    obtain ⟨rfl, k⟩ := key h
    exact Loc.read fun m2 _ ha => by grind [applyX, DB]
 | lde n str i o sz ag =>
   simp only [applyX] at h
   have hm : m' = m := by
    split at h
    ·split at h
     ·split at h
      ·obtain ⟨u, _, h2⟩ := Option.map_eq_some_iff.1 h; simp_all
      grind
     ·cases h
    ·cases h
   subst hm
   refine Loc.read fun m2 _ ha => ?_
   split at h
   ·rename_i g' ty row own le c hn
    split at h
    ·rename_i ks hr
     split at h
     ·rename_i hc
      obtain ⟨u, h1, h2⟩ := Option.map_eq_some_iff.1 h
      simp only [pJ] at h2
      obtain ⟨rfl, rfl, _⟩ := h2
      simp only [applyX, ha n (by simp), hn, hr]
      simp_all
     ·rename_i hc0
      split at h
      ·rename_i q e hs
       split at h
       ·rename_i hc
        simp only [oJ, pJ] at h
        obtain ⟨rfl, rfl, _⟩ := h
        simp only [applyX, ha n (by simp), hn, hr]
        simp_all
       ·cases h
      ·cases h
    ·cases h
   ·cases h
 | ste n str i o cs =>
   simp only [applyX] at h
   split at h
   ·rename_i g' ty row le c hn
    split at h
    ·rename_i ks hr
     split at h
     ·rename_i es he
      split at h
      ·rename_i hc
       simp only [oJ, pJ] at h
       obtain ⟨rfl, rfl, rfl⟩ := h
       refine ⟨by simp, fun k hk => Mem.at_set_other (fun e => hk (by simp [fpX, e])) _, fun m2 hl2 ha => ⟨m2.set n (some (g', .lst ty row true le (.app .x 0 6 (c :: i :: .lit .x o :: es)))), ?_, by simp, fun k hk => ?_, fun k hk => Mem.at_set_other (fun e => hk (by simp [fpX, e])) _⟩⟩
       ·simp only [applyX, ha n (by simp [fpX]), hn, hr, he, if_pos hc]
       ·exact An n _ hl2 (ha k (by simp_all))
      ·cases h
     ·cases h
    ·cases h
   ·cases h
 | app t e rt x y =>
   simp only [applyX] at h
   split at h
   ·rename_i ks hks
    split at h
    ·rename_i V size bytes hV hi
     split at h
     ·rename_i hc
      have hc' := hc
      obtain ⟨rfl, ho, ht, hn1, hn2⟩ := hc
      have put : ∀ (z : E × Blk) (m2 : Mem), m2.length = m.length -> Agree (namesV x ++ namesV y ++ (namesV x ++ [nm])) m m2 -> ((AA m2 V.ns).set nm (some z)).length = m2.length /\ (∀ n ∈ namesV x ++ [nm], Mem.at ((AA m2 V.ns).set nm (some z)) n = Mem.at ((AA m V.ns).set nm (some z)) n) := fun z m2 hl ha => by
       refine ⟨by simp [Ay], fun n hn => ?_⟩
       have hVn := (AG (m2 := m) hV fun _ _ => rfl).2
       exact An nm _ (by grind [Ay]) (Ek V.ns hl (fun k hk => ha k (by simp [hVn k hk])) n (ha n (by simp_all)))
      have frm : ∀ (z : E × Blk) (m2 : Mem) n, n ∉ namesV x ++ [nm] -> Mem.at ((AA m2 V.ns).set nm (some z)) n = m2.at n := fun z m2 n hn => by
       simp only [List.mem_append, List.mem_singleton, not_or] at hn
       have hVn := (AG (m2 := m) hV fun _ _ => rfl).2
       grind [Mem.at_set_other, El]
      have pre : ∀ m2 : Mem, m2.length = m.length -> Agree (namesV x ++ namesV y ++ (namesV x ++ [nm])) m m2 -> tyL m2 x = tyL m x /\ Ah m2 e (Row.ofKs ks) x = some V /\ m2.at nm = m.at nm := fun m2 hl ha =>
       ⟨DB fun n hn => ha n (by simp [hn]), (AG hV fun n hn => ha n (by simp [hn])).1, ha nm (by simp)⟩
      split at h
      ·rename_i n2 len cp
       split at h
       ·rename_i g2 ty2 cs hb
        split at h
        ·rename_i hl
         obtain ⟨c', hs, he⟩ := Option.map_eq_some_iff.1 h
         simp only [pJ] at he
         obtain ⟨rfl, rfl, rfl⟩ := he
         refine ⟨by simp [Ay], fun n hn => frm _ m n hn, fun m2 hl2 ha => ?_⟩
         obtain ⟨p1, p2, p3⟩ := pre m2 hl2 ha
         obtain ⟨q1, q2⟩ := put (mkB true, .lst e (Row.ofKs ks) true (LEN c') c') m2 hl2 ha
         refine ⟨_, ?_, q1, q2, fun n hn => frm _ m2 n hn⟩
         simp only [applyX, p1]
         simp only [hks, p2, hi]
         rw [if_pos ⟨trivial, ho, ht, by omega, by rw [p3]; exact hn2⟩]
         simp only [Bu (ha n2 (by simp [fpX, namesV])), hb, if_pos hl, hs, Option.map_some]
        ·cases h
       ·cases h
      ·rename_i hy
       split at h
       ·rename_i V2 hV2
        simp only [oJ, pJ] at h
        obtain ⟨rfl, rfl, rfl⟩ := h
        refine ⟨by simp [Ay], fun n hn => frm _ m n hn, fun m2 hl2 ha => ?_⟩
        obtain ⟨p1, p2, p3⟩ := pre m2 hl2 ha
        obtain ⟨q1, q2⟩ := put (mkB true, .lst e (Row.ofKs ks) true (LEN (.app .x 0 4 [V.c, V2.c])) (.app .x 0 4 [V.c, V2.c])) m2 hl2 ha
        refine ⟨_, ?_, q1, q2, fun n hn => frm _ m2 n hn⟩
        have hv2 := (AG (m2 := m2) hV2 fun n hn => ha n (by simp [fpX, hn])).1
        grind [applyX, Ah]
       ·cases h
     ·cases h
    ·cases h
   ·cases h
 | sub t e x lo hi =>
   simp only [applyX] at h
   cases hsv : subV P m t e x lo hi with
   | some r =>
     rw [hsv] at h
     simp only [oJ] at h; subst h
     obtain ⟨rfl, h2⟩ := Kg hsv
     refine ⟨rfl, fun _ _ => rfl, fun m2 hl ha => ⟨m2, by simp only [applyX]; rw [h2 m2 fun n hn => ha n (by simp [fpX, hn])], rfl, fun n hn => ha n (by simp_all), fun _ _ => rfl⟩⟩
   | none =>
   rw [hsv] at h
   simp only at h
   split at h
   ·rename_i ty row hrow
    split at h
    ·rename_i V0 hV0
     split at h
     ·rename_i V hV
      split at h
      ·rename_i hc
       simp only [oJ, pJ] at h
       obtain ⟨rfl, rfl, rfl⟩ := h
       have hV0n := (AG (m2 := m) hV0 fun _ _ => rfl).2
       refine ⟨by simp [BG], fun n hn => ?_, fun m2 hl2 ha => ?_⟩
       ·grind [fpX, Mem.at_set_other, B1]
       ·have hAg : ∀ n, n ∈ namesV x ++ [nm] -> (shareL m2 V0.ns).at n = (shareL m V0.ns).at n := fun n hn => DM V0.ns hl2 (fun k hk => ha k (by simp [fpX, hV0n k hk])) n (ha n (by grind [fpX]))
        refine ⟨(shareL m2 V0.ns).set nm (some (mkB true, .lst e row false (LEN (.app .x 0 5 [V.c, lo.getD (.lit (.i .i64) 0), hi.getD V.le])) (.app .x 0 5 [V.c, lo.getD (.lit (.i .i64) 0), hi.getD V.le]))), ?_, by simp [BG], fun n hn => ?_, fun n hn => ?_⟩
        ·have v0 := (AG (m2 := m2) hV0 fun n hn => ha n (by simp [fpX, hn])).1
         have v1 := (AG (m2 := shareL m2 V0.ns) hV fun n hn => hAg n (by simp [hn])).1
         simp only [applyX, Ow hsv (m2 := m2) fun n hn => ha n (by simp [fpX, hn]), DB (v := x) (m := m) (m2 := m2) fun n hn => ha n (by simp [fpX, hn]), hrow, v0, v1]
         simp_all
        ·exact An nm _ (by grind [BG]) (hAg n hn)
        grind [fpX, Mem.at_set_other, B1]
      ·cases h
     ·cases h
    ·cases h
   ·cases h
 | mk t e n c =>
   simp only [applyX] at h
   split at h
   ·rename_i ks size bytes hks hi
    split at h
    ·rename_i hc
     simp only [oJ, pJ] at h
     obtain ⟨rfl, rfl, rfl⟩ := h
     refine ⟨by simp, fun k hk => Mem.at_set_other (fun e => hk (by simp [fpX, e])) _, fun m2 hl2 ha => ⟨m2.set nm (some (mkB true, .lst e (Row.ofKs ks) true (LEN (.app .x 0 7 (n :: ks.map fun k => .lit k 0))) (.app .x 0 7 (n :: ks.map fun k => .lit k 0)))), ?_, ?_, fun k hk => An (m2 := m2) nm _ hl2 (ha k (by simp_all)), fun k hk => Mem.at_set_other (fun e => hk (by simp [fpX, e])) _⟩⟩
     ·simp only [applyX, hks, hi]
      rw [if_pos ⟨hc.1, hc.2.1, hc.2.2.1, hc.2.2.2.1, hc.2.2.2.2.1, by omega, by rw [ha nm (by simp [fpX])]; exact hc.2.2.2.2.2.2⟩]
     ·simp
    ·cases h
   ·cases h
 | bl e ks cs len =>
   simp only [applyX] at h
   split at h
   ·rename_i c' size bytes hks hi
    split at h
    ·rename_i hc
     simp only [oJ, pJ] at h
     obtain ⟨rfl, rfl, rfl⟩ := h
     refine ⟨by simp, fun k hk => Mem.at_set_other (fun e => hk (by simp [fpX, e])) _, fun m2 hl2 ha => ⟨m2.set nm (some (mkB true, .lst e (Row.ofKs ks) true (.lit (.i .i64) len) c')), ?_, ?_, fun k hk => An (m2 := m2) nm _ hl2 (ha k (by simp_all)), fun k hk => Mem.at_set_other (fun e => hk (by simp [fpX, e])) _⟩⟩
     ·simp only [applyX, hks, hi]
      rw [if_pos ⟨hc.1, hc.2.1, by omega, by rw [ha nm (by simp [fpX])]; exact hc.2.2.2⟩]
     ·simp
    ·cases h
   ·cases h
 | gsl e b off n =>
   simp only [applyX] at h
   split at h
   ·rename_i ks hks
    split at h
    ·rename_i cs hr
     split at h
     ·rename_i c' hs
      split at h
      ·rename_i hc
       simp only [oJ, pJ] at h
       obtain ⟨rfl, rfl, rfl⟩ := h
       refine ⟨by simp, fun k hk => Mem.at_set_other (fun e => hk (by simp [fpX, e])) _, fun m2 hl2 ha => ⟨m2.set nm (some (mkB true, .lst e (Row.ofKs ks) false (.lit (.i .i64) n) c')), ?_, by simp, fun k hk => An (m2 := m2) nm _ hl2 (ha k (by simp_all)), fun k hk => Mem.at_set_other (fun e => hk (by simp [fpX, e])) _⟩⟩
       simp only [applyX, hks, hr, hs]
       rw [if_pos ⟨hc.1, hc.2.1, hc.2.2.1, by omega, by rw [ha nm (by simp [fpX])]; exact hc.2.2.2.2⟩]
      ·cases h
     ·cases h
    ·cases h
   ·cases h
 | mnew t => exact AP (P := P) (nm := nm) (x := .mnew t) h
 | mlk t n k ok => exact AP (P := P) (nm := nm) (x := .mlk t n k ok) h
 | mup t n k w1 => exact AP (P := P) (nm := nm) (x := .mup t n k w1) h
 | mdl t kt ty n k => exact AP (P := P) (nm := nm) (x := .mdl t kt ty n k) h
 | mln t ty n => exact AP (P := P) (nm := nm) (x := .mln t ty n) h
 | vix t n str l0 lo hi i => exact AP (P := P) (nm := nm) (x := .vix t n str l0 lo hi i) h
 | clr t ty e n le => exact AP (P := P) (nm := nm) (x := .clr t ty e n le) h
 | lds n off str e sz ag => exact AP (P := P) (nm := nm) (x := .lds n off str e sz ag) h
 | sts n off str e cs => exact AP (P := P) (nm := nm) (x := .sts n off str e cs) h
 | ldl n str i o => exact AP (P := P) (nm := nm) (x := .ldl n str i o) h
 | stl n str i o y => exact AP (P := P) (nm := nm) (x := .stl n str i o y) h
 | mkl t e n c => exact AP (P := P) (nm := nm) (x := .mkl t e n c) h
end
abbrev FP := List Nat × List Nat
abbrev Tab := Nat -> List Ent
def B9 (P : Program) (G : Glob) (l : Tabs) (T : Tab) : Prop := ∀ f e, e ∈ T f -> e.f = f /\ l.get e.key = some e /\ EntryOK P G e
section
variable {m m2 m' : Mem}
theorem Hb {ty : Nat} {row : Row} : ∀ {v : SV} {V : LV}, Ah m ty row v = some V -> V.ns = namesV v
 | .ls n le, V, h => by
   simp only [Ah] at h
   split at h
   ·split at h
    ·simp only [oJ] at h; subst h; rfl
    ·cases h
   ·cases h
 | .sv n str l0 lo hi, V, h => by
   simp only [Ah] at h
   split at h
   ·split at h
    ·simp only [oJ] at h; subst h; rfl
    ·cases h
   ·cases h
 | .nilp c, V, h => by
   cases c <;> simp only [Ah, oJ, reduceCtorEq] at h
   subst h; rfl
 | .ite p a b, V, h => by
   simp only [Ah] at h
   split at h
   ·rename_i x y hx hy
    split at h
    ·simp only [oJ] at h; subst h
     simp only [namesV, Hb hx, Hb hy]
    ·cases h
   ·cases h
 | .sc _, V, h | .ptr .., V, h | .pi .., V, h | .sl .., V, h | .pe .., V, h | .mp .., V, h | .oq .., V, h | .fn .., V, h | .agg .., V, h | .tup .., V, h | .gd .., V, h | .und, V, h | .gl .., V, h => by simp [Ah] at h
mutual
theorem Lz : ∀ (s : Sh) (acc : List Src) (v : SV) (r : List E × List Src × E), s.get m acc v = some r -> Agree (r.2.1.flatMap Src.ns) m m2 -> s.get m2 acc v = some r
 | .sc k, acc, v, r, h, ha => by cases v <;> simp only [Sh.get, reduceCtorEq] at h ⊢; exact h
 | .lt k n, acc, v, r, h, ha => by
   cases v with
   | sc e => cases e <;> simp only [Sh.get, reduceCtorEq] at h ⊢; exact h
   | _ => simp [Sh.get] at h
 | .agg l, acc, v, r, h, ha => by cases v <;> simp only [Sh.get, reduceCtorEq] at h ⊢; exact B2 l acc _ r h ha
 | .lst ty row own, acc, v, r, h, ha => by
   have h' : B0 m ty row own v = some r := by cases v <;> simpa only [Sh.get] using h
   have : B0 m2 ty row own v = some r := by
    unfold B0 at h' ⊢
    split at h'
    ·rename_i V hV
     split at h'
     ·rename_i ho
      simp only [oJ] at h'; subst h'
      have := (AG (m2 := m2) hV (by rw [<- Hb hV]; exact fun n hn => ha n (by grind [Src.ns, EB]))).1
      simp_all
     ·cases h'
    ·cases h'
   grind [Sh.get]
 | .lsn ty row, acc, v, r, h, ha => by
   have h' : getLsn m ty row v = some r := by cases v <;> simpa only [Sh.get] using h
   have h0 := h'
   obtain ⟨n, le, g, c, rfl, hn, rfl, h3, h4, h5⟩ := C2 h'
   have hx := ha n (by simp [Src.ns])
   grind [getLsn, Sh.get]
 | .obj ty cs, acc, v, r, h, ha => by
   cases v with
   | ptr n o =>
     cases o with
     | zero =>
       simp only [Sh.get] at h ⊢
       split at h
       ·rename_i g ty' vs hb
        split at h
        ·rename_i hty
         obtain ⟨q, hq, rfl⟩ := Option.map_eq_some_iff.1 h
         have hn := ha n (by simp [Src.ns])
         have := B2 cs _ vs q hq fun k hk => ha k (by simp_all)
         grind [Bu]
        ·cases h
       ·cases h
     | succ o => simp [Sh.get] at h
   | _ => simp [Sh.get] at h
 | .pin j off str, acc, v, r, h, ha => by
   cases v <;> simp only [Sh.get, reduceCtorEq] at h ⊢
   exact h
 | .ref j, acc, v, r, h, ha => by
   cases v with
   | ptr n o =>
     cases o with
     | zero => grind [Sh.get]
     | succ o => simp [Sh.get] at h
   | _ => simp [Sh.get] at h
 | .fnc f l, acc, v, r, h, ha => by
   cases v <;> simp only [Sh.get, reduceCtorEq] at h ⊢
   split at h
   ·rename_i hf; rw [if_pos hf]; exact B2 l acc _ r h ha
   ·cases h
 | .nul c, acc, v, r, h, ha => by cases v <;> simp only [Sh.get, reduceCtorEq] at h ⊢; exact h
 | .tup l, acc, v, r, h, ha => by cases v <;> simp only [Sh.get, reduceCtorEq] at h ⊢; exact B2 l acc _ r h ha
 | .opt s, acc, v, r, h, ha => by
   have h' : BH (mkB true :: s.ks.map fun k => E.lit k 0, List.replicate s.nn Src.dm, mkB true) v (fun u => s.get m acc u) = some r := by cases v <;> simpa only [Sh.get] using h
   have : BH (mkB true :: s.ks.map fun k => E.lit k 0, List.replicate s.nn Src.dm, mkB true) v (fun u => s.get m2 acc u) = some r := by
    unfold BH at h' ⊢
    split at h'
    ·exact h'
    ·split at h'
     ·rename_i hc
      obtain ⟨q, hq, rfl⟩ := Option.map_eq_some_iff.1 h'
      have hx := Lz s acc _ q hq ha
      simp_all
     ·cases h'
    ·cases h'
   grind [Sh.get]
 | .und, acc, v, r, h, ha => by grind [Sh.get]
 | .mp ks vs kag vag, acc, v, r, h, ha => by
   cases v <;> simp only [Sh.get, reduceCtorEq] at h ⊢
   case mp k =>
    obtain ⟨g, c, h1, rfl, h3, h4⟩ := Dl h
    have hn := ha _ (by simp only [List.flatMap_cons, Src.ns]; exact List.mem_append_left _ (List.mem_singleton.2 rfl))
    grind [MG]
   case ite p a b =>
    obtain ⟨q, h1, rfl⟩ := Option.map_eq_some_iff.1 h
    have := MH h1 fun n hn => ha n (by grind [Src.ns, EB])
    grind [Ok]
 | .seg ty ks cs, acc, v, r, h, ha => by
   cases v with
   | ptr n o =>
     cases o with
     | zero =>
       simp only [Sh.get] at h ⊢
       split at h
       ·rename_i g ty' vs ks' c hb
        split at h
        ·rename_i hty
         obtain ⟨q, hq, rfl⟩ := Option.map_eq_some_iff.1 h
         have hn := ha n (by simp [Src.ns])
         have := B2 cs _ vs q hq fun k hk => ha k (by simp_all)
         grind [blkS]
        ·cases h
       ·cases h
     | succ o => simp [Sh.get] at h
   | _ => simp [Sh.get] at h
theorem B2 : ∀ (l : List Sh) (acc : List Src) (vs : List SV) (r : List E × List Src × E), Sh.getL m l acc vs = some r -> Agree (r.2.1.flatMap Src.ns) m m2 -> Sh.getL m2 l acc vs = some r
 | [], acc, [], r, h, ha => by grind [Sh.getL]
 | [], acc, _ :: _, r, h, ha => by simp [Sh.getL] at h
 | _ :: _, acc, [], r, h, ha => by simp [Sh.getL] at h
 | s :: l, acc, v :: vs, r, h, ha => by
   simp only [Sh.getL] at h ⊢
   split at h
   ·rename_i es ns g hs
    obtain ⟨q, hq, rfl⟩ := Option.map_eq_some_iff.1 h
    simp only [List.flatMap_append] at ha
    have h1 := Lz s acc v _ hs ha.left
    have h2 := B2 l _ vs q hq ha.right
    simp_all
   ·cases h
end
theorem HQ {srcs : List Src} : ∀ {os : List Ob} {vs : List SV} {l : List (Nat × E × Blk)}, Cf srcs m os vs = some l -> Agree (srcs.flatMap Src.ns) m m2 -> Cf srcs m2 os vs = some l
 | [], vs, l, h, ha => h
 | o :: r, vs, l, h, ha => by
   simp only [Cf] at h ⊢
   split at h
   ·rename_i n hn
    have hx := ha n (List.mem_flatMap.2 ⟨_, List.mem_of_getElem? hn, by simp [Src.ns]⟩)
    split at h
    ·rename_i g b0 hm
     split at h
     ·rename_i hty
      obtain ⟨l', hl, rfl⟩ := Option.map_eq_some_iff.1 h
      simp only [hn, hx, hm, if_pos hty, HQ hl ha, Option.map_some]
     ·cases h
    ·cases h
   ·cases h
theorem F9 {e : Ent} {nm : Nat} {args : List SV} {g : E} {v : SV} (h : Cn e m nm args = some (g, v, m')) :
 Loc (fun m => Cn e m nm args) m (fpC e m nm args) g v m' /\ ∀ m2, Agree ((fpC e m nm args).1 ++ (fpC e m nm args).2) m m2 -> fpC e m2 nm args = fpC e m nm args := by
 have h0 := h
 unfold Cn at h
 split at h
 ·rename_i es srcs g0 hget
  simp only at h
  split at h
  ·rename_i sets hsets
   split at h
   ·rename_i hc
    simp only [oJ, pJ] at h
    obtain ⟨rfl, rfl, rfl⟩ := h
    have hfp : fpC e m nm args = (srcs.flatMap Src.ns, ((mutJ e.pgen.2).filter fun j => !e.kp.contains j).flatMap (srcOf srcs) ++ (List.range (Sh.nnL e.outL)).map fun i => nm + i) := by simp only [fpC, hget]
    have hfp2 : ∀ m2, Agree ((fpC e m nm args).1 ++ (fpC e m nm args).2) m m2 -> fpC e m2 nm args = fpC e m nm args := fun m2 ha => by
     grind [fpC, B2, Agree.left]
    refine ⟨?_, hfp2⟩
    rw [hfp]
    have hdeadW : ∀ n ∈ ((mutJ e.pgen.2).filter fun j => !e.kp.contains j && !(e.os.any fun o => o.j == j)).flatMap (srcOf srcs), n ∈ ((mutJ e.pgen.2).filter fun j => !e.kp.contains j).flatMap (srcOf srcs) := fun n hn => by
     grind
    have hsetW : ∀ y ∈ sets, y.1 ∈ ((mutJ e.pgen.2).filter fun j => !e.kp.contains j).flatMap (srcOf srcs) := fun y hy => by
     obtain ⟨j, b0, X, s1, s2, s4, s5⟩ := BL hsets y hy
     obtain ⟨o, ho1, ho2⟩ := List.mem_map.1 s2
     have := List.all_eq_true.1 hc.2.2.2.2.2.1 o ho1
     simp only [Bool.and_eq_true, List.contains_iff_mem] at this
     rw [ho2] at this
     exact List.mem_flatMap.2 ⟨j, List.mem_filter.2 ⟨this.1, this.2⟩, by simp [srcOf, s1, Src.ns]⟩
    have hnewW : ∀ y ∈ ((Sh.genL (Ew.evC es (outV e.key nm es e.oks)) (nvC srcs e.nn nm (Sh.nnL e.outL)) e.outL (mkB true) e.np e.nn).2.map fun x => (nvC srcs e.nn nm (Sh.nnL e.outL) x.1, x.2.1, x.2.2)), y.1 ∈ (List.range (Sh.nnL e.outL)).map fun i => nm + i := fun y hy => by
     obtain ⟨x, hx, rfl⟩ := List.mem_map.1 hy
     obtain ⟨⟨a, b⟩, _⟩ := (BB (p := fun _ => True) e.outL (mkB true) e.np e.nn (fun _ _ _ => trivial) (fun _ _ => trivial)).2 x hx
     refine List.mem_map.2 ⟨x.1 - e.nn, List.mem_range.2 (by omega), ?_⟩
     grind [nvC]
    have frm : ∀ (m2 : Mem) n, n ∉ ((mutJ e.pgen.2).filter fun j => !e.kp.contains j).flatMap (srcOf srcs) ++ ((List.range (Sh.nnL e.outL)).map fun i => nm + i) ->
     (AO (AO (AA m2 (((mutJ e.pgen.2).filter fun j => !e.kp.contains j && !(e.os.any fun o => o.j == j)).flatMap (srcOf srcs))) sets) ((Sh.genL (Ew.evC es (outV e.key nm es e.oks)) (nvC srcs e.nn nm (Sh.nnL e.outL)) e.outL (mkB true) e.np e.nn).2.map fun x => (nvC srcs e.nn nm (Sh.nnL e.outL) x.1, x.2.1, x.2.2))).at n = m2.at n := fun m2 n hn => by
     simp only [List.mem_append, not_or] at hn
     exact (En _ fun y hy e' => hn.2 (by grind)).trans ((En _ fun y hy e' => hn.1 (by grind)).trans (El _ fun hk => hn.1 (hdeadW n hk)))
    refine ⟨by rw [Bp, Bp, Ay], fun n hn => frm m n hn, fun m2 hl ha => ⟨_, ?_, ?_, fun n hn => ?_, fun n hn => frm m2 n hn⟩⟩
    ·have hg2 := B2 e.ps [] args _ hget ha.left
     have hs2 := HQ hsets ha.left
     have hfree : Gs m2 nm (Sh.nnL e.outL) = true := by
      unfold Gs
      rw [List.all_eq_true]
      intro i hi
      obtain ⟨r1, r2⟩ := Dm hc.2.2.1 (List.mem_range.1 hi)
      have := ha (nm + i) (by simp_all)
      rw [this]
      simp only [hl, r1, r2, decide_true, Bool.and_self]
     grind [Cn]
    ·rw [Bp, Bp, Ay]
    ·refine Em _ (by grind [Bp, Ay]) n (Em _ (by grind [Ay]) n (Ek _ hl (fun k hk => ha k ?_) n (ha n (List.mem_append_right _ hn))))
     grind
   ·cases h
  ·cases h
 ·cases h
end
mutual
def allN : SV -> List Nat
 | .ptr n _ | .pi n _ _ _ | .sl n _ _ _ | .ls n _ | .sv n _ _ _ _ | .pe n _ _ _ | .mp n | .oq n => [n]
 | .fn _ cs | .agg cs | .tup cs => allNL cs
 | .gd _ v => allN v
 | .ite _ a b => allN a ++ allN b
 | _ => []
def allNL : List SV -> List Nat
 | [] => []
 | v :: r => allN v ++ allNL r
end
mutual
theorem DC {p : Nat -> Prop} : ∀ v : SV, (∀ n ∈ allN v, p n) -> v.ok p
 | .ptr n _, h | .pi n _ _ _, h | .sl n _ _ _, h | .ls n _, h | .sv n _ _ _ _, h | .pe n _ _ _, h | .mp n, h | .oq n, h => h n (by simp [allN])
 | .fn _ cs, h | .agg cs, h | .tup cs, h => Hc cs h
 | .gd _ v, h => DC v h
 | .ite _ a b, h => ⟨DC a fun n hn => h n (by grind [allN]), DC b fun n hn => h n (by grind [allN])⟩
 | .sc _, _ | .und, _ | .nilp _, _ | .gl _ _, _ => by simp [SV.ok]
theorem Hc {p : Nat -> Prop} : ∀ l : List SV, (∀ n ∈ allNL l, p n) -> SV.okL p l
 | [], _ => trivial
 | v :: r, h => ⟨DC v fun n hn => h n (by grind [allNL]), Hc r fun n hn => h n (by grind [allNL])⟩
end
def virtB : Blk -> Blk
 | .lst ty row _ le c => .lst ty row false le c
 | _ => .dead
def virt (m : Mem) : Mem := m.map fun x => x.map fun y => (y.1, virtB y.2)
theorem CP (m : Mem) (n : Nat) : (virt m).at n = (m.at n).map fun y => (y.1, virtB y.2) := by
 grind [virt, Mem.at]
theorem Fa (m : Mem) : (virt m).length = m.length := by simp [virt]
theorem Sx (m : Mem) (n : Nat) : al (virt m) n ↔ al m n := by grind [al, CP]
def AZ (nm k n : Nat) : Bool := decide (nm <= n) && decide (n < nm + k)
def copyN (m m1 : Mem) (nm k : Nat) : Mem := zipR (fun n x y => bif AZ nm k n then x else y) 0 m1 m
theorem Ga (m m1 : Mem) (nm k : Nat) : (copyN m m1 nm k).length = m.length := E7 _ _ _
theorem He (m m1 : Mem) (nm k n : Nat) (h : n < m.length) : (copyN m m1 nm k).at n = bif AZ nm k n then m1.at n else m.at n := by
 grind [copyN, Gt]
theorem Cg (m m1 : Mem) {nm k n : Nat} (h : AZ nm k n = false) : (copyN m m1 nm k).at n = m.at n := by
 grind [He, Mem.at, copyN, Ga]
def newB (x : Option (E × Blk)) : Bool :=
 match x with
 | some (_, .lst _ row true _ _) => (Cm row).isSome
 | _ => false
def JA (m1 : Mem) (nm k : Nat) : Bool := (List.range k).all fun i => decide (nm + i < m1.length) && newB (m1.at (nm + i))
def Fb (e : Ent) (m : Mem) (nm : Nat) (args : List SV) : Option (E × SV × Mem) :=
 match Cn e (virt m) nm args with
 | some (g, v, m1) => if JA m1 nm (Sh.nnL e.outL) = true /\ ((allN v).all fun n => AZ nm (Sh.nnL e.outL) n) = true then some (g, v, copyN m m1 nm (Sh.nnL e.outL)) else none
 | none => none
def JB (lent : Bool) (e : Ent) (m : Mem) (nm : Nat) (args : List SV) : Option (E × SV × Mem) := bif lent then Fb e m nm args else Cn e m nm args
def fpCX (lent : Bool) (e : Ent) (m : Mem) (nm : Nat) (args : List SV) : List Nat × List Nat := fpC e (bif lent then virt m else m) nm args
section
variable {P : Program} {ρ : Nat -> Int} {G : Glob} {w0 w : World} {M0 Im0 Im : Nat -> Prop} {ad : Nat -> Hd} {m m2 m' : Mem}
theorem Ed {nm k n : Nat} : AZ nm k n = true ↔ nm <= n /\ n < nm + k := by simp [AZ]
theorem Ca {m1 : Mem} {nm k n : Nat} (h : JA m1 nm k = true) (hn : AZ nm k n = true) : n < m1.length /\ newB (m1.at n) = true := by
 obtain ⟨a, b⟩ := Ed.1 hn
 have := List.all_eq_true.1 h (n - nm) (List.mem_range.2 (by omega))
 simp_all
theorem Gb {x : Option (E × Blk)} (h : newB x = true) : ∃ g ty ks le c, x = some (g, .lst ty (Row.ofKs ks) true le c) := by
 unfold newB at h
 split at h
 ·rename_i g ty row le c
  obtain ⟨ks, hk⟩ := Option.isSome_iff_exists.1 h
  exact ⟨g, ty, ks, le, c, by rw [E1 hk]⟩
 ·cases h
theorem Q0 {F : Fam} (hR : Rel F ρ w0 M0 Im0 ad m w) : Rel F ρ w (fun _ => False) (fun b => b < w.heap.size) ad (virt m) w := by
 obtain ⟨hM, Im, h1, h2, hI⟩ := hR
 refine ⟨fun b hb => hb.elim, fun b => b < w.heap.size, fun b hb => hb, fun b hb => Or.inl hb, ⟨fun n g x hn hg => ?_, fun n g x hn => ?_, fun n k g x g' y b a1 a2 a3 a4 a5 a6 => ?_, fun b hb => hb, Fr.refl _ _⟩⟩
 ·rw [CP] at hn
  obtain ⟨⟨g0, x0⟩, h0, he⟩ := Option.map_eq_some_iff.1 hn
  simp only [pJ] at he
  obtain ⟨rfl, rfl⟩ := he
  obtain ⟨i1, i2⟩ := hI.ent n g0 x0 h0 hg
  cases x0 with
  | lst ty row own le c =>
    obtain ⟨j1, j2, j3⟩ := i1
    refine ⟨⟨j1, j2, ?_⟩, fun b hb => by simp [virtB, mutB] at hb⟩
    grind [ShL.fr, RelI.im, E.den, dc, OwL.share, mutB]
  | _ => exact ⟨trivial, fun b hb => by simp [virtB, mutB] at hb⟩
 ·rw [CP] at hn
  obtain ⟨⟨g0, x0⟩, h0, he⟩ := Option.map_eq_some_iff.1 hn
  simp only [pJ] at he
  obtain ⟨rfl, rfl⟩ := he
  cases x0 <;> trivial
 ·exfalso
  rw [CP] at a1
  obtain ⟨⟨g0, x0⟩, h0, he⟩ := Option.map_eq_some_iff.1 a1
  simp only [pJ] at he
  obtain ⟨rfl, rfl⟩ := he
  cases x0 <;> simp [virtB, mutB] at a5
theorem La {l : Tabs} {e : Ent} (he : l.get e.key = some e) (hE : EntryOK P G e) (hG : GOK G Im0 w0) (hR : Rel l.F ρ w0 M0 Im0 ad m w) {nm : Nat} {args : List SV} {g : E} {v : SV}
 (h : Fb e m nm args = some (g, v, m')) : g.kind = .b /\ (g.tt l.F ρ = true -> Calls P e.f (SV.concL l.F ρ ad args).toArray w fun en w' => ∃ ad', en = .returned (v.conc l.F ρ ad') /\ Rel l.F ρ w0 M0 Im0 ad' m' w' /\ Ext ad ad' m m' /\ v.ok (al m')) := by
 unfold Fb at h
 split at h
 ·rename_i g1 v1 m1 hc
  split at h
  ·rename_i hok
   simp only [oJ, pJ] at h
   obtain ⟨rfl, rfl, rfl⟩ := h
   have hGw := hG.now hR
   have hGV : GOK G (fun b => b < w.heap.size) w := fun F ρ b off v hv => by
    obtain ⟨a, b', c, d⟩ := hGw F ρ b off v hv
    simp_all
   obtain ⟨k1, k2⟩ := GQ he hE hGV (Q0 hR) hc
   refine ⟨k1, fun hg => (k2 hg).mono ?_⟩
   rintro en w' ⟨ad', rfl, r2, r3, r4⟩
   obtain ⟨hM, Im, h1, h2, hI⟩ := hR
   obtain ⟨_, Im1, q1, q2, qI⟩ := r2
   let k := Sh.nnL e.outL
   have hnl : ∀ n, AZ nm k n = true -> n < m.length := fun n hn => by
    have hl : m1.length = (virt m).length := (F9 hc).1.len
    have := (Ca hok.1 hn).1
    grind [Fa]
   have hfree : ∀ n, AZ nm k n = true -> m.at n = none := fun n hn => by
    have hf : Gs (virt m) nm k = true := by
     have hc' := hc
     unfold Cn at hc'
     split at hc'
     ·grind
     ·cases hc'
    obtain ⟨a, b⟩ := Ed.1 hn
    have := (Dm hf (i := n - nm) (by omega)).2
    simp_all [CP]
   have hAt : ∀ n, (copyN m m1 nm k).at n = bif AZ nm k n then m1.at n else m.at n := fun n => by
    grind [AZ, Cg, He]
   have hkeep : ∀ n, al m n -> al (copyN m m1 nm k) n := fun n hn => by
    grind [al, AZ]
   have hsame : ∀ n, al m n -> ad n = ad' n := fun n hn => r3.same n ((Sx m n).2 hn)
   have hnewal : ∀ n, AZ nm k n = true -> al (copyN m m1 nm k) n := fun n hn => by
    unfold al
    rw [hAt, hn]
    obtain ⟨g', ty, ks, le, c, e'⟩ := Gb (Ca hok.1 hn).2
    simp_all
   refine ⟨ad', rfl, ⟨hM, Im, h1, h2, ?_⟩, ⟨hsame, hkeep⟩, DC _ fun n hn => hnewal n (List.all_eq_true.1 hok.2 n hn)⟩
   have hnewE : ∀ n g x, (copyN m m1 nm k).at n = some (g, x) -> AZ nm k n = true -> g.tt l.F ρ = true -> BlkOK l.F ρ Im ad' n w' x /\ ∀ b, mutB l.F ρ ad' n x = some b -> w.heap.size <= b /\ b < w'.heap.size := fun n g x hn hnew hg' => by
    rw [hAt, hnew] at hn
    obtain ⟨i1, i2⟩ := qI.ent n g x hn hg'
    obtain ⟨g0, ty, ks, le, c, e'⟩ := Gb (Ca hok.1 hnew).2
    simp only [cond_true] at hn
    rw [hn] at e'
    simp only [oJ, pJ] at e'
    obtain ⟨rfl, rfl⟩ := e'
    obtain ⟨j1, j2, j3⟩ := i1
    simp only [cond_true] at j3
    obtain ⟨o1, xs, o2, o3⟩ := j3
    refine ⟨⟨j1, j2, o1, xs, o2, Ea o3⟩, fun b hb => ?_⟩
    simp_all
   have hw0 := hI.fr.size
   refine hI.step (T := fun _ => False) qI.fr (fun b _ hb => hb.elim) (fun b hb => hb) (fun b hb => Nat.lt_of_lt_of_le (hI.im b hb) qI.fr.size) hsame hkeep (fun n g x hn hg' => ?_) (fun n g x hn => ?_) (fun n k' g x g' y b a1 a2 a3 a4 a5 a6 a7 => ?_)
   ·cases hnew : AZ nm k n
    ·left
     rw [hAt, hnew] at hn
     refine ⟨⟨g, hn, hg'⟩, fun b hb => ⟨fun x => x, ?_⟩⟩
     exact ((hI.ent n g x hn hg').2 b hb).2.1
    grind [RelI.im]
   ·cases hnew : AZ nm k n
    ·rw [hAt, hnew] at hn
     exact SV.okL_mono hkeep _ (hI.ok n g x hn)
    ·rw [hAt, hnew] at hn
     obtain ⟨g0, ty, ks, le, c, e'⟩ := Gb (Ca hok.1 hnew).2
     simp only [cond_true] at hn
     rw [hn] at e'
     simp only [oJ, pJ] at e'
     obtain ⟨rfl, rfl⟩ := e'
     trivial
   ·have hbig : w.heap.size <= b := by
     rcases a7 with a7 | a7
     ·exact a7.elim
     ·exact a7
    have side : ∀ n g x, (copyN m m1 nm k).at n = some (g, x) -> g.tt l.F ρ = true -> mutB l.F ρ ad' n x = some b -> m1.at n = some (g, x) := fun n g x hn hg' hb => by
     cases hnew : AZ nm k n
     ·exfalso
      rw [hAt, hnew] at hn
      simp only [cond_false] at hn
      rw [AN (hsame n (Mem.at_al hn)).symm] at hb
      have := ((hI.ent n g x hn hg').2 b hb).2.2
      omega
     simp_all
    grind [RelI.inj]
  ·cases h
 ·cases h
theorem Ox {e : Ent} {nm : Nat} {args : List SV} {g : E} {v : SV} (h : Fb e m nm args = some (g, v, m')) :
 Loc (fun m => Fb e m nm args) m (fpC e (virt m) nm args) g v m' /\ ∀ m2, Agree ((fpC e (virt m) nm args).1 ++ (fpC e (virt m) nm args).2) m m2 -> fpC e (virt m2) nm args = fpC e (virt m) nm args := by
 unfold Fb at h
 split at h
 ·rename_i g1 v1 m1 hc
  split at h
  ·rename_i hok
   simp only [oJ, pJ] at h
   obtain ⟨rfl, rfl, rfl⟩ := h
   obtain ⟨c1, c2⟩ := F9 hc
   have hvA : ∀ {L : List Nat} {m2 : Mem}, Agree L m m2 -> Agree L (virt m) (virt m2) := fun {L m2} ha n hn => by rw [CP, CP, ha n hn]
   have hnewfp : ∀ n, AZ nm (Sh.nnL e.outL) n = true -> n ∈ (fpC e (virt m) nm args).2 := fun n hn => by
    have hc' := hc
    unfold Cn at hc'
    split at hc'
    ·rename_i es srcs g0 hget
     simp only [fpC, hget]
     obtain ⟨a, b⟩ := Ed.1 hn
     exact List.mem_append_right _ (List.mem_map.2 ⟨n - nm, List.mem_range.2 (by omega), by omega⟩)
    ·cases hc'
   have hnl : ∀ n, AZ nm (Sh.nnL e.outL) n = true -> n < m.length := fun n hn => by
    have := (Ca hok.1 hn).1
    grind [Loc.len, Fa]
   refine ⟨⟨Ga _ _ _ _, fun n hn => Cg _ _ ?_, fun m2 hl ha => ?_⟩, fun m2 ha => c2 _ (hvA ha)⟩
   ·grind
   ·obtain ⟨m1', r1, r2, r3, r4⟩ := c1.loc (virt m2) (by grind [Fa]) (hvA ha)
    have hsame : ∀ n, AZ nm (Sh.nnL e.outL) n = true -> m1'.at n = m1.at n := fun n hn => r3 n (hnewfp n hn)
    have hok' : JA m1' nm (Sh.nnL e.outL) = true := by
     unfold JA
     rw [List.all_eq_true]
     intro i hi
     have hn : AZ nm (Sh.nnL e.outL) (nm + i) = true := Ed.2 ⟨by omega, by simp_all⟩
     obtain ⟨a, b⟩ := Ca hok.1 hn
     rw [hsame _ hn, b]
     have : nm + i < m1'.length := by rw [r2, Fa, hl]; exact hnl _ hn
     simp [this]
    refine ⟨copyN m2 m1' nm (Sh.nnL e.outL), ?_, Ga _ _ _ _, fun n hn => ?_, fun n hn => Cg _ _ ?_⟩
    ·grind [Fb]
    ·cases hnew : AZ nm (Sh.nnL e.outL) n
     ·rw [Cg _ _ hnew, Cg _ _ hnew]
      exact ha n (List.mem_append_right _ hn)
     grind [He]
    grind
  ·cases h
 ·cases h
theorem Lc {l : Tabs} {lent : Bool} {e : Ent} (he : l.get e.key = some e) (hE : EntryOK P G e) (hG : GOK G Im0 w0) (hR : Rel l.F ρ w0 M0 Im0 ad m w) {nm : Nat} {args : List SV} {g : E} {v : SV}
 (h : JB lent e m nm args = some (g, v, m')) : g.kind = .b /\ (g.tt l.F ρ = true -> Calls P e.f (SV.concL l.F ρ ad args).toArray w fun en w' => ∃ ad', en = .returned (v.conc l.F ρ ad') /\ Rel l.F ρ w0 M0 Im0 ad' m' w' /\ Ext ad ad' m m' /\ v.ok (al m')) := by
 cases lent
 ·exact GQ he hE hG hR h
 ·exact La he hE hG hR h
theorem Oy {lent : Bool} {e : Ent} {nm : Nat} {args : List SV} {g : E} {v : SV} (h : JB lent e m nm args = some (g, v, m')) :
 Loc (fun m => JB lent e m nm args) m (fpCX lent e m nm args) g v m' /\ ∀ m2, Agree ((fpCX lent e m nm args).1 ++ (fpCX lent e m nm args).2) m m2 -> fpCX lent e m2 nm args = fpCX lent e m nm args := by
 cases lent
 ·exact F9 h
 ·exact Ox h
end
inductive W where
 | val (v : SV)
 | dx (g : E) (x : X)
 | call (g : E) (f : Nat) (args : List SV)
 deriving Repr, Inhabited
def Gc (P : Program) (cs : List E) (en : Env) (o : Oper) : Option W :=
 match pick? o.op with
 | some (c, a, b) => (HM cs en c a b).map .val
 | none => match MC P (getC cs en) o with
   | some (g, .old (.call f args)) => some (.call g f args)
   | some (g, x) => some (.dx g x)
   | none => none
def B3 : List SV -> E
 | [] => mkB true
 | v :: r => mkAnd (AY v).1 (B3 r)
def Dn (fo : Bool) (args : List SV) : List SV := bif fo then args.map fun v => (AY v).2 else args
def HR (T : Tab) (m : Mem) (nm f : Nat) (args : List SV) (k : Nat) (fo : Bool) : Option (E × SV × Mem) :=
 match (T f)[k % 1000]? with
 | some e => (JB (decide (1000 <= k)) e m nm (Dn fo args)).map fun r => (mkAnd (bif fo then B3 args else mkB true) r.1, r.2.1, r.2.2)
 | none => none
def fpK (T : Tab) (m : Mem) (nm f : Nat) (args : List SV) (k : Nat) (fo : Bool) : FP :=
 match (T f)[k % 1000]? with
 | some e => fpCX (decide (1000 <= k)) e m nm (Dn fo args)
 | none => ([], [])
def Rp (T : Tab) (m : Mem) (nm f : Nat) (args : List SV) : Option (Nat × Bool) :=
 (((List.range (T f).length).map fun k => (k, false)) ++ ((List.range (T f).length).map fun k => (k + 1000, false)) ++ ((List.range (T f).length).map fun k => (k, true)) ++ ((List.range (T f).length).map fun k => (k + 1000, true))).find? fun c => (HR T m nm f args c.1 c.2).isSome
abbrev Ch := Option (Nat × Bool)
def runW (P : Program) (G : Glob) (T : Tab) (m : Mem) (nm : Nat) (ch : Ch) : W -> Option (E × SV × Mem)
 | .val v => some (mkB true, v, m)
 | .dx g x => (applyX P G m nm x).bind fun r => if r.1.kind = .b then some (mkAnd g r.1, r.2.1, r.2.2) else none
 | .call g f args => match ch with
   | some (k, fo) => (HR T m nm f args k fo).map fun r => (mkAnd g r.1, r.2.1, r.2.2)
   | none => none
def fpW (T : Tab) (m : Mem) (nm : Nat) (ch : Ch) : W -> FP
 | .val _ => ([], [])
 | .dx _ x => fpX nm x
 | .call _ f args => match ch with
   | some (k, fo) => fpK T m nm f args k fo
   | none => ([], [])
section
variable {P : Program} {ρ : Nat -> Int} {G : Glob} {T : Tab} {l : Tabs} {w0 w : World} {M0 Im0 : Nat -> Prop} {ad : Nat -> Hd} {m m2 m' : Mem} {tm : Tm} {en : Env} {a : Act}
theorem Eo {F : Fam} : ∀ (args : List SV), (B3 args).kind = .b /\ ((B3 args).tt F ρ = true -> SV.concL F ρ ad (args.map fun v => (AY v).2) = SV.concL F ρ ad args)
 | [] => ⟨rfl, fun _ => rfl⟩
 | v :: r => by
   obtain ⟨i1, i2⟩ := Eo (F := F) r
   have h := Ac (AY v).1 (B3 r) (A3 v) i1 F ρ
   refine ⟨h.2, fun ht => ?_⟩
   simp only [B3] at ht
   rw [h.1, Bool.and_eq_true] at ht
   simp only [List.map_cons, SV.concL, i2 ht.2]
   rw [(Bo (F := F) (ρ := ρ) (ad := ad) (p := fun _ => True) v).1 ht.1]
theorem Fc {F : Fam} {fo : Bool} {args : List SV} (h : (bif fo then B3 args else mkB true).tt F ρ = true) : SV.concL F ρ ad (Dn fo args) = SV.concL F ρ ad args := by
 cases fo
 ·rfl
 ·exact (Eo args).2 h
theorem Hf {nm : Nat} {ch : Ch} {W : W} {g : E} {v : SV} (h : runW P G T m nm ch W = some (g, v, m')) :
 Loc (fun m => runW P G T m nm ch W) m (fpW T m nm ch W) g v m' /\ ∀ m2, Agree ((fpW T m nm ch W).1 ++ (fpW T m nm ch W).2) m m2 -> fpW T m2 nm ch W = fpW T m nm ch W := by
 have wrap : ∀ {f : Mem -> Option (E × SV × Mem)} {q : E -> E} {g0 : E} {v : SV} {m' : Mem} {fp : FP}, Loc f m fp g0 v m' -> Loc (fun m => (f m).map fun r => (q r.1, r.2.1, r.2.2)) m fp (q g0) v m' := fun {f q g0 v m' fp} hL =>
  ⟨hL.len, hL.frame, fun m2 hl ha => by
   grind [Loc.loc]⟩
 cases W with
 | val u =>
   simp only [runW, oJ, pJ] at h
   obtain ⟨rfl, rfl, rfl⟩ := h
   exact ⟨Loc.read fun _ _ _ => rfl, fun _ _ => rfl⟩
 | dx g0 x =>
   simp only [runW] at h
   obtain ⟨⟨g1, v1, m1⟩, h1, h2⟩ := Option.bind_eq_some_iff.1 h
   split at h2
   ·rename_i hk
    simp only [oJ, pJ] at h2
    obtain ⟨rfl, rfl, rfl⟩ := h2
    have hL := MP h1
    refine ⟨⟨hL.len, hL.frame, fun m2 hl ha => ?_⟩, fun _ _ => rfl⟩
    obtain ⟨m2', r1, r2, r3, r4⟩ := hL.loc m2 hl ha
    refine ⟨m2', ?_, r2, r3, r4⟩
    grind [runW]
   ·cases h2
 | call g0 f args =>
   simp only [runW] at h
   split at h
   ·rename_i k fo
    obtain ⟨⟨g1, v1, m1⟩, h1, h2⟩ := Option.map_eq_some_iff.1 h
    simp only [pJ] at h2
    obtain ⟨rfl, rfl, rfl⟩ := h2
    unfold HR at h1
    split at h1
    ·rename_i e he
     obtain ⟨⟨g3, v3, m3⟩, h3, h4⟩ := Option.map_eq_some_iff.1 h1
     simp only [pJ] at h4
     obtain ⟨rfl, rfl, rfl⟩ := h4
     obtain ⟨c1, c2⟩ := Oy h3
     have hf : ∀ m, fpW T m nm (some (k, fo)) (.call g0 f args) = fpCX (decide (1000 <= k)) e m nm (Dn fo args) := fun m => by simp only [fpW, fpK, he]
     rw [hf]
     refine ⟨?_, fun m2 ha => by rw [hf]; exact c2 m2 ha⟩
     have := wrap (q := fun g => mkAnd g0 g) (wrap (q := fun g => mkAnd (bif fo then B3 args else mkB true) g) c1)
     grind [Loc.len, Loc.frame, Loc.loc, runW, HR]
    ·cases h1
   ·cases h
theorem HT (hS : B9 P G l T) (hG : GOK G Im0 w0) (hT : RelV l.F ρ ad m en a) (hR : Rel l.F ρ w0 M0 Im0 ad m w) {cs : List E} (hc : holds l.F ρ cs = true) {nm : Nat} {ch : Ch} {o : Oper} {W : W} (hp : Gc P cs en o = some W) {g : E} {v : SV}
 (h : runW P G T m nm ch W = some (g, v, m')) : g.kind = .b /\ (g.tt l.F ρ = true -> ∀ (K : Act -> World -> Prop) (Q : Exit -> Act -> World -> Prop),
  (∀ ad' w', Rel l.F ρ w0 M0 Im0 ad' m' w' -> Ext ad ad' m m' -> v.ok (al m') -> K (a.put o.dst (v.conc l.F ρ ad')) w') -> o.wp P a w K Q) := by
 have hB := l.BI
 unfold Gc at hp
 split at hp
 ·rename_i x y z hpk
  obtain ⟨u, h1, rfl⟩ := Option.map_eq_some_iff.1 hp
  simp only [runW, oJ, pJ] at h
  obtain ⟨rfl, rfl, rfl⟩ := h
  refine ⟨rfl, fun _ K Q hK => ?_⟩
  have ho : o.op = .pick x y z := by
   unfold pick? at hpk
   split at hpk
   ·simp_all
   ·cases hpk
  obtain ⟨hrun, i3⟩ := ML (P := P) (w := w) hT hc h1 ho
  unfold Oper.wp
  rw [hrun]
  exact hK ad w hR (Ext.refl _ _) i3
 ·split at hp
  ·rename_i g0 f args hds
   simp only [oJ] at hp
   subst hp
   obtain ⟨j1, j2⟩ := FN l.BI (P := P) (w := w) (F := l.F) (ρ := ρ) (ad := ad) (p := al m) (ev := a.eval) (fun x s hx => Bg hT hc hx) hds
   simp only [runW] at h
   split at h
   ·rename_i k fo
    obtain ⟨⟨g1, v1, m1⟩, h1, h2⟩ := Option.map_eq_some_iff.1 h
    simp only [pJ] at h2
    obtain ⟨rfl, rfl, rfl⟩ := h2
    unfold HR at h1
    split at h1
    ·rename_i e he
     obtain ⟨⟨g3, v3, m3⟩, h3, h4⟩ := Option.map_eq_some_iff.1 h1
     simp only [pJ] at h4
     obtain ⟨rfl, rfl, rfl⟩ := h4
     obtain ⟨t1, t2, t3⟩ := hS f e (List.mem_of_getElem? he)
     obtain ⟨c1, c2⟩ := Lc t2 t3 hG hR h3
     have fk : (bif fo then B3 args else mkB true).kind = .b := by
      cases fo
      ·rfl
      ·exact (Eo (F := l.F) (ρ := ρ) (ad := ad) args).1
     have a1 := Ac _ g3 fk c1 l.F ρ
     have a2 := Ac g0 _ j1 a1.2 l.F ρ
     refine ⟨a2.2, fun ht K Q hK => ?_⟩
     rw [a2.1, a1.1, Bool.and_eq_true, Bool.and_eq_true] at ht
     obtain ⟨d1, d2⟩ := j2 ht.1
     have hcall := c2 ht.2.2
     rw [Fc ht.2.1, t1] at hcall
     unfold Oper.wp
     rw [d1]
     simp only [X.run, D.run, Oper.upon]
     refine hcall.mono ?_
     simp_all
    ·cases h1
   ·cases h
  ·rename_i g0 x hnc hds
   simp only [oJ] at hp
   subst hp
   obtain ⟨j1, j2⟩ := FN l.BI (P := P) (w := w) (F := l.F) (ρ := ρ) (ad := ad) (p := al m) (ev := a.eval) (fun x s hx => Bg hT hc hx) hds
   simp only [runW] at h
   obtain ⟨⟨g1, v1, m1⟩, h1, h2⟩ := Option.bind_eq_some_iff.1 h
   split at h2
   ·rename_i hk
    simp only [oJ, pJ] at h2
    obtain ⟨rfl, rfl, rfl⟩ := h2
    simp only at hk
    have a2 := Ac g0 g1 j1 hk l.F ρ
    refine ⟨a2.2, fun ht K Q hK => ?_⟩
    rw [a2.1, Bool.and_eq_true] at ht
    obtain ⟨d1, d2⟩ := j2 ht.1
    obtain ⟨e1, e2⟩ := J5 (P := P) hB hG hR d2 h1
    obtain ⟨ad', w', c1, c2, c3, c4⟩ := e2 ht.2
    unfold Oper.wp
    rw [d1]
    rcases c1 with c1 | ⟨c1, cu⟩
    ·rw [c1]; exact hK ad' w' c2 c3 c4
    ·rw [c1]
     have := hK ad' w' c2 c3 c4
     rw [cu] at this
     exact this
   ·cases h2
  ·cases hp
end
def conjE : List E -> E
 | [] => mkB true
 | c :: r => mkAnd c (conjE r)
def bAll (cs : List E) : Bool := cs.all fun c => decide (c.kind = .b)
theorem HU {F : Fam} {ρ : Nat -> Int} : ∀ {cs : List E}, bAll cs = true -> (conjE cs).kind = .b /\ (conjE cs).tt F ρ = holds F ρ cs
 | [], _ => ⟨rfl, by simp [conjE, holds]⟩
 | c :: r, h => by
   simp only [bAll, List.all_cons, Bool.and_eq_true, decide_eq_true_eq] at h
   obtain ⟨i1, i2⟩ := HU (F := F) (ρ := ρ) (cs := r) h.2
   grind [Ac, conjE, holds]
inductive PL where
 | put (v : SV)
 | run (cs : Option (List E)) (w : W)
 deriving Repr, Inhabited
def Dp (P : Program) (ops : Array Oper) (o : Oper) (en : Env) : Option PL :=
 match Kb ops en o with
 | some .no => some (.put .und)
 | some .yes => (Gc P [] en o).map (.run none)
 | some (.cond cs) => (Gc P cs en o).map (.run (some cs))
 | none => none
def mergeOn (c : E) (m' : Mem) (W : List Nat) (m : Mem) : Mem := zipR (fun n x y => bif W.contains n then Aw c x y else y) 0 m' m
theorem Ep (c : E) (m' : Mem) (W : List Nat) (m : Mem) : (mergeOn c m' W m).length = m.length := E7 _ _ _
theorem CG (c : E) (m' : Mem) (W : List Nat) (m : Mem) (hl : m'.length = m.length) (n : Nat) : (mergeOn c m' W m).at n = if n ∈ W then Aw c (m'.at n) (m.at n) else m.at n := by
 grind [mergeOn, Gt, Mem.at, Ep, Aw]
def refsW (m' : Mem) (v : SV) (W : List Nat) : List Nat := allN v ++ W.flatMap fun n => match m'.at n with
 | some (_, b) => allNL b.cs
 | _ => []
def Bw (P : Program) (G : Glob) (T : Tab) (m : Mem) (nm : Nat) (ch : Ch) : PL -> Option (E × SV × Mem)
 | .put v => some (mkB true, v, m)
 | .run none w => runW P G T m nm ch w
 | .run (some cs) w => match runW P G T m nm ch w with
   | some (g, v, m') => if bAll cs = true /\ g.kind = .b /\ ((refsW m' v (fpW T m nm ch w).2).all fun n => (m'.at n).isSome) = true then
    some (mkOr (Ak (conjE cs)) g, .gd cs v, mergeOn (conjE cs) m' (fpW T m nm ch w).2 m) else none
   | none => none
def fpPL (P : Program) (G : Glob) (T : Tab) (m : Mem) (nm : Nat) (ch : Ch) : PL -> FP
 | .put _ => ([], [])
 | .run none w => fpW T m nm ch w
 | .run (some _) w => match runW P G T m nm ch w with
   | some (_, v, m') => ((fpW T m nm ch w).1 ++ refsW m' v (fpW T m nm ch w).2, (fpW T m nm ch w).2)
   | none => ([], [])
section
variable {P : Program} {ρ : Nat -> Int} {G : Glob} {T : Tab} {l : Tabs} {w0 w : World} {M0 Im0 : Nat -> Prop} {ad : Nat -> Hd} {m m2 m' : Mem} {tm : Tm} {en : Env} {a : Act}
theorem Ld {m' m2' : Mem} (v : SV) {W : List Nat} (h : ∀ n ∈ W, m2'.at n = m'.at n) : refsW m2' v W = refsW m' v W := by
 unfold refsW
 congr 1
 have : ∀ (W : List Nat), (∀ n ∈ W, m2'.at n = m'.at n) -> (W.flatMap fun n => match m2'.at n with | some (_, b) => allNL b.cs | _ => []) = W.flatMap fun n => match m'.at n with | some (_, b) => allNL b.cs | _ => [] := by
  intro W
  induction W with
  | nil => intro _; rfl
  | cons n W ih =>
    simp_all
 exact this W h
theorem Oz {nm : Nat} {ch : Ch} {pl : PL} {g : E} {v : SV} (h : Bw P G T m nm ch pl = some (g, v, m')) :
 Loc (fun m => Bw P G T m nm ch pl) m (fpPL P G T m nm ch pl) g v m' /\ ∀ m2, m2.length = m.length -> Agree ((fpPL P G T m nm ch pl).1 ++ (fpPL P G T m nm ch pl).2) m m2 -> fpPL P G T m2 nm ch pl = fpPL P G T m nm ch pl := by
 cases pl with
 | put u =>
   simp only [Bw, oJ, pJ] at h
   obtain ⟨rfl, rfl, rfl⟩ := h
   exact ⟨Loc.read fun _ _ _ => rfl, fun _ _ _ => rfl⟩
 | run cs w =>
   cases cs with
   | none =>
     obtain ⟨h1, h2⟩ := Hf h
     exact ⟨h1, fun m2 _ ha => h2 m2 ha⟩
   | some cs =>
     simp only [Bw] at h
     split at h
     ·rename_i g1 v1 m1 hr
      split at h
      ·rename_i hc
       simp only [oJ, pJ] at h
       obtain ⟨rfl, rfl, rfl⟩ := h
       obtain ⟨hL, hF⟩ := Hf hr
       have hfp : fpPL P G T m nm ch (.run (some cs) w) = ((fpW T m nm ch w).1 ++ refsW m1 v1 (fpW T m nm ch w).2, (fpW T m nm ch w).2) := by simp only [fpPL, hr]
       rw [hfp]
       have step : ∀ m2, m2.length = m.length -> Agree (((fpW T m nm ch w).1 ++ refsW m1 v1 (fpW T m nm ch w).2) ++ (fpW T m nm ch w).2) m m2 -> fpW T m2 nm ch w = fpW T m nm ch w /\ ∃ m2', runW P G T m2 nm ch w = some (g1, v1, m2') /\ m2'.length = m2.length /\ (∀ n ∈ (fpW T m nm ch w).2, m2'.at n = m1.at n) /\ (∀ n, n ∉ (fpW T m nm ch w).2 -> m2'.at n = m2.at n) /\ refsW m2' v1 (fpW T m nm ch w).2 = refsW m1 v1 (fpW T m nm ch w).2 := fun m2 hl ha => by
        grind [Agree, fpW, Loc.loc, Ld]
       refine ⟨⟨Ep _ _ _ _, fun n hn => by grind [CG, Loc.len], fun m2 hl ha => ?_⟩, fun m2 hl ha => ?_⟩
       ·obtain ⟨f1, m2', r1, r2, r3, r4, r5⟩ := step m2 hl ha
        refine ⟨mergeOn (conjE cs) m2' (fpW T m nm ch w).2 m2, ?_, Ep _ _ _ _, fun n hn => ?_, fun n hn => by grind [CG]⟩
        ·simp only [Bw, r1, f1]
         rw [r5, if_pos]
         refine ⟨hc.1, hc.2.1, ?_⟩
         rw [List.all_eq_true]
         intro k hk
         have h0 := List.all_eq_true.1 hc.2.2 k hk
         by_cases hw : k ∈ (fpW T m nm ch w).2
         ·rw [r3 k hw]; exact h0
         ·rw [r4 k hw, ha k (by simp [hk]), <- hL.frame k hw]; exact h0
        ·rw [CG _ _ _ _ r2, CG _ _ _ _ hL.len, if_pos hn, if_pos hn, r3 n hn, ha n (by simp [hn])]
       grind [fpPL]
      ·cases h
     ·cases h
theorem Er (hS : B9 P G l T) (hG : GOK G Im0 w0) {s : St} (hR : RelS l.F ρ w0 M0 Im0 ad s a w) (hE : RelV l.F ρ ad s.2 en a) {ops : Array Oper} {nm : Nat} {ch : Ch} {o : Oper} {pl : PL} (hp : Dp P ops o en = some pl) {g : E} {v : SV}
 (h : Bw P G T s.2 nm ch pl = some (g, v, m')) : g.kind = .b /\ (g.tt l.F ρ = true -> ∀ (K : Act -> World -> Prop) (Q : Exit -> Act -> World -> Prop),
  (∀ ad' a' w', RelS l.F ρ w0 M0 Im0 ad' (setT s.1 o.dst v, m') a' w' -> Ext ad ad' s.2 m' -> K a' w') ->
  if Region.wanted o (yielded ops a.tmps) = true then o.wp P a w K Q else K (a.put o.dst undef) w) := by
 obtain ⟨hT, hM⟩ := hR
 unfold Dp at hp
 split at hp
 ·rename_i hg
  simp only [oJ] at hp
  subst hp
  simp only [Bw, oJ, pJ] at h
  obtain ⟨rfl, rfl, rfl⟩ := h
  refine ⟨rfl, fun _ K Q hK => ?_⟩
  rw [C4 hE hg]
  simp only [Gd.tt, Bool.false_eq_true, if_false]
  exact hK ad _ w ⟨hT.put o.dst (v := .und) trivial, hM⟩ (Ext.refl _ _)
 ·rename_i hg
  obtain ⟨W, hW, rfl⟩ := Option.map_eq_some_iff.1 hp
  simp only [Bw] at h
  obtain ⟨r1, r2⟩ := HT hS hG hE hM (cs := []) rfl hW h
  refine ⟨r1, fun ht K Q hK => ?_⟩
  rw [C4 hE hg]
  simp only [Gd.tt, if_true]
  exact r2 ht K Q fun ad' w' hr x hv => hK ad' _ w' ⟨(hT.ext x).put o.dst hv, hr⟩ x
 ·rename_i cs hg
  obtain ⟨W, hW, rfl⟩ := Option.map_eq_some_iff.1 hp
  have hwant := C4 hE hg
  simp only [Bw] at h
  split at h
  ·rename_i g1 v1 m1 hr
   split at h
   ·rename_i hc
    simp only [oJ, pJ] at h
    obtain ⟨rfl, rfl, rfl⟩ := h
    obtain ⟨hb, hgk, hrefs⟩ := hc
    obtain ⟨c1, c2⟩ := HU (F := l.F) (ρ := ρ) hb
    have hor := BQ (Ak (conjE cs)) g1 (Ad _ l.F ρ).2 hgk l.F ρ
    obtain ⟨hL, _⟩ := Hf hr
    have hPM : PM (conjE cs) m1 s.2 (mergeOn (conjE cs) m1 (fpW T s.2 nm ch W).2 s.2) := fun n => by
     grind [CG, Loc.len, fpW, Loc.frame]
    have hal : ∀ k, al s.2 k \/ al m1 k -> al (mergeOn (conjE cs) m1 (fpW T s.2 nm ch W).2 s.2) k := fun k hk => by grind [PM.al]
    have hal1 : ∀ k ∈ refsW m1 v1 (fpW T s.2 nm ch W).2, al m1 k := fun k hk => List.all_eq_true.1 hrefs k hk
    have hvok : v1.ok (al m1) := DC v1 fun n hn => hal1 n (by simp [refsW, hn])
    have hok1 : ∀ n g x, m1.at n = some (g, x) -> SV.okL (al m1) x.cs \/ s.2.at n = some (g, x) := fun n g x hn => by
     grind [fpW, Hc, Blk.cs, refsW, Loc.frame]
    have keep1 : ∀ k, al s.2 k -> k ∉ (fpW T s.2 nm ch W).2 -> al m1 k := fun k hk hw => by grind [al, Loc.frame]
    refine ⟨hor.2, fun ht K Q hK => ?_⟩
    rw [hor.1, Bool.or_eq_true, (Ad (conjE cs) l.F ρ).1, c2] at ht
    rcases Bool.eq_false_or_eq_true (holds l.F ρ cs) with hh | hh
    ·rw [if_pos (by rw [hwant]; exact hh)]
     have hgt : g1.tt l.F ρ = true := by
      rcases ht with ht | ht
      ·rw [hh] at ht; cases ht
      ·exact ht
     refine (HT hS hG hE hM hh hW hr).2 hgt K Q fun ad' w' hr' x hv => ?_
     have x' : Ext ad ad' s.2 (mergeOn (conjE cs) m1 (fpW T s.2 nm ch W).2 s.2) := ⟨x.same, fun k hk => hal k (Or.inl hk)⟩
     have hp' := (hT.ext x').put o.dst (v := .gd cs v1) (by grind [SV.ok, SV.ok_mono])
     simp only [SV.conc] at hp'
     unfold holds at hh
     rw [hh] at hp'
     refine hK ad' _ w' ⟨hp', hPM.rel c1 (t := true) (by rw [c2]; exact hh) hr' fun n g x hn => ?_⟩ x'
     obtain ⟨_, Im, _, _, hI⟩ := hM
     exact hI.ok n g x hn
    ·rw [if_neg (by rw [hwant]; show ¬ holds l.F ρ cs = true; simp_all)]
     have x' : Ext ad ad s.2 (mergeOn (conjE cs) m1 (fpW T s.2 nm ch W).2 s.2) := ⟨fun _ _ => rfl, fun k hk => hal k (Or.inl hk)⟩
     have hp' := (hT.ext x').put o.dst (v := .gd cs v1) (by grind [SV.ok, SV.ok_mono])
     have hh' := hh
     simp only [SV.conc] at hp'
     unfold holds at hh
     rw [hh] at hp'
     obtain ⟨_, Im, _, _, hI⟩ := id hM
     refine hK ad _ w ⟨hp', ?_⟩ x'
     refine (PM.rel' c1 hPM (by rw [c2]; exact hh') hM fun n g x hn => ?_)
     rcases hok1 n g x hn with h | h
     ·grind [SV.okL_mono]
     ·exact SV.okL_mono (fun k hk => hal k (Or.inl hk)) _ (hI.ok n g x h)
   ·cases h
  ·cases h
 ·cases hp
end
def Cb (ops : Array Oper) (o : Oper) (tm : Tm) : Env := fun t => bif (o.looksAt ops).contains t then tm.at t else none
def Dq (P : Program) (ops : Array Oper) (i : Nat) (tm : Tm) : Option (PL × Option Nat) :=
 match ops[i]? with
 | some o => (Dp P ops o (Cb ops o tm)).map fun p => (p, o.dst)
 | none => none
structure Rec where
 fp : FP
 ob : E
 ch : Ch
 tg : Nat
def tgPL : PL -> Nat
 | .run none (.dx _ (.len (.ls ..))) => 1
 | .run none (.dx _ (.ste ..)) => 2
 | _ => 0
def svPL : PL -> SV -> Bool
 | .run none (.dx _ (.sub ..)), .sv .. => true
 | _, _ => false
def fpV (P : Program) (G : Glob) (T : Tab) (m : Mem) (nm : Nat) (ch : Ch) (p : PL) (v : SV) : FP := bif svPL p v then ((fpPL P G T m nm ch p).1, []) else fpPL P G T m nm ch p
def WD : Nat := 8
def Kh (a b : FP) : Bool := (a.2.all fun n => !b.1.contains n && !b.2.contains n) && b.2.all fun n => !a.1.contains n && !a.2.contains n
def stI (P : Program) (G : Glob) (T : Tab) (ops : Array Oper) (base : Nat) (rs : List Rec) (i : Nat) (s : St) : Option St :=
 match Dq P ops i s.1, rs[i]? with
 | some (p, dst), some r => match Bw P G T s.2 (base + WD * i) r.ch p with
   | some (g, v, m') => if (fpV P G T s.2 (base + WD * i) r.ch p v = r.fp /\ tgPL p = r.tg) /\ g.same r.ob = true then some (setT s.1 dst v, m') else none
   | none => none
 | _, _ => none
def Dr (P : Program) (G : Glob) (T : Tab) (ops : Array Oper) (base : Nat) (rs : List Rec) : List Nat -> St -> Option St
 | [], s => some s
 | i :: r, s => match stI P G T ops base rs i s with
   | some s' => Dr P G T ops base rs r s'
   | none => none
def OA (ops : Array Oper) (x y : Oper) : Bool :=
 (match x.dst with
  | some d => !(y.looksAt ops).contains d && decide (y.dst ≠ some d)
  | none => true) &&
 (match y.dst with
  | some d => !(x.looksAt ops).contains d
  | none => true)
def indep (ops : Array Oper) (rs : List Rec) (j i : Nat) : Bool :=
 match ops[j]?, ops[i]?, rs[j]?, rs[i]? with
 | some oj, some oi, some fj, some fi => (Kh fj.fp fi.fp || (decide (fj.tg = 1) && decide (fi.tg = 2))) && OA ops oj oi
 | _, _, _, _ => false
section
variable {P : Program} {ρ : Nat -> Int} {G : Glob} {T : Tab} {l : Tabs} {w0 w : World} {M0 Im0 : Nat -> Prop} {ad : Nat -> Hd} {m m2 m' : Mem} {tm : Tm} {en : Env} {a : Act}
theorem Je {ops : Array Oper} {o : Oper} {tm : Tm} {d : Option Nat} {v : SV} (h : ∀ k, d = some k -> (o.looksAt ops).contains k = false) : Cb ops o (setT tm d v) = Cb ops o tm := by
 funext t
 unfold Cb
 cases ht : (o.looksAt ops).contains t
 ·rfl
 ·simp only [cond_true]
  cases d with
  | none => rfl
  | some k =>
    grind [setT, Tm.at]
theorem Jf {tm : Tm} {d d' : Option Nat} {v v' : SV} (h : d = none \/ d' = none \/ d ≠ d') : setT (setT tm d v) d' v' = setT (setT tm d' v') d v := by
 cases d <;> cases d' <;> simp only [setT]
 rename_i x y
 exact List.set_comm _ _ (by simp_all)
theorem Mem.ext' (hl : m.length = m2.length) (h : ∀ n, m.at n = m2.at n) : m = m2 := by
 apply List.ext_getElem hl
 intro n h1 h2
 have := h n
 simpa [Mem.at, List.getD, h1, h2] using this
theorem Le {a b : FP} (h : Kh a b = true) : (∀ n ∈ a.2, n ∉ b.1 /\ n ∉ b.2) /\ ∀ n ∈ b.2, n ∉ a.1 /\ n ∉ a.2 := by
 grind [Kh]
theorem Sy {nm nm' n n' str o : Nat} {le i : E} {cs : List SV} {g gi : E} {v vi : SV} {m0 m1 : Mem} (h1 : applyX P G m nm (.len (.ls n le)) = some (g, v, m0)) (h2 : applyX P G m nm' (.ste n' str i o cs) = some (gi, vi, m1)) :
 m0 = m /\ applyX P G m1 nm (.len (.ls n le)) = some (g, v, m1) := by
 have hm0 : m0 = m := by
  simp only [applyX] at h1
  split at h1
  ·obtain ⟨V, _, e⟩ := Option.map_eq_some_iff.1 h1
   simp_all
  ·obtain ⟨V, _, e⟩ := Option.map_eq_some_iff.1 h1
   simp_all
 subst hm0
 refine ⟨rfl, ?_⟩
 simp only [applyX] at h2
 split at h2
 ·rename_i g0 ty row le0 c hm
  split at h2
  ·split at h2
   ·split at h2
    ·simp only [oJ, pJ] at h2
     obtain ⟨_, _, rfl⟩ := h2
     have hl : n' < m0.length := by
      rcases Nat.lt_or_ge n' m0.length with h | h
      ·exact h
      ·grind [Mem.at]
     by_cases hn : n' = n
     ·subst hn
      simp only [applyX, tyL, Ah, hm, Mem.at_set_same hl] at h1 ⊢
      split at h1
      ·rename_i hc
       rw [if_pos ⟨hc.1, hc.2.1, hc.2.2.1, rfl, hc.2.2.2.2.1, hc.2.2.2.2.2⟩]
       simp_all
      ·cases h1
     grind [tyL, Mem.at_set_other, Ah, applyX]
    ·cases h2
   ·cases h2
  ·cases h2
 ·cases h2
theorem tg_1 {p : PL} (h : tgPL p = 1) : ∃ g n le, p = .run none (.dx g (.len (.ls n le))) := by
 unfold tgPL at h
 grind
theorem tg_2 {p : PL} (h : tgPL p = 2) : ∃ g n str i o cs, p = .run none (.dx g (.ste n str i o cs)) := by
 unfold tgPL at h
 grind
theorem IG {nm : Nat} {ch : Ch} {g0 g : E} {x : X} {v : SV} (h : runW P G T m nm ch (.dx g0 x) = some (g, v, m')) : ∃ r, applyX P G m nm x = some (r, v, m') /\ r.kind = .b /\ g = mkAnd g0 r := by
 obtain ⟨⟨r1, r2, r3⟩, hr, h⟩ := Option.bind_eq_some_iff.1 h
 simp_all
theorem HV {nm : Nat} {ch : Ch} {p : PL} {g : E} {v : SV} (h : Bw P G T m nm ch p = some (g, v, m')) :
 Loc (fun m => Bw P G T m nm ch p) m (fpV P G T m nm ch p v) g v m' /\ ∀ m2, m2.length = m.length -> Agree ((fpV P G T m nm ch p v).1 ++ (fpV P G T m nm ch p v).2) m m2 -> fpV P G T m2 nm ch p v = fpV P G T m nm ch p v := by
 cases hs : svPL p v with
 | false =>
   have e : ∀ m, fpV P G T m nm ch p v = fpPL P G T m nm ch p := fun m => by unfold fpV; rw [hs]; rfl
   obtain ⟨h1, h2⟩ := Oz h
   rw [e]
   exact ⟨h1, fun m2 hl ha => by rw [e]; exact h2 m2 hl ha⟩
 | true =>
   have e : ∀ m, fpV P G T m nm ch p v = ((fpPL P G T m nm ch p).1, []) := fun m => by unfold fpV; rw [hs]; rfl
   simp only [e]
   unfold svPL at hs
   split at hs
   ·rename_i g0 t e' x lo hi n str l s h'
    obtain ⟨r, a, hk, hg⟩ := IG (T := T) (ch := ch) h
    have a0 := a
    simp only [applyX] at a
    cases hsv : subV P m t e' x lo hi with
    | some q =>
      rw [hsv] at a
      simp only [oJ] at a; subst a
      obtain ⟨hm, hq⟩ := Kg hsv
      subst hm
      refine ⟨Loc.read fun m2 hl ha => ?_, fun m2 _ _ => rfl⟩
      have hq2 := hq m2 ha
      have h2 : applyX P G m2 nm (.sub t e' x lo hi) = some (r, .sv n str l s h', m2) := by
       simp only [applyX]; rw [hq2]
      have hr : applyX P G m' nm (.sub t e' x lo hi) = some (r, .sv n str l s h', m') := a0
      simp only [Bw, runW] at h ⊢
      rw [hr] at h
      rw [h2]
      simp_all
    | none =>
      rw [hsv] at a
      grind
   ·cases hs
theorem swap {ops : Array Oper} {base : Nat} {rs : List Rec} {j i : Nat} (hi : indep ops rs j i = true) {s s1 s2 : St}
 (h1 : stI P G T ops base rs j s = some s1) (h2 : stI P G T ops base rs i s1 = some s2) : ∃ s1', stI P G T ops base rs i s = some s1' /\ stI P G T ops base rs j s1' = some s2 := by
 unfold indep at hi
 split at hi
 ·rename_i oj oi rj ri hoj hoi hrj hri
  simp only [Bool.and_eq_true, OA] at hi
  obtain ⟨hdis, hx, hy⟩ := hi
  have hdd : oj.dst = none \/ oi.dst = none \/ oj.dst ≠ oi.dst := by
   cases hd : oj.dst with
   | none => exact Or.inl rfl
   | some d =>
     grind
  have e1 : ∀ (tm : Tm) (v : SV), Cb ops oi (setT tm oj.dst v) = Cb ops oi tm := fun tm v => Je fun k hk => by
   simp_all
  have e2 : ∀ (tm : Tm) (v : SV), Cb ops oj (setT tm oi.dst v) = Cb ops oj tm := fun tm v => Je fun k hk => by
   simp_all
  unfold stI Dq at h1
  simp only [hoj, hrj] at h1
  cases hpj : Dp P ops oj (Cb ops oj s.1) with
  | none => simp_all
  | some p =>
    simp only [hpj, Option.map_some] at h1
    split at h1
    ·rename_i gj vj mj hj
     split at h1
     ·rename_i hcj
      simp only [oJ] at h1; subst h1
      unfold stI Dq at h2
      simp only [hoi, hri, e1] at h2
      cases hpi : Dp P ops oi (Cb ops oi s.1) with
      | none => simp_all
      | some p' =>
        simp only [hpi, Option.map_some] at h2
        split at h2
        ·rename_i gi vi mi hii
         split at h2
         ·rename_i hci
          simp only [oJ] at h2; subst h2
          rw [Bool.or_eq_true] at hdis
          rcases hdis with hdis | hdis
          rotate_left
          ·simp only [Bool.and_eq_true, decide_eq_true_eq] at hdis
           obtain ⟨g1, n1, le1, rfl⟩ := tg_1 (hcj.1.2.trans hdis.1)
           obtain ⟨g2, n2, str2, i2, o2, cs2, rfl⟩ := tg_2 (hci.1.2.trans hdis.2)
           obtain ⟨q1, a1, k1, rfl⟩ := IG (T := T) (ch := none) hj
           have hmj : mj = s.2 := by
            simp only [applyX] at a1
            split at a1
            ·obtain ⟨V, _, e⟩ := Option.map_eq_some_iff.1 a1
             simp_all
            ·obtain ⟨V, _, e⟩ := Option.map_eq_some_iff.1 a1
             simp_all
           subst hmj
           obtain ⟨q2, a2, k2, rfl⟩ := IG (T := T) (ch := none) hii
           have a3 := (Sy a1 a2).2
           refine ⟨(setT s.1 oi.dst vi, mi), ?_, ?_⟩
           ·grind [stI, Dq]
           ·unfold stI Dq
            simp only [hoj, hrj, e2, hpj, Option.map_some]
            have hf : fpV P G T mi (base + WD * j) rj.ch (.run none (.dx g1 (.len (.ls n1 le1)))) vj = rj.fp := hcj.1.1
            grind [Bw, WD, mkAnd, runW, Jf]
          obtain ⟨dj, di⟩ := Le hdis
          obtain ⟨Lj, Fj⟩ := HV hj
          obtain ⟨Li, Fi⟩ := HV hii
          rw [hcj.1.1] at Lj Fj
          rw [hci.1.1] at Li Fi
          have ai : Agree (ri.fp.1 ++ ri.fp.2) mj s.2 := fun n hn => by
           grind [Loc.frame]
          obtain ⟨m1, q1, q2, q3, q4⟩ := Li.loc s.2 Lj.len.symm ai
          have aj : Agree (rj.fp.1 ++ rj.fp.2) s.2 m1 := fun n hn => by
           grind
          obtain ⟨m2, t1, t2, t3, t4⟩ := Lj.loc m1 q2 aj
          have hmm : m2 = mi := by
           refine Mem.ext' (by grind [Loc.len]) fun n => ?_
           by_cases hw : n ∈ rj.fp.2
           ·grind [Loc.frame]
           ·grind [Loc.frame]
          subst hmm
          have f1 := Fi s.2 Lj.len.symm ai
          have f2 := Fj m1 q2 aj
          refine ⟨(setT s.1 oi.dst vi, m1), ?_, ?_⟩
          ·grind [stI, Dq, Loc.len]
          grind [stI, Dq, Jf]
         ·cases h2
        ·cases h2
     ·cases h1
    ·cases h1
 ·cases hi
theorem LA {ops : Array Oper} {base : Nat} {rs : List Rec} {i : Nat} {post : List Nat} : ∀ (pre : List Nat) {s s' : St}, (∀ j ∈ pre, indep ops rs j i = true) ->
 Dr P G T ops base rs (pre ++ i :: post) s = some s' -> ∃ s1, stI P G T ops base rs i s = some s1 /\ Dr P G T ops base rs (pre ++ post) s1 = some s'
 | [], s, s', _, h => by
   grind [Dr]
 | j :: pre, s, s', hp, h => by
   simp only [List.cons_append, Dr] at h
   split at h
   ·rename_i s1 h1
    obtain ⟨s2, i1, i2⟩ := LA pre (fun k hk => hp k (by simp [hk])) h
    obtain ⟨s1', c1, c2⟩ := swap (hp j (by simp)) h1 i1
    grind [Dr]
   ·cases h
def Ki (o : Oper) (l : List Nat) : Nat := o.after.toList.foldl (fun s e => bif Region.binds .any e then s ||| (2 ^ e.on ||| l.getD e.on 0) else s) 0
def Gu (ops : List Oper) : List Nat -> List Nat := fun acc => match ops with
 | [] => acc
 | o :: r => Gu r (acc ++ [Ki o acc])
inductive Anc (ops : Array Oper) : Nat -> Nat -> Prop
 | one {i j : Nat} {o : Oper} {e : Edge} : ops[i]? = some o -> e ∈ o.after -> Region.binds .any e = true -> e.on = j -> Anc ops i j
 | more {i j : Nat} {o : Oper} {e : Edge} : ops[i]? = some o -> e ∈ o.after -> Region.binds .any e = true -> Anc ops e.on j -> Anc ops i j
theorem HW {l : List Nat} {j : Nat} : ∀ (es : List Edge) (s : Nat), (es.foldl (fun s e => bif Region.binds .any e then s ||| (2 ^ e.on ||| l.getD e.on 0) else s) s).testBit j = true ->
 s.testBit j = true \/ ∃ e ∈ es, Region.binds .any e = true /\ (e.on = j \/ (l.getD e.on 0).testBit j = true)
 | [], s, h => Or.inl h
 | e :: es, s, h => by
   simp only [List.foldl_cons] at h
   rcases HW es _ h with h1 | ⟨e', h1, h2, h3⟩
   ·grind
   grind
theorem HX (ops : Array Oper) : ∀ (r : List Oper) (acc : List Nat), (∀ k, r[k]? = ops[acc.length + k]?) -> (∀ i j, (acc.getD i 0).testBit j = true -> Anc ops i j) ->
 ∀ i j, ((Gu r acc).getD i 0).testBit j = true -> Anc ops i j
 | [], acc, _, h => h
 | o :: r, acc, hr, h => by
   unfold Gu
   have h0 : ops[acc.length]? = some o := by simpa using (hr 0).symm
   refine HX ops r _ (fun k => by have := hr (k + 1); grind) ?_
   intro i j hij
   by_cases hi : i < acc.length
   ·grind
   ·by_cases hi' : i = acc.length
    ·subst hi'
     rw [show (acc ++ [Ki o acc]).getD acc.length 0 = Ki o acc by simp [List.getD]] at hij
     rcases HW _ _ hij with h1 | ⟨e, h1, h2, h3⟩
     ·simp at h1
     ·rcases h3 with h3 | h3
      ·exact .one h0 (by simpa using h1) h2 h3
      ·exact .more h0 (by simpa using h1) h2 (h e.on j h3)
    grind
def OB (ops : Array Oper) (listed : Array Bool) : Prop := ∀ k o, listed.getD k false = true -> ops[k]? = some o -> ∀ e ∈ o.after, Region.binds .any e = true -> listed.getD e.on false = true
theorem Anc.listed {ops : Array Oper} {listed : Array Bool} (hc : OB ops listed) {i j : Nat} (h : Anc ops i j) : (∀ o, ops[i]? = some o -> ∀ e ∈ o.after, Region.binds .any e = true -> listed.getD e.on false = true) -> listed.getD j false = true := by
 induction h with
 | one h1 h2 h3 h4 => grind
 | more h1 h2 h3 _ ih => intro hx; exact ih fun o ho e he hb => hc _ o (hx _ h1 _ h2 h3) ho e he hb
def Gv (ops : List Oper) (i : Nat) : Bool := match ops with
 | [] => true
 | o :: r => (o.after.toList.all fun e => !Region.binds .any e || decide (e.on < i)) && Gv r (i + 1)
theorem HY {ops : Array Oper} : ∀ (r : List Oper) (i : Nat), (∀ k, r[k]? = ops[i + k]?) -> Gv r i = true -> ∀ k o, i <= k -> ops[k]? = some o -> ∀ e ∈ o.after, Region.binds .any e = true -> e.on < k
 | [], i, hr, _, k, o, hk, ho, _, _, _ => by
   have := hr (k - i)
   simp_all
 | x :: r, i, hr, hb, k, o, hk, ho, e, he, hbe => by
   simp only [Gv, Bool.and_eq_true] at hb
   by_cases hki : k = i
   ·subst hki
    have hx : o = x := by have := hr 0; simp only [List.getElem?_cons_zero, Nat.add_zero] at this; rw [ho] at this; exact (Option.some.inj this).symm
    grind
   ·exact HY r (i + 1) (fun k => by have := hr (k + 1); grind) hb.2 k o (by omega) ho e he hbe
def HZ (ops : Array Oper) (rs : List Rec) (ms : List Nat) : Bool :=
 (List.range ops.size).all fun i => (List.range i).all fun j => (ms.getD i 0).testBit j || indep ops rs j i
def recsRun (P : Program) (G : Glob) (T : Tab) (ops : Array Oper) (base : Nat) : List Nat -> St -> Option (List Rec)
 | [], _ => some []
 | i :: r, s => match Dq P ops i s.1 with
   | some (p, dst) =>
     let ch : Ch := match p with
      | .run _ (.call _ f args) => Rp T s.2 (base + WD * i) f args
      | _ => none
     match Bw P G T s.2 (base + WD * i) ch p with
     | some (g, v, m') => match recsRun P G T ops base r (setT s.1 dst v, m') with
       | some l => some (⟨fpV P G T s.2 (base + WD * i) ch p v, g, ch, tgPL p⟩ :: l)
       | none => none
     | none => none
   | none => none
def obsE : List Rec -> E
 | [] => mkB true
 | r :: l => mkAnd r.ob (obsE l)
def Kj (P : Program) (G : Glob) (T : Tab) (ops : Array Oper) (s : St) : Option (E × St) :=
 let s0 : St := (s.1, s.2 ++ List.replicate (WD * ops.size) none)
 match recsRun P G T ops s.2.length (List.range ops.size) s0 with
 | some rs => bif Gv ops.toList 0 && HZ ops rs (Gu ops.toList []) && rs.all fun r => decide (r.ob.kind = .b) then
  (Dr P G T ops s.2.length rs (List.range ops.size) s0).map fun s' => (obsE rs, s')
   else none
 | none => none
theorem Jg {F : Fam} : ∀ {rs : List Rec}, (rs.all fun r => decide (r.ob.kind = .b)) = true -> (obsE rs).kind = .b /\ ((obsE rs).tt F ρ = true -> ∀ r ∈ rs, r.ob.tt F ρ = true)
 | [], _ => ⟨rfl, fun _ r hr => by cases hr⟩
 | r :: l, h => by
   simp only [List.all_cons, Bool.and_eq_true, decide_eq_true_eq] at h
   obtain ⟨i1, i2⟩ := Jg (F := F) (rs := l) h.2
   grind [Ac, obsE]
theorem Ee (m : Mem) (n k : Nat) : Mem.at (m ++ List.replicate n none) k = m.at k := by
 grind [Mem.at]
theorem BD (m : Mem) (n : Nat) : al (m ++ List.replicate n none) = al m := by funext k; simp [al, Ee]
theorem Rel.extend {F : Fam} (h : Rel F ρ w0 M0 Im0 ad m w) (n : Nat) : Rel F ρ w0 M0 Im0 ad (m ++ List.replicate n none) w := by
 obtain ⟨hM, Im, h1, h2, hI⟩ := h
 refine ⟨hM, Im, h1, h2, fun k g x hk hg => ?_, fun k g x hk => ?_, fun k k' g x g' y b a1 a2 a3 a4 a5 a6 => ?_, hI.im, hI.fr⟩
 ·rw [Ee] at hk; exact hI.ent k g x hk hg
 ·rw [Ee] at hk; rw [BD]; exact hI.ok k g x hk
 ·rw [Ee] at a1 a3; exact hI.inj k k' g x g' y b a1 a2 a3 a4 a5 a6
theorem RelS.extend {F : Fam} {s : St} (h : RelS F ρ w0 M0 Im0 ad s a w) (n : Nat) : RelS F ρ w0 M0 Im0 ad (s.1, s.2 ++ List.replicate n none) a w :=
 ⟨⟨h.1.defers, h.1.size, fun i v hv => by simp only [BD]; exact h.1.slot i v hv⟩, h.2.extend n⟩
theorem Rel.drew {F : Fam} (h : Rel F ρ w0 M0 Im0 ad m w) : Rel F ρ w0 M0 Im0 ad m { w with drawn := w.drawn + 1 } := by
 obtain ⟨hM, Im, h1, h2, hI⟩ := h
 exact ⟨hM, Im, h1, h2, hI.refl_w rfl (hI.fr.trans (Fr.drew M0 w) fun b _ hb => hb)⟩
theorem OC {F : Fam} {ops : Array Oper} {o : Oper} (hT : RelT F ρ ad m tm a) : RelV F ρ ad m (Cb ops o tm) a := fun i v hv => by
 grind [Cb, RelT.slot]
def rem (ops : Array Oper) (listed : Array Bool) : List Nat := (List.range ops.size).filter fun i => !listed.getD i true
theorem OD (hS : B9 P G l T) (hG : GOK G Im0 w0) {ops : Array Oper} {base : Nat} {rs : List Rec} (hobs : ∀ r ∈ rs, r.ob.tt l.F ρ = true) {Q : Exit -> Act -> World -> Prop} (hback : Gv ops.toList 0 = true) (hpairs : HZ ops rs (Gu ops.toList []) = true)
 {s' : St} : ∀ (fuel : Nat) (listed : Array Bool) (s : St) (a : Act) (w : World) (ad : Nat -> Hd), listed.size = ops.size -> OB ops listed -> (rem ops listed).length = fuel ->
 Dr P G T ops base rs (rem ops listed) s = some s' -> RelS l.F ρ w0 M0 Im0 ad s a w -> (∀ ad' a' w', RelS l.F ρ w0 M0 Im0 ad' s' a' w' -> Ext ad ad' s.2 s'.2 -> Q .normal a' w') -> wpAny P .any ops Q fuel listed a w := by
 have hanc := HX ops ops.toList [] (fun k => by simp) (fun i j h => by simp at h)
 have hb := HY (ops := ops) ops.toList 0 (fun k => by simp) hback
 have noready : ∀ listed : Array Bool, listed.size = ops.size -> Region.ready .any ops listed = [] -> rem ops listed = [] := by
  intro listed hsz hr
  cases hrem : rem ops listed with
  | nil => rfl
  | cons i r =>
    exfalso
    have hmem : i ∈ rem ops listed := by rw [hrem]; simp
    simp only [rem, List.mem_filter, List.mem_range, Bool.not_eq_true'] at hmem
    have hsorted : (rem ops listed).Pairwise (· < ·) := List.Pairwise.filter _ List.pairwise_lt_range
    rw [hrem] at hsorted
    have hmin : ∀ k, k < i -> k ∉ rem ops listed := fun k hk hkm => by
     rw [hrem] at hkm
     rcases List.mem_cons.1 hkm with rfl | hkm
     ·omega
     ·have := (List.pairwise_cons.1 hsorted).1 k hkm; omega
    have : i ∈ Region.ready .any ops listed := by
     rw [mem_ready]
     refine ⟨hmem.2, ops[i], by simp [hmem.1], fun e he hbe => ?_⟩
     have hlt := hb i ops[i] (Nat.zero_le _) (by simp [hmem.1]) e he hbe
     have := hmin e.on hlt
     simp only [rem, List.mem_filter, List.mem_range, Bool.not_eq_true', not_and, Bool.not_eq_false] at this
     have := this (by omega)
     have hl : e.on < listed.size := by omega
     simpa [hl] using this
    simp_all
 intro fuel
 induction fuel with
 | zero =>
   intro listed s a w ad hsz hcl hlen hfold hR hQ
   have hnil : rem ops listed = [] := List.eq_nil_of_length_eq_zero hlen
   rw [hnil] at hfold
   simp only [Dr, oJ] at hfold
   subst hfold
   refine ⟨?_, hQ ad a w hR (Ext.refl _ _)⟩
   cases hr : Region.ready .any ops listed with
   | nil => rfl
   | cons i r =>
     exfalso
     have hi : i ∈ Region.ready .any ops listed := by rw [hr]; simp
     obtain ⟨h1, o, ho, _⟩ := mem_ready.1 hi
     have : i ∈ rem ops listed := by
      simp only [rem, List.mem_filter, List.mem_range, Bool.not_eq_true']
      exact ⟨(Array.getElem?_eq_some_iff.1 ho).1, h1⟩
     simp_all
 | succ fuel ih =>
   intro listed s a w ad hsz hcl hlen hfold hR hQ
   refine ⟨fun hr => ?_, fun i hi => ?_⟩
   ·simp_all
   ·obtain ⟨hun, o, ho, hall⟩ := mem_ready.1 hi
    have hisz : i < ops.size := (Array.getElem?_eq_some_iff.1 ho).1
    have hmem : i ∈ rem ops listed := by
     simp only [rem, List.mem_filter, List.mem_range, Bool.not_eq_true']
     exact ⟨hisz, hun⟩
    have hnd : (rem ops listed).Nodup := List.Pairwise.filter _ List.nodup_range
    have hsorted : (rem ops listed).Pairwise (· < ·) := List.Pairwise.filter _ List.pairwise_lt_range
    obtain ⟨pre, post, hnot, hsplit, herase⟩ := List.exists_erase_eq hmem
    have hrem' : rem ops (listed.setIfInBounds i true) = pre ++ post := by
     rw [<- herase, List.Nodup.erase_eq_filter hnd]
     unfold rem
     rw [List.filter_filter]
     apply List.filter_congr
     intro k hk
     by_cases hki : i = k
     ·simp_all
     ·rw [getD_set_ne true hki]
      grind
    have hindep : ∀ j ∈ pre, indep ops rs j i = true := fun j hj => by
     have hjm : j ∈ rem ops listed := by rw [hsplit]; simp [hj]
     have hjm' := hjm
     simp only [rem, List.mem_filter, List.mem_range, Bool.not_eq_true'] at hjm'
     have hlt : j < i := by
      rw [hsplit] at hsorted
      exact (List.pairwise_append.1 hsorted).2.2 j hj i (by simp)
     unfold HZ at hpairs
     have h1 := List.all_eq_true.1 (List.all_eq_true.1 hpairs i (List.mem_range.2 hisz)) j (List.mem_range.2 hlt)
     simp only [Bool.or_eq_true] at h1
     rcases h1 with h1 | h1
     ·exfalso
      have h2 := (hanc i j h1).listed hcl (fun o' ho' e he hbe => hall e (by simp_all) hbe)
      grind
     ·exact h1
    rw [hsplit] at hfold
    obtain ⟨s1, c1, c2⟩ := LA pre hindep hfold
    rw [<- hrem'] at c2
    unfold stI Dq at c1
    rw [ho] at c1
    simp only at c1
    cases hp : Dp P ops o (Cb ops o s.1) with
    | none => rw [hp] at c1; cases c1
    | some p =>
      simp only [hp, Option.map_some] at c1
      split at c1
      ·rename_i p' dst' r hpe hr
       simp only [oJ, pJ] at hpe
       obtain ⟨rfl, rfl⟩ := hpe
       split at c1
       ·rename_i g v m' hrun
        split at c1
        ·rename_i hgs
         simp only [oJ] at c1
         subst c1
         have hgt : g.tt l.F ρ = true := by rw [E.same_eq _ _ hgs.2]; exact hobs r (List.mem_of_getElem? hr)
         refine wpOp_step ho fun K' hK' => ?_
         refine (Er hS hG hR (OC hR.1) hp hrun).2 hgt _ _ fun ad' a' w' hR' hx => hK' a' w' ?_
         refine ih _ (setT s.1 o.dst v, m') a' w' ad' (by simp [hsz]) ?_ ?_ c2 hR' fun ad'' a'' w'' hR'' hx' => hQ ad'' a'' w'' hR'' (hx.trans hx')
         ·intro k o' hk ho' e he hbe
          by_cases hki : i = k
          ·subst hki
           rw [ho] at ho'; cases ho'
           exact getD_set_true (hall e he hbe)
          ·rw [getD_set_ne false hki] at hk
           exact getD_set_true (hcl k o' hk ho' e he hbe)
         grind
        ·cases c1
       ·cases c1
      ·cases c1
theorem MQ (hm : P.follows .mixedOrders = true) (hS : B9 P G l T) (hG : GOK G Im0 w0) {ops : Array Oper} {id : Nat} {s s' : St} {ob : E} (h : Kj P G T ops s = some (ob, s')) : ob.kind = .b /\ (ob.tt l.F ρ = true -> ∀ {ad : Nat -> Hd} {a : Act} {w : World}, RelS l.F ρ w0 M0 Im0 ad s a w -> ∀ {Q : Exit -> Act -> World -> Prop},
 (∀ ad' a' w', RelS l.F ρ w0 M0 Im0 ad' s' a' w' -> Ext ad ad' s.2 s'.2 -> Q .normal a' w') -> (Code.region id ops true).wp P Q a w) := by
 unfold Kj at h
 simp only at h
 split at h
 ·rename_i rs hrs
  cases hb : Gv ops.toList 0 && HZ ops rs (Gu ops.toList []) && rs.all fun r => decide (r.ob.kind = .b)
  ·rw [hb] at h; cases h
  ·rw [hb] at h
   simp only [cond_true] at h
   obtain ⟨s1, hfo, he⟩ := Option.map_eq_some_iff.1 h
   simp only [pJ] at he
   obtain ⟨rfl, rfl⟩ := he
   simp only [Bool.and_eq_true] at hb
   obtain ⟨o1, o2⟩ := Jg (F := l.F) (ρ := ρ) hb.2
   refine ⟨o1, fun ht {ad a w} hR {Q} hQ => ?_⟩
   have hrem : rem ops (Array.replicate ops.size false) = List.range ops.size := by
    unfold rem
    rw [List.filter_eq_self]
    intro i hi
    have := List.mem_range.1 hi
    simp [this]
   have hR0 := hR.extend (WD * ops.size)
   refine wp_region_any hm (OD hS hG (o2 ht) hb.1.1 hb.1.2 ops.size _ (s.1, s.2 ++ List.replicate (WD * ops.size) none) a _ ad (by simp) ?_ (by rw [hrem]; simp) (by rw [hrem]; exact hfo) ⟨hR0.1, hR0.2.drew⟩ ?_)
   ·intro k o hk
    exfalso
    rcases Nat.lt_or_ge k ops.size with h' | h'
    ·simp [h'] at hk
    ·simp [h'] at hk
   ·intro ad' a' w' hR' hx
    refine hQ ad' a' w' hR' ⟨fun k hk => hx.same k ?_, fun k hk => hx.keep k ?_⟩ <;> simpa [BD] using hk
 ·cases h
end
def andB (a b : E) : E := if a.kind = .b /\ b.kind = .b then mkAnd a b else mkB false
def impB (c b : E) : E := if c.kind = .b /\ b.kind = .b then mkOr (Ak c) b else mkB false
theorem AB {a b : E} {F : Fam} {ρ : Nat -> Int} (h : (andB a b).tt F ρ = true) : a.tt F ρ = true /\ b.tt F ρ = true := by
 unfold andB at h; split at h
 ·grind [Ac]
 ·simp at h
theorem EE {c b : E} {F : Fam} {ρ : Nat -> Int} (h : (impB c b).tt F ρ = true) (hc : c.tt F ρ = true) : b.tt F ρ = true := by
 unfold impB at h; split at h
 ·grind [BQ, Ak, Ad]
 ·simp at h
abbrev Into := Nat -> List SV -> Mem -> Option (E × SV × Mem)
def chOf (T : Tab) (m : Mem) (nm : Nat) : PL -> Ch
 | .run _ (.call _ f args) => Rp T m nm f args
 | _ => none
def Rq (P : Program) (G : Glob) (T : Tab) (m : Mem) (nm : Nat) (pl : PL) : Option (E × SV × Mem) := Bw P G T m nm (chOf T m nm pl) pl
def MR (call : Into) (f : Nat) (args : List SV) (m : Mem) : Option (E × SV × Mem) :=
 match call f args m with
 | some r => some r
 | none => bif SV.sameL args (Dn true args) then none else (call f (Dn true args) m).map fun r => (andB (B3 args) r.1, r.2.1, r.2.2)
def Kl (P : Program) (G : Glob) (T : Tab) (call : Into) (ops : Array Oper) (o : Oper) (s : St) : Option (E × St) :=
 match Dp P ops o s.1.at with
 | some pl => match Rq P G T s.2 s.2.length pl with
   | some (g, v, m') => some (g, setT s.1 o.dst v, m')
   | none => match Rq P G T (s.2 ++ List.replicate WD none) s.2.length pl with
     | some (g, v, m') => some (g, setT s.1 o.dst v, m')
     | none => match pl with
       | .run none (.call g f args) => match MR call f args s.2 with
         | some (g2, v, m') => some (andB g g2, setT s.1 o.dst v, m')
         | none => none
       | _ => none
 | none => none
def H0 (P : Program) (G : Glob) (T : Tab) (call : Into) (ops : Array Oper) : List Oper -> St -> Option (E × St)
 | [], s => some (mkB true, s)
 | o :: r, s => match Kl P G T call ops o s with
   | some (g, s1) => match H0 P G T call ops r s1 with
     | some (g2, s2) => some (andB g g2, s2)
     | none => none
   | none => none
def MS (s : St) (c : Operand) : Option E :=
 match getC [] s.1.at c with
 | some (.sc e) => if e.kind = .b then some e else none
 | _ => none
section
variable {P : Program} {ρ : Nat -> Int} {G : Glob} {T : Tab} {l : Tabs} {w0 w : World} {M0 Im0 : Nat -> Prop} {ad : Nat -> Hd} {m m2 m' : Mem} {tm : Tm} {en : Env} {a : Act}
def Dc (P : Program) (l : Tabs) (ρ : Nat -> Int) (w0 : World) (M0 Im0 : Nat -> Prop) (call : Into) : Prop :=
 ∀ f args m ob v m', call f args m = some (ob, v, m') -> ob.tt l.F ρ = true -> ∀ ad w, Rel l.F ρ w0 M0 Im0 ad m w -> SV.okL (al m) args ->
   Calls P f (SV.concL l.F ρ ad args).toArray w fun e w' => ∃ ad', e = .returned (v.conc l.F ρ ad') /\ Rel l.F ρ w0 M0 Im0 ad' m' w' /\ Ext ad ad' m m' /\ v.ok (al m')
theorem Km {p : Nat -> Prop} {F : Fam} {ρ : Nat -> Int} {ad : Nat -> Hd} : ∀ {args : List SV}, SV.okL p args -> SV.okL p (Dn true args)
 | [], _ => trivial
 | v :: r, h => ⟨(Bo (F := F) (ρ := ρ) (ad := ad) v).2 h.1, Km (F := F) (ρ := ρ) (ad := ad) (args := r) h.2⟩
theorem Q1 {call : Into} (hI : Dc P l ρ w0 M0 Im0 call) : Dc P l ρ w0 M0 Im0 (MR call) := by
 intro f args m ob v m' h ht ad w hR hok
 unfold MR at h
 split at h
 ·rename_i r hr
  simp only [oJ] at h; subst h
  exact hI f args m _ _ _ hr ht ad w hR hok
 ·cases hs : SV.sameL args (Dn true args)
  ·rw [hs] at h
   obtain ⟨⟨o2, v2, m2⟩, h2, h3⟩ := Option.map_eq_some_iff.1 h
   simp only [pJ] at h3
   obtain ⟨rfl, rfl, rfl⟩ := h3
   obtain ⟨t1, t2⟩ := AB ht
   have := hI f _ m _ _ _ h2 t2 ad w hR (Km (F := l.F) (ρ := ρ) (ad := ad) hok)
   grind [Fc]
  simp_all
theorem MT {s : St} (hE : RelV l.F ρ ad s.2 en a) {ops : Array Oper} {o : Oper} {g : E} {f : Nat} {args : List SV} (hp : Dp P ops o en = some (.run none (.call g f args))) (hg : g.tt l.F ρ = true) :
 Region.wanted o (yielded ops a.tmps) = true /\ (execOp a.eval o).run P w = .ok (.enter f (SV.concL l.F ρ ad args).toArray) w /\ SV.okL (al s.2) args := by
 unfold Dp at hp
 split at hp
 ·simp at hp
 ·rename_i hgd
  obtain ⟨W, hW, he⟩ := Option.map_eq_some_iff.1 hp
  simp only [PL.run.injEq, true_and] at he
  subst he
  refine ⟨by rw [C4 hE hgd]; rfl, ?_⟩
  unfold Gc at hW
  split at hW
  ·simp_all
  ·split at hW
   ·rename_i g0 f' args' hds
    simp only [oJ, W.call.injEq] at hW
    obtain ⟨rfl, rfl, rfl⟩ := hW
    obtain ⟨j1, j2⟩ := FN l.BI (P := P) (w := w) (F := l.F) (ρ := ρ) (ad := ad) (p := al s.2) (ev := a.eval) (fun x s hx => Bg hE (cs := []) rfl hx) hds
    obtain ⟨d1, d2⟩ := j2 hg
    exact ⟨by rw [d1]; rfl, d2⟩
   ·simp at hW
   ·cases hW
 ·simp_all
 ·cases hp
theorem Kn (hS : B9 P G l T) (hG : GOK G Im0 w0) {call : Into} (hI : Dc P l ρ w0 M0 Im0 call) {ops : Array Oper} {o : Oper} {s s' : St} {g : E} (h : Kl P G T call ops o s = some (g, s')) (ht : g.tt l.F ρ = true)
 (hR : RelS l.F ρ w0 M0 Im0 ad s a w) {K : Act -> World -> Prop} {Q : Exit -> Act -> World -> Prop} (hK : ∀ ad' a' w', RelS l.F ρ w0 M0 Im0 ad' s' a' w' -> Ext ad ad' s.2 s'.2 -> K a' w') :
 if Region.wanted o (yielded ops a.tmps) = true then o.wp P a w K Q else K (a.put o.dst undef) w := by
 unfold Kl at h
 split at h
 ·rename_i pl hp
  split at h
  ·rename_i g1 v m' hr
   simp only [oJ, pJ] at h
   obtain ⟨rfl, rfl⟩ := h
   exact (Er hS hG hR hR.1.envV hp hr).2 ht K Q hK
  ·split at h
   ·rename_i g1 v m' hr
    simp only [oJ, pJ] at h
    obtain ⟨rfl, rfl⟩ := h
    have hR' := hR.extend WD
    exact (Er hS hG hR' hR'.1.envV hp hr).2 ht K Q fun ad' a' w' h1 h2 => hK ad' a' w' h1 ⟨fun k hk => h2.same k (by simpa [BD] using hk), fun k hk => h2.keep k (by simpa [BD] using hk)⟩
   ·split at h
    ·rename_i g1 f args hn1 hn2
     split at h
     ·rename_i g2 v m' hc
      simp only [oJ, pJ] at h
      obtain ⟨rfl, rfl⟩ := h
      obtain ⟨t1, t2⟩ := AB ht
      obtain ⟨p1, p2, p3⟩ := MT (w := w) hR.1.envV hp t1
      rw [if_pos p1]
      unfold Oper.wp
      rw [p2]
      simp only [Oper.upon]
      refine (Q1 hI f args s.2 _ _ _ hc t2 ad w hR.2 p3).mono ?_
      rintro e w' ⟨ad', rfl, r2, r3, r4⟩
      exact hK ad' _ w' ⟨(hR.1.ext r3).put o.dst r4, r2⟩ r3
     ·cases h
    ·cases h
 ·cases h
theorem GS (hS : B9 P G l T) (hG : GOK G Im0 w0) {call : Into} (hI : Dc P l ρ w0 M0 Im0 call) {ops : Array Oper} {Q : Exit -> Act -> World -> Prop} : ∀ (os : List Oper) (s s' : St) (g : E) (ad : Nat -> Hd) (a : Act) (w : World),
 H0 P G T call ops os s = some (g, s') -> g.tt l.F ρ = true -> RelS l.F ρ w0 M0 Im0 ad s a w -> (∀ ad' a' w', RelS l.F ρ w0 M0 Im0 ad' s' a' w' -> Ext ad ad' s.2 s'.2 -> Q .normal a' w') -> wpList P ops Q os a w
 | [], s, s', g, ad, a, w, h, ht, hR, hQ => by
   simp only [H0, oJ, pJ] at h
   obtain ⟨rfl, rfl⟩ := h
   exact hQ ad a w hR (Ext.refl _ _)
 | o :: r, s, s', g, ad, a, w, h, ht, hR, hQ => by
   simp only [H0] at h
   split at h
   ·rename_i g1 s1 h1
    split at h
    ·rename_i g2 s2 h2
     simp only [oJ, pJ] at h
     obtain ⟨rfl, rfl⟩ := h
     obtain ⟨t1, t2⟩ := AB ht
     have := Kn (K := wpList P ops Q r) (Q := Q) hS hG hI h1 t1 hR fun ad' a' w' hR' hx => GS hS hG hI r s1 _ g2 ad' a' w' h2 t2 hR' fun ad'' a'' w'' hR'' hx' => hQ ad'' a'' w'' hR'' (hx.trans hx')
     unfold wpList
     grind
    ·cases h
   ·cases h
theorem MU {F : Fam} (hT : RelT F ρ ad m tm a) {c : Operand} {e : E} (h : MS (tm, m) c = some e) : e.kind = .b /\ a.eval c = .bool (e.tt F ρ) := by
 unfold MS at h
 split at h
 ·rename_i e' h1
  split at h
  ·rename_i hk
   simp only [oJ] at h; subst h
   obtain ⟨i1, _⟩ := Bg hT.envV (cs := []) rfl h1
   grind [SV.conc, E.val_b]
  ·cases h
 ·cases h
end
structure LEnt where
 ent : Ent
 sl : List Nat
 so : List Nat
 wr : List Nat
 labs : List Lab
 nt : Nat
 shr : List Nat
def dtOf : List Lab -> List SV -> Option (DT × List SV)
 | [], _ => none
 | [l], vs => some (.leaf l, vs)
 | l :: k :: ls, .sc e :: vs => if e.kind = .b then (dtOf (k :: ls) vs).map fun r => (.br e (.leaf l) r.1, r.2) else none
 | _ :: _ :: _, _ => none
def labV : List Lab -> List Value -> Option (Lab × List Value)
 | [], _ => none
 | [l], vs => some (l, vs)
 | l :: k :: ls, .bool b :: vs => (labV (k :: ls) vs).map fun r => (bif b then l else r.1, r.2)
 | _ :: _ :: _, _ => none
def Fe : List Nat -> List SV -> Tm -> Option Tm
 | [], [], tm => some tm
 | t :: ts, v :: vs, tm => if t < tm.length /\ !ts.contains t = true then Fe ts vs (tm.set t (some v)) else none
 | _, _, _ => none
def H2 : List Nat -> Tm -> Tm
 | [], tm => tm
 | t :: ts, tm => H2 ts (tm.set t none)
def Ff (tm : Tm) : List Nat -> Option (List SV)
 | [] => some []
 | t :: ts => match tm.at t, Ff tm ts with
   | some v, some l => some (v :: l)
   | _, _ => none
def H3 (e : Ent) (m : Mem) (nm : Nat) (args : List SV) (fo : Bool) : Option (E × SV × Mem) :=
 (Cn e m nm (Dn fo args)).map fun r => (andB (bif fo then B3 args else mkB true) r.1, r.2.1, r.2.2)
def OE (e : Ent) (m : Mem) (nm : Nat) (args : List SV) : Option (E × SV × Mem) :=
 match H3 e m nm args false with
 | some r => some r
 | none => H3 e m nm args true
def shrN (tm : Tm) (l : List Nat) : List Nat := l.filterMap fun t => match tm.at t with
 | some (.ls n _) => some n
 | _ => none
def MV : List Sh -> List SV -> List Nat
 | .lst _ _ false :: l, .ls n _ :: vs => n :: MV l vs
 | _ :: l, _ :: vs => MV l vs
 | _, _ => []
def objN (m : Mem) : List Sh -> List SV -> List Nat
 | .obj _ cs :: l, .ptr n 0 :: vs => (match m.at n with
   | some (_, .cells _ us) => MV cs us
   | _ => []) ++ objN m l vs
 | _ :: l, _ :: vs => objN m l vs
 | _, _ => []
def Gw (le : LEnt) (s : St) : Option (E × Out) :=
 match (if s.1.length = le.nt then Ff s.1 le.sl else none) with
 | some args => match OE le.ent (shareL s.2 (shrN s.1 le.shr ++ objN s.2 le.ent.ps args) ++ List.replicate (Sh.nnL le.ent.outL) none) s.2.length args with
   | some (g, .tup vs, m') => match dtOf le.labs vs with
     | some (d, us) => match Fe le.so us (H2 le.wr s.1) with
       | some tm' => some (g, d, le.labs.map fun l => (l, (tm', m')))
       | none => none
     | none => none
   | _ => none
 | none => none
def H4 (G : Glob) (le : LEnt) (C : (Exit -> Act -> World -> Prop) -> Act -> World -> Prop) : Prop :=
 ∀ xs, fits le.ent.pks xs -> le.ent.pre xs -> ∀ (w : World) (M0 Im : Nat -> Prop) (hs : Nat -> Hd), (∀ b, M0 b -> ¬ Im b /\ b < w.heap.size) -> GOK G Im w -> RelE F0 (env xs) w M0 Im hs le.ent.pgen.2 w ->
   ∀ a : Act, a.defers = [] -> a.tmps.size = le.nt -> (∀ (i t : Nat), le.sl[i]? = some t -> a.tmps[t]? = (SV.concL F0 (env xs) hs le.ent.pgen.1)[i]?) -> ∀ Q : Exit -> Act -> World -> Prop,
     (∀ (a' : Act) (w' : World) (hs' : Nat -> Hd) (Im' : Nat -> Prop) (Vs : List Value) (lab : Lab) (us : List Value), (∀ j, j < le.ent.nn -> hs' j = hs j) -> (∀ b, Im b -> Im' b) -> (∀ b, Im' b -> Im b \/ M0 b \/ w.heap.size <= b) ->
      RelE F0 (env (xs ++ Al le.ent.fn xs 0 le.ent.oks)) w M0 Im' hs' le.ent.oents w' ->
      (AE le.ent.ogen.1).conc F0 (env (xs ++ Al le.ent.fn xs 0 le.ent.oks)) hs' = .tuple Vs.toArray -> labV le.labs Vs = some (lab, us) ->
      (∀ (i t : Nat), le.so[i]? = some t -> a'.tmps[t]? = us[i]?) -> (∀ k, k ∉ le.so -> k ∉ le.wr -> a'.tmps[k]? = a.tmps[k]?) -> a'.tmps.size = a.tmps.size -> a'.defers = [] -> Q lab.exit a' w') ->
     C Q a w
def CodeOK (P : Program) (G : Glob) (c : Code) (le : LEnt) : Prop := H4 G le fun Q => c.wp P Q
def OG (P : Program) (G : Glob) (body : Code) (le : LEnt) : Prop := H4 G le fun Q => (Code.loop body).wp P Q
section
variable {P : Program} {ρ : Nat -> Int} {G : Glob} {T : Tab} {l : Tabs} {w0 w : World} {M0 Im0 : Nat -> Prop} {ad : Nat -> Hd} {m m2 m' : Mem} {tm : Tm} {en : Env} {a : Act}
theorem Jh {F : Fam} : ∀ {ls : List Lab} {vs us : List SV} {d : DT}, dtOf ls vs = some (d, us) -> labV ls (SV.concL F ρ ad vs) = some (d.eval F ρ, SV.concL F ρ ad us) /\ (∀ p, SV.okL p vs -> SV.okL p us) /\ d.eval F ρ ∈ ls
 | [], vs, us, d, h => by simp [dtOf] at h
 | [k], vs, us, d, h => by
   simp only [dtOf, oJ, pJ] at h
   obtain ⟨rfl, rfl⟩ := h
   exact ⟨rfl, fun _ h => h, by simp [DT.eval]⟩
 | k :: k' :: ls, [], us, d, h => by simp [dtOf] at h
 | k :: k' :: ls, v :: vs, us, d, h => by
   cases v with
   | sc e =>
     simp only [dtOf] at h
     split at h
     ·rename_i hk
      obtain ⟨⟨d', us'⟩, h1, h2⟩ := Option.map_eq_some_iff.1 h
      simp only [pJ] at h2
      obtain ⟨rfl, rfl⟩ := h2
      obtain ⟨i1, i2, i3⟩ := Jh (F := F) h1
      refine ⟨?_, fun p hp => i2 p hp.2, ?_⟩
      ·grind [SV.concL, SV.conc, labV, DT.eval, E.val_b]
      grind [DT.eval, E.tt]
     ·cases h
   | _ => simp [dtOf] at h
theorem H5 : ∀ (ts : List Nat) (tm : Tm), (H2 ts tm).length = tm.length /\ ∀ k v, (H2 ts tm).at k = some v -> tm.at k = some v /\ k ∉ ts
 | [], tm => ⟨rfl, fun k v h => ⟨h, by simp⟩⟩
 | t :: ts, tm => by
   obtain ⟨i1, i2⟩ := H5 ts (tm.set t none)
   grind [H2, Tm.at]
theorem H6 : ∀ {ts : List Nat} {vs : List SV} {tm tm' : Tm}, Fe ts vs tm = some tm' -> tm'.length = tm.length /\ vs.length = ts.length /\ (∀ k, k ∉ ts -> tm'.at k = tm.at k) /\ ∀ (i t : Nat), ts[i]? = some t -> tm'.at t = vs[i]?
 | [], [], tm, tm', h => by
   grind [Fe]
 | [], _ :: _, tm, tm', h => by simp [Fe] at h
 | _ :: _, [], tm, tm', h => by simp [Fe] at h
 | t :: ts, v :: vs, tm, tm', h => by
   simp only [Fe] at h
   split at h
   ·rename_i hc
    obtain ⟨i1, i2, i3, i4⟩ := H6 h
    grind [Tm.at]
   ·cases h
theorem Ds : ∀ {ts : List Nat} {vs : List SV}, Ff tm ts = some vs -> vs.length = ts.length /\ ∀ (i t : Nat), ts[i]? = some t -> tm.at t = vs[i]?
 | [], vs, h => by grind [Ff]
 | t :: ts, vs, h => by
   simp only [Ff] at h
   split at h
   ·rename_i v l h1 h2
    simp only [oJ] at h; subst h
    obtain ⟨i1, i2⟩ := Ds h2
    grind
   ·cases h
theorem MW {e : Ent} (he : l.get e.key = some e) (hG : GOK G Im0 w0) (hR : Rel l.F ρ w0 M0 Im0 ad m w) {nm : Nat} {args : List SV} {fo : Bool} {g : E} {v : SV}
 (h : H3 e m nm args fo = some (g, v, m')) (ht : g.tt l.F ρ = true) : ∃ (xs : List Int) (hs : Nat -> Hd) (M1 Im : Nat -> Prop), fits e.pks xs /\ e.pre xs /\ SV.concL l.F ρ ad args = SV.concL F0 (env xs) hs e.pgen.1 /\
  (∀ b, M1 b -> ¬ Im b /\ b < w.heap.size) /\ GOK G Im w /\ RelE F0 (env xs) w M1 Im hs e.pgen.2 w /\
  ∀ (w' : World) (hs' : Nat -> Hd) (Im' : Nat -> Prop), (∀ j, j < e.nn -> hs' j = hs j) -> (∀ b, Im b -> Im' b) -> (∀ b, Im' b -> Im b \/ M1 b \/ w.heap.size <= b) -> RelE F0 (env (xs ++ Al e.fn xs 0 e.oks)) w M1 Im' hs' e.oents w' ->
    ∃ ad', v.conc l.F ρ ad' = (AE e.ogen.1).conc F0 (env (xs ++ Al e.fn xs 0 e.oks)) hs' /\ Rel l.F ρ w0 M0 Im0 ad' m' w' /\ Ext ad ad' m m' /\ v.ok (al m') := by
 unfold H3 at h
 obtain ⟨⟨g1, v1, m1⟩, h1, h2⟩ := Option.map_eq_some_iff.1 h
 simp only [pJ] at h2
 obtain ⟨rfl, rfl, rfl⟩ := h2
 obtain ⟨t1, t2⟩ := AB ht
 have := (HK he hG hR h1).2 t2
 grind [Fc]
theorem Es {le : LEnt} {C : (Exit -> Act -> World -> Prop) -> Act -> World -> Prop} (he : l.get le.ent.key = some le.ent) (hL : H4 G le C) (hG : GOK G Im0 w0) {s : St} {g : E} {o : Out} (h : Gw le s = some (g, o)) (ht : g.tt l.F ρ = true) (hR : RelS l.F ρ w0 M0 Im0 ad s a w) {Q : Exit -> Act -> World -> Prop}
 (hA : After l.F ρ w0 M0 Im0 ad s.2 o Q) : C Q a w := by
 unfold Gw at h
 split at h
 ·rename_i args hargs
  have hnt : s.1.length = le.nt /\ Ff s.1 le.sl = some args := by
   split at hargs
   ·simp_all
   ·cases hargs
  obtain ⟨hnt, hargs⟩ := hnt
  split at h
  ·rename_i g1 vs m' hcall
   split at h
   ·rename_i d us hd
    split at h
    ·rename_i tm' hset
     simp only [oJ, pJ] at h
     obtain ⟨rfl, rfl⟩ := h
     have hR1 : RelS l.F ρ w0 M0 Im0 ad (s.1, shareL s.2 (shrN s.1 le.shr ++ objN s.2 le.ent.ps args)) a w := ⟨⟨hR.1.defers, hR.1.size, fun i v hv => ⟨(hR.1.slot i v hv).1, SV.ok_mono (fun k hk => (Bn _ _ _).2 hk) v (hR.1.slot i v hv).2⟩⟩, Rel.shareL _ hR.2⟩
     have hR' := hR1.extend (Sh.nnL le.ent.outL)
     have hcore : ∃ fo, H3 le.ent (shareL s.2 (shrN s.1 le.shr ++ objN s.2 le.ent.ps args) ++ List.replicate (Sh.nnL le.ent.outL) none) s.2.length args fo = some (g1, .tup vs, m') := by
      unfold OE at hcall
      split at hcall
      ·simp_all
      ·exact ⟨_, hcall⟩
     obtain ⟨fo, hcf⟩ := hcore
     obtain ⟨xs, hs, M1, Im, a1, a2, a3, a4, a5, a6, a7⟩ := MW he hG hR'.2 hcf ht
     obtain ⟨g1, g2⟩ := Ds hargs
     refine hL xs a1 a2 w M1 Im hs a4 a5 a6 a hR.1.defers (by rw [<- hnt]; exact hR.1.size) (fun i t hi => ?_) Q ?_
     ·rw [<- a3]
      have hv := g2 i t hi
      have hil : i < args.length := by have := (List.getElem?_eq_some_iff.1 hi).1; omega
      rw [List.getElem?_eq_getElem hil] at hv
      rw [(hR.1.slot t _ hv).1, Ae, List.getElem?_map, List.getElem?_eq_getElem hil, Option.map_some]
     ·intro a' w' hs' Im' Vs lab uv q1 q2 q3 q4 q5 q6 q7 q8 q9 q10
      obtain ⟨ad', r1, r2, r3, r4⟩ := a7 w' hs' Im' q1 q2 q3 q4
      rw [<- r1] at q5
      simp only [SV.conc, Value.tuple.injEq] at q5
      have hVs : Vs = SV.concL l.F ρ ad' vs := by
       have := congrArg Array.toList q5
       simpa using this.symm
      subst hVs
      obtain ⟨l1, l2, l3⟩ := Jh (F := l.F) (ρ := ρ) (ad := ad') hd
      rw [l1] at q6
      simp only [oJ, pJ] at q6
      obtain ⟨rfl, rfl⟩ := q6
      obtain ⟨s1, s2, s3, s4⟩ := H6 hset
      obtain ⟨c1, c2⟩ := H5 le.wr s.1
      have hx : Ext ad ad' s.2 m' := ⟨fun k hk => r3.same k (by rw [BD, Bn]; exact hk), fun k hk => r3.keep k (by rw [BD, Bn]; exact hk)⟩
      refine hA (tm', m') ad' a' w' ?_ ⟨⟨q10, ?_, fun k v hv => ?_⟩, r2⟩ hx
      ·have : ∀ (ls : List Lab) (x : Lab), x ∈ ls -> lk x (ls.map fun l => (l, (tm', m'))) = some (tm', m') := by
        intro ls x hx
        induction ls with
        | nil => cases hx
        | cons k ls ih =>
          grind [lk]
       exact this le.labs _ l3
      ·show a'.tmps.size = tm'.length
       rw [s1, c1, q9]; exact hR.1.size
      ·have hokus := l2 _ r4
       change tm'.at k = some v at hv
       by_cases hk : k ∈ le.so
       ·obtain ⟨i, hi, hik⟩ := List.getElem_of_mem hk
        have hik' : le.so[i]? = some k := by rw [List.getElem?_eq_getElem hi, hik]
        grind [Ae, Ct]
       ·rw [s3 k hk] at hv
        obtain ⟨j1, j2⟩ := c2 k v hv
        obtain ⟨k1, k2⟩ := hR.1.slot k v j1
        grind [SV.conc_congr, Ext.same, SV.ok_mono, Ext.keep]
    ·cases h
   ·cases h
  ·cases h
 ·cases h
end
abbrev Bk := List Bool -> Option LEnt
def Az : Code -> List Bool -> Option Code
 | .seq x y, b :: p => bif b then Az y p else Az x p
 | .cond _ x y, b :: p => bif b then Az y p else Az x p
 | .block _ c, _ :: p => Az c p
 | .loop c, b :: p => bif b then Az (.loop c) p else Az c p
 | c, [] => some c
 | _, _ :: _ => none
def Ge (f : St -> Option (E × Out)) (r : E × Out) : Option (E × Out) :=
 match lk .nrm r.2.2 with
 | none => some r
 | some s1 => match f s1 with
   | some q => match Ly r.2 q.2 with
     | some o => some (andB r.1 (impB (r.2.1.is .nrm) q.1), o)
     | none => none
   | none => none
def tagL (L : Bk) (k : Nat) : Bk := fun p => match L (List.replicate (k + 1) true ++ false :: p) with
 | some le => some le
 | none => L (false :: p)
theorem H7 (c : Code) (p : List Bool) : ∀ k : Nat, Az (.loop c) (List.replicate k true ++ false :: p) = Az c p
 | 0 => rfl
 | k + 1 => H7 c p k
def Gf (f : Nat -> St -> Option (E × Out)) : Nat -> Nat -> St -> Option (E × Out)
 | 0, _, _ => none
 | n + 1, k, s => match f k s with
   | some r => Ge (Gf f n (k + 1)) r
   | none => none
def padTo (m : Mem) (o : Option (E × Out)) : Nat :=
 match o with
 | some r => r.2.2.foldl (fun k x => max k x.2.2.length) m.length - m.length
 | none => 0
def brE (e : E) (x y : Option (E × Out)) : Option (E × Out) :=
 match x, y with
 | some ox, some oy => match MM e ox.2 oy.2 with
   | some o => some (andB (impB e ox.1) (impB (Ak e) oy.1), o)
   | none => none
 | some ox, none => some (andB e ox.1, ox.2)
 | none, some oy => some (andB (Ak e) oy.1, oy.2)
 | none, none => none
def AD (P : Program) (G : Glob) (T : Tab) (call : Into) (N : Nat) : Bk -> Code -> St -> Option (E × Out)
 | _, .skip, s => some (mkB true, .leaf .nrm, [(.nrm, s)])
 | _, .label _, s => some (mkB true, .leaf .nrm, [(.nrm, s)])
 | _, .region _ ops true, s => match Kj P G T ops s with
   | some (g, s') => some (g, .leaf .nrm, [(.nrm, s')])
   | none => none
 | _, .region _ ops false, s => match H0 P G T call ops ops.toList s with
   | some (g, s') => some (g, .leaf .nrm, [(.nrm, s')])
   | none => none
 | L, .seq x y, s => match L [] with
   | some le => Gw le s
   | none => match AD P G T call N (fun p => L (false :: p)) x s with
     | some r => Ge (AD P G T call N (fun p => L (true :: p)) y) r
     | none => none
 | L, .cond c x y, s => match MS s c with
   | some e => match e.lit? with
     | some n => bif i2b n then AD P G T call N (fun p => L (false :: p)) x s else AD P G T call N (fun p => L (true :: p)) y s
     | none => match AD P G T call N (fun p => L (false :: p)) x s with
       | ox => brE e ox (AD P G T call N (fun p => L (true :: p)) y (s.1, s.2 ++ List.replicate (padTo s.2 ox) none))
   | none => none
 | L, .block id body, s => match AD P G T call N (fun p => L (false :: p)) body s with
   | some r => match Ke id r.2 with
     | some o => some (r.1, o)
     | none => none
   | none => none
 | L, .loop body, s => match L [] with
   | some le => Gw le s
   | none => Gf (fun k => AD P G T call N (tagL L k) body) N 0 s
 | _, .exit id, s => some (mkB true, .leaf (.ex id), [(.ex id, s)])
 | _, .ret, s => some (mkB true, .leaf .ret, [(.ret, s)])
 | _, _, _ => none
def resS (P : Program) (s : St) : List ResultVar -> Option (E × List SV)
 | [] => some (mkB true, [])
 | .tmp t :: r => match getC [] s.1.at (.tmp t), resS P s r with
   | some v, some l => some (l.1, v :: l.2)
   | _, _ => none
 | .cell t ty :: r => match getC [] s.1.at (.tmp t), D0 P ty, szOf P ty with
   | some (.ptr n off), some ag, some sz => match blkC s.2 n with
     | some (g, _, cs) => match rdC cs off sz ag, resS P s r with
       | some v, some l => some (andB g l.1, v :: l.2)
       | _, _ => none
     | none => none
   | _, _, _ => none
def JC : List SV -> SV
 | [v] => v
 | l => .tup l
def Ko (P : Program) (fn : Func) (s : St) : Option (E × SV × Mem) := (resS P s fn.results.toList).map fun l => (l.1, JC l.2, s.2)
def EF : List (Lab × St) -> Bool
 | [] => true
 | (l, _) :: r => (decide (l = .nrm) || decide (l = .ret)) && EF r
def MX (m : Mem) (o : Out) : Option St :=
 bif EF o.2 then
  match lk .ret o.2, lk .nrm o.2 with
  | some s, none => some s
  | none, some s => some s
  | some s, some s' => DA (o.1.is .ret) s s'
  | none, none => none
 else none
def tm0 (n : Nat) (args : List SV) : Tm := args.map some ++ List.replicate (n - args.length) (some .und)
def evFn (P : Program) (G : Glob) (T : Tab) (LT : Nat -> Bk) (N : Nat) : Nat -> Into
 | 0, _, _, _ => none
 | n + 1, f, args, m => match P.funcs[f]? with
   | some fn => match fn.body with
     | some c => match AD P G T (evFn P G T LT N n) N (LT f) c (tm0 fn.ntmps args, m) with
       | some r => match MX m r.2 with
         | some s => match Ko P fn s with
           | some q => some (andB r.1 q.1, q.2)
           | none => none
         | none => none
       | none => none
     | none => none
   | none => none
section
variable {P : Program} {ρ : Nat -> Int} {G : Glob} {T : Tab} {l : Tabs} {w0 w : World} {M0 Im0 : Nat -> Prop} {ad : Nat -> Hd} {m m2 m' : Mem} {tm : Tm} {en : Env} {a : Act}
def Gx (P : Program) (G : Glob) (l : Tabs) (L : Bk) (c : Code) : Prop :=
 ∀ p le, L p = some le -> ∀ body, Az c p = some body -> l.get le.ent.key = some le.ent /\ CodeOK P G body le
theorem DN {f : St -> Option (E × Out)} {r : E × Out} {s0 : Mem} {g : E} {o : Out} (h : Ge f r = some (g, o)) (ht : g.tt l.F ρ = true) {Q : Exit -> Act -> World -> Prop} {K : Act -> World -> Prop}
 (hA : After l.F ρ w0 M0 Im0 ad s0 o Q)
 (hK : ∀ s1 g2 o2 ad' a' w', f s1 = some (g2, o2) -> g2.tt l.F ρ = true -> RelS l.F ρ w0 M0 Im0 ad' s1 a' w' -> After l.F ρ w0 M0 Im0 ad' s1.2 o2 Q -> K a' w') :
 r.1.tt l.F ρ = true /\ After l.F ρ w0 M0 Im0 ad s0 r.2 (Exit.then K Q) := by
 unfold Ge at h
 split at h
 ·rename_i hn
  simp only [oJ] at h; subst h
  refine ⟨ht, fun q ad' a' w' hq hR' hx => ?_⟩
  have hne : o.1.eval l.F ρ ≠ .nrm := fun e => by simp_all
  have := hA q ad' a' w' hq hR' hx
  cases hl : o.1.eval l.F ρ with
  | nrm => exact (hne hl).elim
  | ret => rw [hl] at this; exact this
  | ex id => rw [hl] at this; exact this
 ·rename_i s1 hn
  split at h
  ·rename_i q0 hq0
   split at h
   ·rename_i o' ho'
    simp only [oJ, pJ] at h
    obtain ⟨rfl, rfl⟩ := h
    obtain ⟨t1, t2⟩ := AB ht
    obtain ⟨j1, j2⟩ := After.join ho' hA
    refine ⟨t1, fun q ad' a' w' hq hR' hx => ?_⟩
    by_cases he : r.2.1.eval l.F ρ = .nrm
    ·rw [he] at hq ⊢
     rw [hn] at hq
     simp only [oJ] at hq
     subst hq
     refine hK s1 q0.1 q0.2 ad' a' w' hq0 (EE t2 (DT.is_true he)) hR' fun q' ad'' a'' w'' hq' hR'' hx' => ?_
     exact j2 he q' ad'' a'' w'' hq' hR'' (hx.trans hx')
    ·have := j1 he q ad' a' w' hq hR' hx
     cases hl : r.2.1.eval l.F ρ with
     | nrm => exact (he hl).elim
     | ret => rw [hl] at this; exact this
     | ex id => rw [hl] at this; exact this
   ·cases h
  ·cases h
theorem OH {e : E} {x y : Option (E × Out)} {s0 : Mem} {g : E} {o : Out} (h : brE e x y = some (g, o)) (ht : g.tt l.F ρ = true) {Q : Exit -> Act -> World -> Prop} (hA : After l.F ρ w0 M0 Im0 ad s0 o Q) :
 (e.tt l.F ρ = true -> ∃ g1 o1, x = some (g1, o1) /\ g1.tt l.F ρ = true /\ After l.F ρ w0 M0 Im0 ad s0 o1 Q) /\ (e.tt l.F ρ = false -> ∃ g1 o1, y = some (g1, o1) /\ g1.tt l.F ρ = true /\ After l.F ρ w0 M0 Im0 ad s0 o1 Q) := by
 have hnot : e.tt l.F ρ = false -> (Ak e).tt l.F ρ = true := fun h => by rw [(Ad e l.F ρ).1, h]; rfl
 unfold brE at h
 split at h
 ·rename_i ox oy
  split at h
  ·rename_i o' ho'
   simp only [oJ, pJ] at h
   obtain ⟨rfl, rfl⟩ := h
   obtain ⟨t1, t2⟩ := AB ht
   grind [After.br, EE]
  ·cases h
 ·rename_i ox
  simp only [oJ, pJ] at h
  obtain ⟨rfl, rfl⟩ := h
  obtain ⟨t1, t2⟩ := AB ht
  grind
 ·rename_i oy
  simp only [oJ, pJ] at h
  obtain ⟨rfl, rfl⟩ := h
  obtain ⟨t1, t2⟩ := AB ht
  grind [Ad, Tabs.F]
 ·cases h
theorem DP (hm : P.follows .mixedOrders = true) (hS : B9 P G l T) (hG : GOK G Im0 w0) {call : Into} (hI : Dc P l ρ w0 M0 Im0 call) {N : Nat} : ∀ (c : Code) (L : Bk) (s : St) (g : E) (o : Out) (ad : Nat -> Hd) (a : Act) (w : World) (Q : Exit -> Act -> World -> Prop),
 Gx P G l L c -> AD P G T call N L c s = some (g, o) -> g.tt l.F ρ = true -> RelS l.F ρ w0 M0 Im0 ad s a w -> After l.F ρ w0 M0 Im0 ad s.2 o Q -> c.wp P Q a w := by
 intro c
 induction c with
 | skip =>
   intro L s g o ad a w Q hL h ht hR hA
   simp only [AD, oJ, pJ] at h
   obtain ⟨rfl, rfl⟩ := h
   exact wp_skip (hA s ad a w (by simp [lk, DT.eval]) hR (Ext.refl _ _))
 | label k =>
   intro L s g o ad a w Q hL h ht hR hA
   simp only [AD, oJ, pJ] at h
   obtain ⟨rfl, rfl⟩ := h
   exact wp_label (hA s ad a w (by simp [lk, DT.eval]) hR (Ext.refl _ _))
 | region id ops draw =>
   intro L s g o ad a w Q hL h ht hR hA
   cases draw with
   | true =>
     simp only [AD] at h
     split at h
     ·rename_i g1 s' h1
      simp only [oJ, pJ] at h
      obtain ⟨rfl, rfl⟩ := h
      exact (MQ hm hS hG h1).2 ht hR fun ad' a' w' hR' hx => hA s' ad' a' w' (by simp [lk, DT.eval]) hR' hx
     ·cases h
   | false =>
     simp only [AD] at h
     split at h
     ·rename_i g1 s' h1
      simp only [oJ, pJ] at h
      obtain ⟨rfl, rfl⟩ := h
      exact wp_region_list (GS hS hG hI ops.toList s s' g1 ad a w h1 ht hR fun ad' a' w' hR' hx => hA s' ad' a' w' (by simp [lk, DT.eval]) hR' hx)
     ·cases h
 | seq x y ihx ihy =>
   intro L s g o ad a w Q hL h ht hR hA
   simp only [AD] at h
   split at h
   ·rename_i le hle
    obtain ⟨l1, l2⟩ := hL [] le hle (.seq x y) rfl
    exact Es l1 l2 hG h ht hR hA
   split at h
   ·rename_i r hr
    obtain ⟨t1, t2⟩ := DN (K := y.wp P Q) h ht hA fun s1 g2 o2 ad' a' w' h2 ht2 hR' hA' => ihy _ s1 g2 o2 ad' a' w' Q (fun p le hp body hb => hL (true :: p) le hp body hb) h2 ht2 hR' hA'
    exact wp_seq (ihx _ s r.1 r.2 ad a w _ (fun p le hp body hb => hL (false :: p) le hp body hb) hr t1 hR t2)
   ·cases h
 | cond c x y ihx ihy =>
   intro L s g o ad a w Q hL h ht hR hA
   simp only [AD] at h
   split at h
   ·rename_i e he
    obtain ⟨hk, hev⟩ := MU hR.1 he
    split at h
    ·rename_i n hn
     have htn := lit?_tt hn l.F ρ
     rw [htn] at hev
     cases hi : i2b n
     ·rw [hi] at h hev
      exact wp_cond (t := false) hev (ihy _ s g o ad a w Q (fun p le hp body hb => hL (true :: p) le hp body hb) h ht hR hA)
     ·rw [hi] at h hev
      exact wp_cond (t := true) hev (ihx _ s g o ad a w Q (fun p le hp body hb => hL (false :: p) le hp body hb) h ht hR hA)
    ·obtain ⟨j1, j2⟩ := OH h ht hA
     rcases Bool.eq_false_or_eq_true (e.tt l.F ρ) with hte | hte
     ·rw [hte] at hev
      obtain ⟨g1, o1, k1, k2, k3⟩ := j1 hte
      exact wp_cond (t := true) hev (ihx _ s g1 o1 ad a w Q (fun p le hp body hb => hL (false :: p) le hp body hb) k1 k2 hR k3)
     ·rw [hte] at hev
      obtain ⟨g1, o1, k1, k2, k3⟩ := j2 hte
      refine wp_cond (t := false) hev (ihy _ _ g1 o1 ad a w Q (fun p le hp body hb => hL (true :: p) le hp body hb) k1 k2 (hR.extend _) fun q ad' a' w' hq hR' hx => k3 q ad' a' w' hq hR' ⟨fun k hk => hx.same k ?_, fun k hk => hx.keep k ?_⟩) <;> simpa [BD] using hk
   ·cases h
 | block id body ih =>
   intro L s g o ad a w Q hL h ht hR hA
   simp only [AD] at h
   split at h
   ·rename_i r hr
    split at h
    ·rename_i o' ho'
     simp only [oJ, pJ] at h
     obtain ⟨rfl, rfl⟩ := h
     exact wp_block (ih _ s r.1 r.2 ad a w _ (fun p le hp body hb => hL (false :: p) le hp body hb) hr ht hR (After.rel ho' hA))
    ·cases h
   ·cases h
 | loop body ih =>
   intro L s g o ad a w Q hL h ht hR hA
   simp only [AD] at h
   split at h
   ·rename_i le hle
    obtain ⟨l1, l2⟩ := hL [] le hle (.loop body) rfl
    exact Es l1 l2 hG h ht hR hA
   ·refine wp_loop_rounds N ?_
    have key : ∀ (n k : Nat) (s : St) (g : E) (o : Out) (ad : Nat -> Hd) (a : Act) (w : World), Gf (fun k => AD P G T call N (tagL L k) body) n k s = some (g, o) -> g.tt l.F ρ = true -> RelS l.F ρ w0 M0 Im0 ad s a w -> After l.F ρ w0 M0 Im0 ad s.2 o Q -> Code.rounds P body Q n a w := by
     intro n
     induction n with
     | zero => grind [Gf]
     | succ n ihn =>
       intro k s g o ad a w h ht hR hA
       simp only [Gf] at h
       split at h
       ·rename_i r hr
        rw [rounds_succ]
        obtain ⟨t1, t2⟩ := DN (K := Code.rounds P body Q n) h ht hA fun s1 g2 o2 ad' a' w' h2 ht2 hR' hA' => ihn (k + 1) s1 g2 o2 ad' a' w' h2 ht2 hR' hA'
        refine ih _ s r.1 r.2 ad a w _ (fun p le hp body' hb => ?_) hr t1 hR t2
        unfold tagL at hp
        split at hp
        ·rename_i le' hq
         cases hp
         exact hL _ _ hq body' (by rw [H7]; exact hb)
        ·exact hL (false :: p) le hp body' hb
       ·cases h
    exact key N 0 s g o ad a w h ht hR hA
 | exit id =>
   intro L s g o ad a w Q hL h ht hR hA
   simp only [AD, oJ, pJ] at h
   obtain ⟨rfl, rfl⟩ := h
   exact wp_exit (hA s ad a w (by simp [lk, DT.eval]) hR (Ext.refl _ _))
 | ret =>
   intro L s g o ad a w Q hL h ht hR hA
   simp only [AD, oJ, pJ] at h
   obtain ⟨rfl, rfl⟩ := h
   exact wp_ret (hA s ad a w (by simp [lk, DT.eval]) hR (Ext.refl _ _))
 | _ => grind [AD]
def resM (a : Act) : ResultVar -> Sem Value
 | .tmp t => pure (a.tmps.getD t undef)
 | .cell t ty => do loadVar ty (<- asAddr (a.tmps.getD t undef))
theorem Hg {F : Fam} (hR : RelS F ρ w0 M0 Im0 ad (tm, m) a w) : ∀ (rs : List ResultVar) (q : E × List SV), resS P (tm, m) rs = some q -> q.1.tt F ρ = true ->
 (rs.mapM (resM a)).run P w = .ok (SV.concL F ρ ad q.2) w /\ SV.okL (al m) q.2
 | [], q, h, ht => by simp only [resS, oJ] at h; subst h; exact ⟨rfl, trivial⟩
 | .tmp t :: r, q, h, ht => by
   simp only [resS] at h
   split at h
   ·rename_i v l' h1 h2
    simp only [oJ] at h; subst h
    obtain ⟨i1, i2⟩ := Bg hR.1.envV (cs := []) rfl h1
    obtain ⟨j1, j2⟩ := Hg hR r l' h2 ht
    have i1' : a.tmps.getD t undef = v.conc F ρ ad := i1
    refine ⟨?_, i2, j2⟩
    simp_all [resM, SV.concL]
   ·cases h
 | .cell t ty :: r, q, h, ht => by
   simp only [resS] at h
   split at h
   ·rename_i n off ag sz h1 h2 h3
    split at h
    ·rename_i g ty' cs h4
     split at h
     ·rename_i v l' h5 h6
      simp only [oJ] at h; subst h
      obtain ⟨t1, t2⟩ := AB ht
      obtain ⟨i1, i2⟩ := Bg hR.1.envV (cs := []) rfl h1
      obtain ⟨j1, j2⟩ := Hg hR r l' h6 t2
      obtain ⟨_, Im, _, _, hI⟩ := hR.2
      obtain ⟨b1, b2⟩ := Be h4
      have hh : w.heap[(ad n).blk]? = some (.cells (SV.concL F ρ ad cs).toArray ty' (0, 0)) := (hI.ent n g _ b1 t1).1
      have hcell : ∀ j u, (SV.concL F ρ ad cs)[j]? = some u -> w.cell? ⟨(ad n).blk, 0 + j, none⟩ = some u := fun j u hu => by
       rw [Nat.zero_add, DH hh]; simpa using hu
      obtain ⟨k1, k2⟩ := EA (P := P) hcell h5
      rw [Nat.zero_add] at k1
      have i1' : a.tmps.getD t undef = .pointer (some ⟨(ad n).blk, off, none⟩) := i1
      refine ⟨?_, k2 _ (hI.ok n g _ b1), j2⟩
      have hl := B5 (P := P) (w := w) (b := (ad n).blk) (off := off) h2 h3
      rw [k1] at hl
      simp only [Instr.loadAt, Instr.sureAddr, Sem.run_bind, Sem.run_pure, Result.andThen_ok] at hl
      have hlv : (loadVar ty ⟨(ad n).blk, off, none⟩).run P w = .ok (v.conc F ρ ad) w := by
       cases hx : (loadVar ty ⟨(ad n).blk, off, none⟩).run P w with
       | ok x w' =>
         simp_all
       | halt x w' => rw [hx] at hl; cases hl
      have ha : asAddr (.pointer (some ⟨(ad n).blk, off, none⟩)) = (pure ⟨(ad n).blk, off, none⟩ : Sem Addr) := rfl
      simp_all [resM, SV.concL]
     ·cases h
    ·cases h
   ·cases h
theorem Lf {F : Fam} (hR : RelS F ρ w0 M0 Im0 ad (tm, m) a w) {fn : Func} {g : E} {v : SV} {m' : Mem} (h : Ko P fn (tm, m) = some (g, v, m')) (ht : g.tt F ρ = true) :
 m' = m /\ (results fn a.tmps).run P w = .ok (v.conc F ρ ad) w /\ v.ok (al m) := by
 unfold Ko at h
 obtain ⟨q, h1, h2⟩ := Option.map_eq_some_iff.1 h
 obtain ⟨gq, l⟩ := q
 simp only [pJ] at h2
 obtain ⟨rfl, rfl, rfl⟩ := h2
 obtain ⟨j1, j2⟩ := Hg hR fn.results.toList _ h1 ht
 simp only at j1 j2
 have htu : (JC l).conc F ρ ad = if hs : (SV.concL F ρ ad l).toArray.size = 1 then (SV.concL F ρ ad l).toArray[0] else .tuple (SV.concL F ρ ad l).toArray := by
  unfold JC
  split
  ·simp [SV.concL]
  ·rename_i hne
   rw [dif_neg]
   ·rfl
   ·intro hs
    rw [Ae, List.size_toArray, List.length_map] at hs
    obtain ⟨v, hv⟩ := List.length_eq_one_iff.1 hs
    exact hne v hv
 refine ⟨rfl, ?_, ?_⟩
 ·rw [htu]
  have hres : results fn a.tmps = (do let vs <- fn.results.mapM (resM a); pure (if h : vs.size = 1 then vs[0] else .tuple vs)) := by
   unfold results
   congr 2
  rw [hres, Array.mapM_eq_mapM_toList]
  simp_all
 ·unfold JC
  split
  ·exact j2.1
  grind [SV.ok]
theorem Gg : ∀ {xs : List (Lab × St)}, EF xs = true -> ∀ l q, lk l xs = some q -> l = .nrm \/ l = .ret
 | [], _, l, q, h => by simp [lk] at h
 | (k, s) :: r, h, l, q, hq => by
   simp only [EF, Bool.and_eq_true, Bool.or_eq_true, decide_eq_true_eq] at h
   simp only [lk] at hq
   split at hq
   ·simp_all
   ·exact Gg h.2 l q hq
theorem Sz {F : Fam} {args : List SV} {n : Nat} (hok : SV.okL (al m) args) : RelT F ρ ad m (tm0 n args) { tmps := (SV.concL F ρ ad args).toArray ++ Array.replicate (n - (SV.concL F ρ ad args).toArray.size) undef, defers := [] } := by
 refine ⟨rfl, by simp [Ae, tm0], fun i u hu => ?_⟩
 simp only [Tm.at, List.getD, tm0] at hu
 by_cases hi : i < args.length
 ·grind [Ct, Ae]
 ·rw [List.getElem?_append_right (by simpa using hi), List.getElem?_replicate] at hu
  split at hu
  ·rename_i hlt
   simp only [Option.getD_some, oJ] at hu
   subst hu
   refine ⟨?_, trivial⟩
   grind [Ae, SV.conc]
  ·simp at hu
theorem MY {F : Fam} {o : Out} {s : St} (h : MX m o = some s) {q : St} (hq : lk (o.1.eval F ρ) o.2 = some q) : (o.1.eval F ρ = .nrm \/ o.1.eval F ρ = .ret) /\ (∀ ad a w, RelS F ρ w0 M0 Im0 ad q a w -> RelS F ρ w0 M0 Im0 ad s a w) /\ ∀ k, al q.2 k -> al s.2 k := by
 unfold MX at h
 cases hor : EF o.2
 ·rw [hor] at h; cases h
 ·rw [hor] at h
  simp only [cond_true] at h
  have hlab := Gg hor _ _ hq
  refine ⟨hlab, ?_⟩
  split at h
  ·grind
  ·grind
  ·rename_i s1 s2 h1 h2
   obtain ⟨k1, k2, k3⟩ := BC (F := F) (ρ := ρ) (w0 := w0) (M0 := M0) (Im0 := Im0) h
   grind [DT.is_false, DT.is_true]
  ·cases h
def LTOK (P : Program) (G : Glob) (l : Tabs) (LT : Nat -> Bk) : Prop := ∀ f fn c, P.funcs[f]? = some fn -> fn.body = some c -> Gx P G l (LT f) c
theorem Du (hm : P.follows .mixedOrders = true) (hS : B9 P G l T) (hG : GOK G Im0 w0) {LT : Nat -> Bk} (hLT : LTOK P G l LT) {N : Nat} : ∀ n, Dc P l ρ w0 M0 Im0 (evFn P G T LT N n)
 | 0 => fun f args m ob v m' h => by simp [evFn] at h
 | n + 1 => fun f args m ob v m' h ht ad w hM hok => by
   simp only [evFn] at h
   split at h
   ·rename_i fn hf
    split at h
    ·rename_i c hc
     split at h
     ·rename_i r hr
      split at h
      ·rename_i s hs
       split at h
       ·rename_i q hq
        obtain ⟨gq, vq, mq⟩ := q
        simp only [oJ, pJ] at h
        obtain ⟨rfl, rfl, rfl⟩ := h
        obtain ⟨t1, t2⟩ := AB ht
        refine calls_of_wp hf hc ?_
        refine DP hm hS hG (Du hm hS hG hLT n) c (LT f) _ r.1 r.2 ad _ w _ (hLT f fn c hf hc) hr t1 ⟨Sz hok, hM⟩ ?_
        intro q0 ad' a' w' hq0 hR' hx
        obtain ⟨e1, e2, e3⟩ := MY (w0 := w0) (M0 := M0) (Im0 := Im0) hs hq0
        have hRs := e2 ad' a' w' hR'
        obtain ⟨f1, f2, f3⟩ := Lf (P := P) (tm := s.1) (m := s.2) hRs (fn := fn) hq t2
        subst f1
        have hb : a'.defers = [] /\ ∃ u, (results fn a'.tmps).run P w' = .ok u w' /\ (fun e w' => ∃ ad', e = Ending.returned (vq.conc l.F ρ ad') /\ Rel l.F ρ w0 M0 Im0 ad' s.2 w' /\ Ext ad ad' m s.2 /\ vq.ok (al s.2)) (.returned u) w' :=
         ⟨hRs.1.defers, _, f2, ad', rfl, hRs.2, ⟨hx.same, fun k hk => e3 k (hx.keep k hk)⟩, f3⟩
        rcases e1 with hl | hl <;> rw [hl] <;> exact hb
       ·cases h
      ·cases h
     ·cases h
    ·cases h
   ·cases h
end
def Dv (l : Ents) (n : Nat) : Mem := (List.range n).map fun j => (l.find? fun x => x.1 == j).map (·.2)
def start (e : Ent) (k : Nat) : Mem := Dv e.pgen.2 e.nn ++ List.replicate k (some (mkB true, .dead))
def Cx (e : Ent) : Bool := (Sh.refsL e.ps).all fun j => decide (j < e.nn)
def Gh (m : Mem) : List Ob -> Option (E × List SV)
 | [] => some (mkB true, [])
 | o :: r => match m.at o.j with
   | some (g, b) => match unO b with
     | some (ty', tl', vs) => if ty' = o.ty /\ tl' = o.tl /\ vs.length = o.cs.length then (Gh m r).map fun q => (andB g q.1, vs ++ q.2) else none
     | none => none
   | none => none
def CQ : Blk -> Blk -> Bool
 | .cells ty cs, .cells ty' cs' => decide (ty = ty') && SV.sameL cs cs'
 | .lst ty row own le c, .lst ty' row' own' le' c' => decide (ty = ty') && decide (row = row') && decide (own = own') && le.same le' && c.same c'
 | .mp ks vs kag vag c, .mp ks' vs' kag' vag' c' => decide (ks = ks') && decide (vs = vs') && decide (kag = kag') && decide (vag = vag') && c.same c'
 | .seg ty cs ks c, .seg ty' cs' ks' c' => decide (ty = ty') && decide (ks = ks') && SV.sameL cs cs' && c.same c'
 | _, _ => false
def Gy (m : Mem) : Ents -> Option E
 | [] => some (mkB true)
 | x :: r => match m.at x.1 with
   | some (g, b) => if CQ b x.2.2 = true then (Gy m r).map fun q => andB (impB x.2.1 g) q else none
   | none => none
def accN (n : Nat) : List Src := (List.range n).map Src.nm
def EG (off str : Nat) : SV -> SV
 | .ptr n o => if 0 < str /\ off <= o /\ (o - off) % str = 0 /\ (o - off) / str <= 1000000 then .pi n off str (.lit (.i .i64) ((o - off) / str : Nat)) else .ptr n o
 | .ite p a b => match EG off str a, EG off str b with
   | .pi n o s e, .pi n' o' s' e' => if n' = n /\ o' = o /\ s' = s /\ p.kind = .b /\ e.kind = .i .i64 /\ e'.kind = .i .i64 then .pi n o s (mkIte p e e') else .ite p a b
   | _, _ => .ite p a b
 | v => v
mutual
def fitV : Sh -> SV -> E × SV
 | .lt k n, .sc e => H8 k n e
 | .nul c, .ite p a b => Gi c p a b
 | .obj .., v => AY v
 | .seg .., v => AY v
 | .ref _, v => AY v
 | .pin _ off str, v => (mkB true, EG off str v)
 | .tup l, .tup vs => ((fitL l vs).1, .tup (fitL l vs).2)
 | .agg l, .agg vs => ((fitL l vs).1, .agg (fitL l vs).2)
 | _, v => (mkB true, v)
def fitL : List Sh -> List SV -> E × List SV
 | s :: l, v :: vs => (mkAnd (fitV s v).1 (fitL l vs).1, (fitV s v).2 :: (fitL l vs).2)
 | _, vs => (mkB true, vs)
def H8 (k : K) (n : Int) (e : E) : E × SV :=
 match e.lit? with
 | some _ => (mkB true, .sc e)
 | none => if e.kind = k then
  match k with
  | .b => (bif i2b n then e else Ak e, .sc (.lit .b n))
  | .i _ => (mkCmp .eql e (.lit k n), .sc (.lit k n))
  | .x => (mkB true, .sc e)
   else (mkB true, .sc e)
def Gi (c : CV) (p : E) (a b : SV) : E × SV :=
 if p.kind = .b then
  match a, b with
  | .nilp c', _ => if c' = c then (p, .nilp c) else (mkB true, .ite p a b)
  | _, .nilp c' => if c' = c then (Ak p, .nilp c) else (mkB true, .ite p a b)
  | _, _ => (mkB true, .ite p a b)
 else (mkB true, .ite p a b)
end
mutual
def svN : SV -> List Nat
 | .sv n _ _ _ _ => [n]
 | .fn _ cs | .agg cs | .tup cs => svNL cs
 | .gd _ v => svN v
 | .ite _ a b => svN a ++ svN b
 | _ => []
def svNL : List SV -> List Nat
 | [] => []
 | v :: r => svN v ++ svNL r
end
def Rr (m : Mem) (v : SV) : List Nat := svN v ++ m.flatMap fun x => match x with
 | some (_, b) => svNL b.cs
 | none => []
mutual
def shNV (m : Mem) : Sh -> SV -> List Nat
 | .lst _ _ false, v => namesV v
 | .agg l, .agg vs => shNL m l vs
 | .tup l, .tup vs => shNL m l vs
 | .obj _ cs, .ptr n 0 => match m.at n with
   | some (_, .cells _ vs) => shNL m cs vs
   | _ => []
 | _, _ => []
def shNL (m : Mem) : List Sh -> List SV -> List Nat
 | s :: l, v :: vs => shNV m s v ++ shNL m l vs
 | _, _ => []
end
def Rs (e : Ent) (m : Mem) (v : SV) : List Nat := match Gh m e.os with
 | some (_, V) => shNL m e.outL (V ++ [v])
 | none => []
def EH (e : Ent) (m : Mem) (v : SV) : Option (E × List E) :=
 match Gh m e.os, Gy m (MI e.kp e.pgen.2) with
 | some (g1, V), some g2 => match Sh.getL m e.outL (accN e.nn) (fitL e.outL (V ++ [v])).2 with
   | some (es, srcs, g3) => if (C9 ((mutJ e.oents).flatMap (srcOf (accN e.nn ++ srcs))) && (e.os.all fun o => decide (o.j < e.nn)) && Cx e) = true /\ ((fitL e.outL (V ++ [v])).2.map isXv = (V ++ [v]).map isXv) then some (andB g1 (andB g2 (andB (fitL e.outL (V ++ [v])).1 g3)), es) else none
   | none => none
 | _, _ => none
section
variable {P : Program} {ρ : Nat -> Int} {G : Glob} {T : Tab} {l : Tabs} {w0 w w' : World} {M0 Im0 Im : Nat -> Prop} {ad ad' hs : Nat -> Hd} {m m2 m' : Mem} {tm : Tm} {en : Env} {a : Act}
theorem MZ {F : Fam} {ad : Nat -> Hd} (k : K) (n : Int) (e : E) : (H8 k n e).1.kind = .b /\ ((H8 k n e).1.tt F ρ = true -> (SV.sc e).conc F ρ ad = (H8 k n e).2.conc F ρ ad) := by
 unfold H8
 split
 ·simp_all
 ·split
  ·rename_i hk
   split
   ·grind [i2b, Ad, E.tt, SV.conc, E.val_b, E.kind, E.den, K.norm]
   ·rename_i k'
    have hc := Af .eql e (.lit (.i k') n) F ρ
    simp_all [E.den, cmpB, SV.conc, E.val_i, E.kind]
   simp_all
  simp_all
theorem Lg {F : Fam} {ad : Nat -> Hd} (c : CV) (p : E) (a b : SV) : (Gi c p a b).1.kind = .b /\ ((Gi c p a b).1.tt F ρ = true -> (SV.ite p a b).conc F ρ ad = (Gi c p a b).2.conc F ρ ad) := by
 unfold Gi
 grind [SV.conc, Ag, Ad, E.tt]
theorem Et {F : Fam} {ad : Nat -> Hd} (off str : Nat) : ∀ v : SV, v.conc F ρ ad = (EG off str v).conc F ρ ad
 | .ptr n o => by
   simp only [EG]
   split
   ·rename_i h
    obtain ⟨h1, h2, h3, h4⟩ := h
    simp only [SV.conc]
    have hd : ((E.lit (.i .i64) ((o - off) / str : Nat)).den F ρ).toNat = (o - off) / str := by
     simp only [E.den, K.norm]
     generalize (o - off) / str = q at h4 ⊢
     rw [IntKind.wrap_i64]; omega
    rw [hd, Nat.div_mul_cancel (Nat.dvd_of_mod_eq_zero h3), Nat.add_sub_cancel' h2]
   ·rfl
 | .ite p a b => by
   have ia := Et (F := F) (ad := ad) off str a
   have ib := Et (F := F) (ad := ad) off str b
   grind [EG, SV.conc, Eg, E.tt]
 | .sc _ | .pi .. | .sl .. | .ls .. | .sv .. | .pe .. | .mp _ | .oq _ | .fn .. | .agg _ | .tup _ | .gd .. | .und | .nilp _ | .gl .. => rfl
mutual
theorem OI {F : Fam} {ad : Nat -> Hd} : ∀ (s : Sh) (v : SV), (fitV s v).1.kind = .b /\ ((fitV s v).1.tt F ρ = true -> v.conc F ρ ad = (fitV s v).2.conc F ρ ad)
 | .lt k n, v => by
   cases v <;> first | exact ⟨Ag _, fun _ => rfl⟩ | grind [fitV, MZ]
 | .nul c, v => by
   cases v <;> first | exact ⟨Ag _, fun _ => rfl⟩ | grind [fitV, Lg]
 | .obj ty cs, v => by simp only [fitV]; exact ⟨A3 v, fun h => (Bo (p := fun _ => True) v).1 h⟩
 | .seg ty ks cs, v => by simp only [fitV]; exact ⟨A3 v, fun h => (Bo (p := fun _ => True) v).1 h⟩
 | .lsn ty row, v => ⟨Ag _, fun _ => rfl⟩
 | .ref j, v => by simp only [fitV]; exact ⟨A3 v, fun h => (Bo (p := fun _ => True) v).1 h⟩
 | .tup l, v => by
   cases v <;> first | exact ⟨Ag _, fun _ => rfl⟩ | skip
   rename_i vs
   obtain ⟨i1, i2⟩ := Ef (F := F) (ad := ad) l vs
   grind [fitV, SV.conc]
 | .agg l, v => by
   cases v <;> first | exact ⟨Ag _, fun _ => rfl⟩ | skip
   rename_i vs
   obtain ⟨i1, i2⟩ := Ef (F := F) (ad := ad) l vs
   grind [fitV, SV.conc]
 | .pin j off str, v => by grind [fitV, Ag, Et]
 | .sc _, v => by cases v <;> exact ⟨Ag _, fun _ => rfl⟩
 | .lst .., v => by cases v <;> exact ⟨Ag _, fun _ => rfl⟩
 | .fnc .., v => by cases v <;> exact ⟨Ag _, fun _ => rfl⟩
 | .opt _, v => by cases v <;> exact ⟨Ag _, fun _ => rfl⟩
 | .und, v => by cases v <;> exact ⟨Ag _, fun _ => rfl⟩
 | .mp .., v => by cases v <;> exact ⟨Ag _, fun _ => rfl⟩
theorem Ef {F : Fam} {ad : Nat -> Hd} : ∀ (l : List Sh) (vs : List SV), (fitL l vs).1.kind = .b /\ ((fitL l vs).1.tt F ρ = true -> SV.concL F ρ ad vs = SV.concL F ρ ad (fitL l vs).2)
 | [], vs => ⟨Ag _, fun _ => rfl⟩
 | s :: l, [] => ⟨Ag _, fun _ => rfl⟩
 | s :: l, v :: vs => by
   obtain ⟨i1, i2⟩ := OI (F := F) (ad := ad) s v
   obtain ⟨j1, j2⟩ := Ef (F := F) (ad := ad) l vs
   grind [Ac, fitV, fitL, SV.concL]
end
theorem Kp (l : Ents) (n j : Nat) : (Dv l n).at j = if j < n then (l.find? fun x => x.1 == j).map (·.2) else none := by
 grind [Dv, Mem.at]
theorem OJ {l : Ents} {n j : Nat} {g : E} {b : Blk} (h : (Dv l n).at j = some (g, b)) : (j, g, b) ∈ l /\ j < n := by
 rw [Kp] at h
 split at h
 ·rename_i hj
  obtain ⟨x, hx, he⟩ := Option.map_eq_some_iff.1 h
  grind
 ·cases h
theorem OL (e : Ent) (k : Nat) : (start e k).length = e.nn + k := by simp [start, Dv]
theorem Fg {e : Ent} {k j : Nat} {g : E} {b : Blk} (h : (start e k).at j = some (g, b)) : ((j, g, b) ∈ e.pgen.2 /\ j < e.nn) \/ b = .dead := by
 grind [Dv, Ent.pgen, Ent.nn, OJ, start, Mem.at]
theorem CR (e : Ent) (k j : Nat) : al (start e k) j ↔ j < e.nn + k := by
 have hl : (Dv e.pgen.2 e.nn).length = e.nn := by simp [Dv]
 constructor
 ·intro h
  obtain ⟨x, hx⟩ := Option.isSome_iff_exists.1 h
  have := Mem.at_lt hx
  grind [OL]
 ·intro h
  unfold al
  by_cases hj : j < e.nn
  ·obtain ⟨x, x1, x2⟩ := BZ (ev := varE e.pks) (nv := id) e.ps (mkB true) 0 0 j (Nat.zero_le _) (by rw [Nat.zero_add]; exact hj)
   have h1 : (start e k).at j = (Dv e.pgen.2 e.nn).at j := by
    simp only [start, Mem.at, List.getD]
    rw [List.getElem?_append_left (by omega)]
   rw [h1, Kp, if_pos hj, Option.isSome_map, List.find?_isSome]
   exact ⟨x, x1, by simp [x2]⟩
  grind [start, Mem.at]
theorem LB (l : Tabs) {e : Ent} (hr : Cx e = true) {xs : List Int} (zs : List Int) {ρ : Nat -> Int} (hρ : ∀ i, i < e.np -> ρ i = env xs i) (hfit : fits e.pks xs) (had : ∀ j, j < e.nn -> ad j = hs j) :
 SV.concL l.F ρ ad e.pgen.1 = SV.concL F0 (env (xs ++ zs)) hs e.pgen.1 /\ ∀ x ∈ e.pgen.2, SameE l.F F0 ρ (env (xs ++ zs)) ad hs id id x x := by
 have hl := Ax hfit
 have tr : Tr e.nn l.F F0 ρ (env (xs ++ zs)) ad hs (varE e.pks) (varE e.pks) id id := by
  refine ⟨l.BI, BO, fun i => ?_, fun i => rfl, fun j hj => had j hj⟩
  unfold varE
  cases hk : e.pks[i]? with
  | none => simp
  | some k =>
    have hi := (List.getElem?_eq_some_iff.1 hk).1
    simp only [E.den, hρ i hi, env, E4, hl, hi, if_true]
 obtain ⟨t1, t2⟩ := B7 tr e.ps (mkB true) (mkB true) 0 0 (Ag _) (Ag _) (by simp) (fun i k hi => by rw [Nat.zero_add]; exact Da _ _ _ hi) (by rw [Nat.zero_add]; exact Nat.le_refl _) (fun j hj => by have := List.all_eq_true.1 hr j hj; simpa using this)
 exact ⟨t1, SameL.self t2⟩
theorem Gj (l : Tabs) {e : Ent} (k : Nat) (hr : Cx e = true) {xs : List Int} {ρ : Nat -> Int} (hρ : ∀ i, i < e.np -> ρ i = env xs i) (hfit : fits e.pks xs) (hM : ∀ b, M0 b -> ¬ Im0 b /\ b < w.heap.size) (hE : RelE F0 (env xs) w M0 Im0 hs e.pgen.2 w) (had : ∀ j, j < e.nn -> ad j = hs j) :
 Rel l.F ρ w M0 Im0 ad (start e k) w /\ SV.concL l.F ρ ad e.pgen.1 = SV.concL F0 (env xs) hs e.pgen.1 /\ SV.okL (al (start e k)) e.pgen.1 := by
 obtain ⟨t1, t2⟩ := LB l hr [] hρ hfit had
 rw [List.append_nil] at t1 t2
 have hal : ∀ j, j < e.nn -> al (start e k) j := fun j hj => (CR e k j).2 (by omega)
 obtain ⟨g1, g2⟩ := BB (ev := varE e.pks) (nv := id) (p := al (start e k)) e.ps (mkB true) 0 0 (fun j _ hj => hal j (by rw [Nat.zero_add] at hj; exact hj)) (fun j hj => hal j (by have := List.all_eq_true.1 hr j hj; simpa using this))
 refine ⟨⟨hM, Im0, fun b hb => hb, fun b hb => Or.inl hb, ⟨fun n g x hn hg => ?_, fun n g x hn => ?_, fun n k' g x g' y b h1 h2 h3 h4 h5 h6 => ?_, hE.im, hE.fr⟩⟩, t1, g1⟩
 ·rcases Fg hn with ⟨h, _⟩ | rfl
  ·have s := t2 _ h
   obtain ⟨b1, b2⟩ := hE.ent _ h (by rw [<- s.gd]; exact hg)
   refine ⟨(s.ok Im0 w).2 b1, fun b hb => b2 b ?_⟩
   rw [<- hb]; exact s.mu.symm
  ·exact ⟨trivial, fun b hb => by simp [mutB] at hb⟩
 ·rcases Fg hn with ⟨h, _⟩ | h
  ·exact (g2 _ h).2
  ·rw [h]; trivial
 ·rcases Fg h1 with ⟨a1, _⟩ | rfl
  ·rcases Fg h3 with ⟨a2, _⟩ | rfl
   ·have s1 := t2 _ a1
    have s2 := t2 _ a2
    exact hE.inj _ a1 _ a2 (by rw [<- s1.gd]; exact h2) (by rw [<- s2.gd]; exact h4) b (by rw [<- h5]; exact s1.mu.symm) (by rw [<- h6]; exact s2.mu.symm)
   ·simp [mutB] at h6
  ·simp [mutB] at h5
theorem GU {F : Fam} {m : Mem} : ∀ {os : List Ob} {g : E} {V : List SV}, Gh m os = some (g, V) -> g.tt F ρ = true -> ∀ (vals : List SV), ∀ x ∈ objE os (V ++ vals), x.1 ∈ os.map (·.j) /\ ∃ g' b, m.at x.1 = some (g', b) /\ g'.tt F ρ = true /\ x.2.2 = b.nrm
 | [], g, V, h, ht, vals, x, hx => by cases hx
 | o :: r, g, V, h, ht, vals, x, hx => by
   simp only [Gh] at h
   split at h
   ·rename_i g1 b hm
    split at h
    ·rename_i ty' tl' vs hu
     split at h
     ·rename_i hc
      obtain ⟨rfl, rfl, hlen⟩ := hc
      obtain ⟨q, hq, he⟩ := Option.map_eq_some_iff.1 h
      simp only [pJ] at he
      obtain ⟨rfl, rfl⟩ := he
      obtain ⟨t1, t2⟩ := AB ht
      simp only [objE, List.append_assoc] at hx
      rw [List.take_left' hlen, List.drop_left' hlen] at hx
      rcases List.mem_cons.1 hx with rfl | hx
      ·grind [Sv]
      ·obtain ⟨a, b⟩ := GU (g := q.1) (V := q.2) hq t2 vals x hx
       simp_all
     ·cases h
    ·cases h
   ·cases h
theorem OM {os : List Ob} {vs : List SV} : ∀ z ∈ objE os vs, z.2.1 = mkB true := by
 induction os generalizing vs with
 | nil => intro z hz; cases hz
 | cons o r ih =>
   grind [objE]
theorem M3 : ∀ {a b : Blk}, CQ a b = true -> a = b
 | .cells ty cs, b, h => by
   cases b <;> simp only [CQ, Bool.false_eq_true, Bool.and_eq_true, decide_eq_true_eq] at h
   grind [SV.sameL_eq]
 | .lst ty row own le c, b, h => by
   cases b <;> simp only [CQ, Bool.false_eq_true, Bool.and_eq_true, decide_eq_true_eq] at h
   grind [E.same_eq]
 | .mp ks vs kag vag c, b, h => by
   cases b <;> simp only [CQ, Bool.false_eq_true, Bool.and_eq_true, decide_eq_true_eq] at h
   grind [E.same_eq]
 | .seg ty cs ks c, b, h => by
   cases b <;> simp only [CQ, Bool.false_eq_true, Bool.and_eq_true, decide_eq_true_eq] at h
   grind [SV.sameL_eq, E.same_eq]
 | .dead, b, h => by simp [CQ] at h
theorem Gk {F : Fam} {m : Mem} : ∀ {l : Ents} {g : E}, Gy m l = some g -> g.tt F ρ = true -> ∀ x ∈ l, x.2.1.tt F ρ = true -> ∃ g', m.at x.1 = some (g', x.2.2) /\ g'.tt F ρ = true
 | [], g, h, ht, x, hx => by cases hx
 | y :: r, g, h, ht, x, hx => by
   simp only [Gy] at h
   split at h
   ·rename_i g1 b hm
    split at h
    ·rename_i hs
     obtain ⟨q, hq, rfl⟩ := Option.map_eq_some_iff.1 h
     obtain ⟨t1, t2⟩ := AB ht
     rcases List.mem_cons.1 hx with rfl | hx
     ·grind [M3, EE]
     ·exact Gk hq t2 x hx
    ·cases h
   ·cases h
theorem C5 {e : Ent} {v : SV} {g : E} {es : List E} (h : EH e m' v = some (g, es)) : es.map E.kind = e.oks /\ (∀ x ∈ es, x.kind ≠ .x -> x.sound = true) /\
 ∀ {xs ys : List Int} {ρ : Nat -> Int} {w w' : World} {M0 Im0 : Nat -> Prop} {hs ad' : Nat -> Hd}, (∀ i, i < e.np -> ρ i = env xs i) -> fits e.pks xs -> ys = es.map (E.den l.F ρ) -> g.tt l.F ρ = true -> Rel l.F ρ w M0 Im0 ad' m' w' -> (∀ j, j < e.nn -> ad' j = hs j) ->
   ∃ (hs' : Nat -> Hd) (Im' : Nat -> Prop), (∀ j, j < e.nn -> hs' j = hs j) /\ (∀ b, Im0 b -> Im' b) /\ (∀ b, Im' b -> Im0 b \/ M0 b \/ w.heap.size <= b) /\ v.conc l.F ρ ad' = (AE e.ogen.1).conc F0 (env (xs ++ ys)) hs' /\ RelE F0 (env (xs ++ ys)) w M0 Im' hs' e.oents w' := by
 unfold EH at h
 split at h
 ·rename_i g1 V g2 hobj hkept
  split at h
  ·rename_i es' srcs g3 hget
   split at h
   ·rename_i hc
    simp only [oJ, pJ] at h
    obtain ⟨rfl, rfl⟩ := h
    obtain ⟨hc, hfx⟩ := hc
    simp only [Bool.and_eq_true] at hc
    obtain ⟨⟨c1, c2⟩, c3⟩ := hc
    obtain ⟨k1, k2, k3, k4⟩ := AW e.outL _ _ _ hget
    simp only at k1 k2 k3 k4
    refine ⟨k1, k4, fun {xs ys ρ w w' M0 Im0 hs ad'} hρ hfit hys ht hR had => ?_⟩
    obtain ⟨t1, t23⟩ := AB ht
    obtain ⟨t2, t34⟩ := AB t23
    obtain ⟨tf, t3⟩ := AB t34
    have hfit2 := (Ef (F := l.F) (ρ := ρ) (ad := ad') e.outL (V ++ [v])).2 tf
    obtain ⟨hM, Im, i1, i2, hI⟩ := hR
    have hyfit : fits e.oks ys := by rw [hys]; exact Lw k1 k4
    have hyl : ys.length = e.oks.length := Ax hyfit
    have hxl : xs.length = e.np := Ax hfit
    have hall : fits (e.pks ++ e.oks) (xs ++ ys) := Ce hfit hyfit
    have hS : ∃ S, S = accN e.nn ++ srcs := ⟨_, rfl⟩
    obtain ⟨S, hS⟩ := hS
    have hal : (accN e.nn).length = e.nn := by simp [accN]
    have hSlt : ∀ j, j < e.nn -> S[j]? = some (.nm j) := fun j hj => by
     grind [accN]
    have hev : EvOK l.F ρ (env (xs ++ ys)) (varE (e.pks ++ e.oks)) e.np es' := fun i x hi => by
     have hil := (List.getElem?_eq_some_iff.1 hi).1
     have hkl : e.oks.length = es'.length := by rw [<- hyl, hys]; simp
     refine ⟨?_, ?_⟩
     ·grind [Ha, E4, Ent.pks, Ent.np]
     ·refine Da _ _ _ ?_
      rw [List.getElem?_append_right (by grind [Ent.pks, Ent.np]), show e.pks.length = e.np from rfl, show e.np + i - e.np = i by omega]
      have : (es'.map E.kind)[i]? = some x.kind := by simp [hi]
      rw [k1] at this; exact this
    obtain ⟨p1, p2⟩ := Bf (F := l.F) (ρ := ρ) (ρ' := env (xs ++ ys)) (w0 := w) (w := w') (M0 := M0) (Im := Im) (ad := ad') (m := m') (ev := varE (e.pks ++ e.oks)) (S := S) (hs := fun j => match S[j]? with | some s => srcHd l.F ρ w' Im ad' m' s | none => default)
     l.BI hI (fun j s hj => by simp only [hj]) e.outL (accN e.nn) _ _ (mkB true) e.np hget (Ag _) (fun j s hj => by grind) (fun j s hj => by grind) hev t3
    generalize hhs : (fun j => match S[j]? with | some s => srcHd l.F ρ w' Im ad' m' s | none => default : Nat -> Hd) = hs' at p1 p2
    rw [hal] at p1 p2
    rw [<- hfit2] at p1
    change SV.concL l.F ρ ad' (V ++ [v]) = SV.concL F0 (env (xs ++ ys)) hs' e.ogen.1 at p1
    change ∀ x ∈ e.ogen.2, _ at p2
    have hisx : (V ++ [v]).map isXv = e.ogen.1.map isXv := hfx.symm.trans <| Ka (m := m') (ev := varE (e.pks ++ e.oks)) (nv := id) e.outL (accN e.nn) _ _ (mkB true) e.np e.nn hget fun i k hi => by
     refine Da _ _ _ ?_
     rw [List.getElem?_append_right (by grind [Ent.pks, Ent.np]), show e.pks.length = e.np from rfl, show e.np + i - e.np = i by omega]
     exact hi
    have hlt : ∀ j, j < e.nn -> hs' j = ad' j := fun j hj => by rw [<- hhs]; simp only [hSlt j hj]; rfl
    obtain ⟨q1, q2⟩ := LB (ad := ad') (hs := hs') l c3 ys hρ hfit fun j hj => (hlt j hj).symm
    have hsrc : ∀ j, j < e.nn -> srcOf S j = [j] := fun j hj => by simp [srcOf, hSlt j hj, Src.ns]
    have ogn : ∀ x ∈ e.ogen.2, e.nn <= x.1 := fun x hx => ((BB (ev := varE (e.pks ++ e.oks)) (nv := id) (p := fun _ => True) e.outL (mkB true) e.np e.nn (fun _ _ _ => trivial) fun _ _ => trivial).2 x hx).1.1
    have core : ∀ z ∈ e.oents, z.2.1.tt F0 (env (xs ++ ys)) = true -> BlkOK F0 (env (xs ++ ys)) Im hs' z.1 w' z.2.2 /\
     ∀ b, mutB F0 (env (xs ++ ys)) hs' z.1 z.2.2 = some b -> ∃ n ∈ srcOf S z.1, ∃ g y, m'.at n = some (g, y) /\ g.tt l.F ρ = true /\ mutB l.F ρ ad' n y = some b := by
     intro z hz hg
     unfold Ent.oents at hz
     rcases List.mem_append.1 hz with hz | hz
     ·obtain ⟨j, g0, X⟩ := z
      have hg0 : g0 = mkB true := OM _ hz
      subst hg0
      obtain ⟨ty, tl, vs', us', rfl, u1, u2, u3⟩ := FX p1.symm hisx.symm j X hz
      obtain ⟨o1, g', b0, o2, o3, o4⟩ := GU (F := l.F) (ρ := ρ) hobj t1 [v] _ u1
      simp only at o1 o2 o4
      have hj : j < e.nn := by
       obtain ⟨o, ho1, ho2⟩ := List.mem_map.1 o1
       have := List.all_eq_true.1 c2 o ho1
       simp only [decide_eq_true_eq] at this
       omega
      have hb0 := (hI.ent j g' _ o2 o3).1
      have hnr := Blk.nrm_same (hb0.lenOK l.BI) ad' j
      have hb := (hnr.2 Im w').2 hb0
      rw [<- o4] at hb
      obtain ⟨s1, s2⟩ := J6 (n := j) (j := j) (ty := ty) (tl := tl) BO l.BI u2 u3 (hlt j hj)
      grind
     ·rcases List.mem_append.1 hz with hz | hz
      ·have hz' := (List.mem_filter.1 hz).1
       have s := q2 z hz'
       obtain ⟨g', o1, o2⟩ := Gk (F := l.F) (ρ := ρ) hkept t2 z hz (by rw [s.gd]; exact hg)
       have hj : z.1 < e.nn := by
        have := ((BB (ev := varE e.pks) (nv := id) (p := fun _ => True) e.ps (mkB true) 0 0 (fun _ _ _ => trivial) fun _ _ => trivial).2 z hz').1.2
        rw [Nat.zero_add] at this; exact this
       refine ⟨(s.ok Im w').1 (hI.ent z.1 g' _ o1 o2).1, fun b hb' => ⟨z.1, by simp [hsrc z.1 hj], g', _, o1, o2, ?_⟩⟩
       rw [<- hb']; exact s.mu
      grind [EntOK.ok, EntOK.mu]
    refine ⟨hs', Im, fun j hj => (hlt j hj).trans (had j hj), i1, i2, ?_, ⟨fun z hz hg => ⟨(core z hz hg).1, fun b hb => ?_⟩, fun x hx y hy hgx hgy b hbx hby => ?_, hI.im, hI.fr⟩⟩
    ·have := HJ p1
     grind [AE]
    ·obtain ⟨n, _, g', y, a1, a2, a3⟩ := (core z hz hg).2 b hb
     exact (hI.ent n g' y a1 a2).2 b a3
    ·obtain ⟨n, n1, g', y', a1, a2, a3⟩ := (core x hx hgx).2 b hbx
     obtain ⟨n', n1', g'', y'', a1', a2', a3'⟩ := (core y hy hgy).2 b hby
     have := hI.inj n n' g' y' g'' y'' b a1 a2 a1' a2' a3 a3'
     subst this
     rw [<- hS] at c1
     exact E6 c1 x.1 (DL hx hbx) y.1 (DL hy hby) n n1 n1'
   ·cases h
  ·cases h
 ·cases h
end
def segM (m : Mem) : List (Nat × Nat × Nat) -> Mem :=fun _=>m
mutual
def Kq : Sh -> List (Nat × Nat × Nat)
 | .seg ty ks cs => [(ty, cs.length, ks.length)]
 | .opt s => Kq s
 | .tup l => LC l
 | _ => []
def LC : List Sh -> List (Nat × Nat × Nat)
 | [] => []
 | s :: r => Kq s ++ LC r
end
section
variable {F : Fam} {ρ : Nat -> Int} {w0 w : World} {M0 Im0 Im : Nat -> Prop} {ad : Nat -> Hd} {m : Mem}
theorem Rel.segM (hB : BI F) : ∀ (l : List (Nat × Nat × Nat)) {m : Mem}, Rel F ρ w0 M0 Im0 ad m w -> Rel F ρ w0 M0 Im0 ad (Ew.segM m l) w :=fun _ _ h=>h
end
def evE (P : Program) (G : Glob) (T : Tab) (LT : Nat -> Bk) (N n : Nat) (e : Ent) : Option (E × List E) :=
 match evFn P G T LT N n e.f e.pgen.1 (start e 0) with
 | some (ob, v, m') => match EH e (shareL (segM m' (Kq e.rs)) (Rr m' v ++ Rs e m' v)) v with
   | some (g, es) => some (andB ob g, es)
   | none => none
 | none => none
def tmL (le : LEnt) : Tm := (List.range le.nt).map fun i => match le.sl.findIdx? (· == i) with
 | some k => le.ent.pgen.1[k]?
 | none => some (.oq (le.ent.nn + i))
def Gz : List Lab -> Lab -> Option (List SV)
 | [], _ => none
 | [k], x => if k = x then some [] else none
 | k :: k' :: ls, x => if k = x then some (.sc (mkB true) :: List.replicate ls.length (.sc (mkB false))) else (Gz (k' :: ls) x).map fun r => .sc (mkB false) :: r
def keepB (so wr : List Nat) (s0 s : Tm) : Bool := (List.range s0.length).all fun k => so.contains k || wr.contains k || match s0.at k, s.at k with
 | some v, some u => v.same u
 | _, _ => false
def Ci (le : LEnt) (s : St) (lab : Lab) : Option (E × List E) :=
 match Gz le.labs lab, Ff s.1 le.so with
 | some bs, some us => if s.1.length = le.nt /\ keepB le.so le.wr (tmL le) s.1 = true then EH le.ent (shareL s.2 (Rr s.2 (.tup us) ++ Rs le.ent s.2 (.tup (bs ++ us)))) (.tup (bs ++ us)) else none
 | _, _ => none
def iteE (c a b : E) : E := bif a.same b then a else match c.lit? with
 | some n => bif i2b n then a else b
 | none => .ite c a b
def endsM (le : LEnt) (d : DT) : List (Lab × St) -> E × Option (List E)
 | [] => (mkB true, none)
 | (lab, s) :: r => match Ci le s lab with
   | some (g, es) => match endsM le d r with
     | (g2, none) => (andB (impB (d.is lab) g) g2, some es)
     | (g2, some es2) => (andB (impB (d.is lab) g) g2, some (List.zipWith (iteE (d.is lab)) es es2))
   | none => match endsM le d r with
     | (g2, o) => (andB (Ak (d.is lab)) g2, o)
def evL (P : Program) (G : Glob) (T : Tab) (call : Into) (N : Nat) (L : Bk) (le : LEnt) (body : Code) : Option (E × List E) :=
 match AD P G T call N L body (tmL le, start le.ent le.nt) with
 | some r => match Ge (Gw le) r with
   | some q => match endsM le q.2.1 q.2.2 with
     | (g, some es) => some (andB q.1 g, es)
     | _ => none
   | none => none
 | none => none
def evP (P : Program) (G : Glob) (T : Tab) (call : Into) (N : Nat) (L : Bk) (le : LEnt) (c : Code) : Option (E × List E) :=
 match AD P G T call N L c (tmL le, start le.ent le.nt) with
 | some r => match endsM le r.2.1 r.2.2 with
   | (g, some es) => some (andB r.1 g, es)
   | _ => none
 | none => none
section
variable {P : Program} {ρ : Nat -> Int} {G : Glob} {T : Tab} {l : Tabs} {w0 w w' : World} {M0 Im0 Im : Nat -> Prop} {ad ad' hs : Nat -> Hd} {m m2 m' : Mem} {tm : Tm} {en : Env} {a : Act}
theorem Gl {e : Ent} {v : SV} {r : E × List E} (h : EH e m' v = some r) : Cx e = true := by
 unfold EH at h
 split at h
 ·split at h
  ·split at h
   ·rename_i hc
    have hc := hc.1
    simp only [Bool.and_eq_true] at hc
    exact hc.2
   ·cases h
  ·cases h
 ·cases h
theorem DQ {fn : Nat -> List Int -> Int} {xs : List Int} : ∀ (ks : List K) (j : Nat) (ys : List Int), ys.length = ks.length -> (∀ (i : Nat) (k : K) (y : Int), ks[i]? = some k -> ys[i]? = some y -> k.norm (fn (j + i) xs) = y) -> Al fn xs j ks = ys
 | [], j, [], _, _ => rfl
 | [], j, _ :: _, h, _ => by simp at h
 | _ :: _, j, [], h, _ => by simp at h
 | k :: ks, j, y :: ys, hl, h => by
   simp only [Al]
   have h0 := h 0 k y rfl rfl
   rw [Nat.add_zero] at h0
   rw [h0, DQ ks (j + 1) ys (by simpa using hl) fun i k y h1 h2 => by
    have := h (i + 1) k y (by simpa using h1) (by simpa using h2)
    rwa [show j + 1 + i = j + (i + 1) by omega]]
theorem Ji (hm : P.follows .mixedOrders = true) (hS : B9 P G l T) {LT : Nat -> Bk} (hLT : LTOK P G l LT) {N n : Nat} {e : Ent} {ob : E} {es : List E} (h : evE P G T LT N n e = some (ob, es))
 (hu : ∀ xs, fits e.pks xs -> e.pre xs -> ∃ ρ : Nat -> Int, (∀ i, i < e.np -> ρ i = env xs i) /\ ob.tt l.F ρ = true /\ ∀ (i : Nat) (k : K), e.oks[i]? = some k -> k.norm (e.fn i xs) = (es.getD i (mkB false)).den l.F ρ) : EntryOK P G e := by
 unfold evE at h
 split at h
 ·rename_i ob1 v m1 hev
  split at h
  ·rename_i g es' hma
   simp only [oJ, pJ] at h
   obtain ⟨rfl, rfl⟩ := h
   intro xs hfit hpre w M0 Im0 hs hM hG hE
   obtain ⟨ρ, hρ, u1, u2⟩ := hu xs hfit hpre
   obtain ⟨t1, t2⟩ := AB u1
   obtain ⟨r1, r2, r3⟩ := Gj (ad := hs) l 0 (Gl hma) hρ hfit hM hE fun _ _ => rfl
   obtain ⟨k1, k2, k3⟩ := C5 (l := l) hma
   rw [<- r2]
   refine (Du (l := l) (ρ := ρ) hm hS hG hLT n e.f _ _ _ _ _ hev t1 hs w r1 r3).mono ?_
   rintro en w' ⟨ad', rfl, a2, a3, a4⟩
   have hys : Al e.fn xs 0 e.oks = es'.map (E.den l.F ρ) := by
    refine DQ _ _ _ (by rw [<- k1]; simp) fun i k y h1 h2 => ?_
    rw [Nat.zero_add, u2 i k h1]
    rw [List.getElem?_map] at h2
    obtain ⟨x, hx, rfl⟩ := Option.map_eq_some_iff.1 h2
    simp [List.getD, hx]
   obtain ⟨hs', Im', q1, q2, q3, q4, q5⟩ := k3 hρ hfit hys t2 ((a2.segM (Tabs.BI l) _).shareL _) fun j hj => (a3.same j ((CR e 0 j).2 (by omega))).symm
   exact ⟨hs', Im', q1, q2, q3, by rw [q4], q5⟩
  ·cases h
 ·cases h
theorem Q2 (hm : P.follows .mixedOrders = true) (hS : B9 P G l T) {LT : Nat -> Bk} (hLT : LTOK P G l LT) {N n : Nat} {e : Ent} {ob : E} {es : List E} (h : evE P G T LT N n e = some (ob, es))
 (hu : ∀ xs, fits e.pks xs -> e.pre xs -> ob.tt l.F (env xs) = true /\ ∀ (i : Nat) (k : K), e.oks[i]? = some k -> k.norm (e.fn i xs) = (es.getD i (mkB false)).den l.F (env xs)) : EntryOK P G e :=
 Ji hm hS hLT h fun xs hf hp => ⟨env xs, fun _ _ => rfl, hu xs hf hp⟩
theorem Fh {F : Fam} {ad : Nat -> Hd} (us : List Value) : ∀ {ls : List Lab} {x : Lab} {bs : List SV}, Gz ls x = some bs -> labV ls (SV.concL F ρ ad bs ++ us) = some (x, us) /\ ∀ p, SV.okL p bs
 | [], x, bs, h => by simp [Gz] at h
 | [k], x, bs, h => by
   simp only [Gz] at h
   split at h
   ·rename_i hk
    simp only [oJ] at h; subst h
    subst hk
    exact ⟨rfl, fun _ => trivial⟩
   ·cases h
 | k :: k' :: ls, x, bs, h => by
   have ht : (SV.sc (mkB true)).conc F ρ ad = .bool true := by simp only [SV.conc, E.val_b (Ag true), Fy]
   have hf : (SV.sc (mkB false)).conc F ρ ad = .bool false := by simp only [SV.conc, E.val_b (Ag false), Fy]
   simp only [Gz] at h
   split at h
   ·rename_i hk
    simp only [oJ] at h; subst h
    subst hk
    have falses : ∀ (ls : List Lab) (k : Lab), ∃ y, labV (k :: ls) (SV.concL F ρ ad (List.replicate ls.length (.sc (mkB false))) ++ us) = some (y, us) := by
     intro ls
     induction ls with
     | nil => intro k; exact ⟨k, rfl⟩
     | cons k2 ls ih =>
       intro k
       obtain ⟨y, hy⟩ := ih k2
       refine ⟨y, ?_⟩
       simp only [List.length_cons, List.replicate_succ, SV.concL, hf, List.cons_append, labV, hy, Option.map_some, cond_false]
    obtain ⟨y, hy⟩ := falses ls k'
    refine ⟨?_, fun p => ⟨trivial, ?_⟩⟩
    ·simp only [SV.concL, ht, List.cons_append, labV, hy, Option.map_some, cond_true]
    ·generalize ls.length = n
     induction n with
     | zero => trivial
     | succ n ih => rw [List.replicate_succ]; exact ⟨trivial, ih⟩
   ·obtain ⟨r, hr, rfl⟩ := Option.map_eq_some_iff.1 h
    obtain ⟨i1, i2⟩ := Fh (F := F) (ad := ad) us hr
    refine ⟨?_, fun p => ⟨trivial, i2 p⟩⟩
    simp only [SV.concL, hf, List.cons_append, labV, i1, Option.map_some, cond_false]
theorem Q3 (c a b : E) (F : Fam) : (iteE c a b).den F ρ = bif c.tt F ρ then a.den F ρ else b.den F ρ := by
 unfold iteE
 cases hs : a.same b
 ·simp only [cond_false]
  split
  ·rename_i n hn
   rw [lit?_tt hn]
   cases i2b n <;> rfl
  ·simp only [E.den, E.tt]
 ·rw [E.same_eq _ _ hs]
  cases c.tt F ρ <;> rfl
theorem Lh {le : LEnt} {s : St} {lab : Lab} {g : E} {es : List E} (h : Ci le s lab = some (g, es)) : es.length = le.ent.oks.length := by
 unfold Ci at h
 split at h
 ·split at h
  ·rw [<- (C5 (l := []) h).1]; simp
  ·cases h
 ·cases h
theorem Fk {le : LEnt} {d : DT} {F : Fam} : ∀ {ss : List (Lab × St)}, (∀ es, (endsM le d ss).2 = some es -> es.length = le.ent.oks.length) /\ ((endsM le d ss).1.tt F ρ = true -> ∀ s, lk (d.eval F ρ) ss = some s ->
 ∃ es g1 es1, (endsM le d ss).2 = some es /\ Ci le s (d.eval F ρ) = some (g1, es1) /\ g1.tt F ρ = true /\ es.map (E.den F ρ) = es1.map (E.den F ρ)) /\ ((endsM le d ss).2 ≠ none -> Cx le.ent = true)
 | [] => ⟨fun es h => by simp [endsM] at h, fun _ s h => by simp [lk] at h, fun h => absurd rfl h⟩
 | (lab, s0) :: r => by
   obtain ⟨i1, i2, i3⟩ := Fk (le := le) (d := d) (F := F) (ss := r)
   cases hm : Ci le s0 lab with
   | none =>
     have he : endsM le d ((lab, s0) :: r) = (andB (Ak (d.is lab)) (endsM le d r).1, (endsM le d r).2) := by simp only [endsM, hm]
     rw [he]
     refine ⟨i1, fun ht s hs => ?_, i3⟩
     obtain ⟨t1, t2⟩ := AB ht
     simp only [lk] at hs
     split at hs
     ·rename_i hk
      rw [(Ad _ F ρ).1, DT.is_true hk.symm] at t1
      simp at t1
     ·exact i2 t2 s hs
   | some z =>
     obtain ⟨g1, es1⟩ := z
     have hl1 := Lh hm
     have hst : Cx le.ent = true := by
      unfold Ci at hm
      split at hm
      ·split at hm
       ·exact Gl hm
       ·cases hm
      ·cases hm
     cases ho : (endsM le d r).2 with
     | none =>
       have he : endsM le d ((lab, s0) :: r) = (andB (impB (d.is lab) g1) (endsM le d r).1, some es1) := by
        simp only [endsM, hm]
        split
        ·rename_i g2 h2; rw [h2]
        ·rename_i g2 e2 h2; rw [h2] at ho; cases ho
       rw [he]
       refine ⟨fun es h => by simp only [oJ] at h; subst h; exact hl1, fun ht s hs => ?_, fun _ => hst⟩
       obtain ⟨t1, t2⟩ := AB ht
       simp only [lk] at hs
       split at hs
       ·rename_i hk
        simp only [oJ] at hs; subst hs
        exact ⟨es1, g1, es1, rfl, by rw [<- hk]; exact hm, EE t1 (DT.is_true hk.symm), rfl⟩
       ·obtain ⟨es, _, _, h, _⟩ := i2 t2 s hs
        rw [ho] at h; cases h
     | some es2 =>
       have he : endsM le d ((lab, s0) :: r) = (andB (impB (d.is lab) g1) (endsM le d r).1, some (List.zipWith (iteE (d.is lab)) es1 es2)) := by
        simp only [endsM, hm]
        split
        ·rename_i g2 h2; rw [h2] at ho; cases ho
        ·rename_i g2 e2 h2; rw [h2] at ho ⊢; simp only [oJ] at ho; subst ho; rfl
       have l2 := i1 es2 ho
       have hz : (List.zipWith (iteE (d.is lab)) es1 es2).map (E.den F ρ) = bif (d.is lab).tt F ρ then es1.map (E.den F ρ) else es2.map (E.den F ρ) := by
        have : ∀ (u v : List E), u.length = v.length -> (List.zipWith (iteE (d.is lab)) u v).map (E.den F ρ) = bif (d.is lab).tt F ρ then u.map (E.den F ρ) else v.map (E.den F ρ) := by
         intro u
         induction u with
         | nil => intro v hv; cases v with
           | nil => cases (d.is lab).tt F ρ <;> rfl
           | cons _ _ => simp at hv
         | cons x u ih => intro v hv; cases v with
           | nil => simp at hv
           | cons y v =>
             simp only [List.zipWith_cons_cons, List.map_cons, Q3, ih v (by simpa using hv)]
             cases (d.is lab).tt F ρ <;> rfl
        exact this es1 es2 (by omega)
       rw [he]
       refine ⟨fun es h => by simp only [oJ] at h; subst h; simp [hl1, l2], fun ht s hs => ?_, fun _ => hst⟩
       obtain ⟨t1, t2⟩ := AB ht
       simp only [lk] at hs
       split at hs
       ·rename_i hk
        simp only [oJ] at hs; subst hs
        exact ⟨_, g1, es1, rfl, by rw [<- hk]; exact hm, EE t1 (DT.is_true hk.symm), by rw [hz, DT.is_true hk.symm]; rfl⟩
       ·rename_i hk
        obtain ⟨es, g3, es3, h1, a1, a2, a3⟩ := i2 t2 s hs
        rw [ho] at h1
        simp only [oJ] at h1
        subst h1
        exact ⟨_, g3, es3, rfl, a1, a2, by rw [hz, DT.is_false (fun e => hk e.symm)]; exact a3⟩
def enL (le : LEnt) (mu : List Int -> Nat) (n : Nat) : Ent := { le.ent with pre := fun xs => le.ent.pre xs /\ mu xs < n }
theorem OO (hm : P.follows .mixedOrders = true) {c : Code} {le : LEnt} {call : Into} {N : Nat} {L : Bk}
 (hS' : B9 P G l T) (hI' : ∀ ρ w0 M0 Im0, GOK G Im0 w0 -> Dc P l ρ w0 M0 Im0 call) (hL' : Gx P G l L c)
 {ob : E} {es : List E} (h : evP P G T call N L le c = some (ob, es))
 (hu : ∀ xs, fits le.ent.pks xs -> le.ent.pre xs -> ∃ ρ : Nat -> Int, (∀ i, i < le.ent.np -> ρ i = env xs i) /\ ob.tt l.F ρ = true /\ ∀ (i : Nat) (k : K), le.ent.oks[i]? = some k -> k.norm (le.ent.fn i xs) = (es.getD i (mkB false)).den l.F ρ) :
 CodeOK P G c le := by
 intro xs hfit hpre w M0 Im hs hM hG hE a hdef hsz hsl Q hQ
 obtain ⟨ρ, hρ, u1, u2⟩ := hu xs hfit hpre
 unfold evP at h
 split at h
 ·rename_i r hr
  split at h
  ·rename_i g es' hends
   simp only [oJ, pJ] at h
   obtain ⟨rfl, rfl⟩ := h
   obtain ⟨t1, t2⟩ := AB u1
   obtain ⟨elen0, espec0, hst0⟩ := Fk (F := l.F) (ρ := ρ) (le := le) (d := r.2.1) (ss := r.2.2)
   rw [hends] at elen0 espec0 hst0
   have elen := elen0 es' rfl
   have espec : g.tt l.F ρ = true -> ∀ s, lk (r.2.1.eval l.F ρ) r.2.2 = some s -> ∃ g1 es1, Ci le s (r.2.1.eval l.F ρ) = some (g1, es1) /\ g1.tt l.F ρ = true /\ es'.map (E.den l.F ρ) = es1.map (E.den l.F ρ) := fun ht s hs => by
    obtain ⟨es, g1, es1, h1, h2, h3, h4⟩ := espec0 ht s hs
    simp only [oJ] at h1
    subst h1
    exact ⟨g1, es1, h2, h3, h4⟩
   have hst : Cx le.ent = true := hst0 (by simp)
   let ad0 : Nat -> Hd := fun j => if j < le.ent.nn then hs j else { blk := 0, v := a.tmps.getD (j - le.ent.nn) undef }
   obtain ⟨r1, r2, r3⟩ := Gj (ad := ad0) l le.nt hst hρ hfit hM hE fun j hj => if_pos hj
   have hT0 : RelT l.F ρ ad0 (start le.ent le.nt) (tmL le) a := by
    refine ⟨hdef, by simp [tmL]; exact hsz, fun i v hv => ?_⟩
    simp only [Tm.at, tmL, List.getD, List.getElem?_map] at hv
    by_cases hi : i < le.nt
    ·rw [List.getElem?_range hi] at hv
     simp only [Option.map_some, Option.getD_some] at hv
     split at hv
     ·rename_i k hk
      have hk2 := List.findIdx?_eq_some_iff_getElem.1 hk
      obtain ⟨hk3, hk4, _⟩ := hk2
      have hski : le.sl[k]? = some i := by rw [List.getElem?_eq_getElem hk3]; simpa using hk4
      have h1 := hsl k i hski
      change a.tmps[i]? = (SV.concL F0 (env xs) hs le.ent.pgen.1)[k]? at h1
      rw [<- r2, Ae, List.getElem?_map, hv, Option.map_some] at h1
      exact ⟨h1, Ct r3 hv⟩
     ·simp only [oJ] at hv
      subst hv
      have hsz' : a.tmps.size = le.nt := hsz
      have hia : i < a.tmps.size := by rw [hsz']; exact hi
      refine ⟨?_, (CR le.ent le.nt _).2 (by omega)⟩
      simp only [SV.conc, ad0]
      rw [if_neg (by omega), show le.ent.nn + i - le.ent.nn = i by omega]
      simp [Array.getD, hia]
    ·rw [List.getElem?_eq_none (by simpa using hi)] at hv
     simp at hv
   have hA : After l.F ρ w M0 Im ad0 (start le.ent le.nt) r.2 Q := by
    intro s ad' a' w' hlk hRs hx
    obtain ⟨g1, es1, m1, m2, m3⟩ := espec t2 s hlk
    have m1' := m1
    unfold Ci at m1'
    split at m1'
    ·rename_i bs us hbs hus
     split at m1'
     ·rename_i hkeep
      obtain ⟨hlen, hkeep⟩ := hkeep
      obtain ⟨b1, b2, b3⟩ := C5 (l := l) m1'
      have hys : Al le.ent.fn xs 0 le.ent.oks = es1.map (E.den l.F ρ) := by
       rw [<- m3]
       refine DQ _ _ _ (by simp [elen]) fun i k y h1 h2 => ?_
       rw [Nat.zero_add, u2 i k h1]
       rw [List.getElem?_map] at h2
       obtain ⟨x, hx, rfl⟩ := Option.map_eq_some_iff.1 h2
       simp [List.getD, hx]
      obtain ⟨hs', Im', q1, q2, q3, q4, q5⟩ := b3 (hs := hs) hρ hfit hys m2 (hRs.2.shareL _) fun j hj => by
       rw [<- hx.same j ((CR le.ent le.nt j).2 (by omega))]
       exact if_pos hj
      obtain ⟨g1', g2'⟩ := Ds hus
      have hbits := Fh (F := l.F) (ρ := ρ) (ad := ad') (SV.concL l.F ρ ad' us) hbs
      refine hQ a' w' hs' Im' (SV.concL l.F ρ ad' (bs ++ us)) (r.2.1.eval l.F ρ) (SV.concL l.F ρ ad' us) q1 q2 q3 q5 ?_ ?_ ?_ ?_ ?_ hRs.1.defers
      ·show (AE le.ent.ogen.1).conc _ _ _ = _
       rw [show Al (le.ent).fn xs 0 (le.ent).oks = es1.map (E.den l.F ρ) from hys]
       rw [hys] at q4
       rw [<- q4]
       simp only [SV.conc]
      ·rw [show SV.concL l.F ρ ad' (bs ++ us) = SV.concL l.F ρ ad' bs ++ SV.concL l.F ρ ad' us by rw [Ae, Ae, Ae, List.map_append]]
       exact hbits.1
      ·intro i t hi
       have hv := g2' i t hi
       have hil : i < us.length := by have := (List.getElem?_eq_some_iff.1 hi).1; change i < le.so.length at this; omega
       rw [List.getElem?_eq_getElem hil] at hv
       rw [(hRs.1.slot t _ hv).1, Ae, List.getElem?_map, List.getElem?_eq_getElem hil, Option.map_some]
      ·intro k hk1 hk2
       have hsz' : a.tmps.size = le.nt := hsz
       by_cases hkn : k < le.nt
       ·have hkk := List.all_eq_true.1 hkeep k (List.mem_range.2 (by simp [tmL]; exact hkn))
        have c1 : le.so.contains k = false := by simpa using hk1
        have c2 : le.wr.contains k = false := by simpa using hk2
        rw [c1, c2, Bool.false_or, Bool.false_or] at hkk
        split at hkk
        ·rename_i v u hv0 hv1
         have := SV.same_eq _ _ hkk
         subst this
         obtain ⟨e1, e2⟩ := hT0.slot k v hv0
         rw [(hRs.1.slot k v hv1).1, e1, SV.conc_congr hx.same v e2]
        ·cases hkk
       ·have h1 : a'.tmps.size = le.nt := by rw [<- hlen]; exact hRs.1.size
        rw [Array.getElem?_eq_none (by omega), Array.getElem?_eq_none (by omega)]
      ·have h1 : a'.tmps.size = le.nt := by rw [<- hlen]; exact hRs.1.size
       have hsz' : a.tmps.size = le.nt := hsz
       omega
     ·cases m1'
    ·cases m1'
   exact DP hm hS' hG (hI' ρ w M0 Im hG) c L _ r.1 r.2 ad0 a w _ hL' hr t1 ⟨hT0, r1⟩ hA
  ·cases h
 ·cases h
end
structure Ctx where
 fs : List Ent
 ls : List (Nat × List Bool × LEnt)
def Ctx.l (c : Ctx) : Tabs := c.fs ++ c.ls.map fun x => x.2.2.ent
def A5 (l : List Ent) : Tab := fun f => l.filter fun e => e.f == f
def eqP : List Bool -> List Bool -> Bool
 | [], [] => true
 | a :: l, b :: r => (a == b) && eqP l r
 | _, _ => false
theorem OP : ∀ {a b : List Bool}, eqP a b = true -> a = b
 | [], [], _ => rfl
 | [], _ :: _, h => by simp [eqP] at h
 | _ :: _, [], h => by simp [eqP] at h
 | a :: l, b :: r, h => by
   simp only [eqP, Bool.and_eq_true, beq_iff_eq] at h
   rw [h.1, OP h.2]
def ltOf (l : List (Nat × List Bool × LEnt)) : Nat -> Bk := fun f p => (l.find? fun x => x.1 == f && eqP x.2.1 p).map fun x => x.2.2
def H9 (P : Program) (f : Nat) (p : List Bool) : Code :=
 match P.funcs[f]? with
 | some fn => match fn.body with
   | some c => match Az c p with
     | some (.loop b) => b
     | _ => .skip
   | none => .skip
 | none => .skip
def AQ (P : Program) (f : Nat) (p : List Bool) : Code :=
 match P.funcs[f]? with
 | some fn => match fn.body with
   | some c => (Az c p).getD .skip
   | none => .skip
 | none => .skip
def AL (P : Program) (G : Glob) (f : Nat) (p : List Bool) (le : LEnt) : Prop := CodeOK P G (AQ P f p) le
def BP : List Ent -> Bool
 | [] => true
 | e :: r => (!r.any fun x => x.key == e.key) && BP r
structure Ctx.OK (P : Program) (G : Glob) (c : Ctx) : Prop where
 keys : BP c.l = true
 fs : ∀ e ∈ c.fs, EntryOK P G e
 ls : ∀ x ∈ c.ls, AL P G x.1 x.2.1 x.2.2
theorem Jk : ∀ {l : List Ent}, BP l = true -> ∀ e ∈ l, Tabs.get l e.key = some e
 | [], _, e, he => by cases he
 | x :: r, h, e, he => by
   simp only [BP, Bool.and_eq_true, Bool.not_eq_true', List.any_eq_false, beq_iff_eq] at h
   rcases List.mem_cons.1 he with rfl | he
   ·simp [Tabs.get]
   ·have hne : ¬ x.key = e.key := fun e' => h.1 e he e'.symm
    have := Jk h.2 e he
    simp only [Tabs.get] at this ⊢
    rw [List.find?_cons_of_neg (by simpa using hne)]
    exact this
section
variable {P : Program} {G : Glob} {c : Ctx}
theorem Cy (hc : ∀ e ∈ c.fs, EntryOK P G e) {l : Tabs} (hl : ∀ e ∈ c.fs, l.get e.key = some e) : B9 P G l (A5 c.fs) := by
 intro f e he
 simp only [A5, List.mem_filter, beq_iff_eq] at he
 exact ⟨he.2, hl e he.1, hc e he.1⟩
theorem Ctx.OK.get (hc : c.OK P G) : ∀ e ∈ c.l, c.l.get e.key = some e := Jk hc.keys
theorem Ctx.OK.getF (hc : c.OK P G) : ∀ e ∈ c.fs, c.l.get e.key = some e := fun e he => hc.get e (List.mem_append_left _ he)
theorem Ctx.OK.getL (hc : c.OK P G) : ∀ x ∈ c.ls, c.l.get x.2.2.ent.key = some x.2.2.ent := fun x hx => hc.get _ (List.mem_append_right _ (List.mem_map.2 ⟨x, hx, rfl⟩))
theorem GA (hc : ∀ x ∈ c.ls, AL P G x.1 x.2.1 x.2.2) {l : Tabs} (hl : ∀ x ∈ c.ls, l.get x.2.2.ent.key = some x.2.2.ent) : LTOK P G l (ltOf c.ls) := by
 intro f fn cd hf hb p le h body hbody
 unfold ltOf at h
 obtain ⟨x, hx, rfl⟩ := Option.map_eq_some_iff.1 h
 have hp := List.find?_some hx
 simp only [Bool.and_eq_true, beq_iff_eq] at hp
 obtain ⟨rfl, hp⟩ := hp
 have hp := OP hp
 have hm := List.mem_of_find?_eq_some hx
 refine ⟨hl x hm, ?_⟩
 have := hc x hm
 have hbd : AQ P x.1 x.2.1 = body := by
  unfold AQ
  rw [hp]
  simp only [hf, hb, hbody, Option.getD_some]
 unfold AL at this
 rw [hbd] at this
 exact this
theorem Ctx.OK.entry (hc : c.OK P G) (hm : P.follows .mixedOrders = true) {N n : Nat} {e : Ent} {ob : E} {es : List E} (h : evE P G (A5 c.fs) (ltOf c.ls) N n e = some (ob, es))
 (hu : ∀ xs, fits e.pks xs -> e.pre xs -> ob.tt c.l.F (env xs) = true /\ ∀ (i : Nat) (k : K), e.oks[i]? = some k -> k.norm (e.fn i xs) = (es.getD i (mkB false)).den c.l.F (env xs)) : EntryOK P G e :=
 Q2 hm (Cy hc.fs hc.getF) (GA hc.ls hc.getL) h hu
def subL (l : List (Nat × List Bool × LEnt)) (f : Nat) (p : List Bool) : Bk := fun q => ltOf l f (p ++ false :: q)
theorem Ia {p q : List Bool} {c b : Code} (h : Az c p = some b) : Az c (p ++ q) = Az b q := by
 induction p generalizing c with
 | nil =>
   have : c = b := by cases c <;> simpa [Az] using h
   subst this; rfl
 | cons x p ih =>
   cases c with
   | seq a d => cases x <;> exact ih (by simpa [Az] using h)
   | cond o a d => cases x <;> exact ih (by simpa [Az] using h)
   | block i a => exact ih (by simpa [Az] using h)
   | loop a => cases x <;> exact ih (by simpa [Az] using h)
   | _ => simp [Az] at h
theorem Jl {l : Tabs} {e x : Ent} (h : l.get x.key = some x) (hk : (l.any fun y => y.key == e.key) = false) : Tabs.get (e :: l) x.key = some x := by
 have hx : x ∈ l := List.mem_of_find?_eq_some h
 have hne : ¬ e.key = x.key := fun e' => by
  rw [List.any_eq_false] at hk
  exact hk x hx (by simp [e'])
 simp only [Tabs.get] at h ⊢
 rw [List.find?_cons_of_neg (by simpa using hne)]
 exact h
def subP (l : List (Nat × List Bool × LEnt)) (f : Nat) (p : List Bool) : Bk := fun q => match q with
 | [] => none
 | _ :: _ => ltOf l f (p ++ q)
theorem Ctx.OK.piece (hc : c.OK P G) (hm : P.follows .mixedOrders = true) {N n : Nat} {f : Nat} {p : List Bool} {le : LEnt} {ob : E} {es : List E}
 (hb : ∃ fn cd b, P.funcs[f]? = some fn /\ fn.body = some cd /\ Az cd p = some b)
 (h : evP P G (A5 c.fs) (evFn P G (A5 c.fs) (ltOf c.ls) N n) N (subP c.ls f p) le (AQ P f p) = some (ob, es))
 (hu : ∀ xs, fits le.ent.pks xs -> le.ent.pre xs -> ∃ ρ : Nat -> Int, (∀ i, i < le.ent.np -> ρ i = env xs i) /\ ob.tt c.l.F ρ = true /\ ∀ (i : Nat) (k : K), le.ent.oks[i]? = some k -> k.norm (le.ent.fn i xs) = (es.getD i (mkB false)).den c.l.F ρ) :
 AL P G f p le := by
 obtain ⟨fn, cd, b, b1, b2, b3⟩ := hb
 have hcf : AQ P f p = b := by unfold AQ; simp only [b1, b2, b3, Option.getD_some]
 have g3 : LTOK P G c.l (ltOf c.ls) := GA hc.ls hc.getL
 refine OO hm (Cy hc.fs hc.getF) (fun ρ w0 M0 Im0 hG => Du hm (Cy hc.fs hc.getF) hG g3 _) ?_ h hu
 intro q le' hq body hbody
 rw [hcf] at hbody
 cases q with
 | nil => cases hq
 | cons x q => exact g3 f fn cd b1 b2 (p ++ x :: q) le' hq body (by rw [Ia b3]; exact hbody)
def JD (fn : Nat -> List Int -> Int) (xs : List Int) (F : Fam) (ρ : Nat -> Int) : Nat -> List K -> List E -> Prop
 | _, [], _ => True
 | j, k :: ks, es => k.norm (fn j xs) = (es.headD (mkB false)).den F ρ /\ JD fn xs F ρ (j + 1) ks es.tail
theorem Jm {fn : Nat -> List Int -> Int} {xs : List Int} {F : Fam} {ρ : Nat -> Int} : ∀ {ks : List K} {es : List E} {j : Nat}, JD fn xs F ρ j ks es -> ∀ (i : Nat) (k : K), ks[i]? = some k -> k.norm (fn (j + i) xs) = (es.getD i (mkB false)).den F ρ
 | [], es, j, h, i, k, hi => by simp at hi
 | k' :: ks, es, j, h, 0, k, hi => by
   simp only [List.getElem?_cons_zero, oJ] at hi
   subst hi
   have := h.1
   cases es <;> simpa using this
 | k' :: ks, es, j, h, i + 1, k, hi => by
   have := Jm h.2 i k (by simpa using hi)
   rw [show j + 1 + i = j + (i + 1) by omega] at this
   cases es with
   | nil => simpa using this
   | cons x es => simpa using this
theorem Ctx.OK.entryP (hc : c.OK P G) (hm : P.follows .mixedOrders = true) {N n : Nat} {e : Ent} {ob : E} {es : List E} (h : evE P G (A5 c.fs) (ltOf c.ls) N n e = some (ob, es)) (ks : List K) (hks : e.pks = ks) (os : List K) (hos : e.oks = os)
 (hu : ∀ xs, fits ks xs -> e.pre xs -> ob.tt c.l.F (env xs) = true /\ JD e.fn xs c.l.F (env xs) 0 os es) : EntryOK P G e := by
 subst hks; subst hos
 exact hc.entry hm h fun xs hf hp => ⟨(hu xs hf hp).1, fun i k hi => by simpa using Jm (hu xs hf hp).2 i k hi⟩
theorem Ctx.OK.addF (hc : c.OK P G) {e : Ent} (h : EntryOK P G e) (hk : (c.l.any fun y => y.key == e.key) = false) : Ctx.OK P G ⟨e :: c.fs, c.ls⟩ := by
 refine ⟨?_, fun x hx => ?_, hc.ls⟩
 ·show BP (e :: c.l) = true
  simp only [BP, hk, Bool.not_false, Bool.true_and]
  exact hc.keys
 ·rcases List.mem_cons.1 hx with rfl | hx
  ·exact h
  ·exact hc.fs x hx
theorem Jn : ∀ {a b : List Ent} {e : Ent}, BP (a ++ b) = true -> ((a ++ b).any fun y => y.key == e.key) = false -> BP (a ++ e :: b) = true
 | [], b, e, h, hk => by simp only [List.nil_append, BP, hk, Bool.not_false, Bool.true_and] at *; exact h
 | x :: a, b, e, h, hk => by
   simp only [List.cons_append, BP, Bool.and_eq_true, List.any_cons, Bool.or_eq_false_iff, Bool.not_eq_true'] at h hk ⊢
   refine ⟨?_, Jn h.2 hk.2⟩
   have h1 := h.1
   simp only [List.any_append, Bool.or_eq_false_iff, List.any_cons] at h1 ⊢
   refine ⟨h1.1, ?_, h1.2⟩
   have := hk.1
   simp only [beq_eq_false_iff_ne, ne_eq] at this ⊢
   exact fun e' => this e'.symm
theorem Ctx.OK.addL (hc : c.OK P G) {f : Nat} {p : List Bool} {le : LEnt} (h : AL P G f p le) (hk : (c.l.any fun y => y.key == le.ent.key) = false) : Ctx.OK P G ⟨c.fs, (f, p, le) :: c.ls⟩ := by
 refine ⟨?_, hc.fs, fun x hx => ?_⟩
 ·show BP (c.fs ++ le.ent :: c.ls.map fun x => x.2.2.ent) = true
  exact Jn hc.keys hk
 ·rcases List.mem_cons.1 hx with rfl | hx
  ·exact h
  ·exact hc.ls x hx
theorem Ctx.OK.nil : Ctx.OK P G ⟨[], []⟩ := ⟨rfl, fun _ h => (by cases h), fun _ h => (by cases h)⟩
end
theorem i64w {z : Int} (h1 : -9223372036854775808 <= z) (h2 : z <= 9223372036854775807) : IntKind.i64.wrap z = z := by rw [IntKind.wrap_i64]; omega
theorem Gm (a b : E) (F : Fam) (ρ : Nat -> Int) : (E.and a b).tt F ρ = (a.tt F ρ && b.tt F ρ) := by simp [E.tt, E.den]
theorem Ib (a b : E) (F : Fam) (ρ : Nat -> Int) : (E.or a b).tt F ρ = (a.tt F ρ || b.tt F ρ) := by simp [E.tt, E.den]
theorem Tb (a : E) (F : Fam) (ρ : Nat -> Int) : (E.not a).tt F ρ = !a.tt F ρ := by simp [E.tt, E.den]
theorem OQ (op : BinOp) (a b : E) (F : Fam) (ρ : Nat -> Int) : (E.cmp op a b).tt F ρ = cmpB op (a.den F ρ) (b.den F ρ) := by simp [E.tt, E.den]
theorem Tc (n : Int) (F : Fam) (ρ : Nat -> Int) : (E.lit .b n).tt F ρ = decide (n ≠ 0) := by
 by_cases h : n = 0 <;> simp [E.tt, E.den, K.norm, i2b, h]
theorem Td (c a b : E) (F : Fam) (ρ : Nat -> Int) : (E.ite c a b).tt F ρ = bif c.tt F ρ then a.tt F ρ else b.tt F ρ := by
 simp only [E.tt, E.den]; cases i2b (c.den F ρ) <;> rfl
theorem SA (op : BinOp) (a b : E) (F : Fam) (ρ : Nat -> Int) : (E.cmp op a b).den F ρ = b2i (cmpB op (a.den F ρ) (b.den F ρ)) := rfl
theorem SB (a : E) (F : Fam) (ρ : Nat -> Int) : (E.not a).den F ρ = b2i (!a.tt F ρ) := rfl
theorem SC (a b : E) (F : Fam) (ρ : Nat -> Int) : (E.and a b).den F ρ = b2i (a.tt F ρ && b.tt F ρ) := rfl
theorem Te (a b : E) (F : Fam) (ρ : Nat -> Int) : (E.or a b).den F ρ = b2i (a.tt F ρ || b.tt F ρ) := rfl
theorem SD (c a b : E) (F : Fam) (ρ : Nat -> Int) : (E.ite c a b).den F ρ = bif c.tt F ρ then a.den F ρ else b.den F ρ := rfl
theorem SE (k : K) (n : Int) (F : Fam) (ρ : Nat -> Int) : (E.lit k n).den F ρ = k.norm n := rfl
theorem LD (k : K) (i : Nat) (F : Fam) (ρ : Nat -> Int) : (E.var k i).den F ρ = k.norm (ρ i) := rfl
theorem SF (op : BinOp) (k : IntKind) (a b : E) (F : Fam) (ρ : Nat -> Int) : (E.bin op k a b).den F ρ = binI op k (a.den F ρ) (b.den F ρ) := rfl
theorem Tf (op : BinOp) (k : IntKind) (a : E) (n : Int) (F : Fam) (ρ : Nat -> Int) : (E.dv op k a n).den F ρ = dvI op k (a.den F ρ) n := rfl
theorem Tg (op : BinOp) (k : IntKind) (a b : E) (F : Fam) (ρ : Nat -> Int) : (E.sh op k a b).den F ρ = shI op k (a.den F ρ) (b.den F ρ) := rfl
theorem Q4 (k : IntKind) (a : E) (F : Fam) (ρ : Nat -> Int) : (E.conv k a).den F ρ = k.wrap (a.den F ρ) := rfl
theorem EI (k : K) (f j : Nat) (aZ : List E) (F : Fam) (ρ : Nat -> Int) : (E.app k f j aZ).den F ρ = k.norm (F f j (aZ.map (E.den F ρ))) := by simp only [E.den, Dx]
theorem Th (f j : Nat) (aZ : List E) (F : Fam) (ρ : Nat -> Int) : (E.app .b f j aZ).tt F ρ = i2b (K.b.norm (F f j (aZ.map (E.den F ρ)))) := by simp only [E.tt, E.den, Dx]
theorem Ti (i : Nat) (F : Fam) (ρ : Nat -> Int) : (E.var .b i).tt F ρ = i2b (ρ i) := by
 by_cases h : ρ i = 0 <;> simp [E.tt, E.den, K.norm, i2b, h]
theorem AH (k : IntKind) (n : Int) : K.norm (.i k) n = k.wrap n := rfl
theorem nb1 : K.b.norm 1 = 1 := rfl
theorem nb0 : K.b.norm 0 = 0 := rfl
theorem i2b1 : i2b 1 = true := rfl
theorem i2b0 : i2b 0 = false := rfl
theorem bt : b2i true = 1 := rfl
theorem Tj (n : Int) : K.norm .x n = n := rfl
theorem F_bi (l : Tabs) (j : Nat) (xs : List Int) : l.F 0 j xs = bi j xs := l.BI j xs
theorem F_fn {l : Tabs} (e : Ent) {key : Nat} (hk : e.key = key) (he : l.get key = some e) (h : key ≠ 0) {j : Nat} (hj : (j == preC) = false) (xs : List Int) : l.F key j xs = e.fn j xs := by
 subst hk
 exact Tabs.F_fn he h (by simpa using hj) xs
theorem por (x y : Bool) : ((x || y) = true) = (x = false -> y = true) := by cases x <;> cases y <;> simp
theorem pnand (x y : Bool) : ((x && y) = false) = (x = true -> y = false) := by cases x <;> cases y <;> simp
theorem pand (x y : Bool) : ((x && y) = true) = (x = true /\ y = true) := by cases x <;> cases y <;> simp
theorem pnor (x y : Bool) : ((x || y) = false) = (x = false /\ y = false) := by cases x <;> cases y <;> simp
theorem pnot (x : Bool) : ((!x) = true) = (x = false) := by cases x <;> simp
theorem pnnot (x : Bool) : ((!x) = false) = (x = true) := by cases x <;> simp
theorem pcond (c x y : Bool) : ((bif c then x else y) = true) = ((c = true -> x = true) /\ (c = false -> y = true)) := by cases c <;> cases x <;> cases y <;> simp
theorem pncond (c x y : Bool) : ((bif c then x else y) = false) = ((c = true -> x = false) /\ (c = false -> y = false)) := by cases c <;> cases x <;> cases y <;> simp
theorem pdec (p : Prop) [Decidable p] : (decide p = true) = p := by simp
theorem pndec (p : Prop) [Decidable p] : (decide p = false) = ¬ p := by simp
theorem peq (x y : Int) : ((x == y) = true) = (x = y) := by simp
theorem pneq (x y : Int) : ((x == y) = false) = ¬ (x = y) := by simp
theorem pne (x y : Int) : ((x != y) = true) = ¬ (x = y) := by simp
theorem pnne (x y : Int) : ((x != y) = false) = (x = y) := by simp
theorem pgt (x y : Int) : (x > y) = (y < x) := rfl
theorem pge (x y : Int) : (x >= y) = (y <= x) := rfl
theorem u8w {z : Int} (h1 : 0 <= z) (h2 : z <= 255) : IntKind.u8.wrap z = z := by
 simp only [IntKind.wrap, IntKind.signed, IntKind.bits]; simp; omega
theorem u16w {z : Int} (h1 : 0 <= z) (h2 : z <= 65535) : IntKind.u16.wrap z = z := by
 simp only [IntKind.wrap, IntKind.signed, IntKind.bits]; simp; omega
theorem u32w {z : Int} (h1 : 0 <= z) (h2 : z <= 4294967295) : IntKind.u32.wrap z = z := by
 simp only [IntKind.wrap, IntKind.signed, IntKind.bits]; simp; omega
theorem u64w {z : Int} (h1 : 0 <= z) (h2 : z <= 18446744073709551615) : IntKind.u64.wrap z = z := by
 simp only [IntKind.wrap, IntKind.signed, IntKind.bits]; simp; omega
theorem u8r {z : Int} (h : IntKind.u8.wrap z = z) : 0 <= z /\ z <= 255 := by
 simp only [IntKind.wrap, IntKind.signed, IntKind.bits] at h; simp at h; omega
theorem u16r {z : Int} (h : IntKind.u16.wrap z = z) : 0 <= z /\ z <= 65535 := by
 simp only [IntKind.wrap, IntKind.signed, IntKind.bits] at h; simp at h; omega
theorem u32r {z : Int} (h : IntKind.u32.wrap z = z) : 0 <= z /\ z <= 4294967295 := by
 simp only [IntKind.wrap, IntKind.signed, IntKind.bits] at h; simp at h; omega
theorem u64r {z : Int} (h : IntKind.u64.wrap z = z) : 0 <= z /\ z <= 18446744073709551615 := by
 simp only [IntKind.wrap, IntKind.signed, IntKind.bits] at h; simp at h; omega
theorem dcond (c : Bool) (x y : Int) : (bif c then x else y) = if c = true then x else y := by cases c <;> rfl
open Classical in
theorem Ic {l0 : Tabs} : ∃ l : Tabs, l0 = l /\ ∀ e : Ent, l0.get e.key = some e -> e.key ≠ 0 -> (∀ j, (j == preC) = false -> ∀ xs, l.F e.key j xs = e.fn j xs) /\ ∀ xs, (i2b (K.b.norm (l.F e.key 1000000 xs)) = true) = e.pre xs :=
 ⟨_, rfl, fun e ge h2 => ⟨fun j hj xs => F_fn e rfl ge h2 hj xs, fun xs => propext (Tabs.F_pre ge h2 rfl)⟩⟩
def Ent.nm (e : Ent) : Ent := { e with key := e.key + 100000000 }
theorem Ent.nm_fn (e : Ent) : e.nm.fn = e.fn := rfl
theorem Ent.nm_pre (e : Ent) : e.nm.pre = e.pre := rfl
theorem EntryOK.nm {P : Program} {G : Glob} {e : Ent} (h : EntryOK P G e) : EntryOK P G e.nm := h
def LEnt.nm (le : LEnt) : LEnt := { le with ent := le.ent.nm }
theorem CodeOK.nm {P : Program} {G : Glob} {c : Code} {le : LEnt} (h : CodeOK P G c le) : CodeOK P G c le.nm := h
def Ctx.nm (c : Ctx) : Ctx := ⟨c.fs.map Ent.nm, c.ls.map fun x => (x.1, x.2.1, x.2.2.nm)⟩
theorem Kr : ∀ {l : List Ent}, BP l = true -> BP (l.map Ent.nm) = true
 | [], _ => rfl
 | e :: r, h => by
   simp only [BP, Bool.and_eq_true, Bool.not_eq_true', List.any_eq_false, beq_iff_eq, List.map_cons] at h ⊢
   refine ⟨fun x hx => ?_, Kr h.2⟩
   obtain ⟨y, hy, rfl⟩ := List.mem_map.1 hx
   have := h.1 y hy
   show ¬ y.key + 100000000 = e.key + 100000000
   omega
theorem Ctx.nm_l (c : Ctx) : c.nm.l = c.l.map Ent.nm := by
 simp only [Ctx.l, Ctx.nm, List.map_append, List.map_map]; rfl
theorem Ctx.OK.nm {P : Program} {G : Glob} {c : Ctx} (h : c.OK P G) : c.nm.OK P G := by
 refine ⟨?_, fun e he => ?_, fun x hx => ?_⟩
 ·rw [Ctx.nm_l]; exact Kr h.keys
 ·obtain ⟨y, hy, rfl⟩ := List.mem_map.1 he
  exact (h.fs y hy).nm
 ·obtain ⟨y, hy, rfl⟩ := List.mem_map.1 hx
  exact CodeOK.nm (h.ls y hy)
mutual
def E.no (p : Nat -> Bool) : E -> Bool
 | .lit .. => true
 | .var _ i => !p i
 | .app _ _ _ aZ => E.noL p aZ
 | .bin _ _ a b => E.no p a && E.no p b
 | .dv _ _ a _ => E.no p a
 | .sh _ _ a b => E.no p a && E.no p b
 | .cmp _ a b => E.no p a && E.no p b
 | .conv _ a => E.no p a
 | .not a => E.no p a
 | .and a b => E.no p a && E.no p b
 | .or a b => E.no p a && E.no p b
 | .ite c a b => E.no p c && (E.no p a && E.no p b)
def E.noL (p : Nat -> Bool) : List E -> Bool
 | [] => true
 | e :: r => E.no p e && E.noL p r
end
mutual
theorem E.no_den {F : Fam} {p : Nat -> Bool} {ρ ρ' : Nat -> Int} (h : ∀ i, p i = false -> ρ i = ρ' i) : ∀ e : E, E.no p e = true -> e.den F ρ = e.den F ρ'
 | .lit .., _ => rfl
 | .var k i, hn => by simp only [E.no, Bool.not_eq_true'] at hn; simp only [E.den, h i hn]
 | .app k f j aZ, hn => by simp only [E.no] at hn; simp only [E.den, E.no_denL h aZ hn]
 | .bin op k a b, hn => by simp only [E.no, Bool.and_eq_true] at hn; simp only [E.den, E.no_den h a hn.1, E.no_den h b hn.2]
 | .dv op k a n, hn => by simp only [E.no] at hn; simp only [E.den, E.no_den h a hn]
 | .sh op k a b, hn => by simp only [E.no, Bool.and_eq_true] at hn; simp only [E.den, E.no_den h a hn.1, E.no_den h b hn.2]
 | .cmp op a b, hn => by simp only [E.no, Bool.and_eq_true] at hn; simp only [E.den, E.no_den h a hn.1, E.no_den h b hn.2]
 | .conv k a, hn => by simp only [E.no] at hn; simp only [E.den, E.no_den h a hn]
 | .not a, hn => by simp only [E.no] at hn; simp only [E.den, E.no_den h a hn]
 | .and a b, hn => by simp only [E.no, Bool.and_eq_true] at hn; simp only [E.den, E.no_den h a hn.1, E.no_den h b hn.2]
 | .or a b, hn => by simp only [E.no, Bool.and_eq_true] at hn; simp only [E.den, E.no_den h a hn.1, E.no_den h b hn.2]
 | .ite c a b, hn => by simp only [E.no, Bool.and_eq_true] at hn; simp only [E.den, E.no_den h c hn.1, E.no_den h a hn.2.1, E.no_den h b hn.2.2]
theorem E.no_denL {F : Fam} {p : Nat -> Bool} {ρ ρ' : Nat -> Int} (h : ∀ i, p i = false -> ρ i = ρ' i) : ∀ l : List E, E.noL p l = true -> E.denL F ρ l = E.denL F ρ' l
 | [], _ => rfl
 | e :: r, hn => by simp only [E.noL, Bool.and_eq_true] at hn; simp only [E.denL, E.no_den h e hn.1, E.no_denL h r hn.2]
end
def okD (np : Nat) : List (Nat × E) -> Bool
 | [] => true
 | x :: r => (decide (np <= x.1) && E.no (fun i => i == x.1 || r.any fun y => y.1 == i) x.2) && ((!r.any fun y => y.1 == x.1) && okD np r)
theorem OS (F : Fam) (np : Nat) : ∀ (d : List (Nat × E)) (ρ0 : Nat -> Int), okD np d = true -> ∃ ρ : Nat -> Int, (∀ i, (d.any fun y => y.1 == i) = false -> ρ i = ρ0 i) /\ ∀ x ∈ d, ρ x.1 = x.2.den F ρ
 | [], ρ0, _ => ⟨ρ0, fun _ _ => rfl, fun x hx => by cases hx⟩
 | x :: r, ρ0, h => by
   simp only [okD, Bool.and_eq_true, decide_eq_true_eq, Bool.not_eq_true'] at h
   obtain ⟨⟨h1, h2⟩, h3, h4⟩ := h
   obtain ⟨ρ, q1, q2⟩ := OS F np r (fun i => if i = x.1 then x.2.den F ρ0 else ρ0 i) h4
   have hx : ρ x.1 = x.2.den F ρ := by
    rw [q1 x.1 h3, if_pos rfl]
    refine E.no_den (fun i hi => ?_) _ h2
    simp only [Bool.or_eq_false_iff, beq_eq_false_iff_ne] at hi
    rw [q1 i hi.2, if_neg hi.1]
   refine ⟨ρ, fun i hi => ?_, fun y hy => ?_⟩
   ·simp only [List.any_cons, Bool.or_eq_false_iff, beq_eq_false_iff_ne] at hi
    rw [q1 i hi.2, if_neg (fun e => hi.1 e.symm)]
   ·rcases List.mem_cons.1 hy with rfl | hy
    ·exact hx
    ·exact q2 y hy
theorem OT {np : Nat} : ∀ {d : List (Nat × E)}, okD np d = true -> ∀ i, i < np -> (d.any fun y => y.1 == i) = false
 | [], _, _, _ => rfl
 | x :: r, h, i, hi => by
   simp only [okD, Bool.and_eq_true, decide_eq_true_eq] at h
   simp only [List.any_cons, OT h.2.2 i hi, Bool.or_false, beq_eq_false_iff_ne]
   have := h.1.1
   omega
theorem solve {F : Fam} (np : Nat) (d : List (Nat × E)) (h : okD np d = true) (xs : List Int) : ∃ ρ : Nat -> Int, (∀ i, i < np -> ρ i = env xs i) /\ ∀ x ∈ d, ρ x.1 = x.2.den F ρ := by
 obtain ⟨ρ, a, b⟩ := OS F np d (env xs) h
 exact ⟨ρ, fun i hi => a i (OT h i hi), b⟩
theorem ewA : (∀ (a b : E) (F : Fam) (ρ : Nat -> Int), (E.and a b).tt F ρ = (a.tt F ρ && b.tt F ρ)) /\
 (∀ (a b : E) (F : Fam) (ρ : Nat -> Int), (E.or a b).tt F ρ = (a.tt F ρ || b.tt F ρ)) /\
 (∀ (a : E) (F : Fam) (ρ : Nat -> Int), (E.not a).tt F ρ = !a.tt F ρ) /\
 (∀ (op : BinOp) (a b : E) (F : Fam) (ρ : Nat -> Int), (E.cmp op a b).tt F ρ = cmpB op (a.den F ρ) (b.den F ρ)) /\
 (∀ (n : Int) (F : Fam) (ρ : Nat -> Int), (E.lit .b n).tt F ρ = decide (n ≠ 0)) /\
 (∀ (c a b : E) (F : Fam) (ρ : Nat -> Int), (E.ite c a b).tt F ρ = bif c.tt F ρ then a.tt F ρ else b.tt F ρ) /\
 (∀ (i : Nat) (F : Fam) (ρ : Nat -> Int), (E.var .b i).tt F ρ = i2b (ρ i)) /\
 (∀ (f j : Nat) (aZ : List E) (F : Fam) (ρ : Nat -> Int), (E.app .b f j aZ).tt F ρ = i2b (K.b.norm (F f j (aZ.map (E.den F ρ))))) /\
 (∀ (op : BinOp) (a b : E) (F : Fam) (ρ : Nat -> Int), (E.cmp op a b).den F ρ = b2i (cmpB op (a.den F ρ) (b.den F ρ))) /\
 (∀ (a : E) (F : Fam) (ρ : Nat -> Int), (E.not a).den F ρ = b2i (!a.tt F ρ)) /\
 (∀ (a b : E) (F : Fam) (ρ : Nat -> Int), (E.and a b).den F ρ = b2i (a.tt F ρ && b.tt F ρ)) /\
 (∀ (a b : E) (F : Fam) (ρ : Nat -> Int), (E.or a b).den F ρ = b2i (a.tt F ρ || b.tt F ρ)) /\
 (∀ (c a b : E) (F : Fam) (ρ : Nat -> Int), (E.ite c a b).den F ρ = bif c.tt F ρ then a.den F ρ else b.den F ρ) /\
 (∀ (k : K) (n : Int) (F : Fam) (ρ : Nat -> Int), (E.lit k n).den F ρ = k.norm n) /\
 (∀ (k : K) (i : Nat) (F : Fam) (ρ : Nat -> Int), (E.var k i).den F ρ = k.norm (ρ i)) /\
 (∀ (op : BinOp) (k : IntKind) (a b : E) (F : Fam) (ρ : Nat -> Int), (E.bin op k a b).den F ρ = binI op k (a.den F ρ) (b.den F ρ)) /\
 (∀ (op : BinOp) (k : IntKind) (a : E) (n : Int) (F : Fam) (ρ : Nat -> Int), (E.dv op k a n).den F ρ = dvI op k (a.den F ρ) n) /\
 (∀ (op : BinOp) (k : IntKind) (a b : E) (F : Fam) (ρ : Nat -> Int), (E.sh op k a b).den F ρ = shI op k (a.den F ρ) (b.den F ρ)) /\
 (∀ (k : IntKind) (a : E) (F : Fam) (ρ : Nat -> Int), (E.conv k a).den F ρ = k.wrap (a.den F ρ)) /\
 (∀ (k : K) (f j : Nat) (aZ : List E) (F : Fam) (ρ : Nat -> Int), (E.app k f j aZ).den F ρ = k.norm (F f j (aZ.map (E.den F ρ)))) /\
 (∀ (k : IntKind) (n : Int), K.norm (.i k) n = k.wrap n) /\
 (∀ (n : Int), K.norm .x n = n) /\
 (∀ (b : Bool), K.b.norm (b2i b) = b2i b) /\
 (K.b.norm 1 = 1) /\
 (K.b.norm 0 = 0) /\
 (i2b 1 = true) /\
 (i2b 0 = false) /\
 (∀ (b : Bool), i2b (b2i b) = b) /\
 (∀ (l : Tabs) (j : Nat) (xs : List Int), l.F 0 j xs = bi j xs) /\
 (∀ (l : RL), dc (cd l) = l) :=
 ⟨@Gm, @Ib, @Tb, @OQ, @Tc, @Td, @Ti, @Th, @SA, @SB, @SC, @Te, @SD, @SE, @LD, @SF, @Tf, @Tg, @Q4, @EI, @AH, @Tj, @DD, @nb1, @nb0, @i2b1, @i2b0, @BA, @F_bi, @Ab⟩
theorem ewB : (∀ (x y : Bool), ((x || y) = true) = (x = false -> y = true)) /\
 (∀ (x y : Bool), ((x && y) = false) = (x = true -> y = false)) /\
 (∀ (x y : Bool), ((x && y) = true) = (x = true /\ y = true)) /\
 (∀ (x y : Bool), ((x || y) = false) = (x = false /\ y = false)) /\
 (∀ (x : Bool), ((!x) = true) = (x = false)) /\
 (∀ (x : Bool), ((!x) = false) = (x = true)) /\
 (∀ (c x y : Bool), ((bif c then x else y) = true) = ((c = true -> x = true) /\ (c = false -> y = true))) /\
 (∀ (c x y : Bool), ((bif c then x else y) = false) = ((c = true -> x = false) /\ (c = false -> y = false))) /\
 (∀ (x y : Int), ((x == y) = true) = (x = y)) /\
 (∀ (x y : Int), ((x == y) = false) = ¬ (x = y)) /\
 (∀ (x y : Int), ((x != y) = true) = ¬ (x = y)) /\
 (∀ (x y : Int), ((x != y) = false) = (x = y)) /\
 (∀ (x y : Int), (x > y) = (y < x)) /\
 (∀ (x y : Int), (x >= y) = (y <= x)) /\
 (∀ (c : Bool) (x y : Int), (bif c then x else y) = if c = true then x else y) /\
 (∀ (e : Ent), e.nm.fn = e.fn) /\
 (∀ (e : Ent), e.nm.pre = e.pre) /\
 (∀ {z : Int} (h1 : -9223372036854775808 <= z) (h2 : z <= 9223372036854775807), IntKind.i64.wrap z = z) /\
 (∀ {z : Int} (h1 : 0 <= z) (h2 : z <= 255), IntKind.u8.wrap z = z) /\
 (∀ {z : Int} (h1 : 0 <= z) (h2 : z <= 65535), IntKind.u16.wrap z = z) /\
 (∀ {z : Int} (h1 : 0 <= z) (h2 : z <= 4294967295), IntKind.u32.wrap z = z) /\
 (∀ {z : Int} (h1 : 0 <= z) (h2 : z <= 18446744073709551615), IntKind.u64.wrap z = z) :=
 ⟨@por, @pnand, @pand, @pnor, @pnot, @pnnot, @pcond, @pncond, @peq, @pneq, @pne, @pnne, @pgt, @pge, @dcond, @Ent.nm_fn, @Ent.nm_pre, @i64w, @u8w, @u16w, @u32w, @u64w⟩
theorem ewL : (∀ (f : E -> Int) (a : E) (l : List E), List.map f (a :: l) = f a :: List.map f l) /\ (∀ (f : E -> Int), List.map f [] = []) /\
 (∀ (a d : Int) (l : List Int) (n : Nat), (a :: l).getD (n + 1) d = l.getD n d) /\ (∀ (a d : Int) (l : List Int), (a :: l).getD 0 d = a) /\
 (∀ (a d : List Int) (l : RL) (n : Nat), (a :: l).getD (n + 1) d = l.getD n d) /\ (∀ (a d : List Int) (l : RL), (a :: l).getD 0 d = a) /\
 (∀ (a : Int) (l : List Int), (a :: l)[0]? = some a) /\ (∀ (a : Int) (l : List Int) (n : Nat), (a :: l)[n + 1]? = l[n]?) /\
 (∀ (a : E) (l : List E), (a :: l)[0]? = some a) /\ (∀ (a : E) (l : List E) (n : Nat), (a :: l)[n + 1]? = l[n]?) /\
 (∀ (l : List Int), [] ++ l = l) /\ (∀ (a : Int) (l m : List Int), a :: l ++ m = a :: (l ++ m)) /\
 (∀ (l : RL), [] ++ l = l) /\ (∀ (a : List Int) (l m : RL), a :: l ++ m = a :: (l ++ m)) /\
 (Int.toNat 0 = 0) /\ (Int.toNat 1 = 1) /\ (∀ n : Nat, Int.toNat (n : Int) = n) /\ (∀ n : Nat, 0 + n = n) :=
 ⟨fun _ _ _ => rfl, fun _ => rfl, fun _ _ _ _ => List.getD_cons_succ, fun _ _ _ => List.getD_cons_zero, fun _ _ _ _ => List.getD_cons_succ, fun _ _ _ => List.getD_cons_zero,
  fun _ _ => rfl, fun _ _ _ => rfl, fun _ _ => rfl, fun _ _ _ => rfl, fun _ => rfl, fun _ _ _ => rfl, fun _ => rfl, fun _ _ _ => rfl, rfl, rfl, fun _ => rfl, Nat.zero_add⟩
theorem ewM : (∀ (p : Prop) [Decidable p], (decide p = true) = p) /\ (∀ (p : Prop) [Decidable p], (decide p = false) = ¬ p) /\
 (∀ {a b : Int}, ¬ a < b ↔ b <= a) /\ (∀ {a b : Int}, ¬ a <= b ↔ b < a) /\ (∀ p : Prop, (True /\ p) = p) /\ (∀ p : Prop, (p /\ True) = p) /\ (∀ p : Prop, (False /\ p) = False) /\ (∀ p : Prop, (p /\ False) = False) /\
 (∀ p : Prop, (True -> p) = p) /\ (∀ p : Prop, (p -> True) = True) /\ (∀ p : Prop, (False -> p) = True) /\ ((¬ True) = False) /\ ((¬ False) = True) /\
 (∀ l : RL, l.take l.length = l) /\ (∀ l : RL, l.drop 0 = l) :=
 ⟨pdec, pndec, Int.not_lt, Int.not_le, true_and, and_true, false_and, and_false, fun p => by simp, fun p => by simp, fun p => by simp, not_true_eq_false, not_false_eq_true, fun _ => List.take_length, fun _ => rfl⟩
abbrev vI (i:Nat):E:=.var (.i .i64) i
abbrev vX (i:Nat):E:=.var .x i
abbrev lI (n:Int):E:=.lit (.i .i64) n
abbrev aI (k j:Nat)(zs:List E):E:=.app (.i .i64) k j zs
abbrev aX (k j:Nat)(zs:List E):E:=.app .x k j zs
abbrev aB (k j:Nat)(zs:List E):E:=.app .b k j zs
def enH (le : LEnt) (φ : Nat -> List Int -> Int) (mu : List Int -> Nat) (n : Nat) : Ent := { le.ent with fn := φ, pre := fun xs => le.ent.pre xs /\ mu xs < n }
theorem C6 {f g : Nat -> List Int -> Int} {xs : List Int} (h : ∀ j, f j xs = g j xs) : ∀ {ks : List K} {j : Nat}, Al f xs j ks = Al g xs j ks
 | [], _ => rfl
 | k :: ks, j => by simp only [Al, h j, C6 h (ks := ks) (j := j + 1)]
section
variable {P : Program} {ρ : Nat -> Int} {G : Glob} {T : Tab} {l : Tabs} {w0 w w' : World} {M0 Im0 Im : Nat -> Prop} {ad ad' hs : Nat -> Hd} {m m2 m' : Mem} {tm : Tm} {en : Env} {a : Act}
theorem Q5 (hm : P.follows .mixedOrders = true) {body : Code} {le : LEnt} {l0 : Tabs} {call : Into} {N : Nat} {L : Bk} (mu : List Int -> Nat) (ψ : Nat -> Nat -> List Int -> Int) (hψ : ∀ n j xs, mu xs < n -> ψ n j xs = le.ent.fn j xs)
 (hS : ∀ φ n, B9 P G (enH le φ mu n :: l0) T) (hI : ∀ φ n ρ w0 M0 Im0, GOK G Im0 w0 -> Dc P (enH le φ mu n :: l0) ρ w0 M0 Im0 call) (hL : ∀ φ n, Gx P G (enH le φ mu n :: l0) L body)
 {ob : E} {es : List E} (h : evL P G T call N L le body = some (ob, es))
 (hu : ∀ xs, fits le.ent.pks xs -> le.ent.pre xs -> ∃ ρ : Nat -> Int, (∀ i, i < le.ent.np -> ρ i = env xs i) /\ ob.tt (Tabs.F (enH le (ψ (mu xs)) mu (mu xs) :: l0)) ρ = true /\ ∀ (i : Nat) (k : K), le.ent.oks[i]? = some k -> k.norm (le.ent.fn i xs) = (es.getD i (mkB false)).den (Tabs.F (enH le (ψ (mu xs)) mu (mu xs) :: l0)) ρ) :
 OG P G body le := by
 have main : ∀ n, H4 G { le with ent := enL le mu n } fun Q => Code.rounds P body Q n := by
  intro n
  induction n with
  | zero => intro xs hfit hpre; exact absurd hpre.2 (Nat.not_lt_zero _)
  | succ n ih =>
    intro xs hfit hpre w M0 Im hs hM hG hE a hdef hsz hsl Q hQ
    obtain ⟨hpre1, hpre2⟩ := hpre
    obtain ⟨ρ, hρ, u1, u2⟩ := hu xs hfit hpre1
    obtain ⟨m, hm0⟩ : ∃ m, m = mu xs := ⟨_, rfl⟩
    rw [<- hm0] at u1 u2
    have hmn : m <= n := by omega
    obtain ⟨l, hl⟩ : ∃ l : Tabs, l = enH le (ψ m) mu m :: l0 := ⟨_, rfl⟩
    have hS' := hS (ψ m) m
    have hI' := hI (ψ m) m
    have hL' := hL (ψ m) m
    have ih' : H4 G { le with ent := enH le (ψ m) mu m } fun Q => Code.rounds P body Q n := by
     intro xs hfit hpre w M0 Im hs hM hG hE a hdef hsz hsl Q hQ
     have hp2 : le.ent.pre xs /\ mu xs < m := hpre
     refine ih xs hfit ⟨hp2.1, by have := hp2.2; omega⟩ w M0 Im hs hM hG hE a hdef hsz hsl Q ?_
     have eo : Al (ψ m) xs 0 le.ent.oks = Al le.ent.fn xs 0 le.ent.oks := C6 fun j => hψ m j xs hp2.2
     intro a' w' hs' Im' Vs lab us q1 q2 q3 q4 q5
     refine hQ a' w' hs' Im' Vs lab us q1 q2 q3 ?_ ?_
     ·show RelE F0 (env (xs ++ Al (ψ m) xs 0 le.ent.oks)) w M0 Im' hs' le.ent.oents w'
      rw [eo]; exact q4
     ·show (AE le.ent.ogen.1).conc F0 (env (xs ++ Al (ψ m) xs 0 le.ent.oks)) hs' = .tuple Vs.toArray
      rw [eo]; exact q5
    rw [<- hl] at u1 u2 hS' hI' hL'
    unfold evL at h
    split at h
    ·rename_i r hr
     split at h
     ·rename_i q hq
      split at h
      ·rename_i g es' hends
       simp only [oJ, pJ] at h
       obtain ⟨rfl, rfl⟩ := h
       obtain ⟨t1, t2⟩ := AB u1
       obtain ⟨elen0, espec0, hst0⟩ := Fk (F := l.F) (ρ := ρ) (le := le) (d := q.2.1) (ss := q.2.2)
       rw [hends] at elen0 espec0 hst0
       have elen := elen0 es' rfl
       have espec : g.tt l.F ρ = true -> ∀ s, lk (q.2.1.eval l.F ρ) q.2.2 = some s -> ∃ g1 es1, Ci le s (q.2.1.eval l.F ρ) = some (g1, es1) /\ g1.tt l.F ρ = true /\ es'.map (E.den l.F ρ) = es1.map (E.den l.F ρ) := fun ht s hs => by
        obtain ⟨es, g1, es1, h1, h2, h3, h4⟩ := espec0 ht s hs
        simp only [oJ] at h1
        subst h1
        exact ⟨g1, es1, h2, h3, h4⟩
       have hst : Cx le.ent = true := hst0 (by simp)
       let ad0 : Nat -> Hd := fun j => if j < le.ent.nn then hs j else { blk := 0, v := a.tmps.getD (j - le.ent.nn) undef }
       obtain ⟨r1, r2, r3⟩ := Gj (ad := ad0) l le.nt hst hρ hfit hM hE fun j hj => if_pos hj
       have hT0 : RelT l.F ρ ad0 (start le.ent le.nt) (tmL le) a := by
        refine ⟨hdef, by simp [tmL]; exact hsz, fun i v hv => ?_⟩
        simp only [Tm.at, tmL, List.getD, List.getElem?_map] at hv
        by_cases hi : i < le.nt
        ·rw [List.getElem?_range hi] at hv
         simp only [Option.map_some, Option.getD_some] at hv
         split at hv
         ·rename_i k hk
          have hk2 := List.findIdx?_eq_some_iff_getElem.1 hk
          obtain ⟨hk3, hk4, _⟩ := hk2
          have hski : le.sl[k]? = some i := by rw [List.getElem?_eq_getElem hk3]; simpa using hk4
          have h1 := hsl k i hski
          change a.tmps[i]? = (SV.concL F0 (env xs) hs le.ent.pgen.1)[k]? at h1
          rw [<- r2, Ae, List.getElem?_map, hv, Option.map_some] at h1
          exact ⟨h1, Ct r3 hv⟩
         ·simp only [oJ] at hv
          subst hv
          have hsz' : a.tmps.size = le.nt := hsz
          have hia : i < a.tmps.size := by rw [hsz']; exact hi
          refine ⟨?_, (CR le.ent le.nt _).2 (by omega)⟩
          simp only [SV.conc, ad0]
          rw [if_neg (by omega), show le.ent.nn + i - le.ent.nn = i by omega]
          simp [Array.getD, hia]
        ·rw [List.getElem?_eq_none (by simpa using hi)] at hv
         simp at hv
       have hget : l.get (enH le (ψ m) mu m).key = some (enH le (ψ m) mu m) := by
        rw [hl]; simp [Tabs.get]
       have hA : After l.F ρ w M0 Im ad0 (start le.ent le.nt) q.2 Q := by
        intro s ad' a' w' hlk hRs hx
        obtain ⟨g1, es1, m1, m2, m3⟩ := espec t2 s hlk
        have m1' := m1
        unfold Ci at m1'
        split at m1'
        ·rename_i bs us hbs hus
         split at m1'
         ·rename_i hkeep
          obtain ⟨hlen, hkeep⟩ := hkeep
          obtain ⟨b1, b2, b3⟩ := C5 (l := l) m1'
          have hys : Al le.ent.fn xs 0 le.ent.oks = es1.map (E.den l.F ρ) := by
           rw [<- m3]
           refine DQ _ _ _ (by simp [elen]) fun i k y h1 h2 => ?_
           rw [Nat.zero_add, u2 i k h1]
           rw [List.getElem?_map] at h2
           obtain ⟨x, hx, rfl⟩ := Option.map_eq_some_iff.1 h2
           simp [List.getD, hx]
          obtain ⟨hs', Im', q1, q2, q3, q4, q5⟩ := b3 (hs := hs) hρ hfit hys m2 (hRs.2.shareL _) fun j hj => by
           rw [<- hx.same j ((CR le.ent le.nt j).2 (by omega))]
           exact if_pos hj
          obtain ⟨g1', g2'⟩ := Ds hus
          have hbits := Fh (F := l.F) (ρ := ρ) (ad := ad') (SV.concL l.F ρ ad' us) hbs
          refine hQ a' w' hs' Im' (SV.concL l.F ρ ad' (bs ++ us)) (q.2.1.eval l.F ρ) (SV.concL l.F ρ ad' us) q1 q2 q3 q5 ?_ ?_ ?_ ?_ ?_ hRs.1.defers
          ·show (AE le.ent.ogen.1).conc _ _ _ = _
           rw [show Al (enL le mu (n+1)).fn xs 0 (enL le mu (n+1)).oks = es1.map (E.den l.F ρ) from hys]
           rw [hys] at q4
           rw [<- q4]
           simp only [SV.conc]
          ·rw [show SV.concL l.F ρ ad' (bs ++ us) = SV.concL l.F ρ ad' bs ++ SV.concL l.F ρ ad' us by rw [Ae, Ae, Ae, List.map_append]]
           exact hbits.1
          ·intro i t hi
           have hv := g2' i t hi
           have hil : i < us.length := by have := (List.getElem?_eq_some_iff.1 hi).1; change i < le.so.length at this; omega
           rw [List.getElem?_eq_getElem hil] at hv
           rw [(hRs.1.slot t _ hv).1, Ae, List.getElem?_map, List.getElem?_eq_getElem hil, Option.map_some]
          ·intro k hk1 hk2
           have hsz' : a.tmps.size = le.nt := hsz
           by_cases hkn : k < le.nt
           ·have hkk := List.all_eq_true.1 hkeep k (List.mem_range.2 (by simp [tmL]; exact hkn))
            have c1 : le.so.contains k = false := by simpa using hk1
            have c2 : le.wr.contains k = false := by simpa using hk2
            rw [c1, c2, Bool.false_or, Bool.false_or] at hkk
            split at hkk
            ·rename_i v u hv0 hv1
             have := SV.same_eq _ _ hkk
             subst this
             obtain ⟨e1, e2⟩ := hT0.slot k v hv0
             rw [(hRs.1.slot k v hv1).1, e1, SV.conc_congr hx.same v e2]
            ·cases hkk
           ·have h1 : a'.tmps.size = le.nt := by rw [<- hlen]; exact hRs.1.size
            rw [Array.getElem?_eq_none (by omega), Array.getElem?_eq_none (by omega)]
          ·have h1 : a'.tmps.size = le.nt := by rw [<- hlen]; exact hRs.1.size
           have hsz' : a.tmps.size = le.nt := hsz
           omega
         ·cases m1'
        ·cases m1'
       show Code.rounds P body Q (n + 1) a w
       rw [rounds_succ]
       obtain ⟨v1, v2⟩ := DN (l := l) (ρ := ρ) (w0 := w) (M0 := M0) (Im0 := Im) (ad := ad0) (K := Code.rounds P body Q n) (g := q.1) (o := q.2) (f := Gw le) hq t1 hA fun s1 g2 o2 ad' a' w' h2 ht2 hR' hA' =>
        Es (le := { le with ent := enH le (ψ m) mu m }) (C := fun Q => Code.rounds P body Q n) hget ih' hG (g := g2) (o := o2) h2 ht2 hR' hA'
       exact DP hm hS' hG (hI' ρ w M0 Im hG) body L _ r.1 r.2 ad0 a w _ hL' hr v1 ⟨hT0, r1⟩ v2
      ·cases h
     ·cases h
    ·cases h
 intro xs hfit hpre w M0 Im hs hM hG hE a hdef hsz hsl Q hQ
 exact wp_loop_rounds (mu xs + 1) (main (mu xs + 1) xs hfit ⟨hpre, Nat.lt_succ_self _⟩ w M0 Im hs hM hG hE a hdef hsz hsl Q hQ)
end
theorem FC {l : Tabs} {k0 k : Nat} {f : Nat -> List Int -> Int} {p : List Int -> Prop} (hk : k0 = k) (h : (∀ j, (j == preC) = false -> ∀ xs, l.F k0 j xs = f j xs) /\ (∀ xs, (i2b (K.b.norm (l.F k0 1000000 xs)) = true) = p xs)) :
 (∀ xs, l.F k 0 xs = f 0 xs) /\ (∀ xs, l.F k 1 xs = f 1 xs) /\ (∀ xs, l.F k 2 xs = f 2 xs) /\ (∀ xs, l.F k 3 xs = f 3 xs) /\ (∀ xs, l.F k 4 xs = f 4 xs) /\ (∀ xs, l.F k 5 xs = f 5 xs) /\ (∀ xs, l.F k 6 xs = f 6 xs) /\ (∀ xs, l.F k 7 xs = f 7 xs) /\ (∀ xs, l.F k 8 xs = f 8 xs) /\ (∀ xs, l.F k 9 xs = f 9 xs) /\ (∀ xs, l.F k 10 xs = f 10 xs) /\ (∀ xs, l.F k 11 xs = f 11 xs) /\ (∀ xs, l.F k 12 xs = f 12 xs) /\ (∀ xs, l.F k 13 xs = f 13 xs) /\ (∀ xs, l.F k 14 xs = f 14 xs) /\ (∀ xs, l.F k 15 xs = f 15 xs) /\ (∀ xs, (i2b (K.b.norm (l.F k 1000000 xs)) = true) = p xs) := by
 subst hk
 exact ⟨h.1 0 rfl, h.1 1 rfl, h.1 2 rfl, h.1 3 rfl, h.1 4 rfl, h.1 5 rfl, h.1 6 rfl, h.1 7 rfl, h.1 8 rfl, h.1 9 rfl, h.1 10 rfl, h.1 11 rfl, h.1 12 rfl, h.1 13 rfl, h.1 14 rfl, h.1 15 rfl, h.2⟩
def exN : List K -> (List Int -> Prop) -> Prop
 | [], P => P []
 | k :: ks, P => ∃ x, k.norm x = x /\ exN ks fun xs => P (x :: xs)
theorem Ks : ∀ {ks : List K} {P Q : List Int -> Prop}, (∀ xs, P xs -> Q xs) -> exN ks P -> exN ks Q
 | [], _, _, h, hp => h _ hp
 | _ :: _, _, _, h, ⟨x, hx, hp⟩ => ⟨x, hx, Ks (fun xs => h (x :: xs)) hp⟩
theorem Bj : ∀ {ks : List K} {xs : List Int}, fits ks xs -> exN ks fun ys => xs = ys
 | [], [], _ => rfl
 | [], _ :: _, h => h.elim
 | _ :: _, [], h => h.elim
 | k :: ks, x :: xs, h => ⟨x, h.1, Ks (fun ys (e : xs = ys) => by rw [e]) (Bj h.2)⟩
def eqL (ρ : Nat -> Int) : Nat -> List Int -> Prop
 | _, [] => True
 | j, [x] => ρ j = x
 | j, x :: y :: xs => ρ j = x /\ eqL ρ (j + 1) (y :: xs)
theorem OU {ρ : Nat -> Int} : ∀ (xs : List Int) (j : Nat), (∀ i, i < xs.length -> ρ (j + i) = env xs i) -> eqL ρ j xs
 | [], _, _ => trivial
 | [x], j, h => h 0 (Nat.zero_lt_succ _)
 | x :: y :: xs, j, h => ⟨h 0 (Nat.zero_lt_succ _), OU (y :: xs) (j + 1) fun i hi => by
   have := h (i + 1) (Nat.succ_lt_succ hi)
   rwa [show j + 1 + i = j + (i + 1) by omega]⟩
theorem Tk {ρ : Nat -> Int} {xs : List Int} {n : Nat} (h : ∀ i, i < n -> ρ i = env xs i) (hn : xs.length <= n) : eqL ρ 0 xs := OU xs 0 fun i hi => by
 rw [Nat.zero_add]; exact h i (Nat.lt_of_lt_of_le hi hn)
theorem Aa {k : K} {ks : List K} {xs : List Int} (h : fits (k :: ks) xs) : ∃ x r, xs = x :: r /\ k.norm x = x /\ fits ks r := by
 cases xs with
 | nil => exact h.elim
 | cons x r => exact ⟨x, r, rfl, h.1, h.2⟩
theorem Ba {xs : List Int} (h : fits [] xs) : xs = [] := by
 cases xs with
 | nil => rfl
 | cons x r => exact h.elim
def esB : List K -> List E -> Bool
 | [], [] => true
 | k :: ks, e :: es => decide (e.kind = k) && e.sound && esB ks es
 | _, _ => false
theorem EJ : ∀ {ks : List K} {es : List E}, esB ks es = true -> es.length = ks.length /\ ∀ (F : Fam) (ρ : Nat -> Int) (i : Nat) (k : K), ks[i]? = some k -> k.norm ((es.getD i (mkB false)).den F ρ) = (es.getD i (mkB false)).den F ρ
 | [], [], _ => ⟨rfl, fun _ _ i k h => by simp at h⟩
 | [], _ :: _, h => by simp [esB] at h
 | _ :: _, [], h => by simp [esB] at h
 | k :: ks, e :: es, h => by
   simp only [esB, Bool.and_eq_true, decide_eq_true_eq] at h
   obtain ⟨⟨rfl, h2⟩, h3⟩ := h
   obtain ⟨i1, i2⟩ := EJ h3
   refine ⟨by simp [i1], fun F ρ i k hi => ?_⟩
   cases i with
   | zero =>
     simp only [List.getElem?_cons_zero, oJ] at hi
     subst hi
     simpa using E.den_norm F ρ e h2
   | succ i => simpa using i2 F ρ i k (by simpa using hi)
abbrev Post := List Int -> List Int -> Prop
def Fnd (F : Fam) (np : Nat) (ob : E) (es : List E) (Q : Post) (xs : List Int) (ρ : Nat -> Int) : Prop :=
 (∀ i, i < np -> ρ i = env xs i) /\ ob.tt F ρ = true /\ Q xs (es.map (E.den F ρ))
open Classical in
noncomputable def fnR (F : Fam) (np : Nat) (ob : E) (es : List E) (Q : Post) (j : Nat) (xs : List Int) : Int :=
 if h : ∃ ρ : Nat -> Int, Fnd F np ob es Q xs ρ then (es.getD j (mkB false)).den F h.choose else 0
theorem Kt {F : Fam} {np : Nat} {ob : E} {es : List E} {Q : Post} {xs : List Int} (h : ∃ ρ : Nat -> Int, Fnd F np ob es Q xs ρ) : ∃ ρ, Fnd F np ob es Q xs ρ /\ ∀ j, fnR F np ob es Q j xs = (es.getD j (mkB false)).den F ρ :=
 ⟨h.choose, h.choose_spec, fun j => dif_pos h⟩
def PostOK (e : Ent) (Q : Post) : Prop := ∀ xs, fits e.pks xs -> e.pre xs -> Q xs (Al e.fn xs 0 e.oks)
def Rt : K -> Int -> Int -> Prop
 | .b, v, z => v = K.b.norm z
 | .i k, v, z => v = k.wrap z
 | .x, v, z => v = z
theorem M4 {k : K} {v z : Int} (h : Rt k v z) : v = k.norm z := by cases k <;> exact h
def Ie (fn : Nat -> List Int -> Int) (xs : List Int) : Nat -> List K -> List Int -> Prop
 | _, [], [] => True
 | j, k :: ks, v :: vs => Rt k v (fn j xs) /\ Ie fn xs (j + 1) ks vs
 | _, _, _ => False
theorem Ku {fn : Nat -> List Int -> Int} {xs : List Int} : ∀ {ks : List K} {vs : List Int} {j : Nat}, Ie fn xs j ks vs -> vs = Al fn xs j ks
 | [], [], _, _ => rfl
 | [], _ :: _, _, h => h.elim
 | _ :: _, [], _, h => h.elim
 | k :: ks, v :: vs, j, h => by
   rw [Al, <- M4 h.1, <- Ku h.2]
theorem PostOK.use {e : Ent} {Q : Post} (h : PostOK e Q) {xs vs : List Int} {ks os : List K} (hks : e.pks = ks) (hos : e.oks = os) (ho : Ie e.fn xs 0 os vs) (hf : fits ks xs) (hp : e.pre xs) : Q xs vs := by
 subst hks; subst hos
 rw [Ku ho]; exact h xs hf hp
theorem Hh {F : Fam} {ρ : Nat -> Int} {fn : Nat -> List Int -> Int} {xs : List Int} {ks : List K} {es : List E} (hb : esB ks es = true) (h : ∀ j, fn j xs = (es.getD j (mkB false)).den F ρ) : Al fn xs 0 ks = es.map (E.den F ρ) := by
 obtain ⟨b1, b2⟩ := EJ hb
 refine DQ _ _ _ (by simp [b1]) fun i k y h1 h2 => ?_
 rw [Nat.zero_add, h i, b2 F ρ i k h1]
 rw [List.getElem?_map] at h2
 obtain ⟨x, hx, rfl⟩ := Option.map_eq_some_iff.1 h2
 simp [List.getD, hx]
def Ent.fw (e : Ent) (f : Nat -> List Int -> Int) : Ent := { e with fn := f }
def LEnt.fw (le : LEnt) (f : Nat -> List Int -> Int) : LEnt := { le with ent := le.ent.fw f }
theorem ewR : (∀ le : LEnt, le.nm.ent.fn = le.ent.fn) /\ (∀ le : LEnt, le.nm.ent.pre = le.ent.pre) /\ (∀ (e : Ent) (f : Nat -> List Int -> Int), (e.fw f).pre = e.pre) /\ (∀ (e : LEnt) (f : Nat -> List Int -> Int), (e.fw f).ent.pre = e.ent.pre) := ⟨fun _ => rfl, fun _ => rfl, fun _ _ => rfl, fun _ _ => rfl⟩
section
variable {P : Program} {G : Glob} {c : Ctx}
theorem Ctx.OK.entryH (hc : c.OK P G) (hm : P.follows .mixedOrders = true) {N n : Nat} {e : Ent} {ob : E} {es : List E} {Q : Post} (h : evE P G (A5 c.fs) (ltOf c.ls) N n (e.fw (fnR c.l.F e.np ob es Q)) = some (ob, es)) (hb : esB e.oks es = true) (ks : List K) (hks : e.pks = ks)
 (hu : ∀ xs, fits ks xs -> e.pre xs -> ∃ ρ : Nat -> Int, (∀ i, i < ks.length -> ρ i = env xs i) /\ ob.tt c.l.F ρ = true /\ Q xs (es.map (E.den c.l.F ρ))) : EntryOK P G (e.fw (fnR c.l.F e.np ob es Q)) /\ PostOK (e.fw (fnR c.l.F e.np ob es Q)) Q := by
 subst hks
 have key : ∀ xs, fits e.pks xs -> e.pre xs -> ∃ ρ, Fnd c.l.F e.np ob es Q xs ρ /\ ∀ j, fnR c.l.F e.np ob es Q j xs = (es.getD j (mkB false)).den c.l.F ρ := fun xs hf hp => Kt (hu xs hf hp)
 refine ⟨Ji hm (Cy hc.fs hc.getF) (GA hc.ls hc.getL) h fun xs hf hp => ?_, fun xs hf hp => ?_⟩
 ·obtain ⟨ρ, ⟨f1, f2, _⟩, f4⟩ := key xs hf hp
  refine ⟨ρ, f1, f2, fun i k hi => ?_⟩
  show k.norm (fnR c.l.F e.np ob es Q i xs) = _
  rw [f4 i]; exact (EJ hb).2 _ _ i k hi
 ·obtain ⟨ρ, ⟨_, _, f3⟩, f4⟩ := key xs hf hp
  show Q xs (Al (fnR c.l.F e.np ob es Q) xs 0 e.oks)
  rw [Hh hb f4]; exact f3
theorem Ctx.OK.pieceH (hc : c.OK P G) (hm : P.follows .mixedOrders = true) {N n : Nat} {f : Nat} {p : List Bool} {le : LEnt} {ob : E} {es : List E} {Q : Post}
 (hp : ∃ fn cd b, P.funcs[f]? = some fn /\ fn.body = some cd /\ Az cd p = some b)
 (h : evP P G (A5 c.fs) (evFn P G (A5 c.fs) (ltOf c.ls) N n) N (subP c.ls f p) (le.fw (fnR c.l.F le.ent.np ob es Q)) (AQ P f p) = some (ob, es)) (hb : esB le.ent.oks es = true) (ks : List K) (hks : le.ent.pks = ks)
 (hu : ∀ xs, fits ks xs -> le.ent.pre xs -> ∃ ρ : Nat -> Int, (∀ i, i < ks.length -> ρ i = env xs i) /\ ob.tt c.l.F ρ = true /\ Q xs (es.map (E.den c.l.F ρ))) :
 AL P G f p (le.fw (fnR c.l.F le.ent.np ob es Q)) /\ PostOK (le.fw (fnR c.l.F le.ent.np ob es Q)).ent Q := by
 subst hks
 have key : ∀ xs, fits le.ent.pks xs -> le.ent.pre xs -> ∃ ρ, Fnd c.l.F le.ent.np ob es Q xs ρ /\ ∀ j, fnR c.l.F le.ent.np ob es Q j xs = (es.getD j (mkB false)).den c.l.F ρ := fun xs hf hp => Kt (hu xs hf hp)
 refine ⟨hc.piece hm hp h fun xs hf hp => ?_, fun xs hf hp => ?_⟩
 ·obtain ⟨ρ, ⟨f1, f2, _⟩, f4⟩ := key xs hf hp
  refine ⟨ρ, f1, f2, fun i k hi => ?_⟩
  show k.norm (fnR c.l.F le.ent.np ob es Q i xs) = _
  rw [f4 i]; exact (EJ hb).2 _ _ i k hi
 ·obtain ⟨ρ, ⟨_, _, f3⟩, f4⟩ := key xs hf hp
  show Q xs (Al (fnR c.l.F le.ent.np ob es Q) xs 0 le.ent.oks)
  rw [Hh hb f4]; exact f3
noncomputable def psiL (le : LEnt) (l0 : Tabs) (ob : E) (es : List E) (Q : Post) (mu : List Int -> Nat) : Nat -> Nat -> List Int -> Int
 | 0, _, _ => 0
 | n + 1, j, xs => if mu xs < n then psiL le l0 ob es Q mu n j xs else fnR (Tabs.F (enH le (psiL le l0 ob es Q mu n) mu n :: l0)) le.ent.np ob es Q j xs
noncomputable def fnL (le : LEnt) (l0 : Tabs) (ob : E) (es : List E) (Q : Post) (mu : List Int -> Nat) (j : Nat) (xs : List Int) : Int := psiL le l0 ob es Q mu (mu xs + 1) j xs
theorem IH {le : LEnt} {l0 : Tabs} {ob : E} {es : List E} {Q : Post} {mu : List Int -> Nat} : ∀ (n j : Nat) (xs : List Int), mu xs < n -> psiL le l0 ob es Q mu n j xs = fnL le l0 ob es Q mu j xs
 | 0, _, _, h => absurd h (Nat.not_lt_zero _)
 | n + 1, j, xs, h => by
   by_cases hc : mu xs < n
   ·rw [psiL, if_pos hc]; exact IH n j xs hc
   ·have e : n = mu xs := by omega
    rw [e]; rfl
theorem Tn {le : LEnt} {l0 : Tabs} {ob : E} {es : List E} {Q : Post} {mu : List Int -> Nat} (j : Nat) (xs : List Int) : fnL le l0 ob es Q mu j xs = fnR (Tabs.F (enH le (psiL le l0 ob es Q mu (mu xs)) mu (mu xs) :: l0)) le.ent.np ob es Q j xs := by
 rw [fnL, psiL, if_neg (Nat.lt_irrefl _)]
theorem Ctx.OK.loopH (hc : c.OK P G) (hm : P.follows .mixedOrders = true) {N n : Nat} {f : Nat} {p : List Bool} {le : LEnt} {ob : E} {es : List E} {Q : Post} {mu : List Int -> Nat}
 (hk : (c.l.any fun y => y.key == le.ent.key) = false) (hp : ∃ fn cd b, P.funcs[f]? = some fn /\ fn.body = some cd /\ Az cd p = some (.loop b))
 (h : evL P G (A5 c.fs) (evFn P G (A5 c.fs) (ltOf c.ls) N n) N (subL c.ls f p) (le.fw (fnL le c.l ob es Q mu)) (H9 P f p) = some (ob, es)) (hb : esB le.ent.oks es = true) (ks : List K) (hks : le.ent.pks = ks)
 (hu : ∀ xs, fits ks xs -> le.ent.pre xs -> ∀ φ : Nat -> List Int -> Int, (∀ ys, fits ks ys -> le.ent.pre ys -> mu ys < mu xs -> Q ys (Al φ ys 0 le.ent.oks)) ->
  ∃ ρ : Nat -> Int, (∀ i, i < ks.length -> ρ i = env xs i) /\ ob.tt (Tabs.F (enH le φ mu (mu xs) :: c.l)) ρ = true /\ Q xs (es.map (E.den (Tabs.F (enH le φ mu (mu xs) :: c.l)) ρ))) :
 AL P G f p (le.fw (fnL le c.l ob es Q mu)) /\ PostOK (le.fw (fnL le c.l ob es Q mu)).ent Q := by
 subst hks
 have hpost : ∀ m xs, mu xs = m -> fits le.ent.pks xs -> le.ent.pre xs -> Q xs (Al (fnL le c.l ob es Q mu) xs 0 le.ent.oks) /\ ∃ ρ, Fnd (Tabs.F (enH le (psiL le c.l ob es Q mu (mu xs)) mu (mu xs) :: c.l)) le.ent.np ob es Q xs ρ /\
  ∀ j, fnL le c.l ob es Q mu j xs = (es.getD j (mkB false)).den (Tabs.F (enH le (psiL le c.l ob es Q mu (mu xs)) mu (mu xs) :: c.l)) ρ := by
  intro m
  induction m using Nat.strongRecOn with
  | _ m ih =>
    intro xs hm' hf hp'
    obtain ⟨ρ, ⟨f1, f2, f3⟩, f4⟩ := Kt (hu xs hf hp' (psiL le c.l ob es Q mu (mu xs)) fun ys hy1 hy2 hy3 => by
     rw [C6 fun j => IH (mu xs) j ys hy3]
     exact (ih (mu ys) (by omega) ys rfl hy1 hy2).1)
    have f5 : ∀ j, fnL le c.l ob es Q mu j xs = (es.getD j (mkB false)).den (Tabs.F (enH le (psiL le c.l ob es Q mu (mu xs)) mu (mu xs) :: c.l)) ρ := fun j => (Tn j xs).trans (f4 j)
    refine ⟨?_, ρ, ⟨f1, f2, f3⟩, f5⟩
    rw [Hh hb f5]; exact f3
 refine ⟨?_, fun xs hf hp' => (hpost _ xs rfl hf hp').1⟩
 obtain ⟨fn, cd, b, b1, b2, b3⟩ := hp
 have hcf : AQ P f p = .loop b := by unfold AQ; simp only [b1, b2, b3, Option.getD_some]
 unfold AL
 rw [hcf]
 show OG P G b (le.fw (fnL le c.l ob es Q mu))
 have hbd : H9 P f p = b := by unfold H9; simp only [b1, b2, b3]
 rw [hbd] at h
 have g1 : ∀ φ n, ∀ e ∈ c.fs, Tabs.get (enH (le.fw (fnL le c.l ob es Q mu)) φ mu n :: c.l) e.key = some e := fun φ n e he => Jl (e := enH (le.fw (fnL le c.l ob es Q mu)) φ mu n) (hc.getF e he) hk
 have g2 : ∀ φ n, ∀ x ∈ c.ls, Tabs.get (enH (le.fw (fnL le c.l ob es Q mu)) φ mu n :: c.l) x.2.2.ent.key = some x.2.2.ent := fun φ n x hx => Jl (e := enH (le.fw (fnL le c.l ob es Q mu)) φ mu n) (hc.getL x hx) hk
 have g3 : ∀ φ n, LTOK P G (enH (le.fw (fnL le c.l ob es Q mu)) φ mu n :: c.l) (ltOf c.ls) := fun φ n => GA hc.ls (g2 φ n)
 refine Q5 hm mu (psiL le c.l ob es Q mu) (fun n j xs h => IH n j xs h) (fun φ n => Cy hc.fs (g1 φ n)) (fun φ n ρ w0 M0 Im0 hG => Du hm (Cy hc.fs (g1 φ n)) hG (g3 φ n) _) (fun φ n => ?_) h fun xs hf hp' => ?_
 ·intro q le' hq body hbody
  exact g3 φ n f fn cd b1 b2 (p ++ false :: q) le' hq body (by rw [Ia b3]; exact hbody)
 ·obtain ⟨_, ρ, ⟨f1, f2, _⟩, f5⟩ := hpost _ xs rfl hf hp'
  refine ⟨ρ, f1, f2, fun i k hi => ?_⟩
  show k.norm (fnL le c.l ob es Q mu i xs) = _
  rw [f5 i]; exact (EJ hb).2 _ _ i k hi
theorem Tp (le : LEnt) (φ : Nat -> List Int -> Int) (mu : List Int -> Nat) (n : Nat) (l0 : Tabs) (hk : le.ent.key ≠ 0) : ∃ l : Tabs, enH le φ mu n :: l0 = l /\ ((∀ j, (j == preC) = false -> ∀ xs, l.F le.ent.key j xs = φ j xs) /\
 (∀ xs, (i2b (K.b.norm (l.F le.ent.key 1000000 xs)) = true) = (le.ent.pre xs /\ mu xs < n))) /\
 ∀ e : Ent, l0.get e.key = some e -> e.key ≠ le.ent.key -> e.key ≠ 0 -> (∀ j, (j == preC) = false -> ∀ xs, l.F e.key j xs = e.fn j xs) /\ ∀ xs, (i2b (K.b.norm (l.F e.key 1000000 xs)) = true) = e.pre xs := by
 have g : Tabs.get (enH le φ mu n :: l0) le.ent.key = some (enH le φ mu n) := by simp [Tabs.get, enH]
 refine ⟨_, rfl, ⟨fun j hj xs => F_fn (enH le φ mu n) rfl g hk hj xs, fun xs => propext (Tabs.F_pre (e := enH le φ mu n) g hk rfl)⟩, fun e he h1 h2 => ?_⟩
 have ge : Tabs.get (enH le φ mu n :: l0) e.key = some e := by
  have : (le.ent.key == e.key) = false := by simpa using fun e' => h1 e'.symm
  simp only [Tabs.get, enH, List.find?_cons, this]
  exact he
 exact ⟨fun j hj xs => F_fn e rfl ge h2 hj xs, fun xs => propext (Tabs.F_pre ge h2 rfl)⟩
theorem ewE : preC = 1000000 /\ (∀ k x y, binI .add k x y = k.wrap (x + y)) /\ (∀ k x y, binI .sub k x y = k.wrap (x - y)) /\ (∀ k x y, binI .mul k x y = k.wrap (x * y)) /\ (∀ k x y, binI .and k x y = bitsI .and k x y) /\ (∀ k x y, binI .or k x y = bitsI .or k x y) /\ (∀ k x y, binI .xor k x y = bitsI .xor k x y) /\ (∀ k x y, binI .andNot k x y = bitsI .andNot k x y) /\
  (∀ k x y, dvI .quo k x y = k.wrap (x.tdiv y)) /\ (∀ k x y, dvI .rem k x y = x.tmod y) /\ (∀ k x y, shI .shl k x y = k.wrap (x * 2 ^ (min y.toNat k.bits))) /\ (∀ k x y, shI .shr k x y = x.fdiv (2 ^ (min y.toNat k.bits))) /\
  (∀ x y, cmpB .eql x y = (x == y)) /\ (∀ x y, cmpB .neq x y = (x != y)) /\ (∀ x y, cmpB .lss x y = decide (x < y)) /\ (∀ x y, cmpB .leq x y = decide (x <= y)) /\ (∀ x y, cmpB .gtr x y = decide (x > y)) /\ (∀ x y, cmpB .geq x y = decide (x >= y)) /\
  (∀ xs i, env xs i = xs.getD i 0) /\ (∀ c, bi 0 [c] = ((dc c).length : Int)) /\ (∀ c i j, bi 1 [c, i, j] = ((dc c).getD i.toNat []).getD j.toNat 0) /\ bi 2 [] = cd [] /\ (∀ c row, bi 3 (c :: row) = cd (dc c ++ [row])) /\ (∀ c d, bi 4 [c, d] = cd (dc c ++ dc d)) /\
  (∀ c a b, bi 5 [c, a, b] = cd (((dc c).take b.toNat).drop a.toNat)) /\ (∀ c i j vs, bi 6 (c :: i :: j :: vs) = cd ((dc c).set i.toNat (splR ((dc c).getD i.toNat []) j.toNat vs))) /\ (∀ n row, bi 7 (n :: row) = cd (List.replicate n.toNat row)) /\
  (∀ c n row, bi 12 (c :: n :: row) = cd (List.replicate (dc c).length row)) /\ (∀ x y, bi 20 [x, y] = x.tdiv y) /\ (∀ x y, bi 21 [x, y] = x.tmod y) :=
  ⟨rfl, fun _ _ _ => rfl, fun _ _ _ => rfl, fun _ _ _ => rfl, fun _ _ _ => rfl, fun _ _ _ => rfl, fun _ _ _ => rfl, fun _ _ _ => rfl, fun _ _ _ => rfl, fun _ _ _ => rfl, fun _ _ _ => rfl, fun _ _ _ => rfl, fun _ _ => rfl, fun _ _ => rfl, fun _ _ => rfl, fun _ _ => rfl, fun _ _ => rfl, fun _ _ => rfl, fun _ _ => rfl,
  fun _ => rfl, fun _ _ _ => rfl, rfl, fun _ _ => rfl, fun _ _ => rfl, fun _ _ _ => rfl, fun _ _ _ _ => rfl, fun _ _ => rfl, fun _ _ _ => rfl, fun _ _ => rfl, fun _ _ => rfl⟩
theorem ewQ : (∀ (h : Decidable True) (a b : Int), @ite Int True h a b = a) /\ (∀ (h : Decidable False) (a b : Int), @ite Int False h a b = b) /\ (∀ (h : Decidable True) (a b : Prop), @ite Prop True h a b = a) /\ (∀ (h : Decidable False) (a b : Prop), @ite Prop False h a b = b) /\ (∀ p : Prop, (p -> True) = True) /\ (∀ α : Type, (α -> True) = True) /\ (∀ a b : Int, (a ≠ b) = ¬ a = b) /\ (∀ a b : Nat, (a ≠ b) = ¬ a = b) :=
  ⟨fun _ _ _ => if_pos trivial, fun _ _ _ => if_neg id, fun _ _ _ => if_pos trivial, fun _ _ _ => if_neg id, fun _ => eq_true fun _ => trivial, fun _ => eq_true fun _ => trivial, fun _ _ => rfl, fun _ _ => rfl⟩
theorem ewT : (∀ (d a : E) l, (a :: l).headD d = a) /\ (∀ d : E, [].headD d = d) /\ (∀ (a : E) l, (a :: l).tail = l) /\ (([] : List E).tail = []) /\ (∀ (d a : Int) l, (a :: l).headD d = a) /\ (∀ d : Int, [].headD d = d) /\ (∀ (a : Int) l, (a :: l).tail = l) /\ (([] : List Int).tail = []) := ⟨fun _ _ _ => rfl, fun _ => rfl, fun _ _ => rfl, rfl, fun _ _ _ => rfl, fun _ => rfl, fun _ _ => rfl, rfl⟩
theorem ewY : type_of% (Jj ewA (Jj ewL (Jj ewE ewT))) := (Jj ewA (Jj ewL (Jj ewE ewT)))
theorem ewZ : type_of% (Jj ewY (Jj ewR (Jj ewB (Jj ewM ewQ)))) := (Jj ewY (Jj ewR (Jj ewB (Jj ewM ewQ))))

end
def isDf (i f j : Nat) : Bool := decide (1000000000000 < i) && (decide (namB <= f) && !(j == preC))
def dfs : E -> List (Nat × E) -> List (Nat × E)
 | .and a b, l => dfs b (dfs a l)
 | .or a b, l => dfs b (dfs a l)
 | .not a, l => dfs a l
 | .ite a b c, l => dfs c (dfs b (dfs a l))
 | .cmp .eql (.var k i) (.app k' f j us), l => bif isDf i f j && !(l.any fun x => x.1 == i) then (i, .app k' f j us) :: l else l
 | _, l => l
def strD (d : List (Nat × E)) : E -> E
 | .and a b => match strD d a, strD d b with
   | .lit .b 1, y => y
   | x, .lit .b 1 => x
   | x, y => .and x y
 | .or a b => match strD d a, strD d b with
   | _, .lit .b 1 => .lit .b 1
   | x, y => .or x y
 | .cmp .eql (.var k i) (.app k' f j us) => bif decide (k = k') && d.any (fun x => x.1 == i && x.2.same (.app k' f j us)) then .lit .b 1 else .cmp .eql (.var k i) (.app k' f j us)
 | e => e
theorem EK {F : Fam} {ρ : Nat -> Int} {d : List (Nat × E)} (h : ∀ x ∈ d, ρ x.1 = x.2.den F ρ) : ∀ e : E, (strD d e).tt F ρ = true -> e.tt F ρ = true
 | .and a b, g => by
   have ha := EK h a
   have hb := EK h b
   rw [strD] at g
   rw [Gm, Bool.and_eq_true]
   split at g
   ·rename_i e1; exact ⟨ha (by rw [e1]; rfl), hb g⟩
   ·rename_i e2 _; exact ⟨ha g, hb (by rw [e2]; rfl)⟩
   ·rw [Gm, Bool.and_eq_true] at g; exact ⟨ha g.1, hb g.2⟩
 | .or a b, g => by
   have ha := EK h a
   have hb := EK h b
   rw [strD] at g
   rw [Ib, Bool.or_eq_true]
   split at g
   ·rename_i e1; exact Or.inr (hb (by rw [e1]; rfl))
   ·rw [Ib, Bool.or_eq_true] at g; exact g.imp ha hb
 | .cmp op a b, g => by
   unfold strD at g
   split at g <;> try contradiction
   ·rename_i k i k' f j us e
    cases e
    cases hc : (decide (k = k') && d.any fun x => x.1 == i && x.2.same (.app k' f j us))
    ·rw [hc] at g; exact g
    ·simp only [Bool.and_eq_true, decide_eq_true_eq, List.any_eq_true, beq_iff_eq] at hc
     obtain ⟨rfl, x, hx, rfl, e2⟩ := hc
     rw [OQ, LD, h x hx, E.same_eq _ _ e2, EI, K.norm_norm]
     simp only [cmpB, beq_self_eq_true]
   ·exact g
 | .lit .., g => g
 | .var .., g => g
 | .app .., g => g
 | .bin .., g => g
 | .dv .., g => g
 | .sh .., g => g
 | .conv .., g => g
 | .not _, g => g
 | .ite .., g => g
def addJ (kn l : List E) (x : E) : List E := bif x.same (.lit .b 1) || (l.any fun y => y.same x) || (kn.any fun y => y.same x) then l else x :: l
def andL : List E -> E
 | [] => .lit .b 1
 | [x] => x
 | x :: y :: l => .and x (andL (y :: l))
def strJ : List E -> E -> List E -> List E
 | kn, .and a b, l => strJ kn b (strJ kn a l)
 | kn, .or a b, l => addJ kn l (match andL (strJ (l ++ kn) b []).reverse with
   | .lit .b 1 => .lit .b 1
   | y => .or a y)
 | kn, e, l => addJ kn l e
theorem LF {F : Fam} {ρ : Nat -> Int} {kn l : List E} {x : E} (hk : ∀ y ∈ kn, y.tt F ρ = true) (h : ∀ y ∈ addJ kn l x, y.tt F ρ = true) : x.tt F ρ = true /\ ∀ y ∈ l, y.tt F ρ = true := by
 unfold addJ at h
 cases hc : (x.same (.lit .b 1) || (l.any fun y => y.same x) || (kn.any fun y => y.same x))
 ·rw [hc] at h
  exact ⟨h x (List.mem_cons_self ..), fun y hy => h y (List.mem_cons_of_mem _ hy)⟩
 ·rw [hc] at h
  refine ⟨?_, h⟩
  simp only [Bool.or_eq_true, List.any_eq_true] at hc
  rcases hc with (hc | ⟨y, hy, hc⟩) | ⟨y, hy, hc⟩
  ·rw [E.same_eq _ _ hc]; rfl
  ·rw [<- E.same_eq _ _ hc]; exact h y hy
  ·rw [<- E.same_eq _ _ hc]; exact hk y hy
theorem II {F : Fam} {ρ : Nat -> Int} : ∀ {l : List E}, (andL l).tt F ρ = true -> ∀ y ∈ l, y.tt F ρ = true
 | [], _, _, hy => by cases hy
 | [x], h, y, hy => by obtain rfl := List.mem_singleton.1 hy; exact h
 | x :: z :: l, h, y, hy => by
   rw [andL, Gm, Bool.and_eq_true] at h
   rcases List.mem_cons.1 hy with rfl | hy
   ·exact h.1
   ·exact II h.2 y hy
theorem GB {F : Fam} {ρ : Nat -> Int} : ∀ (e : E) (kn l : List E), (∀ y ∈ kn, y.tt F ρ = true) -> (∀ y ∈ strJ kn e l, y.tt F ρ = true) -> e.tt F ρ = true /\ ∀ y ∈ l, y.tt F ρ = true
 | .and a b, kn, l, hk, h => by
   have hb := GB b kn _ hk h
   have ha := GB a kn l hk hb.2
   exact ⟨by rw [Gm, ha.1, hb.1]; rfl, ha.2⟩
 | .or a b, kn, l, hk, h => by
   have z := LF hk h
   refine ⟨?_, z.2⟩
   have key : (andL (strJ (l ++ kn) b []).reverse).tt F ρ = true -> b.tt F ρ = true := fun g => (GB b (l ++ kn) [] (fun y hy => (List.mem_append.1 hy).elim (z.2 y) (hk y)) fun y hy => II g y (List.mem_reverse.2 hy)).1
   rw [Ib, Bool.or_eq_true]
   have z1 := z.1
   split at z1
   ·rename_i e; exact Or.inr (key (by rw [e]; rfl))
   ·rw [Ib, Bool.or_eq_true] at z1; exact z1.imp id key
 | .cmp .., _, _, hk, h | .lit .., _, _, hk, h | .var .., _, _, hk, h | .app .., _, _, hk, h | .bin .., _, _, hk, h | .dv .., _, _, hk, h | .sh .., _, _, hk, h | .conv .., _, _, hk, h | .not _, _, _, hk, h | .ite .., _, _, hk, h => LF hk h
abbrev Rd := List K × E × List E × List (Nat × E)
def rdy (dd : Bool) (ks oks : List K) : Option (E × List E) -> Option Rd
 | some (ob, es) => bif okD ks.length (dfs ob []).reverse && esB oks es then some (ks, (bif dd then andL (strJ [] (strD (dfs ob []) ob) []).reverse else strD (dfs ob []) ob), es, (dfs ob []).reverse) else none
 | none => none
theorem Ig {dd : Bool} {ks oks : List K} {R : Option (E × List E)} {ks' : List K} {ob : E} {es : List E} {d : List (Nat × E)} (h : rdy dd ks oks R = some (ks', ob, es, d)) :
 ks' = ks /\ ∃ ob0, R = some (ob0, es) /\ okD ks.length d = true /\ esB oks es = true /\ ∀ (F : Fam) (ρ : Nat -> Int), (∀ x ∈ d, ρ x.1 = x.2.den F ρ) -> ob.tt F ρ = true -> ob0.tt F ρ = true := by
 cases R with
 | none => cases h
 | some r =>
   obtain ⟨ob0, es0⟩ := r
   rw [rdy] at h
   cases hc : okD ks.length (dfs ob0 []).reverse && esB oks es0
   ·rw [hc] at h; cases h
   ·rw [hc] at h
    simp only [cond_true, oJ, pJ] at h
    obtain ⟨rfl, rfl, rfl, rfl⟩ := h
    rw [Bool.and_eq_true] at hc
    refine ⟨rfl, _, rfl, hc.1, hc.2, fun F ρ hd g => EK (fun x hx => hd x (List.mem_reverse.2 hx)) _ ?_⟩
    cases dd
    ·exact g
    ·exact (GB _ [] [] (fun y hy => by cases hy) fun y hy => II g y (List.mem_reverse.2 hy)).1
noncomputable section
abbrev V := Value
def frN (n : Nat) (c : Nat -> V) : V := @Nat.rec (fun _ => V) .nilIface (fun m _ => c (@OfNat.ofNat Nat m (instOfNatNat m))) (Nat.add n 1)
def frI (n : Int) (c : Int -> V) : V := @Int.rec (fun _ => V) (fun m => @Nat.rec (fun _ => V) .nilIface (fun m _ => c (@OfNat.ofNat Int m (@instOfNat m))) (Nat.add m 1)) (fun m => @Nat.rec (fun _ => V) .nilIface (fun m _ => c (-(@OfNat.ofNat Int m (@instOfNat m)))) (Nat.add m 2)) n
def frIK (k : IntKind) (c : IntKind -> V) : V := @IntKind.rec (fun _ => V) (c .i8) (c .i16) (c .i32) (c .i64) (c .u8) (c .u16) (c .u32) (c .u64) k
def frK (k : K) (c : K -> V) : V := @K.rec (fun _ => V) (c .b) (fun i => frIK i fun i => c (.i i)) (c .x) k
def frE (e : E) : (E -> V) -> V := @E.rec (fun _ => (E -> V) -> V) (fun _ => (List E -> V) -> V)
 (fun k n c => frK k fun k => frI n fun n => c (.lit k n))
 (fun k i c => frK k fun k => frN i fun i => c (.var k i))
 (fun k f j _ us c => frK k fun k => frN f fun f => frN j fun j => us fun us' => c (.app k f j us'))
 (fun op k _ _ a b c => frIK k fun k => a fun a' => b fun b' => c (.bin op k a' b'))
 (fun op k _ n a c => frIK k fun k => frI n fun n => a fun a' => c (.dv op k a' n))
 (fun op k _ _ a b c => frIK k fun k => a fun a' => b fun b' => c (.sh op k a' b'))
 (fun op _ _ a b c => a fun a' => b fun b' => c (.cmp op a' b'))
 (fun k _ a c => frIK k fun k => a fun a' => c (.conv k a'))
 (fun _ a c => a fun a' => c (.not a'))
 (fun _ _ a b c => a fun a' => b fun b' => c (.and a' b'))
 (fun _ _ a b c => a fun a' => b fun b' => c (.or a' b'))
 (fun _ _ _ x a b c => x fun x' => a fun a' => b fun b' => c (.ite x' a' b'))
 (fun c => c [])
 (fun _ _ e r c => e fun e' => r fun r' => c (e' :: r')) e
def frEL (l : List E) : (List E -> V) -> V := @List.rec E (fun _ => (List E -> V) -> V) (fun c => c []) (fun e _ r c => frE e fun e' => r fun r' => c (e' :: r')) l
def frD (l : List (Nat × E)) : (List (Nat × E) -> V) -> V := @List.rec (Nat × E) (fun _ => (List (Nat × E) -> V) -> V) (fun c => c []) (fun e _ r c => frN e.1 fun i => frE e.2 fun e' => r fun r' => c ((i, e') :: r')) l
def P2 : Program := { (default : Program) with types := #[{ (default : TypeInfo) with methods := #[{ name := "", sig := 0, path := #[], func := some (0, false) }] }, { (default : TypeInfo) with methods := #[{ name := "", sig := 0, path := #[], func := none }] }] }
variable {P : Program} {G : Glob} {c : Ctx}
abbrev evF (P : Program) (G : Glob) (c : Ctx) (e : Ent) : Option (E × List E) := evE P G (A5 c.fs) (ltOf c.ls) 40 10 e
abbrev evM (P : Program) (G : Glob) (c : Ctx) (f : Nat) (p : List Bool) (le : LEnt) : Option (E × List E) := evL P G (A5 c.fs) (evFn P G (A5 c.fs) (ltOf c.ls) 40 10) 40 (subL c.ls f p) le (H9 P f p)
def fnG (P : Program) (G : Glob) (e : Ent) (Q : Post) : Nat -> List Int -> Int := Classical.epsilon fun φ => EntryOK P G (e.fw φ) /\ PostOK (e.fw φ) Q
def fnM (P : Program) (G : Glob) (f : Nat) (p : List Bool) (le : LEnt) (Q : Post) : Nat -> List Int -> Int := Classical.epsilon fun φ => AL P G f p (le.fw φ) /\ PostOK (le.fw φ).ent Q
theorem Tq (P : Program) (G : Glob) (c : Ctx) (e : Ent) (f : Nat -> List Int -> Int) : evF P G c (e.fw f) = evF P G c e := by kernel_rfl
theorem Ts (P : Program) (G : Glob) (c : Ctx) (g : Nat) (p : List Bool) (e : LEnt) (f : Nat -> List Int -> Int) : evM P G c g p (e.fw f) = evM P G c g p e := by kernel_rfl
end
end Go.Proofs.YtgpflpbldeflhaaDoor.Ew
namespace Go.Proofs.YtgpflpbldeflhaaDoor.Ew
open Go Go.RowKit
noncomputable section
variable {P : Program} {G : Glob} {c : Ctx}
end
end Go.Proofs.YtgpflpbldeflhaaDoor.Ew
namespace Go.Proofs.YtgpflpbldeflhaaDoor.Ew.Ar
open Go Go.RowKit Go.ChangeShapes Go.WideShapes Go.Proofs.YtgpflpbldeflhaaDoor.Ew
def vals : List K -> List Int -> List Value
 | k :: ks, x :: xs => k.val x :: vals ks xs
 | _, _ => []
theorem Ce : ∀ {ks ls : List K} {xs ys : List Int}, fits ks xs -> fits ls ys -> fits (ks ++ ls) (xs ++ ys)
 | [], _, [], _, _, h => h
 | [], _, _ :: _, _, h, _ => h.elim
 | _ :: _, _, [], _, h, _ => h.elim
 | _ :: _, _, _ :: _, _, h, h' => ⟨h.1, Ce h.2 h'⟩
def BS (leaf : TypeId -> Option (List K)) (P : Program) : List (TypeId × Nat) -> Nat -> Option (List K)
 | [], _ => some []
 | (t, o) :: r, off => if o = off then
  match leaf t with
  | some ks => if P.cellsOf t = ks.length then (BS leaf P r (off + ks.length)).map (ks ++ ·) else none
  | none => none
   else none
def Bb (P : Program) : Nat -> TypeId -> Option (List K)
 | 0, _ => none
 | n + 1, t => match P.underlying t with
   | some .bool => some [.b]
   | some (.int k) => some [.i k]
   | some (.struct fs) => match BS (Bb P n) P (fs.toList.map fun f => (f.type, f.offset)) 0 with
     | some ks => if P.cellsOf t = ks.length then some ks else none
     | none => none
   | some (.array m e) => match BS (Bb P n) P ((List.range m).map fun i => (e, i * P.cellsOf e)) 0 with
     | some ks => if P.cellsOf t = ks.length then some ks else none
     | none => none
   | _ => none
section
variable {H : Type} {enc : TypeId × Value -> H} {P : Program} {w : World} {base : Nat} {spare : Nat -> Bool} {held : Bool}
theorem M5 {f : Func} {s : ChangeSpec} {apart fresh handsOn again : Bool} {W W' : World} {args : Array Value} {v : Value} {ds gs : List (DataW H)} {before pa pv : List MemPlace}
 (hW : DataW.Whole enc P f.params.toList s.vars apart W args.toList ds gs before)
 (hres : ∀ (b : Nat) (sp : Nat -> Bool) (hd : Bool), DataW.TrodAll enc P W' b sp hd f.resultTypes.toList (v.resultList f.resultTypes.size) (s.fn H (ds ++ gs)).results [])
 (hargs : ∀ sp : Nat -> Bool, (∀ p ∈ before, sp p.block = true) -> DataW.TrodAll enc P W' 0 sp true f.params.toList args.toList (s.fn H (ds ++ gs)).args pa)
 (hvars : ∀ sp : Nat -> Bool, (∀ p ∈ before, sp p.block = true) -> DataW.TrodVars enc P W' sp s.vars (s.fn H (ds ++ gs)).vars pv)
 (hps : before = pa ++ pv) (hb : Below W.heap.size W W')
 (hok : ∀ (j : Nat) (t : TypeId) (r : Value), f.resultTypes[j]? = some t -> (v.resultList f.resultTypes.size)[j]? = some r -> Value.okWide P W' .any 0 t r) :
 s.post enc P f apart fresh handsOn again W args v W' := by
 have hlt : ∀ p ∈ before, p.block < W.heap.size := fun p hp => hW.lt p hp
 have hold : ∀ p ∈ before, (fun b => decide (b < W.heap.size)) p.block = true := fun p hp => by simpa using hlt p hp
 refine ⟨ds, gs, before, [], pa, pv, hW, hres _ _ _, hargs _ hold, hvars _ hold, World.keptBut_mono (fun p hp => ⟨hp, ?_⟩) (hb.frame (· ∈ before)), fun _ => ?_⟩
 ·rw [hps, List.mem_append] at hp
  exact Or.inr hp
 ·obtain ⟨_, _, _, _, _, hz, hn⟩ := hW
  refine ⟨hok, _, _, ([] ++ pa) ++ pv, ⟨[] ++ pa, pv, trodAll_append (hargs _ (fun _ _ => rfl)) (hres _ _ _), hvars _ (fun _ _ => rfl), rfl, ?_, ?_⟩, ?_⟩
  ·intro b off hp
   have hin : MemPlace.cell b off ∈ before := by rw [hps]; simpa using hp
   rw [hb.frozen (hlt _ hin)]
   exact hz b off hin
  ·intro ha
   have := hn ha
   rw [hps] at this
   simpa using this
  ·intro p hp _
   rw [hps]
   simpa using hp
theorem Q6 {W : World} {ρ : Nat -> Int} {hs : Nat -> Hd} : RelE F0 ρ W (fun _ => False) (fun b => b < W.heap.size) hs [] W :=
 ⟨(fun x hx => by cases hx), (fun x hx => by cases hx), (fun b hb => hb), Fr.refl _ _⟩
end
end Go.Proofs.YtgpflpbldeflhaaDoor.Ew.Ar

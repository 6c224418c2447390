/- A region that draws its order: where no two operations that the edges leave open touch the same, one walk in the order of the text serves every order. -/
import Derived.Test.YtmolkkphnehgcaaW2
set_option linter.unusedVariables false
set_option linter.unusedSimpArgs false
namespace Go.Proofs.Ytmolkkphnehgcaa.Ew
open Go Go.RowKit

def envOf (ops : Array Oper) (o : Oper) (tm : Tm) : Env := fun t => bif (o.looksAt ops).contains t then tm.at t else none
def planI (P : Program) (ops : Array Oper) (i : Nat) (tm : Tm) : Option (PL × Option Nat) :=
  match ops[i]? with
  | some o => (planE P ops o (envOf ops o tm)).map fun p => (p, o.dst)
  | none => none

/-- What is recorded of each operation by a walk in the order of the text. -/
structure Rec where
  fp : FP
  ob : E
  ch : Ch
/-- So many names are laid by for each operation. -/
def WD : Nat := 8
def FPdisj (a b : FP) : Bool := (a.2.all fun n => !b.1.contains n && !b.2.contains n) && b.2.all fun n => !a.1.contains n && !a.2.contains n

def stI (P : Program) (G : Glob) (T : Tab) (ops : Array Oper) (base : Nat) (rs : List Rec) (i : Nat) (s : St) : Option St :=
  match planI P ops i s.1, rs[i]? with
  | some (p, dst), some r => if fpPL P G T s.2 (base + WD * i) r.ch p = r.fp then
      match runPL P G T s.2 (base + WD * i) r.ch p with
      | some (g, v, m') => if g.same r.ob = true then some (setT s.1 dst v, m') else none
      | none => none
    else none
  | _, _ => none
def foldI (P : Program) (G : Glob) (T : Tab) (ops : Array Oper) (base : Nat) (rs : List Rec) : List Nat → St → Option St
  | [], s => some s
  | i :: r, s => match stI P G T ops base rs i s with
    | some s' => foldI P G T ops base rs r s'
    | none => none

/-- Slots apart. -/
def apart2 (ops : Array Oper) (x y : Oper) : Bool :=
  (match x.dst with
   | some d => !(y.looksAt ops).contains d && decide (y.dst ≠ some d)
   | none => true) &&
  (match y.dst with
   | some d => !(x.looksAt ops).contains d
   | none => true)
def indep (ops : Array Oper) (rs : List Rec) (j i : Nat) : Bool :=
  match ops[j]?, ops[i]?, rs[j]?, rs[i]? with
  | some oj, some oi, some fj, some fi => FPdisj fj.fp fi.fp && apart2 ops oj oi
  | _, _, _, _ => false

section
variable {P : Program} {ρ : Nat → Int} {G : Glob} {T : Tab} {l : Tabs} {w0 w : World} {M0 Im0 : Nat → Prop} {ad : Nat → Hd} {m m2 m' : Mem} {tm : Tm} {en : Env} {a : Act}

theorem envOf_set {ops : Array Oper} {o : Oper} {tm : Tm} {d : Option Nat} {v : SV} (h : ∀ k, d = some k → (o.looksAt ops).contains k = false) : envOf ops o (setT tm d v) = envOf ops o tm := by
  funext t
  unfold envOf
  cases ht : (o.looksAt ops).contains t
  · rfl
  · simp only [cond_true]
    cases d with
    | none => rfl
    | some k =>
      have : k ≠ t := by rintro rfl; rw [h k rfl] at ht; cases ht
      simp [setT, Tm.at, List.getD, List.getElem?_set, this]
theorem setT_comm {tm : Tm} {d d' : Option Nat} {v v' : SV} (h : d = none ∨ d' = none ∨ d ≠ d') : setT (setT tm d v) d' v' = setT (setT tm d' v') d v := by
  cases d <;> cases d' <;> simp only [setT]
  rename_i x y
  exact List.set_comm _ _ (by rcases h with h | h | h; cases h; cases h; exact fun e => h (by rw [e]))

theorem Mem.ext' (hl : m.length = m2.length) (h : ∀ n, m.at n = m2.at n) : m = m2 := by
  apply List.ext_getElem hl
  intro n h1 h2
  have := h n
  simpa [Mem.at, List.getD, h1, h2] using this

theorem FPdisj_spec {a b : FP} (h : FPdisj a b = true) : (∀ n ∈ a.2, n ∉ b.1 ∧ n ∉ b.2) ∧ ∀ n ∈ b.2, n ∉ a.1 ∧ n ∉ a.2 := by
  unfold FPdisj at h
  simp only [Bool.and_eq_true, List.all_eq_true, Bool.not_eq_true', List.contains_eq_mem, decide_eq_false_iff_not] at h
  exact h

theorem swap {ops : Array Oper} {base : Nat} {rs : List Rec} {j i : Nat} (hi : indep ops rs j i = true) {s s1 s2 : St}
    (h1 : stI P G T ops base rs j s = some s1) (h2 : stI P G T ops base rs i s1 = some s2) : ∃ s1', stI P G T ops base rs i s = some s1' ∧ stI P G T ops base rs j s1' = some s2 := by
  unfold indep at hi
  split at hi
  · rename_i oj oi rj ri hoj hoi hrj hri
    simp only [Bool.and_eq_true, apart2] at hi
    obtain ⟨hdis, hx, hy⟩ := hi
    obtain ⟨dj, di⟩ := FPdisj_spec hdis
    have hdd : oj.dst = none ∨ oi.dst = none ∨ oj.dst ≠ oi.dst := by
      cases hd : oj.dst with
      | none => exact Or.inl rfl
      | some d =>
        right; right
        rw [hd] at hx
        simp only [Bool.and_eq_true, decide_eq_true_eq] at hx
        exact fun e => hx.2 e.symm
    have e1 : ∀ (tm : Tm) (v : SV), envOf ops oi (setT tm oj.dst v) = envOf ops oi tm := fun tm v => envOf_set fun k hk => by
      rw [hk] at hx
      simp only [Bool.and_eq_true, Bool.not_eq_true'] at hx
      exact hx.1
    have e2 : ∀ (tm : Tm) (v : SV), envOf ops oj (setT tm oi.dst v) = envOf ops oj tm := fun tm v => envOf_set fun k hk => by
      rw [hk] at hy
      simp only [Bool.not_eq_true'] at hy
      exact hy
    unfold stI planI at h1
    simp only [hoj, hrj] at h1
    cases hpj : planE P ops oj (envOf ops oj s.1) with
    | none => rw [hpj] at h1; cases h1
    | some p =>
      simp only [hpj, Option.map_some] at h1
      split at h1
      · rename_i hcj
        split at h1
        · rename_i gj vj mj hj
          split at h1
          · rename_i hgj
            simp only [Option.some.injEq] at h1; subst h1
            unfold stI planI at h2
            simp only [hoi, hri, e1] at h2
            cases hpi : planE P ops oi (envOf ops oi s.1) with
            | none => rw [hpi] at h2; cases h2
            | some p' =>
              simp only [hpi, Option.map_some] at h2
              split at h2
              · rename_i hci
                split at h2
                · rename_i gi vi mi hii
                  split at h2
                  · rename_i hgi
                    simp only [Option.some.injEq] at h2; subst h2
                    obtain ⟨Lj, Fj⟩ := runPL_loc hj
                    obtain ⟨Li, Fi⟩ := runPL_loc hii
                    rw [hcj] at Lj Fj
                    rw [hci] at Li Fi
                    -- the later one first
                    have ai : Agree (ri.fp.1 ++ ri.fp.2) mj s.2 := fun n hn => by
                      refine (Lj.frame n fun hw => ?_).symm
                      obtain ⟨d1, d2⟩ := dj n hw
                      rcases List.mem_append.1 hn with hn | hn
                      · exact d1 hn
                      · exact d2 hn
                    obtain ⟨m1, q1, q2, q3, q4⟩ := Li.loc s.2 Lj.len.symm ai
                    have aj : Agree (rj.fp.1 ++ rj.fp.2) s.2 m1 := fun n hn => by
                      refine q4 n fun hw => ?_
                      obtain ⟨d1, d2⟩ := di n hw
                      rcases List.mem_append.1 hn with hn | hn
                      · exact d1 hn
                      · exact d2 hn
                    obtain ⟨m2, t1, t2, t3, t4⟩ := Lj.loc m1 q2 aj
                    have hmm : m2 = mi := by
                      refine Mem.ext' (by rw [t2, q2, Li.len, Lj.len]) fun n => ?_
                      by_cases hw : n ∈ rj.fp.2
                      · rw [t3 n hw, Li.frame n (dj n hw).2]
                      · rw [t4 n hw]
                        by_cases hv : n ∈ ri.fp.2
                        · exact q3 n hv
                        · rw [q4 n hv, Li.frame n hv, Lj.frame n hw]
                    subst hmm
                    refine ⟨(setT s.1 oi.dst vi, m1), ?_, ?_⟩
                    · unfold stI planI
                      simp only [hoi, hri, hpi, Option.map_some]
                      rw [if_pos ((Fi s.2 Lj.len.symm ai).trans rfl)]
                      simp only [q1, if_pos hgi]
                    · unfold stI planI
                      simp only [hoj, hrj, e2, hpj, Option.map_some]
                      rw [if_pos ((Fj m1 q2 aj).trans rfl)]
                      simp only [t1, if_pos hgj]
                      rw [setT_comm hdd]
                  · cases h2
                · cases h2
              · cases h2
          · cases h1
        · cases h1
      · cases h1
  · cases hi

theorem toFront {ops : Array Oper} {base : Nat} {rs : List Rec} {i : Nat} {post : List Nat} : ∀ (pre : List Nat) {s s' : St}, (∀ j ∈ pre, indep ops rs j i = true) →
    foldI P G T ops base rs (pre ++ i :: post) s = some s' → ∃ s1, stI P G T ops base rs i s = some s1 ∧ foldI P G T ops base rs (pre ++ post) s1 = some s'
  | [], s, s', _, h => by
    simp only [List.nil_append, foldI] at h
    split at h
    · rename_i s1 h1; exact ⟨s1, h1, h⟩
    · cases h
  | j :: pre, s, s', hp, h => by
    simp only [List.cons_append, foldI] at h
    split at h
    · rename_i s1 h1
      obtain ⟨s2, i1, i2⟩ := toFront pre (fun k hk => hp k (by simp [hk])) h
      obtain ⟨s1', c1, c2⟩ := swap (hp j (by simp)) h1 i1
      refine ⟨s1', c1, ?_⟩
      simp only [List.cons_append, foldI, c2]
      exact i2
    · cases h

/-! ### what waits for what -/
def maskOf (o : Oper) (l : List Nat) : Nat := o.after.toList.foldl (fun s e => bif Region.binds .any e then s ||| (2 ^ e.on ||| l.getD e.on 0) else s) 0
def masks (ops : List Oper) : List Nat → List Nat := fun acc => match ops with
  | [] => acc
  | o :: r => masks r (acc ++ [maskOf o acc])

inductive Anc (ops : Array Oper) : Nat → Nat → Prop
  | one {i j : Nat} {o : Oper} {e : Edge} : ops[i]? = some o → e ∈ o.after → Region.binds .any e = true → e.on = j → Anc ops i j
  | more {i j : Nat} {o : Oper} {e : Edge} : ops[i]? = some o → e ∈ o.after → Region.binds .any e = true → Anc ops e.on j → Anc ops i j

theorem foldl_mask {l : List Nat} {j : Nat} : ∀ (es : List Edge) (s : Nat), (es.foldl (fun s e => bif Region.binds .any e then s ||| (2 ^ e.on ||| l.getD e.on 0) else s) s).testBit j = true →
    s.testBit j = true ∨ ∃ e ∈ es, Region.binds .any e = true ∧ (e.on = j ∨ (l.getD e.on 0).testBit j = true)
  | [], s, h => Or.inl h
  | e :: es, s, h => by
    simp only [List.foldl_cons] at h
    rcases foldl_mask es _ h with h1 | ⟨e', h1, h2, h3⟩
    · cases hb : Region.binds .any e
      · rw [hb] at h1; exact Or.inl h1
      · rw [hb] at h1
        simp only [cond_true, Nat.testBit_or, Bool.or_eq_true, Nat.testBit_two_pow, decide_eq_true_eq] at h1
        rcases h1 with h1 | h1 | h1
        · exact Or.inl h1
        · exact Or.inr ⟨e, by simp, hb, Or.inl h1⟩
        · exact Or.inr ⟨e, by simp, hb, Or.inr h1⟩
    · exact Or.inr ⟨e', by simp [h1], h2, h3⟩

theorem masks_spec (ops : Array Oper) : ∀ (r : List Oper) (acc : List Nat), (∀ k, r[k]? = ops[acc.length + k]?) → (∀ i j, (acc.getD i 0).testBit j = true → Anc ops i j) →
    ∀ i j, ((masks r acc).getD i 0).testBit j = true → Anc ops i j
  | [], acc, _, h => h
  | o :: r, acc, hr, h => by
    unfold masks
    have h0 : ops[acc.length]? = some o := by simpa using (hr 0).symm
    refine masks_spec ops r _ (fun k => by have := hr (k + 1); simpa [Nat.add_assoc, Nat.add_comm 1 k] using this) ?_
    intro i j hij
    by_cases hi : i < acc.length
    · rw [show (acc ++ [maskOf o acc]).getD i 0 = acc.getD i 0 by simp [List.getD, List.getElem?_append_left hi]] at hij
      exact h i j hij
    · by_cases hi' : i = acc.length
      · subst hi'
        rw [show (acc ++ [maskOf o acc]).getD acc.length 0 = maskOf o acc by simp [List.getD]] at hij
        rcases foldl_mask _ _ hij with h1 | ⟨e, h1, h2, h3⟩
        · simp at h1
        · rcases h3 with h3 | h3
          · exact .one h0 (by simpa using h1) h2 h3
          · exact .more h0 (by simpa using h1) h2 (h e.on j h3)
      · rw [show (acc ++ [maskOf o acc]).getD i 0 = 0 by rw [List.getD, List.getElem?_eq_none (by simp; omega)]; rfl] at hij
        simp at hij

def Closed (ops : Array Oper) (listed : Array Bool) : Prop := ∀ k o, listed.getD k false = true → ops[k]? = some o → ∀ e ∈ o.after, Region.binds .any e = true → listed.getD e.on false = true
theorem Anc.listed {ops : Array Oper} {listed : Array Bool} (hc : Closed ops listed) {i j : Nat} (h : Anc ops i j) : (∀ o, ops[i]? = some o → ∀ e ∈ o.after, Region.binds .any e = true → listed.getD e.on false = true) → listed.getD j false = true := by
  induction h with
  | one h1 h2 h3 h4 => intro hx; subst h4; exact hx _ h1 _ h2 h3
  | more h1 h2 h3 _ ih => intro hx; exact ih fun o ho e he hb => hc _ o (hx _ h1 _ h2 h3) ho e he hb

def backB (ops : List Oper) (i : Nat) : Bool := match ops with
  | [] => true
  | o :: r => (o.after.toList.all fun e => !Region.binds .any e || decide (e.on < i)) && backB r (i + 1)
theorem backB_spec {ops : Array Oper} : ∀ (r : List Oper) (i : Nat), (∀ k, r[k]? = ops[i + k]?) → backB r i = true → ∀ k o, i ≤ k → ops[k]? = some o → ∀ e ∈ o.after, Region.binds .any e = true → e.on < k
  | [], i, hr, _, k, o, hk, ho, _, _, _ => by
    have := hr (k - i)
    rw [show i + (k - i) = k by omega, ho] at this
    simp at this
  | x :: r, i, hr, hb, k, o, hk, ho, e, he, hbe => by
    simp only [backB, Bool.and_eq_true] at hb
    by_cases hki : k = i
    · subst hki
      have hx : o = x := by have := hr 0; simp only [List.getElem?_cons_zero, Nat.add_zero] at this; rw [ho] at this; exact (Option.some.inj this).symm
      subst hx
      have := List.all_eq_true.1 hb.1 e (by simpa using he)
      rw [hbe] at this
      simpa using this
    · exact backB_spec r (i + 1) (fun k => by have := hr (k + 1); simpa [Nat.add_assoc, Nat.add_comm 1 k] using this) hb.2 k o (by omega) ho e he hbe

/-- Every two operations: the later one waits for the earlier one, or they have nothing in common. -/
def pairsB (ops : Array Oper) (rs : List Rec) (ms : List Nat) : Bool :=
  (List.range ops.size).all fun i => (List.range i).all fun j => (ms.getD i 0).testBit j || indep ops rs j i

/-- A walk in the order of the text, recorded; the names for operation i begin at base + 8 i. -/
def recsRun (P : Program) (G : Glob) (T : Tab) (ops : Array Oper) (base : Nat) : List Nat → St → Option (List Rec)
  | [], _ => some []
  | i :: r, s => match planI P ops i s.1 with
    | some (p, dst) =>
      let ch : Ch := match p with
        | .run _ (.call _ f args) => findK T s.2 (base + WD * i) f args
        | _ => none
      match runPL P G T s.2 (base + WD * i) ch p with
      | some (g, v, m') => match recsRun P G T ops base r (setT s.1 dst v, m') with
        | some l => some (⟨fpPL P G T s.2 (base + WD * i) ch p, g, ch⟩ :: l)
        | none => none
      | none => none
    | none => none
def obsE : List Rec → E
  | [] => mkB true
  | r :: l => mkAnd r.ob (obsE l)
def evDraw (P : Program) (G : Glob) (T : Tab) (ops : Array Oper) (s : St) : Option (E × St) :=
  let s0 : St := (s.1, s.2 ++ List.replicate (WD * ops.size) none)
  match recsRun P G T ops s.2.length (List.range ops.size) s0 with
  | some rs => bif backB ops.toList 0 && pairsB ops rs (masks ops.toList []) && rs.all fun r => decide (r.ob.kind = .b) then
      (foldI P G T ops s.2.length rs (List.range ops.size) s0).map fun s' => (obsE rs, s')
    else none
  | none => none

theorem obsE_spec {F : Fam} : ∀ {rs : List Rec}, (rs.all fun r => decide (r.ob.kind = .b)) = true → (obsE rs).kind = .b ∧ ((obsE rs).tt F ρ = true → ∀ r ∈ rs, r.ob.tt F ρ = true)
  | [], _ => ⟨rfl, fun _ r hr => by cases hr⟩
  | r :: l, h => by
    simp only [List.all_cons, Bool.and_eq_true, decide_eq_true_eq] at h
    obtain ⟨i1, i2⟩ := obsE_spec (F := F) (rs := l) h.2
    have := mkAnd_spec r.ob (obsE l) h.1 i1 F ρ
    refine ⟨this.2, fun ht x hx => ?_⟩
    simp only [obsE] at ht
    rw [this.1, Bool.and_eq_true] at ht
    rcases List.mem_cons.1 hx with rfl | hx
    · exact ht.1
    · exact i2 ht.2 x hx

theorem at_append (m : Mem) (n k : Nat) : Mem.at (m ++ List.replicate n none) k = m.at k := by
  simp only [Mem.at, List.getD]
  rcases Nat.lt_or_ge k m.length with h | h
  · rw [List.getElem?_append_left h]
  · rw [List.getElem?_append_right h, List.getElem?_eq_none h, List.getElem?_replicate]
    split <;> rfl
theorem al_append (m : Mem) (n : Nat) : al (m ++ List.replicate n none) = al m := by funext k; simp [al, at_append]

theorem Rel.extend {F : Fam} (h : Rel F ρ w0 M0 Im0 ad m w) (n : Nat) : Rel F ρ w0 M0 Im0 ad (m ++ List.replicate n none) w := by
  obtain ⟨hM, Im, h1, h2, hI⟩ := h
  refine ⟨hM, Im, h1, h2, fun k g x hk hg => ?_, fun k g x hk => ?_, fun k k' g x g' y b a1 a2 a3 a4 a5 a6 => ?_, hI.im, hI.fr⟩
  · rw [at_append] at hk; exact hI.ent k g x hk hg
  · rw [at_append] at hk; rw [al_append]; exact hI.ok k g x hk
  · rw [at_append] at a1 a3; exact hI.inj k k' g x g' y b a1 a2 a3 a4 a5 a6
theorem RelS.extend {F : Fam} {s : St} (h : RelS F ρ w0 M0 Im0 ad s a w) (n : Nat) : RelS F ρ w0 M0 Im0 ad (s.1, s.2 ++ List.replicate n none) a w :=
  ⟨⟨h.1.defers, h.1.size, fun i v hv => by simp only [al_append]; exact h.1.slot i v hv⟩, h.2.extend n⟩
theorem Rel.drew {F : Fam} (h : Rel F ρ w0 M0 Im0 ad m w) : Rel F ρ w0 M0 Im0 ad m { w with drawn := w.drawn + 1 } := by
  obtain ⟨hM, Im, h1, h2, hI⟩ := h
  exact ⟨hM, Im, h1, h2, hI.refl_w rfl (hI.fr.trans (Fr.drew M0 w) fun b _ hb => hb)⟩
theorem envOf_rel {F : Fam} {ops : Array Oper} {o : Oper} (hT : RelT F ρ ad m tm a) : RelV F ρ ad m (envOf ops o tm) a := fun i v hv => by
  unfold envOf at hv
  cases hc : (o.looksAt ops).contains i
  · rw [hc] at hv; cases hv
  · rw [hc] at hv; exact hT.slot i v hv

/-- The operations that have not come up, in the order of the text. -/
def rem (ops : Array Oper) (listed : Array Bool) : List Nat := (List.range ops.size).filter fun i => !listed.getD i true

theorem draw_core (hS : SumOK P G l T) (hG : GOK G Im0 w0) {ops : Array Oper} {base : Nat} {rs : List Rec} (hobs : ∀ r ∈ rs, r.ob.tt l.F ρ = true) {Q : Exit → Act → World → Prop} (hback : backB ops.toList 0 = true) (hpairs : pairsB ops rs (masks ops.toList []) = true)
    {s' : St} : ∀ (fuel : Nat) (listed : Array Bool) (s : St) (a : Act) (w : World) (ad : Nat → Hd), listed.size = ops.size → Closed ops listed → (rem ops listed).length = fuel →
    foldI P G T ops base rs (rem ops listed) s = some s' → RelS l.F ρ w0 M0 Im0 ad s a w → (∀ ad' a' w', RelS l.F ρ w0 M0 Im0 ad' s' a' w' → Ext ad ad' s.2 s'.2 → Q .normal a' w') → wpAny P .any ops Q fuel listed a w := by
  have hanc := masks_spec ops ops.toList [] (fun k => by simp) (fun i j h => by simp at h)
  have hb := backB_spec (ops := ops) ops.toList 0 (fun k => by simp) hback
  have noready : ∀ listed : Array Bool, listed.size = ops.size → Region.ready .any ops listed = [] → rem ops listed = [] := by
    intro listed hsz hr
    cases hrem : rem ops listed with
    | nil => rfl
    | cons i r =>
      exfalso
      have hmem : i ∈ rem ops listed := by rw [hrem]; simp
      simp only [rem, List.mem_filter, List.mem_range, Bool.not_eq_true'] at hmem
      have hsorted : (rem ops listed).Pairwise (· < ·) := List.Pairwise.filter _ List.pairwise_lt_range
      rw [hrem] at hsorted
      have hmin : ∀ k, k < i → k ∉ rem ops listed := fun k hk hkm => by
        rw [hrem] at hkm
        rcases List.mem_cons.1 hkm with rfl | hkm
        · omega
        · have := (List.pairwise_cons.1 hsorted).1 k hkm; omega
      have : i ∈ Region.ready .any ops listed := by
        rw [mem_ready]
        refine ⟨hmem.2, ops[i], by simp [hmem.1], fun e he hbe => ?_⟩
        have hlt := hb i ops[i] (Nat.zero_le _) (by simp [hmem.1]) e he hbe
        have := hmin e.on hlt
        simp only [rem, List.mem_filter, List.mem_range, Bool.not_eq_true', not_and, Bool.not_eq_false] at this
        have := this (by omega)
        have hl : e.on < listed.size := by omega
        simpa [hl] using this
      rw [hr] at this
      cases this
  intro fuel
  induction fuel with
  | zero =>
    intro listed s a w ad hsz hcl hlen hfold hR hQ
    have hnil : rem ops listed = [] := List.eq_nil_of_length_eq_zero hlen
    rw [hnil] at hfold
    simp only [foldI, Option.some.injEq] at hfold
    subst hfold
    refine ⟨?_, hQ ad a w hR (Ext.refl _ _)⟩
    cases hr : Region.ready .any ops listed with
    | nil => rfl
    | cons i r =>
      exfalso
      have hi : i ∈ Region.ready .any ops listed := by rw [hr]; simp
      obtain ⟨h1, o, ho, _⟩ := mem_ready.1 hi
      have : i ∈ rem ops listed := by
        simp only [rem, List.mem_filter, List.mem_range, Bool.not_eq_true']
        exact ⟨(Array.getElem?_eq_some_iff.1 ho).1, h1⟩
      rw [hnil] at this
      cases this
  | succ fuel ih =>
    intro listed s a w ad hsz hcl hlen hfold hR hQ
    refine ⟨fun hr => ?_, fun i hi => ?_⟩
    · have := noready listed hsz hr
      rw [this] at hlen
      simp at hlen
    · obtain ⟨hun, o, ho, hall⟩ := mem_ready.1 hi
      have hisz : i < ops.size := (Array.getElem?_eq_some_iff.1 ho).1
      have hmem : i ∈ rem ops listed := by
        simp only [rem, List.mem_filter, List.mem_range, Bool.not_eq_true']
        exact ⟨hisz, hun⟩
      have hnd : (rem ops listed).Nodup := List.Pairwise.filter _ List.nodup_range
      have hsorted : (rem ops listed).Pairwise (· < ·) := List.Pairwise.filter _ List.pairwise_lt_range
      obtain ⟨pre, post, hnot, hsplit, herase⟩ := List.exists_erase_eq hmem
      have hrem' : rem ops (listed.setIfInBounds i true) = pre ++ post := by
        rw [← herase, List.Nodup.erase_eq_filter hnd]
        unfold rem
        rw [List.filter_filter]
        apply List.filter_congr
        intro k hk
        by_cases hki : i = k
        · subst hki
          have : i < listed.size := by omega
          simp [this]
        · rw [getD_set_ne true hki]
          have : (k != i) = true := by simp; exact fun e => hki e.symm
          rw [this, Bool.true_and]
      have hindep : ∀ j ∈ pre, indep ops rs j i = true := fun j hj => by
        have hjm : j ∈ rem ops listed := by rw [hsplit]; simp [hj]
        have hjm' := hjm
        simp only [rem, List.mem_filter, List.mem_range, Bool.not_eq_true'] at hjm'
        have hlt : j < i := by
          rw [hsplit] at hsorted
          exact (List.pairwise_append.1 hsorted).2.2 j hj i (by simp)
        unfold pairsB at hpairs
        have h1 := List.all_eq_true.1 (List.all_eq_true.1 hpairs i (List.mem_range.2 hisz)) j (List.mem_range.2 hlt)
        simp only [Bool.or_eq_true] at h1
        rcases h1 with h1 | h1
        · exfalso
          have h2 := (hanc i j h1).listed hcl (fun o' ho' e he hbe => hall e (by rw [ho] at ho'; cases ho'; exact he) hbe)
          have hl : j < listed.size := by omega
          have := hjm'.2
          simp [hl] at h2 this
          rw [h2] at this
          cases this
        · exact h1
      rw [hsplit] at hfold
      obtain ⟨s1, c1, c2⟩ := toFront pre hindep hfold
      rw [← hrem'] at c2
      unfold stI planI at c1
      rw [ho] at c1
      simp only at c1
      cases hp : planE P ops o (envOf ops o s.1) with
      | none => rw [hp] at c1; cases c1
      | some p =>
        simp only [hp, Option.map_some] at c1
        split at c1
        · rename_i p' dst' r hpe hr
          simp only [Option.some.injEq, Prod.mk.injEq] at hpe
          obtain ⟨rfl, rfl⟩ := hpe
          split at c1
          · split at c1
            · rename_i g v m' hrun
              split at c1
              · rename_i hgs
                simp only [Option.some.injEq] at c1
                subst c1
                have hgt : g.tt l.F ρ = true := by rw [E.same_eq _ _ hgs]; exact hobs r (List.mem_of_getElem? hr)
                refine wpOp_step ho fun K' hK' => ?_
                refine (runPL_sound hS hG hR (envOf_rel hR.1) hp hrun).2 hgt _ _ fun ad' a' w' hR' hx => hK' a' w' ?_
                refine ih _ (setT s.1 o.dst v, m') a' w' ad' (by simp [hsz]) ?_ ?_ c2 hR' fun ad'' a'' w'' hR'' hx' => hQ ad'' a'' w'' hR'' (hx.trans hx')
                · intro k o' hk ho' e he hbe
                  by_cases hki : i = k
                  · subst hki
                    rw [ho] at ho'; cases ho'
                    exact getD_set_true (hall e he hbe)
                  · rw [getD_set_ne false hki] at hk
                    exact getD_set_true (hcl k o' hk ho' e he hbe)
                · rw [hrem']
                  have : (rem ops listed).length = pre.length + post.length + 1 := by rw [hsplit]; simp; omega
                  simp; omega
              · cases c1
            · cases c1
          · cases c1
        · cases c1

theorem draw_sound (hm : P.follows .mixedOrders = true) (hS : SumOK P G l T) (hG : GOK G Im0 w0) {ops : Array Oper} {id : Nat} {s s' : St} {ob : E} (h : evDraw P G T ops s = some (ob, s')) : ob.kind = .b ∧ (ob.tt l.F ρ = true → ∀ {ad : Nat → Hd} {a : Act} {w : World}, RelS l.F ρ w0 M0 Im0 ad s a w → ∀ {Q : Exit → Act → World → Prop},
    (∀ ad' a' w', RelS l.F ρ w0 M0 Im0 ad' s' a' w' → Ext ad ad' s.2 s'.2 → Q .normal a' w') → (Code.region id ops true).wp P Q a w) := by
  unfold evDraw at h
  simp only at h
  split at h
  · rename_i rs hrs
    cases hb : backB ops.toList 0 && pairsB ops rs (masks ops.toList []) && rs.all fun r => decide (r.ob.kind = .b)
    · rw [hb] at h; cases h
    · rw [hb] at h
      simp only [cond_true] at h
      obtain ⟨s1, hfo, he⟩ := Option.map_eq_some_iff.1 h
      simp only [Prod.mk.injEq] at he
      obtain ⟨rfl, rfl⟩ := he
      simp only [Bool.and_eq_true] at hb
      obtain ⟨o1, o2⟩ := obsE_spec (F := l.F) (ρ := ρ) hb.2
      refine ⟨o1, fun ht {ad a w} hR {Q} hQ => ?_⟩
      have hrem : rem ops (Array.replicate ops.size false) = List.range ops.size := by
        unfold rem
        rw [List.filter_eq_self]
        intro i hi
        have := List.mem_range.1 hi
        simp [this]
      have hR0 := hR.extend (WD * ops.size)
      refine wp_region_any hm (draw_core hS hG (o2 ht) hb.1.1 hb.1.2 ops.size _ (s.1, s.2 ++ List.replicate (WD * ops.size) none) a _ ad (by simp) ?_ (by rw [hrem]; simp) (by rw [hrem]; exact hfo) ⟨hR0.1, hR0.2.drew⟩ ?_)
      · intro k o hk
        exfalso
        rcases Nat.lt_or_ge k ops.size with h' | h'
        · simp [h'] at hk
        · simp [h'] at hk
      · intro ad' a' w' hR' hx
        refine hQ ad' a' w' hR' ⟨fun k hk => hx.same k ?_, fun k hk => hx.keep k ?_⟩ <;> simpa [al_append] using hk
  · cases h
end
end Go.Proofs.Ytmolkkphnehgcaa.Ew

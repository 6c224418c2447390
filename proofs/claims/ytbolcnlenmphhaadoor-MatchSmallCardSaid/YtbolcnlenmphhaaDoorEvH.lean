/- A region that draws its order: where no two operations that the edges leave open touch the same, one walk in the order of the text serves every order. -/
import Derived.Test.YtbolcnlenmphhaaDoorEvG
set_option linter.unusedVariables false
set_option linter.unusedSimpArgs false
namespace Go.Proofs.YtbolcnlenmphhaaDoor.Ev
open Go Go.RowKit

/-! ### what a planned operation touches -/
inductive FP where
  | pure
  | rd (n lo hi : Nat)
  | wr (n lo hi : Nat)
  | nw (n : Nat)
  deriving DecidableEq, Repr, Inhabited

def fpOf (nm : Nat) : D → Option FP
  | .val _ | .ldg .. => some .pure
  | .ld n off sz ag => some (.rd n off (off + bif ag then sz else 1))
  | .ldi n off str cnt _ sz ag => some (.rd n off (off + cnt * str + sz + 1))
  | .st n off cs => some (.wr n off (off + cs.length))
  | .new .. => some (.nw nm)
  | _ => none

def FP.disj : FP → FP → Bool
  | .pure, _ | _, .pure => true
  | .rd .., .rd .. => true
  | .rd n lo hi, .wr n' lo' hi' | .wr n lo hi, .rd n' lo' hi' | .wr n lo hi, .wr n' lo' hi' => decide (n ≠ n') || decide (hi ≤ lo') || decide (hi' ≤ lo)
  | .rd n _ _, .nw n' | .wr n _ _, .nw n' | .nw n, .rd n' _ _ | .nw n, .wr n' _ _ | .nw n, .nw n' => decide (n ≠ n')

inductive PL where
  | put (v : SV)
  | run (g : Option (List E)) (d : D)
  deriving Repr, Inhabited

def planE (P : Program) (F : Fam) (T : Tab) (ops : Array Oper) (o : Oper) (en : Env) : Option PL :=
  match guardE ops en o with
  | some .no => some (.put .und)
  | some .yes => match opPlan P F T [] en o with
    | some (.val v) => some (.put v)
    | some (.dd d) => some (.run none d)
    | _ => none
  | some (.cond cs) => match opPlan P F T cs en o with
    | some (.val v) => some (.put (.gd cs v))
    | some (.dd d) => bif d.isRd then some (.run (some cs) d) else none
    | _ => none
  | none => none

def doPL (G : Glob) (nm : Nat) (dst : Option Nat) (s : Tm × Mem) : PL → Option (Tm × Mem)
  | .put v => some (setT s.1 dst v, s.2)
  | .run none d => (apply G s.2 nm d).map fun x => (setT s.1 dst x.1, x.2)
  | .run (some cs) d => (apply G s.2 nm d).map fun x => (setT s.1 dst (.gd cs x.1), x.2)

def PL.fp (nm : Nat) : PL → Option FP
  | .put _ => some .pure
  | .run _ d => fpOf nm d

section
variable {P : Program} {F : Fam} {ρ : Nat → Int} {G : Glob} {T : Tab} {w0 w : World} {ad : Nat → Nat} {m : Mem} {tm : Tm} {en : Env} {a : Act}

theorem stepE_of_plan {ops : Array Oper} {nm : Nat} {o : Oper} {s s' : Tm × Mem} {pl : PL} (h : planE P F T ops o en = some pl) (hd : doPL G nm o.dst s pl = some s') : stepE P F G T ops nm o en s = some s' := by
  unfold planE at h
  unfold stepE
  split at h
  · rename_i hg
    simp only [Option.some.injEq] at h; subst h
    simpa [hg, doPL] using hd
  · rename_i hg
    simp only [hg]
    split at h
    · rename_i v hp
      simp only [Option.some.injEq] at h; subst h
      simpa [opStep, hp, doW, doPL] using hd
    · rename_i d hp
      simp only [Option.some.injEq] at h; subst h
      simp only [doPL] at hd
      obtain ⟨⟨v, m'⟩, h1, rfl⟩ := Option.map_eq_some_iff.1 hd
      simp [opStep, hp, doW, h1]
    · cases h
  · rename_i cs hg
    simp only [hg]
    split at h
    · rename_i v hp
      simp only [Option.some.injEq] at h; subst h
      simpa [opStep, hp, doW, doPL] using hd
    · rename_i d hp
      cases hr : d.isRd
      · rw [hr] at h; cases h
      · rw [hr] at h
        simp only [cond_true, Option.some.injEq] at h; subst h
        simp only [doPL] at hd
        obtain ⟨⟨v, m'⟩, h1, rfl⟩ := Option.map_eq_some_iff.1 hd
        have hm := isRd_apply hr h1
        simp [opStep, hp, doW, h1, hr, hm]
    · cases h
  · cases h

/-! ### two that touch nothing in common -/
theorem rdM_set_other {n k off sz : Nat} {ag : Bool} {x : Option (Nat × List SV)} (h : n ≠ k) : rdM (m.set k x) n off sz ag = rdM m n off sz ag := by
  unfold rdM
  rw [Mem.at_set_other (Ne.symm h)]

theorem splice_get {old cs : List SV} {off i : Nat} (hl : off + cs.length ≤ old.length) (h : i < off ∨ off + cs.length ≤ i) : (splice old off cs)[i]? = old[i]? := by
  unfold splice
  rcases h with h | h
  · rw [List.append_assoc, List.getElem?_append_left (by simp; omega), List.getElem?_take]
    simp [h]
  · rw [List.getElem?_append_right (by simp; omega), List.getElem?_drop]
    congr 1
    simp
    omega

theorem rdM_splice {n off off' sz ty : Nat} {ag : Bool} {old cs : List SV} (hn : m.at n = some (ty, old)) (hl : off' + cs.length ≤ old.length)
    (hd : (off + bif ag then sz else 1) ≤ off' ∨ off' + cs.length ≤ off) : rdM (m.set n (some (ty, splice old off' cs))) n off sz ag = rdM m n off sz ag := by
  unfold rdM
  rw [Mem.at_set_same (Mem.at_lt hn), hn]
  simp only
  cases ag with
  | true =>
    simp only [cond_true] at hd ⊢
    rw [splice_length hl]
    split
    · congr 2
      apply List.ext_getElem?
      intro i
      simp only [List.getElem?_take, List.getElem?_drop]
      split
      · exact splice_get hl (by omega)
      · rfl
    · rfl
  | false =>
    simp only [cond_false] at hd ⊢
    exact splice_get hl (by omega)

theorem rdsM_congr {m' : Mem} {n off str sz : Nat} {ag : Bool} : ∀ {c j : Nat}, (∀ i, i < c → rdM m' n (off + (j + i) * str) sz ag = rdM m n (off + (j + i) * str) sz ag) → rdsM m' n off str sz ag c j = rdsM m n off str sz ag c j
  | 0, j, h => rfl
  | c + 1, j, h => by
    have h0 := h 0 (by omega)
    simp only [Nat.add_zero] at h0
    simp only [rdsM, h0]
    rw [rdsM_congr (c := c) (j := j + 1) fun i hi => by have := h (i + 1) (by omega); rwa [show j + (i + 1) = j + 1 + i by omega] at this]

/-- A read is the same behind an effect that does not touch it. -/
theorem rd_after {d d' : D} {nj ni : Nat} {f f' : FP} (hf : fpOf nj d = some f) (hf' : fpOf ni d' = some f') (hdis : f.disj f' = true) (hrd : d.isRd = true) {v' : SV} {m2 : Mem} (h' : apply G m ni d' = some (v', m2)) :
    apply G m2 nj d = (apply G m nj d).map fun x => (x.1, m2) := by
  cases hr' : d'.isRd with
  | true =>
    have := isRd_apply hr' h'
    subst this
    cases hx : apply G m2 nj d with
    | none => rfl
    | some x => have := isRd_apply hrd (v := x.1) (m' := x.2) hx; simp [← this]
  | false =>
    have key : ∀ n off sz ag, (∀ lo hi, (lo = off ∧ hi = (off + bif ag then sz else 1)) → (FP.rd n lo hi).disj f' = true) → rdM m2 n off sz ag = rdM m n off sz ag := by
      intro n off sz ag hx
      have hx := hx _ _ ⟨rfl, rfl⟩
      cases d' with
      | st n' off' cs =>
        simp only [fpOf, Option.some.injEq] at hf'
        subst hf'
        obtain ⟨m1, h1, h2⟩ := Option.map_eq_some_iff.1 h'
        simp only [Prod.mk.injEq] at h2
        obtain ⟨rfl, rfl⟩ := h2
        unfold wrM at h1
        split at h1
        · rename_i ty old hn
          split at h1
          · rename_i hl
            simp only [Option.some.injEq] at h1; subst h1
            simp only [FP.disj, Bool.or_eq_true, decide_eq_true_eq] at hx
            by_cases hnn : n = n'
            · subst hnn
              exact rdM_splice hn hl (by rcases hx with (hx | hx) | hx; exact (hx rfl).elim; exact Or.inl hx; exact Or.inr hx)
            · exact rdM_set_other hnn
          · cases h1
        · cases h1
      | new ty cs sl =>
        simp only [fpOf, Option.some.injEq] at hf'
        subst hf'
        simp only [apply] at h'
        split at h'
        · simp only [Option.some.injEq, Prod.mk.injEq] at h'
          obtain ⟨_, rfl⟩ := h'
          simp only [FP.disj, decide_eq_true_eq] at hx
          exact rdM_set_other hx
        · cases h'
      | sti => simp [fpOf] at hf'
      | call => simp [fpOf] at hf'
      | _ => simp [D.isRd] at hr'
    cases d with
    | val u => rfl
    | ldg b off sz ag => cases ag <;> simp [apply] <;> rfl
    | ld n off sz ag =>
      simp only [fpOf, Option.some.injEq] at hf
      subst hf
      simp only [apply]
      rw [key n off sz ag (fun lo hi ⟨h1, h2⟩ => by rw [h1, h2]; exact hdis)]
      cases rdM m n off sz ag <;> rfl
    | ldi n off str cnt e sz ag =>
      simp only [fpOf, Option.some.injEq] at hf
      subst hf
      simp only [apply]
      split
      · rw [rdsM_congr (m := m) fun i hi => key n _ sz ag (fun lo hi' ⟨h1, h2⟩ => by
          subst h1; subst h2
          have hmul : i * str + str ≤ cnt * str := by have : (i + 1) * str ≤ cnt * str := Nat.mul_le_mul_right _ (by omega); rw [Nat.add_mul, Nat.one_mul] at this; exact this
          revert hdis
          cases f' with
          | pure => intro _; rfl
          | rd => intro _; rfl
          | nw k => intro hdis; exact hdis
          | wr k lo' hi' =>
            simp only [FP.disj, Bool.or_eq_true, decide_eq_true_eq, Nat.zero_add]
            intro hdis
            rcases hdis with (hdis | hdis) | hdis
            · exact Or.inl (Or.inl hdis)
            · refine Or.inl (Or.inr ?_)
              cases ag <;> simp only [cond_true, cond_false] <;> omega
            · exact Or.inr (by omega))]
        cases rdsM m n off str sz ag cnt 0 <;> rfl
      · rfl
    | _ => simp [D.isRd] at hrd

theorem splice_comm {old a b : List SV} {i j : Nat} (hi : i + a.length ≤ old.length) (hj : j + b.length ≤ old.length) (h : i + a.length ≤ j ∨ j + b.length ≤ i) : splice (splice old i a) j b = splice (splice old j b) i a := by
  have l1 := splice_length hi
  have l2 := splice_length hj
  apply List.ext_getElem?
  intro k
  have own : ∀ (l c : List SV) (o k : Nat), o + c.length ≤ l.length → o ≤ k → k < o + c.length → (splice l o c)[k]? = c[k - o]? := fun l c o k hl h1 h2 => by
    unfold splice
    rw [List.append_assoc, List.getElem?_append_right (by simp; omega), List.getElem?_append_left (by simp; omega)]
    congr 1
    simp
    omega
  by_cases hka : i ≤ k ∧ k < i + a.length
  · rw [splice_get (by omega) (by omega), own old a i k hi hka.1 hka.2, own _ a i k (by omega) hka.1 hka.2]
  · by_cases hkb : j ≤ k ∧ k < j + b.length
    · rw [own _ b j k (by omega) hkb.1 hkb.2, splice_get (by omega) (by omega), own old b j k hj hkb.1 hkb.2]
    · rw [splice_get (by omega) (by omega), splice_get hi (by omega), splice_get (by omega) (by omega), splice_get hj (by omega)]

theorem apply_comm {d d' : D} {nj ni : Nat} {f f' : FP} (hf : fpOf nj d = some f) (hf' : fpOf ni d' = some f') (hdis : f.disj f' = true) {v v' : SV} {m1 m2 : Mem}
    (h : apply G m nj d = some (v, m1)) (h' : apply G m1 ni d' = some (v', m2)) : ∃ m1', apply G m ni d' = some (v', m1') ∧ apply G m1' nj d = some (v, m2) := by
  have hsym : f'.disj f = true := by
    revert hdis; cases f <;> cases f' <;> simp [FP.disj] <;> omega
  cases hr : d.isRd with
  | true =>
    have := isRd_apply hr h
    subst this
    refine ⟨m2, h', ?_⟩
    rw [rd_after hf hf' hdis hr h', h]
    rfl
  | false =>
    cases hr' : d'.isRd with
    | true =>
      have := isRd_apply hr' h'
      subst this
      have hx := rd_after hf' hf hsym hr' h
      rw [h'] at hx
      cases hy : apply G m ni d' with
      | none => rw [hy] at hx; cases hx
      | some y =>
        obtain ⟨u, my⟩ := y
        have hm := isRd_apply hr' hy
        subst hm
        rw [hy] at hx
        simp only [Option.map_some, Option.some.injEq, Prod.mk.injEq] at hx
        obtain ⟨rfl, _⟩ := hx
        exact ⟨_, rfl, h⟩
    | false =>
      -- both write
      cases d with
      | st n off cs =>
        simp only [fpOf, Option.some.injEq] at hf
        subst hf
        obtain ⟨m0, h1, h2⟩ := Option.map_eq_some_iff.1 h
        simp only [Prod.mk.injEq] at h2
        obtain ⟨rfl, rfl⟩ := h2
        unfold wrM at h1
        split at h1
        · rename_i ty old hn
          split at h1
          · rename_i hl
            simp only [Option.some.injEq] at h1; subst h1
            have hnl := Mem.at_lt hn
            cases d' with
            | st n' off' cs' =>
              simp only [fpOf, Option.some.injEq] at hf'
              subst hf'
              simp only [FP.disj, Bool.or_eq_true, decide_eq_true_eq] at hdis
              obtain ⟨m0, h1, h2⟩ := Option.map_eq_some_iff.1 h'
              simp only [Prod.mk.injEq] at h2
              obtain ⟨rfl, rfl⟩ := h2
              unfold wrM at h1
              by_cases hnn : n = n'
              · subst hnn
                rw [Mem.at_set_same hnl] at h1
                simp only at h1
                split at h1
                · rename_i hl'
                  simp only [Option.some.injEq] at h1; subst h1
                  rw [splice_length hl] at hl'
                  refine ⟨_, by simp only [apply, wrM, hn, if_pos hl', Option.map_some]; rfl, ?_⟩
                  simp only [apply, wrM, Mem.at_set_same hnl]
                  rw [if_pos (by rw [splice_length hl']; exact hl)]
                  simp only [Option.map_some, List.set_set]
                  rw [splice_comm hl hl' (by rcases hdis with (hx | hx) | hx; exact (hx rfl).elim; exact Or.inl hx; exact Or.inr hx)]
                · cases h1
              · rw [Mem.at_set_other hnn] at h1
                split at h1
                · rename_i ty' old' hn'
                  split at h1
                  · rename_i hl'
                    simp only [Option.some.injEq] at h1; subst h1
                    refine ⟨_, by simp only [apply, wrM, hn', if_pos hl', Option.map_some]; rfl, ?_⟩
                    simp only [apply, wrM, Mem.at_set_other (Ne.symm hnn), hn, if_pos hl, Option.map_some]
                    rw [List.set_comm _ _ hnn]
                  · cases h1
                · cases h1
            | new ty' cs' sl =>
              simp only [fpOf, Option.some.injEq] at hf'
              subst hf'
              simp only [FP.disj, decide_eq_true_eq] at hdis
              simp only [apply] at h'
              split at h'
              · rename_i hc
                simp only [Option.some.injEq, Prod.mk.injEq] at h'
                obtain ⟨rfl, rfl⟩ := h'
                rw [Mem.at_set_other hdis, List.length_set] at hc
                refine ⟨_, by simp only [apply, if_pos hc]; rfl, ?_⟩
                simp only [apply, wrM, Mem.at_set_other (Ne.symm hdis), hn, if_pos hl, Option.map_some]
                rw [List.set_comm _ _ hdis]
              · cases h'
            | sti => simp [fpOf] at hf'
            | call => simp [fpOf] at hf'
            | _ => simp [D.isRd] at hr'
          · cases h1
        · cases h1
      | new ty cs sl =>
        simp only [fpOf, Option.some.injEq] at hf
        subst hf
        simp only [apply] at h
        split at h
        · rename_i hc
          simp only [Option.some.injEq, Prod.mk.injEq] at h
          obtain ⟨rfl, rfl⟩ := h
          cases d' with
          | st n' off' cs' =>
            simp only [fpOf, Option.some.injEq] at hf'
            subst hf'
            simp only [FP.disj, decide_eq_true_eq] at hdis
            obtain ⟨m0, h1, h2⟩ := Option.map_eq_some_iff.1 h'
            simp only [Prod.mk.injEq] at h2
            obtain ⟨rfl, rfl⟩ := h2
            unfold wrM at h1
            rw [Mem.at_set_other hdis] at h1
            split at h1
            · rename_i ty' old' hn'
              split at h1
              · rename_i hl'
                simp only [Option.some.injEq] at h1; subst h1
                refine ⟨_, by simp only [apply, wrM, hn', if_pos hl', Option.map_some]; rfl, ?_⟩
                simp only [apply, Mem.at_set_other (Ne.symm hdis), List.length_set, if_pos hc]
                rw [List.set_comm _ _ hdis]
              · cases h1
            · cases h1
          | new ty' cs' sl' =>
            simp only [fpOf, Option.some.injEq] at hf'
            subst hf'
            simp only [FP.disj, decide_eq_true_eq] at hdis
            simp only [apply] at h'
            split at h'
            · rename_i hc'
              simp only [Option.some.injEq, Prod.mk.injEq] at h'
              obtain ⟨rfl, rfl⟩ := h'
              rw [Mem.at_set_other hdis, List.length_set] at hc'
              refine ⟨_, by simp only [apply, if_pos hc']; rfl, ?_⟩
              simp only [apply, Mem.at_set_other (Ne.symm hdis), List.length_set, if_pos hc]
              rw [List.set_comm _ _ hdis]
            · cases h'
          | sti => simp [fpOf] at hf'
          | call => simp [fpOf] at hf'
          | _ => simp [D.isRd] at hr'
        · cases h
      | sti => simp [fpOf] at hf
      | call => simp [fpOf] at hf
      | _ => simp [D.isRd] at hr

theorem setT_comm {tm : Tm} {d d' : Option Nat} {v v' : SV} (h : d = none ∨ d' = none ∨ d ≠ d') : setT (setT tm d v) d' v' = setT (setT tm d' v') d v := by
  cases d <;> cases d' <;> simp only [setT]
  rename_i x y
  exact List.set_comm _ _ (by rcases h with h | h | h; cases h; cases h; exact fun e => h (by rw [e]))

theorem doPL_comm {p p' : PL} {nj ni : Nat} {dj di : Option Nat} {f f' : FP} (hf : p.fp nj = some f) (hf' : p'.fp ni = some f') (hdis : f.disj f' = true) (hd : dj = none ∨ di = none ∨ dj ≠ di) {s s1 s2 : Tm × Mem}
    (h : doPL G nj dj s p = some s1) (h' : doPL G ni di s1 p' = some s2) : ∃ s1', doPL G ni di s p' = some s1' ∧ doPL G nj dj s1' p = some s2 := by
  have wrapit : ∀ (q : PL) (n : Nat) (dst : Option Nat) (t t' : Tm × Mem), doPL G n dst t q = some t' → (∃ v, q = .put v ∧ t' = (setT t.1 dst v, t.2)) ∨
      ∃ d v k m', q = .run k d ∧ apply G t.2 n d = some (v, m') ∧ t' = (setT t.1 dst (match k with | none => v | some cs => .gd cs v), m') := by
    intro q n dst t t' hq
    cases q with
    | put v => simp only [doPL, Option.some.injEq] at hq; exact Or.inl ⟨v, rfl, hq.symm⟩
    | run k d =>
      right
      cases k with
      | none =>
        obtain ⟨⟨v, m'⟩, h1, h2⟩ := Option.map_eq_some_iff.1 hq
        exact ⟨d, v, none, m', rfl, h1, h2.symm⟩
      | some cs =>
        obtain ⟨⟨v, m'⟩, h1, h2⟩ := Option.map_eq_some_iff.1 hq
        exact ⟨d, v, some cs, m', rfl, h1, h2.symm⟩
  have unwrap : ∀ (k : Option (List E)) (d : D) (n : Nat) (dst : Option Nat) (t : Tm × Mem) (v : SV) (m' : Mem), apply G t.2 n d = some (v, m') → doPL G n dst t (.run k d) = some (setT t.1 dst (match k with | none => v | some cs => .gd cs v), m') := by
    intro k d n dst t v m' hq
    cases k <;> simp [doPL, hq]
  rcases wrapit p nj dj s s1 h with ⟨v, rfl, rfl⟩ | ⟨d, v, k, m1, rfl, ha, rfl⟩
  · rcases wrapit p' ni di _ s2 h' with ⟨v', rfl, rfl⟩ | ⟨d', v', k', m2, rfl, ha', rfl⟩
    · exact ⟨_, rfl, by simp only [doPL]; rw [setT_comm hd]⟩
    · exact ⟨_, unwrap k' d' ni di s v' m2 ha', by simp only [doPL]; rw [setT_comm hd]⟩
  · rcases wrapit p' ni di _ s2 h' with ⟨v', rfl, rfl⟩ | ⟨d', v', k', m2, rfl, ha', rfl⟩
    · refine ⟨_, rfl, ?_⟩
      refine (unwrap k d nj dj (setT s.1 di v', s.2) v m1 ha).trans ?_
      simp only
      rw [setT_comm hd]
    · simp only [PL.fp] at hf hf'
      obtain ⟨m1', c1, c2⟩ := apply_comm hf hf' hdis ha ha'
      refine ⟨_, unwrap k' d' ni di s v' m1' c1, ?_⟩
      refine (unwrap k d nj dj (_, m1') v m2 c2).trans ?_
      simp only
      rw [setT_comm hd]

/-! ### the region's steps -/
def envOf (ops : Array Oper) (o : Oper) (tm : Tm) : Env := fun t => bif (o.looksAt ops).contains t then tm.at t else none

def planI (P : Program) (F : Fam) (T : Tab) (ops : Array Oper) (i : Nat) (tm : Tm) : Option (PL × Option Nat) :=
  match ops[i]? with
  | some o => (planE P F T ops o (envOf ops o tm)).map fun p => (p, o.dst)
  | none => none

/-- Operation number i, if it touches what it is said to touch. -/
def stI (P : Program) (F : Fam) (G : Glob) (T : Tab) (ops : Array Oper) (base : Nat) (fps : List FP) (i : Nat) (s : Tm × Mem) : Option (Tm × Mem) :=
  match planI P F T ops i s.1 with
  | some (p, dst) => if p.fp (base + i) = fps[i]? ∧ i < fps.length then doPL G (base + i) dst s p else none
  | none => none
def foldI (P : Program) (F : Fam) (G : Glob) (T : Tab) (ops : Array Oper) (base : Nat) (fps : List FP) : List Nat → Tm × Mem → Option (Tm × Mem)
  | [], s => some s
  | i :: r, s => match stI P F G T ops base fps i s with
    | some s' => foldI P F G T ops base fps r s'
    | none => none

/-- Slots apart. -/
def apart2 (ops : Array Oper) (x y : Oper) : Bool :=
  (match x.dst with
   | some d => !(y.looksAt ops).contains d && decide (y.dst ≠ some d)
   | none => true) &&
  (match y.dst with
   | some d => !(x.looksAt ops).contains d
   | none => true)
def indep (ops : Array Oper) (fps : List FP) (j i : Nat) : Bool :=
  match ops[j]?, ops[i]?, fps[j]?, fps[i]? with
  | some oj, some oi, some fj, some fi => fj.disj fi && apart2 ops oj oi
  | _, _, _, _ => false

theorem envOf_set {ops : Array Oper} {o : Oper} {tm : Tm} {d : Option Nat} {v : SV} (h : ∀ k, d = some k → (o.looksAt ops).contains k = false) : envOf ops o (setT tm d v) = envOf ops o tm := by
  funext t
  unfold envOf
  cases ht : (o.looksAt ops).contains t
  · rfl
  · simp only [cond_true]
    cases d with
    | none => rfl
    | some k =>
      have : k ≠ t := by rintro rfl; rw [h k rfl] at ht; cases ht
      simp [setT, Tm.at, List.getD, List.getElem?_set, this]

theorem doPL_tm {p : PL} {n : Nat} {dst : Option Nat} {s s' : Tm × Mem} (h : doPL G n dst s p = some s') : ∃ v, s'.1 = setT s.1 dst v := by
  cases p with
  | put v => simp only [doPL, Option.some.injEq] at h; subst h; exact ⟨v, rfl⟩
  | run k d =>
    cases k <;> obtain ⟨x, _, rfl⟩ := Option.map_eq_some_iff.1 h <;> exact ⟨_, rfl⟩

theorem swap {ops : Array Oper} {base : Nat} {fps : List FP} {j i : Nat} (hi : indep ops fps j i = true) {s s1 s2 : Tm × Mem}
    (h1 : stI P F G T ops base fps j s = some s1) (h2 : stI P F G T ops base fps i s1 = some s2) : ∃ s1', stI P F G T ops base fps i s = some s1' ∧ stI P F G T ops base fps j s1' = some s2 := by
  unfold indep at hi
  split at hi
  · rename_i oj oi fj fi hoj hoi hfj hfi
    simp only [Bool.and_eq_true, apart2] at hi
    obtain ⟨hdis, hx, hy⟩ := hi
    have hdd : oj.dst = none ∨ oi.dst = none ∨ oj.dst ≠ oi.dst := by
      cases hd : oj.dst with
      | none => exact Or.inl rfl
      | some d =>
        right; right
        rw [hd] at hx
        simp only [Bool.and_eq_true, decide_eq_true_eq] at hx
        exact fun e => hx.2 e.symm
    have e1 : ∀ (tm : Tm) (v : SV), envOf ops oi (setT tm oj.dst v) = envOf ops oi tm := fun tm v => envOf_set fun k hk => by
      rw [hk] at hx
      simp only [Bool.and_eq_true, Bool.not_eq_true'] at hx
      exact hx.1
    have e2 : ∀ (tm : Tm) (v : SV), envOf ops oj (setT tm oi.dst v) = envOf ops oj tm := fun tm v => envOf_set fun k hk => by
      rw [hk] at hy
      simp only [Bool.not_eq_true'] at hy
      exact hy
    unfold stI planI at h1
    rw [hoj] at h1
    simp only at h1
    cases hpj : planE P F T ops oj (envOf ops oj s.1) with
    | none => rw [hpj] at h1; cases h1
    | some p =>
      rw [hpj] at h1
      simp only [Option.map_some] at h1
      split at h1
      · rename_i hcj
        obtain ⟨v, hv⟩ := doPL_tm h1
        unfold stI planI at h2
        simp only [hoi, hv, e1] at h2
        cases hpi : planE P F T ops oi (envOf ops oi s.1) with
        | none => rw [hpi] at h2; cases h2
        | some p' =>
          rw [hpi] at h2
          simp only [Option.map_some] at h2
          split at h2
          · rename_i hci
            obtain ⟨s1', c1, c2⟩ := doPL_comm (hcj.1.trans hfj) (hci.1.trans hfi) hdis hdd h1 h2
            refine ⟨s1', ?_, ?_⟩
            · unfold stI planI
              rw [hoi]
              simp only [hpi, Option.map_some]
              rw [if_pos hci]
              exact c1
            · obtain ⟨v', hv'⟩ := doPL_tm c1
              unfold stI planI
              simp only [hoj, hv', e2, hpj, Option.map_some]
              rw [if_pos hcj]
              exact c2
          · cases h2
      · cases h1
  · cases hi

theorem toFront {ops : Array Oper} {base : Nat} {fps : List FP} {i : Nat} {post : List Nat} : ∀ (pre : List Nat) {s s' : Tm × Mem}, (∀ j ∈ pre, indep ops fps j i = true) →
    foldI P F G T ops base fps (pre ++ i :: post) s = some s' → ∃ s1, stI P F G T ops base fps i s = some s1 ∧ foldI P F G T ops base fps (pre ++ post) s1 = some s'
  | [], s, s', _, h => by
    simp only [List.nil_append, foldI] at h
    split at h
    · rename_i s1 h1; exact ⟨s1, h1, h⟩
    · cases h
  | j :: pre, s, s', hp, h => by
    simp only [List.cons_append, foldI] at h
    split at h
    · rename_i s1 h1
      obtain ⟨s2, i1, i2⟩ := toFront pre (fun k hk => hp k (by simp [hk])) h
      obtain ⟨s1', c1, c2⟩ := swap (hp j (by simp)) h1 i1
      refine ⟨s1', c1, ?_⟩
      simp only [List.cons_append, foldI, c2]
      exact i2
    · cases h

/-! ### what waits for what -/
def maskOf (o : Oper) (l : List Nat) : Nat := o.after.toList.foldl (fun s e => bif Region.binds .any e then s ||| (2 ^ e.on ||| l.getD e.on 0) else s) 0
def masks (ops : List Oper) : List Nat → List Nat := fun acc => match ops with
  | [] => acc
  | o :: r => masks r (acc ++ [maskOf o acc])

inductive Anc (ops : Array Oper) : Nat → Nat → Prop
  | one {i j : Nat} {o : Oper} {e : Edge} : ops[i]? = some o → e ∈ o.after → Region.binds .any e = true → e.on = j → Anc ops i j
  | more {i j : Nat} {o : Oper} {e : Edge} : ops[i]? = some o → e ∈ o.after → Region.binds .any e = true → Anc ops e.on j → Anc ops i j

theorem foldl_mask {l : List Nat} {j : Nat} : ∀ (es : List Edge) (s : Nat), (es.foldl (fun s e => bif Region.binds .any e then s ||| (2 ^ e.on ||| l.getD e.on 0) else s) s).testBit j = true →
    s.testBit j = true ∨ ∃ e ∈ es, Region.binds .any e = true ∧ (e.on = j ∨ (l.getD e.on 0).testBit j = true)
  | [], s, h => Or.inl h
  | e :: es, s, h => by
    simp only [List.foldl_cons] at h
    rcases foldl_mask es _ h with h1 | ⟨e', h1, h2, h3⟩
    · cases hb : Region.binds .any e
      · rw [hb] at h1; exact Or.inl h1
      · rw [hb] at h1
        simp only [cond_true, Nat.testBit_or, Bool.or_eq_true, Nat.testBit_two_pow, decide_eq_true_eq] at h1
        rcases h1 with h1 | h1 | h1
        · exact Or.inl h1
        · exact Or.inr ⟨e, by simp, hb, Or.inl h1⟩
        · exact Or.inr ⟨e, by simp, hb, Or.inr h1⟩
    · exact Or.inr ⟨e', by simp [h1], h2, h3⟩

theorem masks_spec (ops : Array Oper) : ∀ (r : List Oper) (acc : List Nat), (∀ k, r[k]? = ops[acc.length + k]?) → (∀ i j, (acc.getD i 0).testBit j = true → Anc ops i j) →
    ∀ i j, ((masks r acc).getD i 0).testBit j = true → Anc ops i j
  | [], acc, _, h => h
  | o :: r, acc, hr, h => by
    unfold masks
    have h0 : ops[acc.length]? = some o := by simpa using (hr 0).symm
    refine masks_spec ops r _ (fun k => by have := hr (k + 1); simpa [Nat.add_assoc, Nat.add_comm 1 k] using this) ?_
    intro i j hij
    by_cases hi : i < acc.length
    · rw [show (acc ++ [maskOf o acc]).getD i 0 = acc.getD i 0 by simp [List.getD, List.getElem?_append_left hi]] at hij
      exact h i j hij
    · by_cases hi' : i = acc.length
      · subst hi'
        rw [show (acc ++ [maskOf o acc]).getD acc.length 0 = maskOf o acc by simp [List.getD]] at hij
        rcases foldl_mask _ _ hij with h1 | ⟨e, h1, h2, h3⟩
        · simp at h1
        · rcases h3 with h3 | h3
          · exact .one h0 (by simpa using h1) h2 h3
          · exact .more h0 (by simpa using h1) h2 (h e.on j h3)
      · rw [show (acc ++ [maskOf o acc]).getD i 0 = 0 by rw [List.getD, List.getElem?_eq_none (by simp; omega)]; rfl] at hij
        simp at hij

def Closed (ops : Array Oper) (listed : Array Bool) : Prop := ∀ k o, listed.getD k false = true → ops[k]? = some o → ∀ e ∈ o.after, Region.binds .any e = true → listed.getD e.on false = true
theorem Anc.listed {ops : Array Oper} {listed : Array Bool} (hc : Closed ops listed) {i j : Nat} (h : Anc ops i j) : (∀ o, ops[i]? = some o → ∀ e ∈ o.after, Region.binds .any e = true → listed.getD e.on false = true) → listed.getD j false = true := by
  induction h with
  | one h1 h2 h3 h4 => intro hx; subst h4; exact hx _ h1 _ h2 h3
  | more h1 h2 h3 _ ih => intro hx; exact ih fun o ho e he hb => hc _ o (hx _ h1 _ h2 h3) ho e he hb

def backB (ops : List Oper) (i : Nat) : Bool := match ops with
  | [] => true
  | o :: r => (o.after.toList.all fun e => !Region.binds .any e || decide (e.on < i)) && backB r (i + 1)
theorem backB_spec {ops : Array Oper} : ∀ (r : List Oper) (i : Nat), (∀ k, r[k]? = ops[i + k]?) → backB r i = true → ∀ k o, i ≤ k → ops[k]? = some o → ∀ e ∈ o.after, Region.binds .any e = true → e.on < k
  | [], i, hr, _, k, o, hk, ho, _, _, _ => by
    have := hr (k - i)
    rw [show i + (k - i) = k by omega, ho] at this
    simp at this
  | x :: r, i, hr, hb, k, o, hk, ho, e, he, hbe => by
    simp only [backB, Bool.and_eq_true] at hb
    by_cases hki : k = i
    · subst hki
      have hx : o = x := by have := hr 0; simp only [List.getElem?_cons_zero, Nat.add_zero] at this; rw [ho] at this; exact (Option.some.inj this).symm
      subst hx
      have := List.all_eq_true.1 hb.1 e (by simpa using he)
      rw [hbe] at this
      simpa using this
    · exact backB_spec r (i + 1) (fun k => by have := hr (k + 1); simpa [Nat.add_assoc, Nat.add_comm 1 k] using this) hb.2 k o (by omega) ho e he hbe

/-- Every two operations: the later one waits for the earlier one, or they have nothing in common. -/
def pairsB (ops : Array Oper) (fps : List FP) (ms : List Nat) : Bool :=
  (List.range ops.size).all fun i => (List.range i).all fun j => (ms.getD i 0).testBit j || indep ops fps j i

def fpsRun (P : Program) (F : Fam) (G : Glob) (T : Tab) (ops : Array Oper) (base : Nat) : List Nat → Tm × Mem → Option (List FP)
  | [], _ => some []
  | i :: r, s => match planI P F T ops i s.1 with
    | some (p, dst) => match p.fp (base + i), doPL G (base + i) dst s p with
      | some f, some s' => match fpsRun P F G T ops base r s' with
        | some l => some (f :: l)
        | none => none
      | _, _ => none
    | none => none

def evDraw (P : Program) (F : Fam) (G : Glob) (T : Tab) (ops : Array Oper) (s : Tm × Mem) : Option (Tm × Mem) :=
  let s0 := (s.1, s.2 ++ List.replicate ops.size none)
  match fpsRun P F G T ops s.2.length (List.range ops.size) s0 with
  | some fps => bif backB ops.toList 0 && pairsB ops fps (masks ops.toList []) then foldI P F G T ops s.2.length fps (List.range ops.size) s0 else none
  | none => none

theorem at_append (m : Mem) (n k : Nat) : Mem.at (m ++ List.replicate n none) k = m.at k := by
  simp only [Mem.at, List.getD]
  rcases Nat.lt_or_ge k m.length with h | h
  · rw [List.getElem?_append_left h]
  · rw [List.getElem?_append_right h, List.getElem?_eq_none h, List.getElem?_replicate]
    split <;> rfl
theorem al_append (m : Mem) (n : Nat) : al (m ++ List.replicate n none) = al m := by funext k; simp [al, at_append]

theorem RelS.extend {s : Tm × Mem} (h : RelS F ρ w0 ad s a w) (n : Nat) : RelS F ρ w0 ad (s.1, s.2 ++ List.replicate n none) a w := by
  obtain ⟨hT, hM⟩ := h
  refine ⟨⟨hT.defers, hT.size, fun i v hv => ?_⟩, ⟨fun k ty cs hk => ?_, fun k k' h1 h2 e => ?_, hM.below⟩⟩
  · simp only [al_append]; exact hT.slot i v hv
  · simp only [at_append] at hk; simp only [al_append]; exact hM.cell k ty cs hk
  · simp only [al_append] at h1 h2; exact hM.inj k k' h1 h2 e
theorem RelS.drew {s : Tm × Mem} (h : RelS F ρ w0 ad s a w) : RelS F ρ w0 ad s a { w with drawn := w.drawn + 1 } :=
  ⟨h.1, ⟨fun k ty cs hk => h.2.cell k ty cs hk, h.2.inj, h.2.below.drew⟩⟩

theorem envOf_rel {ops : Array Oper} {o : Oper} (hT : RelT F ρ ad m tm a) : RelE F ρ ad m (envOf ops o tm) a := fun i v hv => by
  unfold envOf at hv
  cases hc : (o.looksAt ops).contains i
  · rw [hc] at hv; cases hv
  · rw [hc] at hv; exact hT.slot i v hv

/-- The operations that have not come up, in the order of the text. -/
def rem (ops : Array Oper) (listed : Array Bool) : List Nat := (List.range ops.size).filter fun i => !listed.getD i true

theorem draw_core (hS : SumOK P F G T) (hG : GOK G w0) {ops : Array Oper} {base : Nat} {fps : List FP} {Q : Exit → Act → World → Prop} (hback : backB ops.toList 0 = true) (hpairs : pairsB ops fps (masks ops.toList []) = true)
    {s' : Tm × Mem} : ∀ (fuel : Nat) (listed : Array Bool) (s : Tm × Mem) (a : Act) (w : World) (ad : Nat → Nat), listed.size = ops.size → Closed ops listed → (rem ops listed).length = fuel →
    foldI P F G T ops base fps (rem ops listed) s = some s' → RelS F ρ w0 ad s a w → (∀ ad' a' w', RelS F ρ w0 ad' s' a' w' → Ext ad ad' s.2 s'.2 → Q .normal a' w') → wpAny P .any ops Q fuel listed a w := by
  have hanc := masks_spec ops ops.toList [] (fun k => by simp) (fun i j h => by simp at h)
  have hb := backB_spec (ops := ops) ops.toList 0 (fun k => by simp) hback
  have noready : ∀ listed : Array Bool, listed.size = ops.size → Region.ready .any ops listed = [] → rem ops listed = [] := by
    intro listed hsz hr
    cases hrem : rem ops listed with
    | nil => rfl
    | cons i r =>
      exfalso
      have hmem : i ∈ rem ops listed := by rw [hrem]; simp
      simp only [rem, List.mem_filter, List.mem_range, Bool.not_eq_true'] at hmem
      have hsorted : (rem ops listed).Pairwise (· < ·) := List.Pairwise.filter _ List.pairwise_lt_range
      rw [hrem] at hsorted
      have hmin : ∀ k, k < i → k ∉ rem ops listed := fun k hk hkm => by
        rw [hrem] at hkm
        rcases List.mem_cons.1 hkm with rfl | hkm
        · omega
        · have := (List.pairwise_cons.1 hsorted).1 k hkm; omega
      have : i ∈ Region.ready .any ops listed := by
        rw [mem_ready]
        refine ⟨hmem.2, ops[i], by simp [hmem.1], fun e he hbe => ?_⟩
        have hlt := hb i ops[i] (Nat.zero_le _) (by simp [hmem.1]) e he hbe
        have := hmin e.on hlt
        simp only [rem, List.mem_filter, List.mem_range, Bool.not_eq_true', not_and, Bool.not_eq_false] at this
        have := this (by omega)
        have hl : e.on < listed.size := by omega
        simpa [hl] using this
      rw [hr] at this
      cases this
  intro fuel
  induction fuel with
  | zero =>
    intro listed s a w ad hsz hcl hlen hfold hR hQ
    have hnil : rem ops listed = [] := List.eq_nil_of_length_eq_zero hlen
    rw [hnil] at hfold
    simp only [foldI, Option.some.injEq] at hfold
    subst hfold
    refine ⟨?_, hQ ad a w hR (Ext.refl _ _)⟩
    cases hr : Region.ready .any ops listed with
    | nil => rfl
    | cons i r =>
      exfalso
      have hi : i ∈ Region.ready .any ops listed := by rw [hr]; simp
      obtain ⟨h1, o, ho, _⟩ := mem_ready.1 hi
      have : i ∈ rem ops listed := by
        simp only [rem, List.mem_filter, List.mem_range, Bool.not_eq_true']
        exact ⟨(Array.getElem?_eq_some_iff.1 ho).1, h1⟩
      rw [hnil] at this
      cases this
  | succ fuel ih =>
    intro listed s a w ad hsz hcl hlen hfold hR hQ
    refine ⟨fun hr => ?_, fun i hi => ?_⟩
    · have := noready listed hsz hr
      rw [this] at hlen
      simp at hlen
    · obtain ⟨hun, o, ho, hall⟩ := mem_ready.1 hi
      have hisz : i < ops.size := (Array.getElem?_eq_some_iff.1 ho).1
      have hmem : i ∈ rem ops listed := by
        simp only [rem, List.mem_filter, List.mem_range, Bool.not_eq_true']
        exact ⟨hisz, hun⟩
      have hnd : (rem ops listed).Nodup := List.Pairwise.filter _ List.nodup_range
      have hsorted : (rem ops listed).Pairwise (· < ·) := List.Pairwise.filter _ List.pairwise_lt_range
      obtain ⟨pre, post, hnot, hsplit, herase⟩ := List.exists_erase_eq hmem
      have hrem' : rem ops (listed.setIfInBounds i true) = pre ++ post := by
        rw [← herase, List.Nodup.erase_eq_filter hnd]
        unfold rem
        rw [List.filter_filter]
        apply List.filter_congr
        intro k hk
        by_cases hki : i = k
        · subst hki
          have : i < listed.size := by omega
          simp [this]
        · rw [getD_set_ne true hki]
          have : (k != i) = true := by simp; exact fun e => hki e.symm
          rw [this, Bool.true_and]
      have hindep : ∀ j ∈ pre, indep ops fps j i = true := fun j hj => by
        have hjm : j ∈ rem ops listed := by rw [hsplit]; simp [hj]
        have hjm' := hjm
        simp only [rem, List.mem_filter, List.mem_range, Bool.not_eq_true'] at hjm'
        have hlt : j < i := by
          rw [hsplit] at hsorted
          exact (List.pairwise_append.1 hsorted).2.2 j hj i (by simp)
        unfold pairsB at hpairs
        have h1 := List.all_eq_true.1 (List.all_eq_true.1 hpairs i (List.mem_range.2 hisz)) j (List.mem_range.2 hlt)
        simp only [Bool.or_eq_true] at h1
        rcases h1 with h1 | h1
        · exfalso
          have h2 := (hanc i j h1).listed hcl (fun o' ho' e he hbe => hall e (by rw [ho] at ho'; cases ho'; exact he) hbe)
          have hl : j < listed.size := by omega
          have := hjm'.2
          simp [hl] at h2 this
          rw [h2] at this
          cases this
        · exact h1
      rw [hsplit] at hfold
      obtain ⟨s1, c1, c2⟩ := toFront pre hindep hfold
      rw [← hrem'] at c2
      unfold stI planI at c1
      rw [ho] at c1
      simp only at c1
      cases hp : planE P F T ops o (envOf ops o s.1) with
      | none => rw [hp] at c1; cases c1
      | some p =>
        rw [hp] at c1
        simp only [Option.map_some] at c1
        split at c1
        · have hst := stepE_of_plan hp c1
          refine wpOp_step ho fun K' hK' => ?_
          refine stepE_sound hS hG hR (envOf_rel hR.1) hst fun ad' a' w' hR' hx => hK' a' w' ?_
          refine ih _ s1 a' w' ad' (by simp [hsz]) ?_ ?_ c2 hR' fun ad'' a'' w'' hR'' hx' => hQ ad'' a'' w'' hR'' (hx.trans hx')
          · intro k o' hk ho' e he hbe
            by_cases hki : i = k
            · subst hki
              rw [ho] at ho'; cases ho'
              exact getD_set_true (hall e he hbe)
            · rw [getD_set_ne false hki] at hk
              exact getD_set_true (hcl k o' hk ho' e he hbe)
          · rw [hrem']
            have : (rem ops listed).length = pre.length + post.length + 1 := by rw [hsplit]; simp; omega
            simp; omega
        · cases c1

theorem draw_sound (hm : P.follows .mixedOrders = true) (hS : SumOK P F G T) (hG : GOK G w0) {ops : Array Oper} {id : Nat} {s s' : Tm × Mem} (h : evDraw P F G T ops s = some s') (hR : RelS F ρ w0 ad s a w) {Q : Exit → Act → World → Prop}
    (hQ : ∀ ad' a' w', RelS F ρ w0 ad' s' a' w' → Ext ad ad' s.2 s'.2 → Q .normal a' w') : (Code.region id ops true).wp P Q a w := by
  unfold evDraw at h
  simp only at h
  split at h
  · rename_i fps hfps
    cases hb : backB ops.toList 0 && pairsB ops fps (masks ops.toList [])
    · rw [hb] at h; cases h
    · rw [hb] at h
      simp only [cond_true] at h
      simp only [Bool.and_eq_true] at hb
      have hrem : rem ops (Array.replicate ops.size false) = List.range ops.size := by
        unfold rem
        rw [List.filter_eq_self]
        intro i hi
        have := List.mem_range.1 hi
        simp [this]
      refine wp_region_any hm (draw_core hS hG hb.1 hb.2 ops.size _ (s.1, s.2 ++ List.replicate ops.size none) a _ ad (by simp) ?_ (by rw [hrem]; simp) (by rw [hrem]; exact h) (hR.extend _).drew ?_)
      · intro k o hk
        exfalso
        rcases Nat.lt_or_ge k ops.size with h' | h'
        · simp [h'] at hk
        · simp [h'] at hk
      · intro ad' a' w' hR' hx
        refine hQ ad' a' w' hR' ⟨fun k hk => hx.same k ?_, fun k hk => hx.keep k ?_⟩ <;> simpa [al_append] using hk
  · cases h
end
end Go.Proofs.YtbolcnlenmphhaaDoor.Ev

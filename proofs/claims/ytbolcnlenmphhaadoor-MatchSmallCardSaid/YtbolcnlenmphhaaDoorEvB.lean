/- The symbolic values of the evaluator and what they denote; merging; shapes of arguments and results. No program is in sight here. -/
import Derived.Test.YtbolcnlenmphhaaDoorEvA
set_option linter.unusedVariables false
set_option linter.unusedSimpArgs false
namespace Go.Proofs.YtbolcnlenmphhaaDoor.Ev
open Go Go.RowKit

/-- Values that are there once: the nil ones. -/
inductive CV where
  | nP
  | nF
  | nS
  | nI
  | nM
  | nC
  deriving Repr, Inhabited, DecidableEq
def CV.val : CV → Value
  | .nP => .pointer none
  | .nF => .nilFunc
  | .nS => .slice none 0 0
  | .nI => .nilIface
  | .nM => .map none
  | .nC => .chan none

/-- Symbolic values. Memory blocks of the call's own have names (numbers). -/
inductive SV where
  | sc (e : E)
  | ptr (n off : Nat)
  | pi (n off str : Nat) (e : E)
  | sl (n off len cap : Nat)
  | fn (f : Nat) (cs : List SV)
  | agg (cs : List SV)
  | tup (vs : List SV)
  | gd (gs : List E) (v : SV)
  | ite (c : E) (a b : SV)
  | und
  | nilp (c : CV)
  | gl (b off : Nat)
  deriving Repr, Inhabited

mutual
def SV.conc (F : Fam) (ρ : Nat → Int) (ad : Nat → Nat) : SV → Value
  | .sc e => e.val F ρ
  | .ptr n off => .pointer (some ⟨ad n, off, none⟩)
  | .pi n off str e => .pointer (some ⟨ad n, off + (e.den F ρ).toNat * str, none⟩)
  | .sl n off len cap => .slice (some ⟨ad n, off, none⟩) len cap
  | .fn f cs => .func (.func f) #[] (SV.concL F ρ ad cs).toArray
  | .agg cs => .agg (SV.concL F ρ ad cs).toArray
  | .tup vs => .tuple (SV.concL F ρ ad vs).toArray
  | .gd gs v => bif gs.all (fun g => g.tt F ρ) then SV.conc F ρ ad v else undef
  | .ite c a b => bif c.tt F ρ then SV.conc F ρ ad a else SV.conc F ρ ad b
  | .und => undef
  | .nilp c => c.val
  | .gl b off => .pointer (some ⟨b, off, none⟩)
def SV.concL (F : Fam) (ρ : Nat → Int) (ad : Nat → Nat) : List SV → List Value
  | [] => []
  | v :: r => SV.conc F ρ ad v :: SV.concL F ρ ad r
end

theorem concL_eq (F : Fam) (ρ : Nat → Int) (ad : Nat → Nat) (l : List SV) : SV.concL F ρ ad l = l.map (SV.conc F ρ ad) := by
  induction l with
  | nil => simp [SV.concL]
  | cons e r ih => simp [SV.concL, ih]

/- All names that occur satisfy p. -/
mutual
def SV.ok (p : Nat → Prop) : SV → Prop
  | .ptr n _ | .pi n _ _ _ | .sl n _ _ _ => p n
  | .fn _ cs | .agg cs | .tup cs => SV.okL p cs
  | .gd _ v => SV.ok p v
  | .ite _ a b => SV.ok p a ∧ SV.ok p b
  | _ => True
def SV.okL (p : Nat → Prop) : List SV → Prop
  | [] => True
  | v :: r => SV.ok p v ∧ SV.okL p r
end

theorem okL_iff (p : Nat → Prop) (l : List SV) : SV.okL p l ↔ ∀ v ∈ l, v.ok p := by
  induction l with
  | nil => simp [SV.okL]
  | cons v r ih => simp [SV.okL, ih]

mutual
theorem SV.ok_mono {p q : Nat → Prop} (h : ∀ n, p n → q n) : ∀ v : SV, v.ok p → v.ok q
  | .ptr n _, hv | .pi n _ _ _, hv | .sl n _ _ _, hv => by simp only [SV.ok] at hv ⊢; exact h _ hv
  | .fn _ cs, hv | .agg cs, hv | .tup cs, hv => by simp only [SV.ok] at hv ⊢; exact SV.okL_mono h cs hv
  | .gd _ v, hv => by simp only [SV.ok] at hv ⊢; exact SV.ok_mono h v hv
  | .ite _ a b, hv => by simp only [SV.ok] at hv ⊢; exact ⟨SV.ok_mono h a hv.1, SV.ok_mono h b hv.2⟩
  | .sc _, _ | .und, _ | .nilp _, _ | .gl _ _, _ => by simp [SV.ok]
theorem SV.okL_mono {p q : Nat → Prop} (h : ∀ n, p n → q n) : ∀ l : List SV, SV.okL p l → SV.okL q l
  | [], _ => trivial
  | v :: r, hv => by simp only [SV.okL] at hv ⊢; exact ⟨SV.ok_mono h v hv.1, SV.okL_mono h r hv.2⟩
end

mutual
theorem SV.conc_congr {F : Fam} {ρ : Nat → Int} {ad ad' : Nat → Nat} {p : Nat → Prop} (h : ∀ n, p n → ad n = ad' n) : ∀ v : SV, v.ok p → v.conc F ρ ad = v.conc F ρ ad'
  | .ptr n _, hv | .pi n _ _ _, hv | .sl n _ _ _, hv => by simp only [SV.ok] at hv; simp only [SV.conc, h n hv]
  | .fn _ cs, hv | .agg cs, hv | .tup cs, hv => by simp only [SV.ok] at hv; simp only [SV.conc, SV.concL_congr h cs hv]
  | .gd gs v, hv => by simp only [SV.ok] at hv; simp only [SV.conc, SV.conc_congr h v hv]
  | .ite _ a b, hv => by simp only [SV.ok] at hv; simp only [SV.conc, SV.conc_congr h a hv.1, SV.conc_congr h b hv.2]
  | .sc _, _ | .und, _ | .nilp _, _ | .gl _ _, _ => by simp [SV.conc]
theorem SV.concL_congr {F : Fam} {ρ : Nat → Int} {ad ad' : Nat → Nat} {p : Nat → Prop} (h : ∀ n, p n → ad n = ad' n) : ∀ l : List SV, SV.okL p l → SV.concL F ρ ad l = SV.concL F ρ ad' l
  | [], _ => rfl
  | v :: r, hv => by simp only [SV.okL] at hv; simp only [SV.concL, SV.conc_congr h v hv.1, SV.concL_congr h r hv.2]
end

/-- One cell. -/
def SV.one : SV → Bool
  | .sc _ | .ptr .. | .pi .. | .sl .. | .fn .. | .nilp _ | .gl .. => true
  | _ => false

theorem E.val_one (F : Fam) (ρ : Nat → Int) (e : E) : (e.val F ρ).oneCell' = true := by unfold E.val; split <;> rfl
theorem SV.one_conc {F : Fam} {ρ : Nat → Int} {ad : Nat → Nat} {v : SV} (h : v.one = true) : (v.conc F ρ ad).oneCell' = true := by
  cases v with
  | sc e => exact E.val_one F ρ e
  | nilp c => cases c <;> rfl
  | _ => simp_all [SV.one, SV.conc, Value.oneCell']

def SV.cells : SV → List SV
  | .agg cs => cs
  | v => [v]
theorem one_cells {v : Value} (h : v.oneCell' = true) : v.cells = #[v] := by cases v <;> simp_all [Value.oneCell', Value.cells]
theorem SV.cells_conc {F : Fam} {ρ : Nat → Int} {ad : Nat → Nat} {v : SV} (h : v.cells.all SV.one = true) : (v.conc F ρ ad).cells = (SV.concL F ρ ad v.cells).toArray := by
  cases v with
  | agg cs => simp [SV.cells, SV.conc, Value.cells]
  | _ =>
    simp only [SV.cells, List.all_cons, List.all_nil, Bool.and_true] at h
    rw [one_cells (SV.one_conc h)]
    simp [SV.cells, SV.concL]
theorem SV.ok_cells {p : Nat → Prop} {v : SV} (h : v.ok p) : SV.okL p v.cells := by
  cases v <;> simp_all [SV.cells, SV.ok, SV.okL]

/-! ### equality, for the evaluator's own use -/
mutual
def SV.same : SV → SV → Bool
  | .sc e, .sc e' => e.same e'
  | .ptr n o, .ptr n' o' => decide (n = n') && decide (o = o')
  | .pi n o s e, .pi n' o' s' e' => decide (n = n') && decide (o = o') && decide (s = s') && e.same e'
  | .sl n o l c, .sl n' o' l' c' => decide (n = n') && decide (o = o') && decide (l = l') && decide (c = c')
  | .fn f cs, .fn f' cs' => decide (f = f') && SV.sameL cs cs'
  | .agg cs, .agg cs' => SV.sameL cs cs'
  | .tup cs, .tup cs' => SV.sameL cs cs'
  | .und, .und => true
  | .nilp a, .nilp b => decide (a = b)
  | .gl b o, .gl b' o' => decide (b = b') && decide (o = o')
  | .gd gs v, .gd gs' v' => E.sameL gs gs' && SV.same v v'
  | .ite c a b, .ite c' a' b' => c.same c' && SV.same a a' && SV.same b b'
  | _, _ => false
def SV.sameL : List SV → List SV → Bool
  | [], [] => true
  | e :: r, e' :: r' => SV.same e e' && SV.sameL r r'
  | _, _ => false
end
mutual
theorem SV.same_eq : ∀ (a b : SV), SV.same a b = true → a = b
  | .sc e, c, h => by cases c <;> simp [SV.same] at h; rw [E.same_eq _ _ h]
  | .ptr .., c, h => by cases c <;> simp_all [SV.same]
  | .pi n o s e, c, h => by
    cases c <;> simp [SV.same] at h
    obtain ⟨⟨⟨rfl, rfl⟩, rfl⟩, h4⟩ := h
    rw [E.same_eq _ _ h4]
  | .sl .., c, h => by cases c <;> simp_all [SV.same]
  | .fn f cs, c, h => by
    cases c <;> simp [SV.same] at h
    obtain ⟨rfl, h⟩ := h
    rw [SV.sameL_eq _ _ h]
  | .agg cs, c, h => by cases c <;> simp [SV.same] at h; rw [SV.sameL_eq _ _ h]
  | .tup cs, c, h => by cases c <;> simp [SV.same] at h; rw [SV.sameL_eq _ _ h]
  | .und, c, h => by cases c <;> simp_all [SV.same]
  | .nilp _, c, h => by cases c <;> simp_all [SV.same]
  | .gl .., c, h => by cases c <;> simp_all [SV.same]
  | .gd gs v, c, h => by
    cases c <;> simp [SV.same] at h
    rw [E.sameL_eq _ _ h.1, SV.same_eq _ _ h.2]
  | .ite c a b, d, h => by
    cases d <;> simp [SV.same] at h
    rw [E.same_eq _ _ h.1.1, SV.same_eq _ _ h.1.2, SV.same_eq _ _ h.2]
theorem SV.sameL_eq : ∀ (a b : List SV), SV.sameL a b = true → a = b
  | [], [], _ => rfl
  | [], _ :: _, h => by simp [SV.sameL] at h
  | _ :: _, [], h => by simp [SV.sameL] at h
  | e :: r, e' :: r', h => by
    simp [SV.sameL] at h
    rw [SV.same_eq _ _ h.1, SV.sameL_eq _ _ h.2]
end

/-! ### a value under conditions -/
def holds (F : Fam) (ρ : Nat → Int) (cs : List E) : Bool := cs.all fun c => c.tt F ρ

def implied (cs : List E) (g : E) : Bool := cs.any fun c => c.same g

theorem implied_tt {F : Fam} {ρ : Nat → Int} {cs : List E} {g : E} (h : implied cs g = true) (hc : holds F ρ cs = true) : g.tt F ρ = true := by
  unfold implied at h
  unfold holds at hc
  obtain ⟨c, hm, hs⟩ := List.any_eq_true.1 h
  rw [← E.same_eq _ _ hs]
  exact List.all_eq_true.1 hc c hm

def strip (cs : List E) : SV → Option SV
  | .gd gs v => if gs.all (implied cs) = true then some v else none
  | .ite c a b => if implied cs c = true then some a else if implied cs (mkNot c) = true then some b else some (.ite c a b)
  | v => some v

theorem strip_conc {F : Fam} {ρ : Nat → Int} {ad : Nat → Nat} {cs : List E} {v v' : SV} (h : strip cs v = some v') (hc : holds F ρ cs = true) : v.conc F ρ ad = v'.conc F ρ ad := by
  unfold strip at h
  split at h
  · rename_i gs u
    split at h
    · rename_i hg
      simp only [Option.some.injEq] at h
      subst h
      have : gs.all (fun g => g.tt F ρ) = true := List.all_eq_true.2 fun g hm => implied_tt (List.all_eq_true.1 hg g hm) hc
      simp [SV.conc, this]
    · cases h
  · rename_i c a b
    split at h
    · rename_i hg
      simp only [Option.some.injEq] at h
      subst h
      simp [SV.conc, implied_tt hg hc]
    · split at h
      · rename_i hg
        simp only [Option.some.injEq] at h
        subst h
        have := implied_tt hg hc
        rw [(mkNot_spec c F ρ).1] at this
        have e : c.tt F ρ = false := by simpa using this
        simp [SV.conc, e]
      · simp only [Option.some.injEq] at h; rw [h]
  · simp only [Option.some.injEq] at h; rw [h]

theorem strip_ok {p : Nat → Prop} {cs : List E} {v v' : SV} (h : strip cs v = some v') (hv : v.ok p) : v'.ok p := by
  unfold strip at h
  split at h
  · split at h
    · simp only [Option.some.injEq] at h; subst h; simpa [SV.ok] using hv
    · cases h
  · simp only [SV.ok] at hv
    split at h
    · simp only [Option.some.injEq] at h; subst h; exact hv.1
    · split at h
      · simp only [Option.some.injEq] at h; subst h; exact hv.2
      · simp only [Option.some.injEq] at h; subst h; simpa [SV.ok] using hv
  · simp only [Option.some.injEq] at h; subst h; exact hv

/-! ### merging -/
mutual
def merge (c : E) : SV → SV → SV
  | .sc x, .sc y => if x.kind = y.kind then .sc (mkIte c x y) else .ite c (.sc x) (.sc y)
  | .agg xs, .agg ys => if xs.length = ys.length then .agg (mergeL c xs ys) else .ite c (.agg xs) (.agg ys)
  | a, b => if SV.same a b = true then a else .ite c a b
def mergeL (c : E) : List SV → List SV → List SV
  | x :: xs, y :: ys => merge c x y :: mergeL c xs ys
  | _, _ => []
end

mutual
theorem merge_conc {F : Fam} {ρ : Nat → Int} {ad : Nat → Nat} {c : E} (hc : c.kind = .b) : ∀ (a b : SV), (merge c a b).conc F ρ ad = bif c.tt F ρ then a.conc F ρ ad else b.conc F ρ ad
  | .sc x, b => by
    cases b with
    | sc y =>
      simp only [merge]
      split
      · rename_i hk; simp only [SV.conc]; exact (mkIte_spec c x y hc hk F ρ).1
      · simp [SV.conc]
    | _ => simp [merge, SV.same, SV.conc]
  | .agg xs, b => by
    cases b with
    | agg ys =>
      simp only [merge]
      split
      · rename_i hk; simp only [SV.conc]; rw [mergeL_conc hc xs ys hk]; cases c.tt F ρ <;> rfl
      · simp [SV.conc]
    | _ => simp [merge, SV.same, SV.conc]
  | .ptr .., b | .pi .., b | .sl .., b | .fn .., b | .tup .., b | .gd .., b | .ite .., b | .und, b | .nilp _, b | .gl .., b => by
    simp only [merge]
    split
    · rename_i h; rw [← SV.same_eq _ _ h]; cases c.tt F ρ <;> rfl
    · simp [SV.conc]
theorem mergeL_conc {F : Fam} {ρ : Nat → Int} {ad : Nat → Nat} {c : E} (hc : c.kind = .b) : ∀ (a b : List SV), a.length = b.length → SV.concL F ρ ad (mergeL c a b) = bif c.tt F ρ then SV.concL F ρ ad a else SV.concL F ρ ad b
  | [], [], _ => by cases c.tt F ρ <;> rfl
  | [], _ :: _, h => by simp at h
  | _ :: _, [], h => by simp at h
  | x :: xs, y :: ys, h => by
    simp only [mergeL, SV.concL, merge_conc hc x y, mergeL_conc hc xs ys (by simpa using h)]
    cases c.tt F ρ <;> rfl
end

mutual
theorem merge_ok {p : Nat → Prop} {c : E} : ∀ (a b : SV), a.ok p → b.ok p → (merge c a b).ok p
  | .sc x, b, ha, hb => by
    cases b with
    | sc y => simp only [merge]; split <;> simp [SV.ok]
    | _ => simp only [merge, SV.same, Bool.false_eq_true, if_false]; exact ⟨ha, hb⟩
  | .agg xs, b, ha, hb => by
    cases b with
    | agg ys =>
      simp only [merge]
      simp only [SV.ok] at ha hb
      split
      · simp only [SV.ok]; exact mergeL_ok xs ys ha hb
      · simp only [SV.ok]; exact ⟨ha, hb⟩
    | _ => simp only [merge, SV.same, Bool.false_eq_true, if_false]; exact ⟨ha, hb⟩
  | .ptr .., b, ha, hb | .pi .., b, ha, hb | .sl .., b, ha, hb | .fn .., b, ha, hb | .tup .., b, ha, hb | .gd .., b, ha, hb | .ite .., b, ha, hb | .und, b, ha, hb | .nilp _, b, ha, hb | .gl .., b, ha, hb => by
    simp only [merge]
    split
    · exact ha
    · simp only [SV.ok] at ha ⊢; exact ⟨ha, hb⟩
theorem mergeL_ok {p : Nat → Prop} {c : E} : ∀ (a b : List SV), SV.okL p a → SV.okL p b → SV.okL p (mergeL c a b)
  | [], _, _, _ => by simp [mergeL, SV.okL]
  | _ :: _, [], _, _ => by simp [mergeL, SV.okL]
  | x :: xs, y :: ys, ha, hb => by
    simp only [SV.okL] at ha hb
    simp only [mergeL, SV.okL]
    exact ⟨merge_ok x y ha.1 hb.1, mergeL_ok xs ys ha.2 hb.2⟩
end

theorem mergeL_length (c : E) : ∀ (a b : List SV), a.length = b.length → (mergeL c a b).length = a.length
  | [], [], _ => rfl
  | [], _ :: _, h => by simp at h
  | _ :: _, [], h => by simp at h
  | x :: xs, y :: ys, h => by simp [mergeL, mergeL_length c xs ys (by simpa using h)]

/-! ### shapes: scalars, and aggregates of scalars -/
inductive Sh1 where
  | s (k : K)
  | a (ks : List K)
  | c (f : Nat)
  | l (k : K) (n : Int)
  deriving Repr, Inhabited
inductive Sh where
  | one (s : Sh1)
  | tup (l : List Sh1)
  deriving Repr, Inhabited

def K.val : K → Int → Value
  | .b, n => .bool (i2b n)
  | .i k, n => .int k n

def vals : List K → List Int → List Value
  | k :: ks, x :: xs => k.val x :: vals ks xs
  | _, _ => []

def Sh1.ks : Sh1 → List K
  | .s k => [k]
  | .a ks => ks
  | .c _ => []
  | .l _ _ => []
def Sh1.n (s : Sh1) : Nat := s.ks.length
def Sh1.val : Sh1 → List Int → Value
  | .s k, xs => k.val (xs.getD 0 0)
  | .a ks, xs => .agg (vals ks xs).toArray
  | .c f, _ => .func (.func f) #[] #[]
  | .l k n, _ => k.val (k.norm n)
def argVals : List Sh1 → List Int → List Value
  | [], _ => []
  | p :: ps, xs => p.val (xs.take p.n) :: argVals ps (xs.drop p.n)
def allKs (ps : List Sh1) : List K := ps.flatMap Sh1.ks
def Sh.ks : Sh → List K
  | .one s => s.ks
  | .tup l => allKs l
def Sh.val : Sh → List Int → Value
  | .one s, xs => s.val xs
  | .tup l, xs => .tuple (argVals l xs).toArray

/-- The numbers are of these kinds. -/
def fits : List K → List Int → Prop
  | [], [] => True
  | k :: ks, x :: xs => k.norm x = x ∧ fits ks xs
  | _, _ => False

def getCells : List K → List SV → Option (List E)
  | [], [] => some []
  | k :: ks, .sc e :: cs => if e.kind = k ∧ e.sound = true then (getCells ks cs).map (e :: ·) else none
  | _, _ => none
def get1 : Sh1 → SV → Option (List E)
  | .s k, v => getCells [k] [v]
  | .a ks, .agg cs => getCells ks cs
  | .c f, .fn g [] => if f = g then some [] else none
  | .l k n, .sc (.lit k' n') => if k = k' ∧ n = n' then some [] else none
  | _, _ => none
def getArgs : List Sh1 → List SV → Option (List E)
  | [], [] => some []
  | p :: ps, v :: vs => match get1 p v, getArgs ps vs with
    | some a, some b => some (a ++ b)
    | _, _ => none
  | _, _ => none

theorem val_of_kind {F : Fam} {ρ : Nat → Int} {e : E} : e.kind.val (e.den F ρ) = e.val F ρ := by
  unfold E.val K.val E.tt
  cases e.kind <;> rfl

theorem getCells_spec (F : Fam) (ρ : Nat → Int) (ad : Nat → Nat) : ∀ (ks : List K) (cs : List SV) (es : List E), getCells ks cs = some es →
    es.length = ks.length ∧ SV.concL F ρ ad cs = vals ks (es.map (E.den F ρ)) ∧ fits ks (es.map (E.den F ρ))
  | [], [], es, h => by simp [getCells] at h; subst h; simp [vals, fits, SV.concL]
  | [], _ :: _, es, h => by simp [getCells] at h
  | _ :: _, [], es, h => by simp [getCells] at h
  | k :: ks, v :: cs, es, h => by
    cases v with
    | sc e =>
      simp only [getCells] at h
      split at h
      · rename_i hk
        cases hr : getCells ks cs with
        | none => simp [hr] at h
        | some r =>
          simp [hr] at h
          subst h
          obtain ⟨i1, i2, i3⟩ := getCells_spec F ρ ad ks cs r hr
          obtain ⟨rfl, hs⟩ := hk
          exact ⟨by simp [i1], by simp [SV.concL, vals, i2, SV.conc, val_of_kind], by simp only [List.map_cons, fits]; exact ⟨E.den_norm F ρ e hs, i3⟩⟩
      · cases h
    | _ => simp [getCells] at h

theorem get1_spec (F : Fam) (ρ : Nat → Int) (ad : Nat → Nat) (p : Sh1) (v : SV) (es : List E) (h : get1 p v = some es) :
    es.length = p.n ∧ v.conc F ρ ad = p.val (es.map (E.den F ρ)) ∧ fits p.ks (es.map (E.den F ρ)) := by
  cases p with
  | s k =>
    simp only [get1] at h
    obtain ⟨i1, i2, i3⟩ := getCells_spec F ρ ad _ _ _ h
    refine ⟨i1, ?_, i3⟩
    simp only [SV.concL] at i2
    match es, i1 with
    | [e], _ =>
      simp only [List.map_cons, List.map_nil, vals, List.cons.injEq, and_true] at i2
      simpa [Sh1.val] using i2
  | a ks =>
    cases v with
    | agg cs =>
      simp only [get1] at h
      obtain ⟨i1, i2, i3⟩ := getCells_spec F ρ ad _ _ _ h
      exact ⟨i1, by simp [SV.conc, Sh1.val, i2], i3⟩
    | _ => simp [get1] at h
  | c f =>
    cases v with
    | fn g cs =>
      cases cs with
      | nil =>
        simp only [get1] at h
        split at h
        · rename_i hfg
          subst hfg
          simp only [Option.some.injEq] at h; subst h
          exact ⟨rfl, by simp [SV.conc, SV.concL, Sh1.val], trivial⟩
        · cases h
      | cons _ _ => simp [get1] at h
    | _ => simp [get1] at h
  | l k n =>
    cases v with
    | sc e =>
      cases e with
      | lit k' n' =>
        simp only [get1] at h
        split at h
        · rename_i hk
          obtain ⟨rfl, rfl⟩ := hk
          simp only [Option.some.injEq] at h; subst h
          refine ⟨rfl, ?_, trivial⟩
          simp only [SV.conc, Sh1.val]
          exact (val_of_kind (F := F) (ρ := ρ) (e := .lit k n)).symm
        · cases h
      | _ => simp [get1] at h
    | _ => simp [get1] at h

theorem fits_length : ∀ {ks : List K} {xs : List Int}, fits ks xs → xs.length = ks.length
  | [], [], _ => rfl
  | [], _ :: _, h => h.elim
  | _ :: _, [], h => h.elim
  | _ :: ks, _ :: xs, h => by simp [fits_length h.2]
theorem fits_append : ∀ {ks ls : List K} {xs ys : List Int}, fits ks xs → fits ls ys → fits (ks ++ ls) (xs ++ ys)
  | [], _, [], _, _, h => h
  | [], _, _ :: _, _, h, _ => h.elim
  | _ :: _, _, [], _, h, _ => h.elim
  | _ :: ks, _, _ :: xs, _, h, h' => ⟨h.1, fits_append h.2 h'⟩

theorem getArgs_spec (F : Fam) (ρ : Nat → Int) (ad : Nat → Nat) : ∀ (ps : List Sh1) (vs : List SV) (es : List E), getArgs ps vs = some es →
    SV.concL F ρ ad vs = argVals ps (es.map (E.den F ρ)) ∧ fits (allKs ps) (es.map (E.den F ρ))
  | [], [], es, h => by simp [getArgs] at h; subst h; simp [argVals, fits, SV.concL, allKs]
  | [], _ :: _, es, h => by simp [getArgs] at h
  | _ :: _, [], es, h => by simp [getArgs] at h
  | p :: ps, v :: vs, es, h => by
    simp only [getArgs] at h
    split at h
    · rename_i a b h1 h2
      simp only [Option.some.injEq] at h
      subst h
      obtain ⟨i1, i2, i3⟩ := get1_spec F ρ ad p v a h1
      obtain ⟨j1, j2⟩ := getArgs_spec F ρ ad ps vs b h2
      have e1 : (a.map (E.den F ρ)).length = p.n := by simp [i1]
      refine ⟨?_, ?_⟩
      · simp only [SV.concL, argVals, List.map_append]
        rw [List.take_append_of_le_length (by omega), List.take_of_length_le (by omega), List.drop_append_of_le_length (by omega), List.drop_of_length_le (l := a.map (E.den F ρ)) (by omega), i2, j1]
        simp
      · simp only [allKs, List.flatMap_cons, List.map_append]
        exact fits_append i3 j2
    · cases h

/-- The symbolic value of a shape whose components are these. -/
def Sh1.sv : Sh1 → List E → SV
  | .s _, es => .sc (es.getD 0 (mkB false))
  | .a _, es => .agg (es.map .sc)
  | .c f, _ => .fn f []
  | .l k n, _ => .sc (.lit k n)
def argSVs : List Sh1 → List E → List SV
  | [], _ => []
  | p :: ps, es => p.sv (es.take p.n) :: argSVs ps (es.drop p.n)
def Sh.sv : Sh → List E → SV
  | .one s, es => s.sv es
  | .tup l, es => .tup (argSVs l es)

/-- These expressions are of these kinds. -/
def kinds : List K → List E → Prop
  | [], [] => True
  | k :: ks, e :: es => e.kind = k ∧ kinds ks es
  | _, _ => False
theorem kinds_length : ∀ {ks : List K} {es : List E}, kinds ks es → es.length = ks.length
  | [], [], _ => rfl
  | [], _ :: _, h => h.elim
  | _ :: _, [], h => h.elim
  | _ :: ks, _ :: es, h => by simp [kinds_length h.2]
theorem vals_kinds (F : Fam) (ρ : Nat → Int) : ∀ {ks : List K} {es : List E}, kinds ks es → es.map (E.val F ρ) = vals ks (es.map (E.den F ρ))
  | [], [], _ => rfl
  | [], _ :: _, h => h.elim
  | _ :: _, [], h => h.elim
  | _ :: ks, e :: es, h => by
    obtain ⟨rfl, h2⟩ := h
    simp [vals, vals_kinds F ρ h2, val_of_kind]
theorem kinds_take : ∀ {ks ls : List K} {es : List E}, kinds (ks ++ ls) es → kinds ks (es.take ks.length) ∧ kinds ls (es.drop ks.length)
  | [], _, _, h => ⟨trivial, by simpa using h⟩
  | _ :: _, _, [], h => h.elim
  | k :: ks, ls, e :: es, h => by
    obtain ⟨h1, h2⟩ := h
    obtain ⟨i1, i2⟩ := kinds_take h2
    exact ⟨⟨h1, by simpa using i1⟩, by simpa using i2⟩

theorem Sh1.sv_conc (F : Fam) (ρ : Nat → Int) (ad : Nat → Nat) (p : Sh1) (es : List E) (h : kinds p.ks es) : (p.sv es).conc F ρ ad = p.val (es.map (E.den F ρ)) := by
  cases p with
  | s k =>
    match es, h with
    | [e], h =>
      obtain ⟨rfl, _⟩ := h
      simp [Sh1.sv, Sh1.val, SV.conc, val_of_kind]
  | a ks =>
    simp only [Sh1.sv, Sh1.val, SV.conc, concL_eq, List.map_map]
    have hv : es.map (E.val F ρ) = vals ks (es.map (E.den F ρ)) := vals_kinds F ρ h
    rw [← hv]
    congr 2
  | c f => simp [Sh1.sv, Sh1.val, SV.conc, SV.concL]
  | l k n => exact (val_of_kind (F := F) (ρ := ρ) (e := .lit k n)).symm

theorem argSVs_conc (F : Fam) (ρ : Nat → Int) (ad : Nat → Nat) : ∀ (ps : List Sh1) (es : List E), kinds (allKs ps) es → SV.concL F ρ ad (argSVs ps es) = argVals ps (es.map (E.den F ρ))
  | [], es, h => rfl
  | p :: ps, es, h => by
    simp only [allKs, List.flatMap_cons] at h
    obtain ⟨h1, h2⟩ := kinds_take h
    simp only [argSVs, argVals, SV.concL]
    have e1 := Sh1.sv_conc F ρ ad p _ h1
    have e2 := argSVs_conc F ρ ad ps _ h2
    simp only [Sh1.n, List.map_take, List.map_drop] at e1 e2 ⊢
    rw [e1, e2]

theorem Sh.sv_conc (F : Fam) (ρ : Nat → Int) (ad : Nat → Nat) (s : Sh) (es : List E) (h : kinds s.ks es) : (s.sv es).conc F ρ ad = s.val (es.map (E.den F ρ)) := by
  cases s with
  | one p => exact Sh1.sv_conc F ρ ad p es h
  | tup l => simp only [Sh.sv, Sh.val, SV.conc]; rw [argSVs_conc F ρ ad l es h]

theorem Sh1.sv_ok (p : Nat → Prop) (s : Sh1) (es : List E) : (s.sv es).ok p := by
  cases s with
  | s k => simp [Sh1.sv, SV.ok]
  | a ks => simp only [Sh1.sv, SV.ok, okL_iff]; intro v hv; obtain ⟨e, _, rfl⟩ := List.mem_map.1 hv; trivial
  | c f => simp [Sh1.sv, SV.ok, SV.okL]
  | l k n => simp [Sh1.sv, SV.ok]
theorem argSVs_ok (p : Nat → Prop) : ∀ (l : List Sh1) (es : List E), SV.okL p (argSVs l es)
  | [], _ => trivial
  | s :: l, es => ⟨Sh1.sv_ok p s _, argSVs_ok p l _⟩
theorem Sh.sv_ok (p : Nat → Prop) (s : Sh) (es : List E) : (s.sv es).ok p := by
  cases s with
  | one s => exact Sh1.sv_ok p s es
  | tup l => exact argSVs_ok p l es

end Go.Proofs.YtbolcnlenmphhaaDoor.Ev

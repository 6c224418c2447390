/- The symbolic values of the evaluator and what they denote; merging; shapes of arguments and results. No program is in sight here. -/
import Derived.Test.YtmolkkphnehgcaaWA
set_option linter.unusedVariables false
set_option linter.unusedSimpArgs false
namespace Go.Proofs.Ytmolkkphnehgcaa.Ew
open Go Go.RowKit

/-- Values that are there once: the nil ones. -/
inductive CV where
  | nP
  | nF
  | nS
  | nI
  | nM
  | nC
  deriving Repr, Inhabited, DecidableEq
def CV.val : CV → Value
  | .nP => .pointer none
  | .nF => .nilFunc
  | .nS => .slice none 0 0
  | .nI => .nilIface
  | .nM => .map none
  | .nC => .chan none

/-- Where a named thing lies: a block (with an offset in it), a slice's capacity, whether it is nil. -/
structure Hd where
  blk : Nat
  off : Nat := 0
  cap : Nat := 0
  nil : Bool := false
  v : Value := undef
  deriving Inhabited
/-- The header of a slice of so many elements. -/
def Hd.sl (h : Hd) (len : Nat) : Value := bif h.nil && len == 0 then .slice none 0 0 else .slice (some ⟨h.blk, h.off, none⟩) len h.cap

/-- The header of a part of a slice: so long a slice, from an index on. -/
def Hd.part (h : Hd) (n lo str : Nat) : Hd := { blk := h.blk, off := if h.cap = lo then h.off else h.off + lo * str, cap := h.cap - lo, nil := h.nil && n == 0 }

/-- Symbolic values. Memory blocks of the call's own have names (numbers). -/
inductive SV where
  | sc (e : E)
  | ptr (n off : Nat)
  | pi (n off str : Nat) (e : E)
  | sl (n off len cap : Nat)
  | ls (n : Nat) (le : E)
  | sv (n str : Nat) (l0 lo hi : E)
  | pe (n str : Nat) (i : E) (o : Nat)
  | mp (n : Nat)
  | oq (n : Nat)
  | fn (f : Nat) (cs : List SV)
  | agg (cs : List SV)
  | tup (vs : List SV)
  | gd (gs : List E) (v : SV)
  | ite (c : E) (a b : SV)
  | und
  | nilp (c : CV)
  | gl (b off : Nat)
  deriving Repr, Inhabited

mutual
def SV.conc (F : Fam) (ρ : Nat → Int) (ad : Nat → Hd) : SV → Value
  | .sc e => e.val F ρ
  | .ptr n off => .pointer (some ⟨(ad n).blk, off, none⟩)
  | .pi n off str e => .pointer (some ⟨(ad n).blk, off + (e.den F ρ).toNat * str, none⟩)
  | .sl n off len cap => .slice (some ⟨(ad n).blk, off, none⟩) len cap
  | .ls n le => (ad n).sl (le.den F ρ).toNat
  | .sv n str l0 lo hi => ((ad n).part (l0.den F ρ).toNat (lo.den F ρ).toNat str).sl ((hi.den F ρ).toNat - (lo.den F ρ).toNat)
  | .pe n str i o => .pointer (some ⟨(ad n).blk, (ad n).off + (i.den F ρ).toNat * str + o, none⟩)
  | .mp n => .map (some (ad n).blk)
  | .oq n => (ad n).v
  | .fn f cs => .func (.func f) #[] (SV.concL F ρ ad cs).toArray
  | .agg cs => .agg (SV.concL F ρ ad cs).toArray
  | .tup vs => .tuple (SV.concL F ρ ad vs).toArray
  | .gd gs v => bif gs.all (fun g => g.tt F ρ) then SV.conc F ρ ad v else undef
  | .ite c a b => bif c.tt F ρ then SV.conc F ρ ad a else SV.conc F ρ ad b
  | .und => undef
  | .nilp c => c.val
  | .gl b off => .pointer (some ⟨b, off, none⟩)
def SV.concL (F : Fam) (ρ : Nat → Int) (ad : Nat → Hd) : List SV → List Value
  | [] => []
  | v :: r => SV.conc F ρ ad v :: SV.concL F ρ ad r
end

theorem concL_eq (F : Fam) (ρ : Nat → Int) (ad : Nat → Hd) (l : List SV) : SV.concL F ρ ad l = l.map (SV.conc F ρ ad) := by
  induction l with
  | nil => simp [SV.concL]
  | cons e r ih => simp [SV.concL, ih]

/- All names that occur satisfy p. -/
mutual
def SV.ok (p : Nat → Prop) : SV → Prop
  | .ptr n _ | .pi n _ _ _ | .sl n _ _ _ | .ls n _ | .sv n _ _ _ _ | .pe n _ _ _ | .mp n | .oq n => p n
  | .fn _ cs | .agg cs | .tup cs => SV.okL p cs
  | .gd _ v => SV.ok p v
  | .ite _ a b => SV.ok p a ∧ SV.ok p b
  | _ => True
def SV.okL (p : Nat → Prop) : List SV → Prop
  | [] => True
  | v :: r => SV.ok p v ∧ SV.okL p r
end

theorem okL_iff (p : Nat → Prop) (l : List SV) : SV.okL p l ↔ ∀ v ∈ l, v.ok p := by
  induction l with
  | nil => simp [SV.okL]
  | cons v r ih => simp [SV.okL, ih]

mutual
theorem SV.ok_mono {p q : Nat → Prop} (h : ∀ n, p n → q n) : ∀ v : SV, v.ok p → v.ok q
  | .ptr n _, hv | .pi n _ _ _, hv | .sl n _ _ _, hv | .ls n _, hv | .sv n _ _ _ _, hv | .pe n _ _ _, hv | .mp n, hv | .oq n, hv => by simp only [SV.ok] at hv ⊢; exact h _ hv
  | .fn _ cs, hv | .agg cs, hv | .tup cs, hv => by simp only [SV.ok] at hv ⊢; exact SV.okL_mono h cs hv
  | .gd _ v, hv => by simp only [SV.ok] at hv ⊢; exact SV.ok_mono h v hv
  | .ite _ a b, hv => by simp only [SV.ok] at hv ⊢; exact ⟨SV.ok_mono h a hv.1, SV.ok_mono h b hv.2⟩
  | .sc _, _ | .und, _ | .nilp _, _ | .gl _ _, _ => by simp [SV.ok]
theorem SV.okL_mono {p q : Nat → Prop} (h : ∀ n, p n → q n) : ∀ l : List SV, SV.okL p l → SV.okL q l
  | [], _ => trivial
  | v :: r, hv => by simp only [SV.okL] at hv ⊢; exact ⟨SV.ok_mono h v hv.1, SV.okL_mono h r hv.2⟩
end

mutual
theorem SV.conc_congr {F : Fam} {ρ : Nat → Int} {ad ad' : Nat → Hd} {p : Nat → Prop} (h : ∀ n, p n → ad n = ad' n) : ∀ v : SV, v.ok p → v.conc F ρ ad = v.conc F ρ ad'
  | .ptr n _, hv | .pi n _ _ _, hv | .sl n _ _ _, hv | .ls n _, hv | .sv n _ _ _ _, hv | .pe n _ _ _, hv | .mp n, hv | .oq n, hv => by simp only [SV.ok] at hv; simp only [SV.conc, h n hv]
  | .fn _ cs, hv | .agg cs, hv | .tup cs, hv => by simp only [SV.ok] at hv; simp only [SV.conc, SV.concL_congr h cs hv]
  | .gd gs v, hv => by simp only [SV.ok] at hv; simp only [SV.conc, SV.conc_congr h v hv]
  | .ite _ a b, hv => by simp only [SV.ok] at hv; simp only [SV.conc, SV.conc_congr h a hv.1, SV.conc_congr h b hv.2]
  | .sc _, _ | .und, _ | .nilp _, _ | .gl _ _, _ => by simp [SV.conc]
theorem SV.concL_congr {F : Fam} {ρ : Nat → Int} {ad ad' : Nat → Hd} {p : Nat → Prop} (h : ∀ n, p n → ad n = ad' n) : ∀ l : List SV, SV.okL p l → SV.concL F ρ ad l = SV.concL F ρ ad' l
  | [], _ => rfl
  | v :: r, hv => by simp only [SV.okL] at hv; simp only [SV.concL, SV.conc_congr h v hv.1, SV.concL_congr h r hv.2]
end

/-- One cell. -/
def SV.one : SV → Bool
  | .sc _ | .ptr .. | .pi .. | .sl .. | .ls .. | .sv .. | .pe .. | .mp _ | .fn .. | .nilp _ | .gl .. => true
  | .ite _ a b => SV.one a && SV.one b
  | _ => false

theorem E.val_one (F : Fam) (ρ : Nat → Int) (e : E) : (e.val F ρ).oneCell' = true := by unfold E.val; split <;> rfl
theorem SV.one_conc {F : Fam} {ρ : Nat → Int} {ad : Nat → Hd} : ∀ {v : SV}, v.one = true → (v.conc F ρ ad).oneCell' = true
  | .sc e, _ => E.val_one F ρ e
  | .nilp c, _ => by cases c <;> rfl
  | .ls n le, _ => by simp only [SV.conc, Hd.sl]; cases (ad n).nil && (E.den F ρ le).toNat == 0 <;> rfl
  | .sv n str l0 lo hi, _ => by simp only [SV.conc, Hd.sl]; cases ((ad n).part (l0.den F ρ).toNat (lo.den F ρ).toNat str).nil && ((hi.den F ρ).toNat - (lo.den F ρ).toNat) == 0 <;> rfl
  | .ite p a b, h => by
    simp only [SV.one, Bool.and_eq_true] at h
    simp only [SV.conc]
    cases p.tt F ρ
    · exact SV.one_conc h.2
    · exact SV.one_conc h.1
  | .ptr .., h | .pi .., h | .sl .., h | .pe .., h | .mp _, h | .fn .., h | .gl .., h => by simp_all [SV.one, SV.conc, Value.oneCell']
  | .agg _, h | .tup _, h | .gd .., h | .und, h | .oq _, h => by simp [SV.one] at h

def SV.cells : SV → List SV
  | .agg cs => cs
  | v => [v]
theorem one_cells {v : Value} (h : v.oneCell' = true) : v.cells = #[v] := by cases v <;> simp_all [Value.oneCell', Value.cells]
theorem SV.cells_conc {F : Fam} {ρ : Nat → Int} {ad : Nat → Hd} {v : SV} (h : v.cells.all SV.one = true) : (v.conc F ρ ad).cells = (SV.concL F ρ ad v.cells).toArray := by
  cases v with
  | agg cs => simp [SV.cells, SV.conc, Value.cells]
  | _ =>
    simp only [SV.cells, List.all_cons, List.all_nil, Bool.and_true] at h
    rw [one_cells (SV.one_conc h)]
    simp [SV.cells, SV.concL]
theorem SV.ok_cells {p : Nat → Prop} {v : SV} (h : v.ok p) : SV.okL p v.cells := by
  cases v <;> simp_all [SV.cells, SV.ok, SV.okL]

/-! ### equality, for the evaluator's own use -/
mutual
def SV.same : SV → SV → Bool
  | .sc e, .sc e' => e.same e'
  | .ptr n o, .ptr n' o' => decide (n = n') && decide (o = o')
  | .pi n o s e, .pi n' o' s' e' => decide (n = n') && decide (o = o') && decide (s = s') && e.same e'
  | .sl n o l c, .sl n' o' l' c' => decide (n = n') && decide (o = o') && decide (l = l') && decide (c = c')
  | .ls n e, .ls n' e' => decide (n = n') && e.same e'
  | .sv n s a b c, .sv n' s' a' b' c' => decide (n = n') && decide (s = s') && a.same a' && b.same b' && c.same c'
  | .pe n s e o, .pe n' s' e' o' => decide (n = n') && decide (s = s') && e.same e' && decide (o = o')
  | .mp n, .mp n' => decide (n = n')
  | .oq n, .oq n' => decide (n = n')
  | .fn f cs, .fn f' cs' => decide (f = f') && SV.sameL cs cs'
  | .agg cs, .agg cs' => SV.sameL cs cs'
  | .tup cs, .tup cs' => SV.sameL cs cs'
  | .und, .und => true
  | .nilp a, .nilp b => decide (a = b)
  | .gl b o, .gl b' o' => decide (b = b') && decide (o = o')
  | .gd gs v, .gd gs' v' => E.sameL gs gs' && SV.same v v'
  | .ite c a b, .ite c' a' b' => c.same c' && SV.same a a' && SV.same b b'
  | _, _ => false
def SV.sameL : List SV → List SV → Bool
  | [], [] => true
  | e :: r, e' :: r' => SV.same e e' && SV.sameL r r'
  | _, _ => false
end
mutual
theorem SV.same_eq : ∀ (a b : SV), SV.same a b = true → a = b
  | .sc e, c, h => by cases c <;> simp [SV.same] at h; rw [E.same_eq _ _ h]
  | .ptr .., c, h => by cases c <;> simp_all [SV.same]
  | .pi n o s e, c, h => by
    cases c <;> simp [SV.same] at h
    obtain ⟨⟨⟨rfl, rfl⟩, rfl⟩, h4⟩ := h
    rw [E.same_eq _ _ h4]
  | .sl .., c, h => by cases c <;> simp_all [SV.same]
  | .ls n e, c, h => by
    cases c <;> simp [SV.same] at h
    obtain ⟨rfl, h⟩ := h
    rw [E.same_eq _ _ h]
  | .sv n s a b e, c, h => by
    cases c <;> simp [SV.same] at h
    obtain ⟨⟨⟨⟨rfl, rfl⟩, h3⟩, h4⟩, h5⟩ := h
    rw [E.same_eq _ _ h3, E.same_eq _ _ h4, E.same_eq _ _ h5]
  | .pe n s e o, c, h => by
    cases c <;> simp [SV.same] at h
    obtain ⟨⟨⟨rfl, rfl⟩, h3⟩, rfl⟩ := h
    rw [E.same_eq _ _ h3]
  | .mp .., c, h | .oq .., c, h => by cases c <;> simp_all [SV.same]
  | .fn f cs, c, h => by
    cases c <;> simp [SV.same] at h
    obtain ⟨rfl, h⟩ := h
    rw [SV.sameL_eq _ _ h]
  | .agg cs, c, h => by cases c <;> simp [SV.same] at h; rw [SV.sameL_eq _ _ h]
  | .tup cs, c, h => by cases c <;> simp [SV.same] at h; rw [SV.sameL_eq _ _ h]
  | .und, c, h => by cases c <;> simp_all [SV.same]
  | .nilp _, c, h => by cases c <;> simp_all [SV.same]
  | .gl .., c, h => by cases c <;> simp_all [SV.same]
  | .gd gs v, c, h => by
    cases c <;> simp [SV.same] at h
    rw [E.sameL_eq _ _ h.1, SV.same_eq _ _ h.2]
  | .ite c a b, d, h => by
    cases d <;> simp [SV.same] at h
    rw [E.same_eq _ _ h.1.1, SV.same_eq _ _ h.1.2, SV.same_eq _ _ h.2]
theorem SV.sameL_eq : ∀ (a b : List SV), SV.sameL a b = true → a = b
  | [], [], _ => rfl
  | [], _ :: _, h => by simp [SV.sameL] at h
  | _ :: _, [], h => by simp [SV.sameL] at h
  | e :: r, e' :: r', h => by
    simp [SV.sameL] at h
    rw [SV.same_eq _ _ h.1, SV.sameL_eq _ _ h.2]
end

/-! ### a value under conditions -/
def holds (F : Fam) (ρ : Nat → Int) (cs : List E) : Bool := cs.all fun c => c.tt F ρ

def implied (cs : List E) (g : E) : Bool := cs.any fun c => c.same g

theorem implied_tt {F : Fam} {ρ : Nat → Int} {cs : List E} {g : E} (h : implied cs g = true) (hc : holds F ρ cs = true) : g.tt F ρ = true := by
  unfold implied at h
  unfold holds at hc
  obtain ⟨c, hm, hs⟩ := List.any_eq_true.1 h
  rw [← E.same_eq _ _ hs]
  exact List.all_eq_true.1 hc c hm

def strip (cs : List E) : SV → Option SV
  | .gd gs v => if gs.all (implied cs) = true then some v else none
  | .ite c a b => if implied cs c = true then some a else if implied cs (mkNot c) = true then some b else some (.ite c a b)
  | v => some v

theorem strip_conc {F : Fam} {ρ : Nat → Int} {ad : Nat → Hd} {cs : List E} {v v' : SV} (h : strip cs v = some v') (hc : holds F ρ cs = true) : v.conc F ρ ad = v'.conc F ρ ad := by
  unfold strip at h
  split at h
  · rename_i gs u
    split at h
    · rename_i hg
      simp only [Option.some.injEq] at h
      subst h
      have : gs.all (fun g => g.tt F ρ) = true := List.all_eq_true.2 fun g hm => implied_tt (List.all_eq_true.1 hg g hm) hc
      simp [SV.conc, this]
    · cases h
  · rename_i c a b
    split at h
    · rename_i hg
      simp only [Option.some.injEq] at h
      subst h
      simp [SV.conc, implied_tt hg hc]
    · split at h
      · rename_i hg
        simp only [Option.some.injEq] at h
        subst h
        have := implied_tt hg hc
        rw [(mkNot_spec c F ρ).1] at this
        have e : c.tt F ρ = false := by simpa using this
        simp [SV.conc, e]
      · simp only [Option.some.injEq] at h; rw [h]
  · simp only [Option.some.injEq] at h; rw [h]

theorem strip_ok {p : Nat → Prop} {cs : List E} {v v' : SV} (h : strip cs v = some v') (hv : v.ok p) : v'.ok p := by
  unfold strip at h
  split at h
  · split at h
    · simp only [Option.some.injEq] at h; subst h; simpa [SV.ok] using hv
    · cases h
  · simp only [SV.ok] at hv
    split at h
    · simp only [Option.some.injEq] at h; subst h; exact hv.1
    · split at h
      · simp only [Option.some.injEq] at h; subst h; exact hv.2
      · simp only [Option.some.injEq] at h; subst h; simpa [SV.ok] using hv
  · simp only [Option.some.injEq] at h; subst h; exact hv

/-! ### merging -/
/-- Addresses of places of one row are one address. -/
def litP (q : Nat) : E := .lit (.i .i64) q
def litPok (q : Nat) : Bool := decide ((IntKind.i64.wrap (q : Int)) = q)
def mergeP (c : E) (n o s : Nat) (e : E) (b : SV) : SV :=
  match b with
  | .pi n' o' s' e' => if n = n' ∧ o = o' ∧ s = s' ∧ e.kind = .i .i64 ∧ e'.kind = .i .i64 then .pi n o s (mkIte c e e') else .ite c (.pi n o s e) b
  | .ptr n' o' => if n = n' ∧ o ≤ o' ∧ (o' - o) % s = 0 ∧ e.kind = .i .i64 ∧ litPok ((o' - o) / s) = true then .pi n o s (mkIte c e (litP ((o' - o) / s))) else .ite c (.pi n o s e) b
  | _ => .ite c (.pi n o s e) b
def mergeQ (c : E) (n o n' o' s' : Nat) (e' : E) : SV :=
  if n = n' ∧ o' ≤ o ∧ (o - o') % s' = 0 ∧ e'.kind = .i .i64 ∧ litPok ((o - o') / s') = true then .pi n o' s' (mkIte c (litP ((o - o') / s')) e') else .ite c (.ptr n o) (.pi n' o' s' e')
theorem litP_den {F : Fam} {ρ : Nat → Int} {q : Nat} (h : litPok q = true) : (litP q).den F ρ = (q : Int) := by
  simpa [litP, litPok, E.den, K.norm] using h
theorem mkIte_den64 {F : Fam} {ρ : Nat → Int} {c a b : E} (hc : c.kind = .b) (ha : a.kind = .i .i64) (hb : b.kind = .i .i64) : (mkIte c a b).den F ρ = bif c.tt F ρ then a.den F ρ else b.den F ρ := by
  have h := mkIte_spec c a b hc (ha.trans hb.symm) F ρ
  have hk : (mkIte c a b).kind = .i .i64 := by rw [h.2, ha]
  have h1 := h.1
  rw [E.val_i hk, E.val_i ha, E.val_i hb] at h1
  cases hcc : c.tt F ρ <;> simp only [hcc, cond_true, cond_false, Value.int.injEq] at h1 ⊢ <;> exact h1.2
theorem off_row {o o' s : Nat} (h : o ≤ o') (hm : (o' - o) % s = 0) : o + (o' - o) / s * s = o' := by
  have := Nat.div_add_mod (o' - o) s
  rw [hm, Nat.add_zero, Nat.mul_comm] at this
  omega
theorem mergeP_conc {F : Fam} {ρ : Nat → Int} {ad : Nat → Hd} {c : E} (hc : c.kind = .b) (n o s : Nat) (e : E) (b : SV) : (mergeP c n o s e b).conc F ρ ad = bif c.tt F ρ then (SV.pi n o s e).conc F ρ ad else b.conc F ρ ad := by
  unfold mergeP
  split
  · split
    · rename_i h
      obtain ⟨rfl, rfl, rfl, h1, h2⟩ := h
      simp only [SV.conc, mkIte_den64 hc h1 h2]
      cases c.tt F ρ <;> rfl
    · simp [SV.conc]
  · split
    · rename_i h
      obtain ⟨rfl, h1, h2, h3, h4⟩ := h
      simp only [SV.conc, mkIte_den64 hc h3 (show (litP _).kind = .i .i64 from rfl), litP_den h4]
      cases c.tt F ρ
      · simp only [cond_false, Int.toNat_natCast, off_row h1 h2]
      · rfl
    · simp [SV.conc]
  · simp [SV.conc]
theorem mergeQ_conc {F : Fam} {ρ : Nat → Int} {ad : Nat → Hd} {c : E} (hc : c.kind = .b) (n o n' o' s' : Nat) (e' : E) : (mergeQ c n o n' o' s' e').conc F ρ ad = bif c.tt F ρ then (SV.ptr n o).conc F ρ ad else (SV.pi n' o' s' e').conc F ρ ad := by
  unfold mergeQ
  split
  · rename_i h
    obtain ⟨rfl, h1, h2, h3, h4⟩ := h
    simp only [SV.conc, mkIte_den64 hc (show (litP _).kind = .i .i64 from rfl) h3, litP_den h4]
    cases c.tt F ρ
    · rfl
    · simp only [cond_true, Int.toNat_natCast, off_row h1 h2]
  · simp [SV.conc]
theorem mergeP_ok {p : Nat → Prop} {c : E} (n o s : Nat) (e : E) (b : SV) (h1 : p n) (h2 : b.ok p) : (mergeP c n o s e b).ok p := by
  unfold mergeP
  split
  · split <;> simp only [SV.ok] at h2 ⊢ <;> simp_all
  · split <;> simp only [SV.ok] at h2 ⊢ <;> simp_all
  · simp only [SV.ok]; exact ⟨h1, h2⟩
theorem mergeQ_ok {p : Nat → Prop} {c : E} (n o n' o' s' : Nat) (e' : E) (h1 : p n) (h2 : p n') : (mergeQ c n o n' o' s' e').ok p := by
  unfold mergeQ
  split <;> simp only [SV.ok] <;> simp_all

mutual
def merge (c : E) : SV → SV → SV
  | .sc x, .sc y => if x.kind = y.kind then .sc (mkIte c x y) else .ite c (.sc x) (.sc y)
  | .agg xs, .agg ys => if xs.length = ys.length then .agg (mergeL c xs ys) else .ite c (.agg xs) (.agg ys)
  | .pi n o s e, b => mergeP c n o s e b
  | .ptr n o, .pi n' o' s' e' => mergeQ c n o n' o' s' e'
  | a, b => if SV.same a b = true then a else .ite c a b
def mergeL (c : E) : List SV → List SV → List SV
  | x :: xs, y :: ys => merge c x y :: mergeL c xs ys
  | _, _ => []
end

mutual
theorem merge_conc {F : Fam} {ρ : Nat → Int} {ad : Nat → Hd} {c : E} (hc : c.kind = .b) : ∀ (a b : SV), (merge c a b).conc F ρ ad = bif c.tt F ρ then a.conc F ρ ad else b.conc F ρ ad
  | .sc x, b => by
    cases b with
    | sc y =>
      simp only [merge]
      split
      · rename_i hk; simp only [SV.conc]; exact (mkIte_spec c x y hc hk F ρ).1
      · simp [SV.conc]
    | _ => simp [merge, SV.same, SV.conc]
  | .agg xs, b => by
    cases b with
    | agg ys =>
      simp only [merge]
      split
      · rename_i hk; simp only [SV.conc]; rw [mergeL_conc hc xs ys hk]; cases c.tt F ρ <;> rfl
      · simp [SV.conc]
    | _ => simp [merge, SV.same, SV.conc]
  | .pi n o s e, b => by simp only [merge]; exact mergeP_conc hc n o s e b
  | .ptr n o, b => by
    cases b with
    | pi n' o' s' e' => simp only [merge]; exact mergeQ_conc hc n o n' o' s' e'
    | _ =>
      simp only [merge]
      split
      · rename_i h; rw [← SV.same_eq _ _ h]; cases c.tt F ρ <;> rfl
      · simp [SV.conc]
  | .sl .., b | .ls .., b | .sv .., b | .pe .., b | .mp _, b | .oq _, b | .fn .., b | .tup .., b | .gd .., b | .ite .., b | .und, b | .nilp _, b | .gl .., b => by
    simp only [merge]
    split
    · rename_i h; rw [← SV.same_eq _ _ h]; cases c.tt F ρ <;> rfl
    · simp [SV.conc]
theorem mergeL_conc {F : Fam} {ρ : Nat → Int} {ad : Nat → Hd} {c : E} (hc : c.kind = .b) : ∀ (a b : List SV), a.length = b.length → SV.concL F ρ ad (mergeL c a b) = bif c.tt F ρ then SV.concL F ρ ad a else SV.concL F ρ ad b
  | [], [], _ => by cases c.tt F ρ <;> rfl
  | [], _ :: _, h => by simp at h
  | _ :: _, [], h => by simp at h
  | x :: xs, y :: ys, h => by
    simp only [mergeL, SV.concL, merge_conc hc x y, mergeL_conc hc xs ys (by simpa using h)]
    cases c.tt F ρ <;> rfl
end

mutual
theorem merge_ok {p : Nat → Prop} {c : E} : ∀ (a b : SV), a.ok p → b.ok p → (merge c a b).ok p
  | .sc x, b, ha, hb => by
    cases b with
    | sc y => simp only [merge]; split <;> simp [SV.ok]
    | _ => simp only [merge, SV.same, Bool.false_eq_true, if_false]; exact ⟨ha, hb⟩
  | .agg xs, b, ha, hb => by
    cases b with
    | agg ys =>
      simp only [merge]
      simp only [SV.ok] at ha hb
      split
      · simp only [SV.ok]; exact mergeL_ok xs ys ha hb
      · simp only [SV.ok]; exact ⟨ha, hb⟩
    | _ => simp only [merge, SV.same, Bool.false_eq_true, if_false]; exact ⟨ha, hb⟩
  | .pi n o s e, b, ha, hb => by simp only [merge]; exact mergeP_ok n o s e b ha hb
  | .ptr n o, b, ha, hb => by
    cases b with
    | pi n' o' s' e' => simp only [merge]; exact mergeQ_ok n o n' o' s' e' ha hb
    | _ =>
      simp only [merge]
      split
      · exact ha
      · simp only [SV.ok] at ha hb ⊢; simp_all
  | .sl .., b, ha, hb | .ls .., b, ha, hb | .sv .., b, ha, hb | .pe .., b, ha, hb | .mp _, b, ha, hb | .oq _, b, ha, hb | .fn .., b, ha, hb | .tup .., b, ha, hb | .gd .., b, ha, hb | .ite .., b, ha, hb | .und, b, ha, hb | .nilp _, b, ha, hb | .gl .., b, ha, hb => by
    simp only [merge]
    split
    · exact ha
    · simp only [SV.ok] at ha ⊢; exact ⟨ha, hb⟩
theorem mergeL_ok {p : Nat → Prop} {c : E} : ∀ (a b : List SV), SV.okL p a → SV.okL p b → SV.okL p (mergeL c a b)
  | [], _, _, _ => by simp [mergeL, SV.okL]
  | _ :: _, [], _, _ => by simp [mergeL, SV.okL]
  | x :: xs, y :: ys, ha, hb => by
    simp only [SV.okL] at ha hb
    simp only [mergeL, SV.okL]
    exact ⟨merge_ok x y ha.1 hb.1, mergeL_ok xs ys ha.2 hb.2⟩
end

theorem mergeL_length (c : E) : ∀ (a b : List SV), a.length = b.length → (mergeL c a b).length = a.length
  | [], [], _ => rfl
  | [], _ :: _, h => by simp at h
  | _ :: _, [], h => by simp at h
  | x :: xs, y :: ys, h => by simp [mergeL, mergeL_length c xs ys (by simpa using h)]

/-! ### numbers as values -/
def K.val : K → Int → Value
  | .b, n => .bool (i2b n)
  | .i k, n => .int k n
  | .x, n => .int .i64 n
theorem val_of_kind {F : Fam} {ρ : Nat → Int} {e : E} : e.kind.val (e.den F ρ) = e.val F ρ := by
  unfold E.val K.val E.tt
  cases e.kind <;> rfl

/-- The numbers are of these kinds. -/
def fits : List K → List Int → Prop
  | [], [] => True
  | k :: ks, x :: xs => k.norm x = x ∧ fits ks xs
  | _, _ => False
theorem fits_length : ∀ {ks : List K} {xs : List Int}, fits ks xs → xs.length = ks.length
  | [], [], _ => rfl
  | [], _ :: _, h => h.elim
  | _ :: _, [], h => h.elim
  | _ :: ks, _ :: xs, h => by simp [fits_length h.2]
theorem fits_get : ∀ {ks : List K} {xs : List Int}, fits ks xs → ∀ i k, ks[i]? = some k → k.norm (xs.getD i 0) = xs.getD i 0
  | [], [], _, i, k, hi => by simp at hi
  | [], _ :: _, h, _, _, _ => h.elim
  | _ :: _, [], h, _, _, _ => h.elim
  | _ :: ks, _ :: xs, h, 0, k, hi => by simp at hi; subst hi; exact h.1
  | _ :: ks, _ :: xs, h, i + 1, k, hi => by simpa using fits_get h.2 i k (by simpa using hi)

/-- What the cells of one row hold: numbers, or slices whose rows are again such. -/
inductive Row where
  | nil
  | c (k : K) (r : Row)
  | ls (ty : Nat) (q r : Row)
  deriving Repr, Inhabited, DecidableEq
def Row.size : Row → Nat
  | .nil => 0
  | .c _ r => r.size + 1
  | .ls _ _ r => r.size + 1
def Row.ofKs : List K → Row
  | [] => .nil
  | k :: ks => .c k (Row.ofKs ks)

end Go.Proofs.Ytmolkkphnehgcaa.Ew

/- Operations on lists, told by descriptors that hang on their operands alone, under conditions that are told with them. The program is a variable. -/
import Derived.Test.YtmolkkphnehgcaaWG
set_option linter.unusedVariables false
set_option linter.unusedSimpArgs false
namespace Go.Proofs.Ytmolkkphnehgcaa.Ew
open Go Go.RowKit

def valN (r : Result Value) : Result Next := r.andThen fun v w => .ok (.value v) w

inductive X where
  | old (d : D)
  | len (x : SV)
  | lde (n str : Nat) (i : E) (o sz : Nat) (ag : Bool)
  | ste (n str : Nat) (i : E) (o : Nat) (cs : List SV)
  | app (t e rt : Nat) (x y : SV)
  | sub (t e : Nat) (x : SV) (lo hi : Option E)
  | mk (t e : Nat) (n c : E)
  | bl (e : Nat) (ks : List K) (cs : List SV) (len : Nat)
  | mnew (t : Nat)
  | mlk (t n : Nat) (k : SV) (ok : Bool)
  | mup (t n : Nat) (k v : SV)
  | mdl (t kt ty n : Nat) (k : SV)
  | mln (t ty n : Nat)
  | vix (t n str : Nat) (l0 lo hi i : E)
  | clr (t ty e n : Nat) (le : E)
  | lds (n off str : Nat) (e : E) (sz : Nat) (ag : Bool)
  | sts (n off str : Nat) (e : E) (cs : List SV)
  deriving Repr, Inhabited

def lenR (v : Value) (w : World) : Result Next :=
  match v with
  | .slice _ n _ => .ok (.value (goInt n)) w
  | _ => .halt (.stuck "") w

def X.run (P : Program) (F : Fam) (ρ : Nat → Int) (ad : Nat → Hd) (w : World) : X → Result Next
  | .old d => d.run P F ρ ad w
  | .len x => lenR (x.conc F ρ ad) w
  | .lde n str i o sz ag => ldSem P w (ad n).blk ((ad n).off + (i.den F ρ).toNat * str + o) sz ag
  | .ste n str i o cs => stSem P w (ad n).blk ((ad n).off + (i.den F ρ).toNat * str + o) (SV.concL F ρ ad cs)
  | .app t _ rt x y => valN ((Builtin.append_ #[t, t] rt #[x.conc F ρ ad, y.conc F ρ ad]).run P w)
  | .sub t _ x lo hi => valN ((Instr.sliceAt t (x.conc F ρ ad) (lo.map (E.val F ρ)) (hi.map (E.val F ρ)) none).run P w)
  | .mk t _ n c => valN ((Instr.makeSlice t (n.val F ρ) (c.val F ρ)).run P w)
  | .bl e _ cs nl => (D.new e cs (some nl)).run P F ρ ad w
  | .mnew t => .ok (.value (.map (some w.heap.size))) (w.alloc (.map #[] 0))
  | .mlk t n k ok => valN ((Instr.lookup t (.map (some (ad n).blk)) (k.conc F ρ ad) ok).run P w)
  | .mup t n k v => ((Instr.mapUpdate t (.map (some (ad n).blk)) (k.conc F ρ ad) (v.conc F ρ ad)).run P w).andThen fun _ w' => .ok .skip w'
  | .mdl t kt ty n k => valN ((Builtin.delete_ #[t, kt] ty #[.map (some (ad n).blk), k.conc F ρ ad]).run P w)
  | .mln t ty n => valN ((Builtin.len_ #[t] ty #[.map (some (ad n).blk)]).run P w)
  | .vix t n str l0 lo hi i => valN ((Instr.indexAt t ((SV.sv n str l0 lo hi).conc F ρ ad) (i.val F ρ)).run P w)
  | .clr t ty e n le => valN ((Builtin.clear_ #[t] ty #[(SV.ls n le).conc F ρ ad]).run P w)
  | .lds n off str e sz ag => ldSem P w (ad n).blk (off + (e.den F ρ).toNat * str) sz ag
  | .sts n off str e cs => stSem P w (ad n).blk (off + (e.den F ρ).toNat * str) (SV.concL F ρ ad cs)

def X.good (F : Fam) (ρ : Nat → Int) (p : Nat → Prop) : X → Prop
  | .old d => d.good F ρ p
  | .len x => x.ok p
  | .lde n .. => p n
  | .ste n _ _ _ cs => p n ∧ SV.okL p cs ∧ cs.all SV.one = true
  | .app _ _ _ x y => x.ok p ∧ y.ok p
  | .sub _ _ x _ _ => x.ok p
  | .mk .. => True
  | .bl e _ cs nl => (D.new e cs (some nl)).good F ρ p
  | .mnew _ => True
  | .mlk _ n k _ => p n ∧ k.ok p
  | .mup _ n k v => p n ∧ k.ok p ∧ v.ok p
  | .mdl _ _ _ n k => p n ∧ k.ok p
  | .mln _ _ n => p n
  | .vix _ n .. => p n
  | .clr _ _ _ n _ => p n
  | .lds n .. => p n
  | .sts n _ _ _ cs => p n ∧ SV.okL p cs ∧ cs.all SV.one = true

def pieces (leaf : TypeId → Option (List K)) (P : Program) : List (TypeId × Nat) → Nat → Option (List K)
  | [], _ => some []
  | (t, o) :: r, off => if o = off then
      match leaf t with
      | some ks => if P.cellsOf t = ks.length then (pieces leaf P r (off + ks.length)).map (ks ++ ·) else none
      | none => none
    else none
def leafOf (P : Program) : Nat → TypeId → Option (List K)
  | 0, _ => none
  | n + 1, t => match P.underlying t with
    | some .bool => some [.b]
    | some (.int k) => some [.i k]
    | some (.struct fs) => match pieces (leafOf P n) P (fs.toList.map fun f => (f.type, f.offset)) 0 with
      | some ks => if P.cellsOf t = ks.length then some ks else none
      | none => none
    | some (.array m e) => match pieces (leafOf P n) P ((List.range m).map fun i => (e, i * P.cellsOf e)) 0 with
      | some ks => if P.cellsOf t = ks.length then some ks else none
      | none => none
    | _ => none

/-- Scalars of these kinds, as expressions. -/
def scs : List K → List SV → Option (List E)
  | [], [] => some []
  | k :: ks, .sc e :: cs => if e.kind = k ∧ e.sound = true then (scs ks cs).map (e :: ·) else none
  | _, _ => none
def snocs (ks : List K) : Nat → List SV → E → Option E
  | 0, cs, c => if cs.length = 0 then some c else none
  | n + 1, cs, c => match scs ks (cs.take ks.length) with
    | some es => snocs ks n (cs.drop ks.length) (.app .x 0 3 (c :: es))
    | none => none
/-- The greatest number of elements that a list may have. -/
def capOf (bytes : Nat) : Nat := 140737488355328 / (max bytes 1)
def infoOf (P : Program) (e : Nat) : Option (Nat × Nat) := (P.info? e).bind fun i => (i.zero).bind fun z => if z.cells.size = i.size ∧ 0 < i.size then some (i.size, i.bytes) else none

/-- Literal slices of rows of numbers are lists. -/
def lift (P : Program) : D → X
  | .new e cs (some len) => match leafOf P 20 e, infoOf P e with
    | some ks, some (size, bytes) => bif (snocs ks len cs NILL).isSome && decide (size = ks.length) && decide ((len : Int) ≤ capOf bytes) then .bl e ks cs len else .old (.new e cs (some len))
    | _, _ => .old (.new e cs (some len))
  | d => .old d

/-- Is it nil? -/
def nilE : SV → Option E
  | .nilp .nP => some (mkB true)
  | .ptr .. | .pi .. | .pe .. | .gl .. => some (mkB false)
  | .ite c a b => match nilE a, nilE b with
    | some x, some y => if c.kind = .b ∧ x.kind = .b ∧ y.kind = .b then some (mkIte c x y) else none
    | _, _ => none
  | _ => none
def isNilP : SV → Bool
  | .nilp .nP => true
  | _ => false
def ptrT (P : Program) (t : Nat) : Bool :=
  match P.underlying t with
  | some (.pointer _) => true
  | _ => false
def inB (i le : E) : E := mkAnd (mkCmp .geq i (.lit (.i .i64) 0)) (mkCmp .lss i le)

def scI (get : Operand → Option SV) (x : Operand) : Option E :=
  match get x with
  | some (.sc e) => match e.kind with
    | .i .i64 => some e
    | _ => none
  | _ => none
def scO (get : Operand → Option SV) : Option Operand → Option (Option E)
  | none => some none
  | some x => (scI get x).map some
def elemOf (P : Program) (t : Nat) : Option Nat :=
  match P.underlying t with
  | some (.slice e) => some e
  | _ => none
def isSlV : SV → Bool
  | .ls .. | .sv .. | .nilp .nS => true
  | .ite _ a b => isSlV a && isSlV b
  | .sl .. => true
  | _ => false

def descL (P : Program) (get : Operand → Option SV) (o : Oper) : Option (E × X) :=
  match o.op with
  | .load t a => match get a, aggOf P t, szOf P t with
    | some (.pe n s i f), some ag, some sz => some (mkB true, .lde n s i f sz ag)
    | _, _, _ => none
  | .store t a x => match get a, get x, szOf P t with
    | some (.pe n s i f), some v, some sz => if v.cells.length = sz ∧ v.cells.all SV.one = true then some (mkB true, .ste n s i f v.cells) else none
    | _, _, _ => none
  | .indexAddr t x ix => match elemOf P t, get x, scI get ix with
    | some e, some (.ls n le), some i => match szOf P e with
      | some s => some (inB i le, X.old (.val (.pe n s i 0)))
      | none => none
    | _, _, _ => none
  | .binOp op t x y _ => match get x, get y with
    | some a, some b => if ptrT P t = true then
        match op, isNilP a, isNilP b with
        | .eql, _, true => (nilE a).map fun e => (mkB true, X.old (.val (.sc e)))
        | .eql, true, _ => (nilE b).map fun e => (mkB true, X.old (.val (.sc e)))
        | .neq, _, true => (nilE a).map fun e => (mkB true, X.old (.val (.sc (mkNot e))))
        | .neq, true, _ => (nilE b).map fun e => (mkB true, X.old (.val (.sc (mkNot e))))
        | _, _, _ => none
      else none
    | _, _ => none
  | .slice t x lo hi none => match elemOf P t, get x, scO get lo, scO get hi with
    | some e, some v, some l, some h => if isSlV v = true then some (mkB true, .sub t e v l h) else none
    | _, _, _, _ => none
  | .makeSlice t l c => match elemOf P t, scI get l, scI get c with
    | some e, some n, some k => some (mkB true, .mk t e n k)
    | _, _, _ => none
  | .call c => match c.callee, c.args.toList, c.argTypes.toList with
    | .builtin .len, [x], [t] => match elemOf P t, get x with
      | some _, some v => if isSlV v = true then some (mkB true, .len v) else none
      | _, _ => none
    | .builtin .append, [x, y], [t, t'] => match elemOf P t, get x, get y with
      | some e, some a, some b => if t' = t ∧ isSlV a = true ∧ isSlV b = true then some (mkB true, .app t e o.type a b) else none
      | _, _, _ => none
    | _, _, _ => none
  | _ => none

/-! ### pointers that are nil or not -/
def badP : SV → Bool
  | .nilp _ => true
  | .und => true
  | _ => false
def force : SV → E × SV
  | .ite c a b =>
    if c.kind = .b then
      bif badP a then (mkAnd (mkNot c) (force b).1, (force b).2)
      else bif badP b then (mkAnd c (force a).1, (force a).2)
      else (mkB true, .ite c a b)
    else (mkB true, .ite c a b)
  | v => (mkB true, v)

section
variable {P : Program} {F : Fam} {ρ : Nat → Int} {ad : Nat → Hd} {p : Nat → Prop} {w : World} {get : Operand → Option SV} {ev : Operand → Value}

theorem run_equalIn_nil_pointer (w : World) (d : Nat) (t : Nat) (q : Option Addr) (h : P.underlying t = some (.pointer (P.pointee t))) : (Op.equalIn (d + 1) t (.pointer none) (.pointer q)).run P w = .ok q.isNone w := by
  cases q <;> simp [Op.equalIn, run_underlying h]
theorem run_equal_nil_pointer (w : World) (t : Nat) (q : Option Addr) (h : P.underlying t = some (.pointer (P.pointee t))) : (Op.equal t (.pointer none) (.pointer q)).run P w = .ok q.isNone w :=
  run_equalIn_nil_pointer w 9999 t q h

theorem force_kind : ∀ v : SV, (force v).1.kind = .b
  | .ite c a b => by
    simp only [force]
    split
    · rename_i hk
      cases badP a
      · cases badP b
        · exact mkB_kind _
        · exact (mkAnd_spec c _ hk (force_kind a) (fun _ _ _ => 0) fun _ => 0).2
      · exact (mkAnd_spec (mkNot c) _ (mkNot_spec c (fun _ _ _ => 0) fun _ => 0).2 (force_kind b) (fun _ _ _ => 0) fun _ => 0).2
    · exact mkB_kind _
  | .sc _ | .ptr .. | .pi .. | .sl .. | .ls .. | .sv .. | .pe .. | .mp .. | .oq .. | .fn .. | .agg .. | .tup .. | .gd .. | .und | .nilp _ | .gl .. => by simp [force]
theorem force_spec : ∀ v : SV, ((force v).1.tt F ρ = true → v.conc F ρ ad = (force v).2.conc F ρ ad) ∧ (v.ok p → (force v).2.ok p)
  | .ite c a b => by
    simp only [force]
    split
    · rename_i hk
      cases badP a
      · cases badP b
        · exact ⟨fun _ => rfl, fun h => h⟩
        · simp only [cond_true, cond_false]
          have h1 := (mkAnd_spec c _ hk (force_kind a) F ρ).1
          obtain ⟨i1, i2⟩ := force_spec a
          refine ⟨fun h => ?_, fun h => i2 h.1⟩
          rw [h1, Bool.and_eq_true] at h
          simp only [SV.conc, h.1, cond_true]
          exact i1 h.2
      · simp only [cond_true]
        have h1 := (mkAnd_spec (mkNot c) _ (mkNot_spec c F ρ).2 (force_kind b) F ρ).1
        obtain ⟨i1, i2⟩ := force_spec b
        refine ⟨fun h => ?_, fun h => i2 h.2⟩
        rw [h1, Bool.and_eq_true, (mkNot_spec c F ρ).1] at h
        have hc : c.tt F ρ = false := by simpa using h.1
        simp only [SV.conc, hc, cond_false]
        exact i1 h.2
    · exact ⟨fun _ => rfl, fun h => h⟩
  | .sc _ | .ptr .. | .pi .. | .sl .. | .ls .. | .sv .. | .pe .. | .mp .. | .oq .. | .fn .. | .agg .. | .tup .. | .gd .. | .und | .nilp _ | .gl .. => by simp [force]

/-- The operands of an operation, pointers forced. -/
def forceG (get : Operand → Option SV) (ts : List Nat) : Operand → Option SV
  | .tmp t => if ts.contains t = true then (get (.tmp t)).map fun v => (force v).2 else none
  | x => get x
def forceOb (get : Operand → Option SV) : List Nat → E
  | [] => mkB true
  | t :: r => match get (.tmp t) with
    | some v => mkAnd (force v).1 (forceOb get r)
    | none => forceOb get r
def tmpsOf : List Operand → List Nat
  | [] => []
  | .tmp t :: r => t :: tmpsOf r
  | _ :: r => tmpsOf r
theorem forceOb_kind (get : Operand → Option SV) : ∀ l, (forceOb get l).kind = .b
  | [] => mkB_kind _
  | x :: r => by
    simp only [forceOb]
    split
    · exact (mkAnd_spec _ _ (force_kind _) (forceOb_kind get r) (fun _ _ _ => 0) fun _ => 0).2
    · exact forceOb_kind get r
theorem forceOb_spec : ∀ {l : List Nat}, (forceOb get l).tt F ρ = true → ∀ x ∈ l, ∀ v, get (.tmp x) = some v → (force v).1.tt F ρ = true
  | [], _, x, hx, _, _ => by cases hx
  | y :: r, h, x, hx, v, hv => by
    simp only [forceOb] at h
    split at h
    · rename_i u hu
      rw [(mkAnd_spec _ _ (force_kind _) (forceOb_kind get r) F ρ).1, Bool.and_eq_true] at h
      rcases List.mem_cons.1 hx with rfl | hx
      · rw [hv] at hu; simp only [Option.some.injEq] at hu; subst hu; exact h.1
      · exact forceOb_spec h.2 x hx v hv
    · rename_i hu
      rcases List.mem_cons.1 hx with rfl | hx
      · rw [hv] at hu; cases hu
      · exact forceOb_spec h x hx v hv
theorem forceG_spec (hg : ∀ x v, get x = some v → ev x = v.conc F ρ ad ∧ v.ok p) {ts : List Nat} (hf : (forceOb get ts).tt F ρ = true) : ∀ x v, forceG get ts x = some v → ev x = v.conc F ρ ad ∧ v.ok p := by
  intro x v h
  cases x with
  | tmp t =>
    simp only [forceG] at h
    split at h
    · rename_i hc
      obtain ⟨u, h1, rfl⟩ := Option.map_eq_some_iff.1 h
      obtain ⟨i1, i2⟩ := hg _ u h1
      have hft := forceOb_spec hf t (by simpa using hc) u h1
      exact ⟨i1.trans ((force_spec (F := F) (ρ := ρ) (ad := ad) (p := p) u).1 hft), (force_spec (F := F) (ρ := ρ) (ad := ad) (p := p) u).2 i2⟩
    · cases h
  | const _ => exact hg _ v h
  | global _ => exact hg _ v h
  | func _ => exact hg _ v h
theorem forceG_ok (hg : ∀ x v, get x = some v → v.ok p) {ts : List Nat} : ∀ x v, forceG get ts x = some v → v.ok p := by
  intro x v h
  cases x with
  | tmp t =>
    simp only [forceG] at h
    split at h
    · obtain ⟨u, h1, rfl⟩ := Option.map_eq_some_iff.1 h
      exact (force_spec (F := fun _ _ _ => 0) (ρ := fun _ => 0) (ad := fun _ => default) (p := p) u).2 (hg _ u h1)
    · cases h
  | const _ => exact hg _ v h
  | global _ => exact hg _ v h
  | func _ => exact hg _ v h

theorem nilE_spec : ∀ {v : SV} {e : E}, nilE v = some e → e.kind = .b ∧ ∃ a, v.conc F ρ ad = .pointer a ∧ e.tt F ρ = a.isNone
  | .nilp c, e, h => by
    cases c <;> simp only [nilE, Option.some.injEq, reduceCtorEq] at h
    subst h
    exact ⟨rfl, none, rfl, by simp⟩
  | .ptr .., e, h | .pi .., e, h | .pe .., e, h | .gl .., e, h => by
    simp only [nilE, Option.some.injEq] at h
    subst h
    exact ⟨rfl, _, rfl, by simp⟩
  | .ite c a b, e, h => by
    simp only [nilE] at h
    split at h
    · rename_i x y hx hy
      split at h
      · rename_i hk
        simp only [Option.some.injEq] at h
        subst h
        obtain ⟨i1, pa, i2, i3⟩ := nilE_spec (v := a) hx
        obtain ⟨j1, pb, j2, j3⟩ := nilE_spec (v := b) hy
        have hm := mkIte_spec c x y hk.1 (by rw [hk.2.1, hk.2.2]) F ρ
        refine ⟨by rw [hm.2, hk.2.1], ?_⟩
        have hv := hm.1
        rw [E.val_b (by rw [hm.2, hk.2.1]), E.val_b hk.2.1, E.val_b hk.2.2] at hv
        cases hc : c.tt F ρ
        · simp only [hc, cond_false, Value.bool.injEq] at hv
          exact ⟨pb, by simp only [SV.conc, hc, cond_false]; exact j2, by rw [hv, j3]⟩
        · simp only [hc, cond_true, Value.bool.injEq] at hv
          exact ⟨pa, by simp only [SV.conc, hc, cond_true]; exact i2, by rw [hv, i3]⟩
      · cases h
    · cases h
  | .sc _, e, h | .sl .., e, h | .ls .., e, h | .sv .., e, h | .mp .., e, h | .oq .., e, h | .fn .., e, h | .agg .., e, h | .tup .., e, h | .gd .., e, h | .und, e, h => by simp [nilE] at h

theorem scI_spec (hg : ∀ x v, get x = some v → ev x = v.conc F ρ ad ∧ v.ok p) {x : Operand} {e : E} (h : scI get x = some e) : ev x = .int .i64 (e.den F ρ) ∧ e.kind = .i .i64 := by
  unfold scI at h
  split at h
  · rename_i e' hx
    split at h
    · rename_i hk
      simp only [Option.some.injEq] at h
      subst h
      exact ⟨by rw [(hg x _ hx).1]; simp only [SV.conc, E.val_i hk], hk⟩
    · cases h
  · cases h
theorem scO_spec (hg : ∀ x v, get x = some v → ev x = v.conc F ρ ad ∧ v.ok p) {x : Option Operand} {e : Option E} (h : scO get x = some e) : x.map ev = e.map (E.val F ρ) := by
  cases x with
  | none => simp only [scO, Option.some.injEq] at h; subst h; rfl
  | some y =>
    obtain ⟨e', h1, rfl⟩ := Option.map_eq_some_iff.1 h
    obtain ⟨i1, i2⟩ := scI_spec hg h1
    simp [i1, E.val_i i2]
theorem elemOf_spec {t e : Nat} (h : elemOf P t = some e) : P.underlying t = some (.slice e) := by
  unfold elemOf at h
  split at h
  · simp only [Option.some.injEq] at h; subst h; assumption
  · cases h
theorem ptrT_spec {t : Nat} (h : ptrT P t = true) : P.underlying t = some (.pointer (P.pointee t)) := by
  unfold ptrT at h
  split at h
  · rename_i e hu; simp [Program.pointee, hu]
  · cases h
theorem inB_spec {i le : E} : (inB i le).kind = .b ∧ ((inB i le).tt F ρ = true → 0 ≤ i.den F ρ ∧ i.den F ρ < le.den F ρ) := by
  have h1 := mkCmp_spec .geq i (.lit (.i .i64) 0) F ρ
  have h2 := mkCmp_spec .lss i le F ρ
  have h3 := mkAnd_spec _ _ h1.2 h2.2 F ρ
  refine ⟨h3.2, fun h => ?_⟩
  unfold inB at h
  rw [h3.1, h1.1, h2.1, Bool.and_eq_true] at h
  simp only [cmpB, decide_eq_true_eq] at h
  have h0 : (E.lit (.i .i64) 0).den F ρ = 0 := by rfl
  rw [h0] at h
  exact ⟨h.1, h.2⟩

theorem isSlV_spec : ∀ {v : SV}, isSlV v = true → ∃ a n c, v.conc F ρ ad = .slice a n c
  | .ls n le, _ => by
    simp only [SV.conc, Hd.sl]
    cases (ad n).nil && (E.den F ρ le).toNat == 0
    · exact ⟨_, _, _, rfl⟩
    · exact ⟨_, _, _, rfl⟩
  | .sv n str l0 lo hi, _ => by
    simp only [SV.conc, Hd.sl]
    cases ((ad n).part (l0.den F ρ).toNat (lo.den F ρ).toNat str).nil && ((hi.den F ρ).toNat - (lo.den F ρ).toNat) == 0
    · exact ⟨_, _, _, rfl⟩
    · exact ⟨_, _, _, rfl⟩
  | .nilp c, h => by cases c <;> simp [isSlV] at h; exact ⟨_, _, _, rfl⟩
  | .sl .., _ => ⟨_, _, _, rfl⟩
  | .ite c a b, h => by
    simp only [isSlV, Bool.and_eq_true] at h
    simp only [SV.conc]
    cases c.tt F ρ
    · exact isSlV_spec h.2
    · exact isSlV_spec h.1
  | .sc _, h | .ptr .., h | .pi .., h | .pe .., h | .mp .., h | .oq .., h | .fn .., h | .agg .., h | .tup .., h | .gd .., h | .und, h | .gl .., h => by simp [isSlV] at h

theorem descL_kind {o : Oper} {g : E} {x : X} (h : descL P get o = some (g, x)) : g.kind = .b := by
  unfold descL at h
  repeat' split at h
  all_goals first
    | (simp only [Option.some.injEq, Prod.mk.injEq] at h; obtain ⟨rfl, rfl⟩ := h; (first | exact mkB_kind _ | exact (inB_spec (F := fun _ _ _ => 0) (ρ := fun _ => 0)).1))
    | (obtain ⟨e, he, hp⟩ := Option.map_eq_some_iff.1 h; simp only [Prod.mk.injEq] at hp; obtain ⟨rfl, rfl⟩ := hp; exact mkB_kind _)
    | cases h

theorem descL_run {o : Oper} {g : E} {x : X} (hg : ∀ x v, get x = some v → ev x = v.conc F ρ ad ∧ v.ok p) (h : descL P get o = some (g, x)) :
    g.kind = .b ∧ (g.tt F ρ = true → (execOp ev o).run P w = x.run P F ρ ad w) ∧ x.good F ρ p := by
  unfold descL at h
  split at h
  · rename_i t a ho
    split at h
    · rename_i n s i f ag sz h1 h2 h3
      simp only [Option.some.injEq, Prod.mk.injEq] at h
      obtain ⟨rfl, rfl⟩ := h
      obtain ⟨e1, k1⟩ := hg a _ h1
      refine ⟨rfl, fun _ => ?_, k1⟩
      have := loadAt_run (P := P) (w := w) (b := (ad n).blk) (off := (ad n).off + (i.den F ρ).toNat * s + f) h2 h3
      simp only [execOp, ho, e1, SV.conc, X.run]
      exact this
    · cases h
  · rename_i t a x ho
    split at h
    · rename_i n s i f v sz h1 h2 h3
      split at h
      · rename_i hc
        simp only [Option.some.injEq, Prod.mk.injEq] at h
        obtain ⟨rfl, rfl⟩ := h
        obtain ⟨e1, k1⟩ := hg a _ h1
        obtain ⟨e2, k2⟩ := hg x _ h2
        refine ⟨rfl, fun _ => ?_, k1, SV.ok_cells k2, hc.2⟩
        have := storeAt_run (P := P) (F := F) (ρ := ρ) (ad := ad) (w := w) (b := (ad n).blk) (off := (ad n).off + (i.den F ρ).toNat * s + f) h3 hc.1 hc.2
        simp only [execOp, ho, e1, e2, SV.conc, X.run]
        exact this
      · cases h
    · cases h
  · rename_i t x ix ho
    split at h
    · rename_i e n le i h1 h2 h3
      split at h
      · rename_i s hs
        simp only [Option.some.injEq, Prod.mk.injEq] at h
        obtain ⟨rfl, rfl⟩ := h
        obtain ⟨e2, k2⟩ := hg x _ h2
        obtain ⟨e3, k3⟩ := scI_spec hg h3
        refine ⟨(inB_spec (F := F) (ρ := ρ)).1, fun hb => ?_, k2⟩
        obtain ⟨b1, b2⟩ := (inB_spec (F := F) (ρ := ρ)).2 hb
        have hu := elemOf_spec h1
        have hsl : (ad n).sl (le.den F ρ).toNat = .slice (some ⟨(ad n).blk, (ad n).off, none⟩) (le.den F ρ).toNat (ad n).cap := by
          unfold Hd.sl
          have : ((le.den F ρ).toNat == 0) = false := by simp; omega
          rw [this]; simp
        have hlt : i.den F ρ < ((le.den F ρ).toNat : Int) := by omega
        simp [execOp, ho, e2, e3, SV.conc, hsl, X.run, D.run, Instr.indexAt, run_underlying hu, asIntOf, b1, hlt, run_sizeOf' w hs, Addr.add_none]
        intro hh
        omega
      · cases h
    · cases h
  · rename_i op t x y t' ho
    split at h
    · rename_i a b h1 h2
      split at h
      · rename_i ht
        obtain ⟨e1, k1⟩ := hg x _ h1
        obtain ⟨e2, k2⟩ := hg y _ h2
        have hu := ptrT_spec ht
        have nilv : ∀ v : SV, isNilP v = true → v.conc F ρ ad = .pointer none := fun v hv => by
          unfold isNilP at hv
          split at hv
          · rfl
          · cases hv
        have eqr : ∀ (q : Option Addr), (binOp .eql t (.pointer q) (.pointer none)).run P w = .ok (.bool q.isNone) w := fun q => by
          simp only [binOp, Sem.run_bind, run_equal_pointer_nil w t q hu, Result.andThen_ok]
          rfl
        have eql : ∀ (q : Option Addr), (binOp .eql t (.pointer none) (.pointer q)).run P w = .ok (.bool q.isNone) w := fun q => by
          have : (Op.equal t (.pointer none) (.pointer q)).run P w = .ok q.isNone w := run_equal_nil_pointer w t q hu
          simp only [binOp, Sem.run_bind, this, Result.andThen_ok]
          rfl
        have neql : ∀ (q : Option Addr), (binOp .neq t (.pointer none) (.pointer q)).run P w = .ok (.bool (!q.isNone)) w := fun q => by
          have : (Op.equal t (.pointer none) (.pointer q)).run P w = .ok q.isNone w := run_equal_nil_pointer w t q hu
          simp only [binOp, Sem.run_bind, this, Result.andThen_ok]
          rfl
        have neqr : ∀ (q : Option Addr), (binOp .neq t (.pointer q) (.pointer none)).run P w = .ok (.bool (!q.isNone)) w := fun q => by
          simp only [binOp, Sem.run_bind, run_equal_pointer_nil w t q hu, Result.andThen_ok]
          rfl
        have gd : ∀ (op : BinOp) (q r : Option Addr), (eqGuard op t x y (.pointer q) (.pointer r)).run P w = .ok () w := fun op q r => by
          cases op <;> rfl
        have fin : ∀ (op : BinOp) (q r : Option Addr) (z : Bool), o.op = .binOp op t x y t' → ev x = .pointer q → ev y = .pointer r → (binOp op t (.pointer q) (.pointer r)).run P w = .ok (.bool z) w → (execOp ev o).run P w = .ok (.value (.bool z)) w := fun op q r z ho hx hy hb => by
          simp [execOp, ho, hx, hy, gd, hb]
        split at h
        · rename_i hb
          obtain ⟨e, he, hp⟩ := Option.map_eq_some_iff.1 h
          simp only [Prod.mk.injEq] at hp
          obtain ⟨rfl, rfl⟩ := hp
          obtain ⟨i1, q, i2, i3⟩ := nilE_spec (F := F) (ρ := ρ) (ad := ad) he
          refine ⟨rfl, fun _ => ?_, trivial⟩
          rw [fin _ q none _ ho (e1.trans i2) (e2.trans (nilv b hb)) (eqr q)]
          simp [X.run, D.run, SV.conc, E.val_b i1, i3]
        · rename_i hb hn
          obtain ⟨e, he, hp⟩ := Option.map_eq_some_iff.1 h
          simp only [Prod.mk.injEq] at hp
          obtain ⟨rfl, rfl⟩ := hp
          obtain ⟨i1, q, i2, i3⟩ := nilE_spec (F := F) (ρ := ρ) (ad := ad) he
          refine ⟨rfl, fun _ => ?_, trivial⟩
          rw [fin _ none q _ ho (e1.trans (nilv a hb)) (e2.trans i2) (eql q)]
          simp [X.run, D.run, SV.conc, E.val_b i1, i3]
        · rename_i hb
          obtain ⟨e, he, hp⟩ := Option.map_eq_some_iff.1 h
          simp only [Prod.mk.injEq] at hp
          obtain ⟨rfl, rfl⟩ := hp
          obtain ⟨i1, q, i2, i3⟩ := nilE_spec (F := F) (ρ := ρ) (ad := ad) he
          have hn := mkNot_spec e F ρ
          refine ⟨rfl, fun _ => ?_, trivial⟩
          rw [fin _ q none _ ho (e1.trans i2) (e2.trans (nilv b hb)) (neqr q)]
          simp [X.run, D.run, SV.conc, E.val_b hn.2, hn.1, i3]
        · rename_i hb hn
          obtain ⟨e, he, hp⟩ := Option.map_eq_some_iff.1 h
          simp only [Prod.mk.injEq] at hp
          obtain ⟨rfl, rfl⟩ := hp
          obtain ⟨i1, q, i2, i3⟩ := nilE_spec (F := F) (ρ := ρ) (ad := ad) he
          have hn := mkNot_spec e F ρ
          refine ⟨rfl, fun _ => ?_, trivial⟩
          rw [fin _ none q _ ho (e1.trans (nilv a hb)) (e2.trans i2) (neql q)]
          simp [X.run, D.run, SV.conc, E.val_b hn.2, hn.1, i3]
        · cases h
      · cases h
    · cases h
  · rename_i t x lo hi ho
    split at h
    · rename_i e v l u h1 h2 h3 h4
      split at h
      · rename_i hv
        simp only [Option.some.injEq, Prod.mk.injEq] at h
        obtain ⟨rfl, rfl⟩ := h
        obtain ⟨e2, k2⟩ := hg x _ h2
        have e3 := scO_spec (F := F) (ρ := ρ) (ad := ad) (p := p) hg h3
        have e4 := scO_spec (F := F) (ρ := ρ) (ad := ad) (p := p) hg h4
        refine ⟨rfl, fun _ => ?_, k2⟩
        simp only [execOp, ho, e2, e3, e4, X.run, valN, Option.map_none]
        simp only [Sem.run_bind]
        rfl
      · cases h
    · cases h
  · rename_i t l c ho
    split at h
    · rename_i e n k h1 h2 h3
      simp only [Option.some.injEq, Prod.mk.injEq] at h
      obtain ⟨rfl, rfl⟩ := h
      obtain ⟨e2, k2⟩ := scI_spec (F := F) (ρ := ρ) (ad := ad) (p := p) hg h2
      obtain ⟨e3, k3⟩ := scI_spec (F := F) (ρ := ρ) (ad := ad) (p := p) hg h3
      refine ⟨rfl, fun _ => ?_, trivial⟩
      simp only [execOp, ho, e2, e3, X.run, valN, E.val_i k2, E.val_i k3]
      simp only [Sem.run_bind]
      rfl
    · cases h
  · rename_i c ho
    split at h
    · rename_i x t hcal hargs htys
      split at h
      · rename_i e v h1 h2
        split at h
        · rename_i hv
          simp only [Option.some.injEq, Prod.mk.injEq] at h
          obtain ⟨rfl, rfl⟩ := h
          obtain ⟨e2, k2⟩ := hg x _ h2
          refine ⟨rfl, fun _ => ?_, k2⟩
          obtain ⟨a, n, cp, hc⟩ := isSlV_spec (F := F) (ρ := ρ) (ad := ad) hv
          have hu := elemOf_spec h1
          have ea : c.args.map ev = #[ev x] := by apply Array.ext'; simp [hargs]
          have et : c.argTypes = #[t] := by apply Array.ext'; simpa using htys
          have hel : P.elem t = e := by simp [Program.elem, hu]
          have hl := run_len_slice (P := P) w t o.type a n cp (by rw [hel]; exact hu)
          simp only [execOp, ho, resolve, hcal, ea, et, Sem.run_bind, Sem.run_pure, Result.andThen_ok, invoke, builtin, e2, hc, hl, X.run, lenR]
        · cases h
      · cases h
    · rename_i x y t t' hcal hargs htys
      split at h
      · rename_i e a b h1 h2 h3
        split at h
        · rename_i hv
          simp only [Option.some.injEq, Prod.mk.injEq] at h
          obtain ⟨rfl, rfl⟩ := h
          obtain ⟨rfl, _, _⟩ := hv
          obtain ⟨e2, k2⟩ := hg x _ h2
          obtain ⟨e3, k3⟩ := hg y _ h3
          refine ⟨rfl, fun _ => ?_, k2, k3⟩
          have ea : c.args.map ev = #[ev x, ev y] := by apply Array.ext'; simp [hargs]
          have et : c.argTypes = #[t', t'] := by apply Array.ext'; simpa using htys
          simp only [execOp, ho, resolve, hcal, ea, et, Sem.run_bind, Sem.run_pure, Result.andThen_ok, invoke, builtin, e2, e3, X.run, valN]
        · cases h
      · cases h
    · cases h
  · cases h

/-- Division by what is not a literal. -/
def descQ (get : Operand → Option SV) (o : Oper) : Option (E × X) :=
  match o.op with
  | .binOp .quo _ x y _ => match get x, get y with
    | some (.sc a), some (.sc b) => match a.kind with
      | .i k => if b.kind = .i k then some (mkCmp .neq b (.lit (.i k) 0), .old (.val (.sc (.app (.i k) 0 20 [a, b])))) else none
      | _ => none
    | _, _ => none
  | .binOp .rem _ x y _ => match get x, get y with
    | some (.sc a), some (.sc b) => match a.kind with
      | .i k => if b.kind = .i k ∧ a.sound = true then some (mkCmp .neq b (.lit (.i k) 0), .old (.val (.sc (.app (.i k) 0 21 [a, b])))) else none
      | _ => none
    | _, _ => none
  | _ => none

theorem descQ_run (hB : ∀ j xs, F 0 j xs = bi j xs) {o : Oper} {g : E} {x : X} (hg : ∀ x v, get x = some v → ev x = v.conc F ρ ad ∧ v.ok p) (h : descQ get o = some (g, x)) :
    g.kind = .b ∧ (g.tt F ρ = true → (execOp ev o).run P w = x.run P F ρ ad w ∧ x.good F ρ p) := by
  unfold descQ at h
  split at h
  · rename_i t x y t' ho
    split at h
    · rename_i a b h1 h2
      split at h
      · rename_i k hk
        split at h
        · rename_i hb
          simp only [Option.some.injEq, Prod.mk.injEq] at h
          obtain ⟨rfl, rfl⟩ := h
          have hs := mkCmp_spec .neq b (.lit (.i k) 0) F ρ
          refine ⟨hs.2, fun ht => ⟨?_, trivial⟩⟩
          rw [hs.1] at ht
          have hz : (E.lit (.i k) 0).den F ρ = 0 := by simp only [E.den, K.norm]; cases k <;> decide
          have hne : b.den F ρ ≠ 0 := by simpa [cmpB, hz] using ht
          have hv : (E.app (.i k) 0 20 [a, b]).den F ρ = k.wrap ((a.den F ρ).tdiv (b.den F ρ)) := by simp only [E.den, E.denL, K.norm, hB]; rfl
          have e1 := (hg x _ h1).1
          have e2 := (hg y _ h2).1
          simp only [SV.conc, E.val_i hk, E.val_i hb] at e1 e2
          simp only [execOp, ho, e1, e2, X.run, D.run, SV.conc, E.val_i (show (E.app (.i k) 0 20 [a, b]).kind = .i k from rfl), hv]
          simp [eqGuard, binOp_quo, Op.intDiv, hne]
        · cases h
      · cases h
    · cases h
  · rename_i t x y t' ho
    split at h
    · rename_i a b h1 h2
      split at h
      · rename_i k hk
        split at h
        · rename_i hb
          simp only [Option.some.injEq, Prod.mk.injEq] at h
          obtain ⟨rfl, rfl⟩ := h
          have hs := mkCmp_spec .neq b (.lit (.i k) 0) F ρ
          refine ⟨hs.2, fun ht => ⟨?_, trivial⟩⟩
          rw [hs.1] at ht
          have hz : (E.lit (.i k) 0).den F ρ = 0 := by simp only [E.den, K.norm]; cases k <;> decide
          have hne : b.den F ρ ≠ 0 := by simpa [cmpB, hz] using ht
          have hn := E.den_norm F ρ a hb.2
          rw [hk] at hn
          have hv : (E.app (.i k) 0 21 [a, b]).den F ρ = (a.den F ρ).tmod (b.den F ρ) := by
            simp only [E.den, E.denL, K.norm, hB]
            exact tmod_wrap k _ _ hn
          have e1 := (hg x _ h1).1
          have e2 := (hg y _ h2).1
          simp only [SV.conc, E.val_i hk, E.val_i hb.1] at e1 e2
          simp only [execOp, ho, e1, e2, X.run, D.run, SV.conc, E.val_i (show (E.app (.i k) 0 21 [a, b]).kind = .i k from rfl), hv]
          simp [eqGuard, binOp_rem, Op.intDiv, hne]
        · cases h
      · cases h
    · cases h
  · cases h

/-- Maps; parts of slices; what is cleared. -/
def mapT (P : Program) (t : Nat) : Bool :=
  match P.underlying t with
  | some (.map _ _) => true
  | _ => false
def big9 : E := .lit (.i .i64) 1000000000
def ixA (P : Program) (t : Nat) (x : SV) (i : E) : Option (E × X) :=
  match P.underlying t with
  | some (.array len elem) => match szOf P elem, x with
    | some s, .ptr n off => if len ≤ 1000000 then some (inB i (.lit (.i .i64) len), .old (.val (.pi n off s i))) else none
    | some s, .pi n off s0 e0 => if s0 = len * s ∧ len ≤ 1000000 then some (mkAnd (inB e0 big9) (inB i (.lit (.i .i64) len)), .old (.val (.pi n off s (mkBin .add .i64 (mkBin .mul .i64 e0 (.lit (.i .i64) len)) i)))) else none
    | _, _ => none
  | _ => none
def descN (P : Program) (get : Operand → Option SV) (o : Oper) : Option (E × X) :=
  match o.op with
  | .makeMap t none => some (mkB true, .mnew t)
  | .lookup t x ix ok => match get x, get ix with
    | some (.mp n), some k => some (mkB true, .mlk t n k ok)
    | _, _ => none
  | .mapUpdate t x ix y => match get x, get ix, get y with
    | some (.mp n), some k, some v => some (mkB true, .mup t n k v)
    | _, _, _ => none
  | .insert t x ix y => match get x, get ix, get y with
    | some (.mp n), some k, some v => some (mkB true, .mup t n k v)
    | _, _, _ => none
  | .indexAddr t x ix => match get x, scI get ix with
    | some (.sv n str l0 lo hi), some i => some (mkB true, .vix t n str l0 lo hi i)
    | some v, some i => ixA P t v i
    | _, _ => none
  | .load t a => match get a, aggOf P t, szOf P t with
    | some (.pi n off s e), some ag, some sz => some (mkB true, .lds n off s e sz ag)
    | _, _, _ => none
  | .store t a x => match get a, get x, szOf P t with
    | some (.pi n off s e), some v, some sz => if v.cells.length = sz ∧ v.cells.all SV.one = true then some (mkB true, .sts n off s e v.cells) else none
    | _, _, _ => none
  | .call c => match c.callee, c.args.toList, c.argTypes.toList with
    | .builtin .delete, [x, y], [t, kt] => match get x, get y with
      | some (.mp n), some k => some (mkB true, .mdl t kt o.type n k)
      | _, _ => none
    | .builtin .len, [x], [t] => match get x with
      | some (.mp n) => some (mkB true, .mln t o.type n)
      | _ => none
    | .builtin .clear, [x], [t] => match elemOf P t, get x with
      | some e, some (.ls n le) => some (mkB true, .clr t o.type e n le)
      | _, _ => none
    | _, _, _ => none
  | _ => none

theorem lit64_den {n : Nat} (h : n ≤ 1000000000) : (E.lit (.i .i64) (n : Int)).den F ρ = n := by
  simp only [E.den, K.norm, IntKind.wrap, IntKind.signed, IntKind.bits]
  simp
  split <;> omega
theorem ixA_run {t : Nat} {x : SV} {i : E} {g : E} {y : X} (hi : i.kind = .i .i64) (hx : x.ok p) (h : ixA P t x i = some (g, y)) :
    g.kind = .b ∧ (g.tt F ρ = true → valN ((Instr.indexAt t (x.conc F ρ ad) (i.val F ρ)).run P w) = y.run P F ρ ad w) ∧ y.good F ρ p := by
  unfold ixA at h
  split at h
  · rename_i len elem hu
    split at h
    · rename_i s n off hs
      split at h
      · rename_i hl
        simp only [Option.some.injEq, Prod.mk.injEq] at h
        obtain ⟨rfl, rfl⟩ := h
        refine ⟨(inB_spec (F := F) (ρ := ρ)).1, fun hb => ?_, hx⟩
        obtain ⟨b1, b2⟩ := (inB_spec (F := F) (ρ := ρ)).2 hb
        rw [lit64_den (by omega)] at b2
        rw [E.val_i hi]
        simp [SV.conc, X.run, D.run, valN, Instr.indexAt, run_underlying hu, Instr.sureAddr, asIntOf, b1, b2, run_sizeOf' w hs, Addr.add_none]
      · cases h
    · rename_i s n off s0 e0 hs
      split at h
      · rename_i hl
        obtain ⟨rfl, hl⟩ := hl
        simp only [Option.some.injEq, Prod.mk.injEq] at h
        obtain ⟨rfl, rfl⟩ := h
        have hm := mkAnd_spec (inB e0 big9) (inB i (.lit (.i .i64) len)) (inB_spec (F := F) (ρ := ρ)).1 (inB_spec (F := F) (ρ := ρ)).1 F ρ
        refine ⟨hm.2, fun hb => ?_, hx⟩
        rw [hm.1, Bool.and_eq_true] at hb
        obtain ⟨b1, b2⟩ := (inB_spec (F := F) (ρ := ρ)).2 hb.2
        obtain ⟨c1, c2⟩ := (inB_spec (F := F) (ρ := ρ)).2 hb.1
        rw [lit64_den (by omega)] at b2
        have hbig : big9.den F ρ = 1000000000 := lit64_den (n := 1000000000) (Nat.le_refl _)
        rw [hbig] at c2
        have hsum : (mkBin .add .i64 (mkBin .mul .i64 e0 (.lit (.i .i64) len)) i).den F ρ = e0.den F ρ * len + i.den F ρ := by
          have p1 := mkBin_spec .mul .i64 e0 (.lit (.i .i64) len) F ρ
          have q1 := p1.1
          rw [E.val_i p1.2] at q1
          simp only [Value.int.injEq, true_and, binI, lit64_den (show len ≤ 1000000000 by omega)] at q1
          have p2 := mkBin_spec .add .i64 (mkBin .mul .i64 e0 (.lit (.i .i64) len)) i F ρ
          have q2 := p2.1
          rw [E.val_i p2.2] at q2
          simp only [Value.int.injEq, true_and, binI, q1] at q2
          have hmul : 0 ≤ e0.den F ρ * len ∧ e0.den F ρ * len ≤ 1000000000 * 1000000 := by
            constructor
            · exact Int.mul_nonneg c1 (by omega)
            · exact Int.mul_le_mul (by omega) (by omega) (by omega) (by omega)
          have w1 : IntKind.i64.wrap (e0.den F ρ * len) = e0.den F ρ * len := by
            simp only [IntKind.wrap, IntKind.signed, IntKind.bits]; simp; split <;> omega
          rw [w1] at q2
          rw [q2]
          simp only [IntKind.wrap, IntKind.signed, IntKind.bits]; simp; split <;> omega
        rw [E.val_i hi]
        simp only [SV.conc, X.run, D.run, hsum]
        have hto : (e0.den F ρ * len + i.den F ρ).toNat = (e0.den F ρ).toNat * len + (i.den F ρ).toNat := by
          obtain ⟨a, ha⟩ := Int.eq_ofNat_of_zero_le c1
          obtain ⟨b, hb⟩ := Int.eq_ofNat_of_zero_le b1
          rw [ha, hb]
          have : ((a : Int) * len + b) = ((a * len + b : Nat) : Int) := by push_cast; rfl
          rw [this, Int.toNat_natCast]; simp
        rw [hto, Nat.add_mul, Nat.mul_assoc]
        simp [valN, Instr.indexAt, run_underlying hu, Instr.sureAddr, asIntOf, b1, b2, run_sizeOf' w hs, Addr.add_none, Nat.add_assoc]
      · cases h
    · cases h
  · cases h

theorem descN_run {o : Oper} {g : E} {x : X} (hg : ∀ x v, get x = some v → ev x = v.conc F ρ ad ∧ v.ok p) (h : descN P get o = some (g, x)) :
    g.kind = .b ∧ (g.tt F ρ = true → (execOp ev o).run P w = x.run P F ρ ad w) ∧ x.good F ρ p := by
  unfold descN at h
  split at h
  · rename_i t ho
    simp only [Option.some.injEq, Prod.mk.injEq] at h
    obtain ⟨rfl, rfl⟩ := h
    exact ⟨rfl, fun _ => by simp [execOp, ho, X.run, Instr.makeMap, Result.andThen], trivial⟩
  · rename_i t x ix ok ho
    split at h
    · rename_i n k h1 h2
      simp only [Option.some.injEq, Prod.mk.injEq] at h
      obtain ⟨rfl, rfl⟩ := h
      obtain ⟨e1, k1⟩ := hg x _ h1
      obtain ⟨e2, k2⟩ := hg ix _ h2
      exact ⟨rfl, fun _ => by simp [execOp, ho, e1, e2, X.run, SV.conc, valN], k1, k2⟩
    · cases h
  · rename_i t x ix y ho
    split at h
    · rename_i n k v h1 h2 h3
      simp only [Option.some.injEq, Prod.mk.injEq] at h
      obtain ⟨rfl, rfl⟩ := h
      obtain ⟨e1, k1⟩ := hg x _ h1
      obtain ⟨e2, k2⟩ := hg ix _ h2
      obtain ⟨e3, k3⟩ := hg y _ h3
      exact ⟨rfl, fun _ => by simp [execOp, ho, e1, e2, e3, X.run, SV.conc], k1, k2, k3⟩
    · cases h
  · rename_i t x ix y ho
    split at h
    · rename_i n k v h1 h2 h3
      simp only [Option.some.injEq, Prod.mk.injEq] at h
      obtain ⟨rfl, rfl⟩ := h
      obtain ⟨e1, k1⟩ := hg x _ h1
      obtain ⟨e2, k2⟩ := hg ix _ h2
      obtain ⟨e3, k3⟩ := hg y _ h3
      exact ⟨rfl, fun _ => by simp [execOp, ho, e1, e2, e3, X.run, SV.conc], k1, k2, k3⟩
    · cases h
  · rename_i t x ix ho
    split at h
    · rename_i n str l0 lo hi i h1 h2
      simp only [Option.some.injEq, Prod.mk.injEq] at h
      obtain ⟨rfl, rfl⟩ := h
      obtain ⟨e1, k1⟩ := hg x _ h1
      obtain ⟨e2, k2⟩ := scI_spec hg h2
      exact ⟨rfl, fun _ => by simp [execOp, ho, e1, e2, X.run, valN, E.val_i k2], k1⟩
    · rename_i v i _ h1 h2
      obtain ⟨e1, k1⟩ := hg x _ h1
      obtain ⟨e2, k2⟩ := scI_spec hg h2
      obtain ⟨i1, i2, i3⟩ := ixA_run (F := F) (ρ := ρ) (ad := ad) (p := p) (w := w) k2 k1 h
      refine ⟨i1, fun hb => ?_, i3⟩
      rw [← i2 hb]
      simp [execOp, ho, e1, e2, valN, E.val_i k2]
    · cases h
  · rename_i t a ho
    split at h
    · rename_i n off s e ag sz h1 h2 h3
      simp only [Option.some.injEq, Prod.mk.injEq] at h
      obtain ⟨rfl, rfl⟩ := h
      obtain ⟨e1, k1⟩ := hg a _ h1
      refine ⟨rfl, fun _ => ?_, k1⟩
      have := loadAt_run (P := P) (w := w) (b := (ad n).blk) (off := off + (e.den F ρ).toNat * s) h2 h3
      simp only [execOp, ho, e1, SV.conc, X.run]
      exact this
    · cases h
  · rename_i t a x ho
    split at h
    · rename_i n off s e v sz h1 h2 h3
      split at h
      · rename_i hc
        simp only [Option.some.injEq, Prod.mk.injEq] at h
        obtain ⟨rfl, rfl⟩ := h
        obtain ⟨e1, k1⟩ := hg a _ h1
        obtain ⟨e2, k2⟩ := hg x _ h2
        refine ⟨rfl, fun _ => ?_, k1, SV.ok_cells k2, hc.2⟩
        have := storeAt_run (P := P) (F := F) (ρ := ρ) (ad := ad) (w := w) (b := (ad n).blk) (off := off + (e.den F ρ).toNat * s) h3 hc.1 hc.2
        simp only [execOp, ho, e1, e2, SV.conc, X.run]
        exact this
      · cases h
    · cases h
  · rename_i c ho
    have hc : ∀ (b : Builtin) (xs : List Operand) (ts : List Nat), c.callee = .builtin b → c.args.toList = xs → c.argTypes.toList = ts → (execOp ev o).run P w = (builtin b ts.toArray o.type (xs.map fun | .const _ => true | _ => false).toArray (xs.map ev).toArray).run P w := fun b xs ts h1 h2 h3 => by
      have h2' : c.args = xs.toArray := by rw [← h2]
      have h3' : c.argTypes = ts.toArray := by rw [← h3]
      simp [execOp, ho, resolve, h1, h2', h3', invoke]
      rfl
    split at h
    · rename_i x y t kt h1 h2 h3
      split at h
      · rename_i n k g1 g2
        simp only [Option.some.injEq, Prod.mk.injEq] at h
        obtain ⟨rfl, rfl⟩ := h
        obtain ⟨e1, k1⟩ := hg x _ g1
        obtain ⟨e2, k2⟩ := hg y _ g2
        exact ⟨rfl, fun _ => by rw [hc _ _ _ h1 h2 h3]; simp [builtin, e1, e2, X.run, SV.conc, valN], k1, k2⟩
      · cases h
    · rename_i x t h1 h2 h3
      split at h
      · rename_i n g1
        simp only [Option.some.injEq, Prod.mk.injEq] at h
        obtain ⟨rfl, rfl⟩ := h
        obtain ⟨e1, k1⟩ := hg x _ g1
        exact ⟨rfl, fun _ => by rw [hc _ _ _ h1 h2 h3]; simp [builtin, e1, X.run, SV.conc, valN], k1⟩
      · cases h
    · rename_i x t h1 h2 h3
      split at h
      · rename_i e n le g1 g2
        simp only [Option.some.injEq, Prod.mk.injEq] at h
        obtain ⟨rfl, rfl⟩ := h
        obtain ⟨e1, k1⟩ := hg x _ g2
        exact ⟨rfl, fun _ => by rw [hc _ _ _ h1 h2 h3]; simp [builtin, e1, X.run, valN], k1⟩
      · cases h
    · cases h
  · cases h

/-- The descriptor of an operation, with the condition under which it tells it. -/
def descX (P : Program) (get : Operand → Option SV) (o : Oper) : Option (E × X) :=
  match desc P get o.op with
  | some d => some (mkB true, lift P d)
  | none => match descL P get o with
    | some x => some x
    | none => match descQ get o with
     | some x => some x
     | none => match descN P get o with
     | some x => some x
     | none => match desc P (forceG get (tmpsOf o.op.operands.toList)) o.op with
      | some d => some (forceOb get (tmpsOf o.op.operands.toList), lift P d)
      | none => (descL P (forceG get (tmpsOf o.op.operands.toList)) o).map fun x => (mkAnd (forceOb get (tmpsOf o.op.operands.toList)) x.1, x.2)

theorem lift_run {d : D} : (lift P d).run P F ρ ad w = d.run P F ρ ad w := by
  unfold lift
  split
  · split
    · rename_i ks size bytes _ _
      cases (snocs ks _ _ NILL).isSome && decide (size = ks.length) && decide ((_ : Int) ≤ capOf bytes) <;> rfl
    · rfl
  · rfl
theorem lift_good {d : D} (h : d.good F ρ p) : (lift P d).good F ρ p := by
  unfold lift
  split
  · split
    · rename_i ks size bytes _ _
      cases (snocs ks _ _ NILL).isSome && decide (size = ks.length) && decide ((_ : Int) ≤ capOf bytes) <;> exact h
    · exact h
  · exact h

theorem descX_run (hB : ∀ j xs, F 0 j xs = bi j xs) {o : Oper} {g : E} {x : X} (hg : ∀ x v, get x = some v → ev x = v.conc F ρ ad ∧ v.ok p) (h : descX P get o = some (g, x)) :
    g.kind = .b ∧ (g.tt F ρ = true → (execOp ev o).run P w = x.run P F ρ ad w ∧ x.good F ρ p) := by
  unfold descX at h
  split at h
  · rename_i d hd
    simp only [Option.some.injEq, Prod.mk.injEq] at h
    obtain ⟨rfl, rfl⟩ := h
    exact ⟨rfl, fun _ => by rw [lift_run]; exact ⟨(desc_run hg hd).1, lift_good (desc_run (w := w) hg hd).2⟩⟩
  · split at h
    · rename_i y hy
      simp only [Option.some.injEq] at h; subst h
      obtain ⟨i1, i2, i3⟩ := descL_run (w := w) hg hy
      exact ⟨i1, fun hh => ⟨i2 hh, i3⟩⟩
    · split at h
      · rename_i y hy
        simp only [Option.some.injEq] at h; subst h
        exact descQ_run hB hg hy
      split at h
      · rename_i y hy
        simp only [Option.some.injEq] at h; subst h
        obtain ⟨i1, i2⟩ := descN_run (w := w) hg hy
        exact ⟨i1, fun hh => ⟨i2.1 hh, i2.2⟩⟩
      split at h
      · rename_i d hd
        simp only [Option.some.injEq, Prod.mk.injEq] at h
        obtain ⟨rfl, rfl⟩ := h
        exact ⟨forceOb_kind _ _, fun hh => by rw [lift_run]; exact ⟨(desc_run (forceG_spec hg hh) hd).1, lift_good (desc_run (w := w) (forceG_spec hg hh) hd).2⟩⟩
      · obtain ⟨⟨g1, y⟩, hy, he⟩ := Option.map_eq_some_iff.1 h
        simp only [Prod.mk.injEq] at he
        obtain ⟨rfl, rfl⟩ := he
        have hk : g1.kind = .b := by
          have := descL_kind hy
          exact this
        have hm := mkAnd_spec _ _ (forceOb_kind get (tmpsOf o.op.operands.toList)) hk F ρ
        refine ⟨hm.2, fun hh => ?_⟩
        rw [hm.1, Bool.and_eq_true] at hh
        obtain ⟨i1, i2, i3⟩ := descL_run (w := w) (forceG_spec hg hh.1) hy
        exact ⟨i2 hh.2, i3⟩
end
end Go.Proofs.Ytmolkkphnehgcaa.Ew

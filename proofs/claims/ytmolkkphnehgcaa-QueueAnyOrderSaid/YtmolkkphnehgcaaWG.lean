/- Operations on lists, told by descriptors that hang on their operands alone, under conditions that are told with them. The program is a variable. -/
import Derived.Test.YtmolkkphnehgcaaWF
import Derived.Laws.Pointers
set_option linter.unusedVariables false
set_option linter.unusedSimpArgs false
namespace Go.Proofs.Ytmolkkphnehgcaa.Ew
open Go Go.RowKit

/-! ### the operations of straight code, as in the first part -/
def getL (get : Operand → Option SV) : List Operand → Option (List SV)
  | [] => some []
  | x :: r => match get x, getL get r with
    | some v, some l => some (v :: l)
    | _, _ => none
def getParts (get : Operand → Option SV) : List (Nat × Operand) → Option (List (Nat × SV))
  | [] => some []
  | (i, x) :: r => match get x, getParts get r with
    | some v, some l => some ((i, v) :: l)
    | _, _ => none

def ldD (v : SV) (sz : Nat) (ag : Bool) : Option D :=
  match v with
  | .ptr n off => some (.ld n off sz ag)
  | .pi n off s e => match e.ub with
    | some m => if m < 10000 ∧ e.sound = true then some (.ldi n off s (m.toNat + 1) e sz ag) else none
    | none => none
  | .gl b off => some (.ldg b off sz ag)
  | _ => none
def stD (v : SV) (cs : List SV) : Option D :=
  match v with
  | .ptr n off => some (.st n off cs)
  | .pi n off s e => match e.ub with
    | some m => if m < 10000 ∧ e.sound = true then some (.sti n off s (m.toNat + 1) e cs) else none
    | none => none
  | _ => none
def isAddr : SV → Bool
  | .ptr .. | .pi .. | .gl .. | .pe .. => true
  | _ => false

def callable (P : Program) (f : Nat) : Bool :=
  match P.funcs[f]? with
  | some fn => !(fn.name == "runtime.NumGoroutine") && fn.body.isSome
  | none => false

def callD (P : Program) (get : Operand → Option SV) (c : Call) : Option D :=
  match c.callee with
  | .value x => match get x, getL get c.args.toList with
    | some (.fn f caps), some args => if callable P f = true then some (.call f (args ++ caps)) else none
    | _, _ => none
  | .builtin .len => match c.args.toList, c.argTypes.toList with
    | [x], [t] => match get x, P.underlying t with
      | some (.sl _ _ len _), some (.slice _) => if len < 1000000000 then some (.val (.sc (.lit (.i .i64) len))) else none
      | _, _ => none
    | _, _ => none
  | .builtin .max => match c.args.toList with
    | [x, y] => match get x, get y with
      | some (.sc a), some (.sc b) => match a.kind with
        | .i k => if b.kind = .i k then some (.val (.sc (mkIte (mkCmp .gtr b a) b a))) else none
        | _ => none
      | _, _ => none
    | _ => none
  | .builtin .min => match c.args.toList with
    | [x, y] => match get x, get y with
      | some (.sc a), some (.sc b) => match a.kind with
        | .i k => if b.kind = .i k then some (.val (.sc (mkIte (mkCmp .lss b a) b a))) else none
        | _ => none
      | _, _ => none
    | _ => none
  | _ => none

def desc (P : Program) (get : Operand → Option SV) : Op → Option D
  | .move x => (get x).map .val
  | .assign x => (get x).map .val
  | .alloc t => (zeroOf P t).map fun cs => .new t cs none
  | .box t x => match get x with
    | some v => if v.cells.all SV.one = true then some (.new t v.cells none) else none
    | none => none
  | .build t parts => match getParts get parts.toList with
    | some ps => (buildS P t ps).map fun cs => .val (.agg cs)
    | none => none
  | .buildSlice t len parts => match getParts get parts.toList with
    | some ps => (buildSliceS P t len ps).map fun x => .new x.1 x.2 (some len)
    | none => none
  | .load t a => match get a, aggOf P t, szOf P t with
    | some v, some ag, some sz => ldD v sz ag
    | _, _, _ => none
  | .store t a x => match get a, get x, szOf P t with
    | some q, some v, some sz => if v.cells.length = sz ∧ v.cells.all SV.one = true then stD q v.cells else none
    | _, _, _ => none
  | .nilCheck x => match get x with
    | some v => if isAddr v = true then some (.val v) else none
    | none => none
  | .binOp op t x y _ => match get x, get y with
    | some a, some b => (binS P op t a b).map .val
    | _, _ => none
  | .unOp op _ x => match get x with
    | some a => (unS op a).map .val
    | none => none
  | .convert src dst x => match get x with
    | some a => (convS P src dst a).map .val
    | none => none
  | .makeFunc (.func f) first caps => if first.toList.length = 0 then (getL get caps.toList).map fun cs => .val (.fn f cs) else none
  | .fieldAddr t x i => match get x with
    | some a => (fieldAddrS P t a i).map .val
    | none => none
  | .field t x i => match get x with
    | some a => (fieldS P t a i).map .val
    | none => none
  | .indexAddr t x ix => match get x, get ix with
    | some a, some i => (indexAddrS P t a i).map .val
    | _, _ => none
  | .index t x ix => match get x, get ix with
    | some a, some i => (indexS P t a i).map .val
    | _, _ => none
  | .extract x i => match get x with
    | some (.tup vs) => match vs[i]? with
      | some v => some (.val v)
      | none => none
    | _ => none
  | .call c => callD P get c
  | _ => none

section
variable {P : Program} {F : Fam} {ρ : Nat → Int} {ad : Nat → Hd} {p : Nat → Prop} {w : World} {get : Operand → Option SV} {ev : Operand → Value}

theorem getL_spec (hg : ∀ x v, get x = some v → ev x = v.conc F ρ ad ∧ v.ok p) : ∀ {l : List Operand} {vs : List SV}, getL get l = some vs → l.map ev = SV.concL F ρ ad vs ∧ SV.okL p vs
  | [], vs, h => by simp [getL] at h; subst h; exact ⟨rfl, trivial⟩
  | x :: r, vs, h => by
    simp only [getL] at h
    split at h
    · rename_i v l h1 h2
      simp only [Option.some.injEq] at h; subst h
      obtain ⟨i1, i2⟩ := getL_spec hg h2
      obtain ⟨j1, j2⟩ := hg x v h1
      exact ⟨by simp [SV.concL, i1, j1], j2, i2⟩
    · cases h
theorem getParts_spec (hg : ∀ x v, get x = some v → ev x = v.conc F ρ ad ∧ v.ok p) : ∀ {l : List (Nat × Operand)} {vs : List (Nat × SV)}, getParts get l = some vs →
    l.map (fun x => (x.1, ev x.2)) = vs.map (fun x => (x.1, x.2.conc F ρ ad)) ∧ ∀ x ∈ vs, x.2.ok p
  | [], vs, h => by simp [getParts] at h; subst h; exact ⟨rfl, by simp⟩
  | (i, x) :: r, vs, h => by
    simp only [getParts] at h
    split at h
    · rename_i v l h1 h2
      simp only [Option.some.injEq] at h; subst h
      obtain ⟨i1, i2⟩ := getParts_spec hg h2
      obtain ⟨j1, j2⟩ := hg x v h1
      refine ⟨by simp [i1, j1], ?_⟩
      intro y hy
      rcases List.mem_cons.1 hy with rfl | hy
      · exact j2
      · exact i2 y hy
    · cases h

theorem buildSliceS_one {t e : TypeId} {len : Nat} {parts : List (Nat × SV)} {out : List SV} (h : buildSliceS P t len parts = some (e, out)) : out.all SV.one = true := by
  unfold buildSliceS at h
  split at h
  · split at h
    · rename_i n z hn hz
      split at h
      · rename_i hc
        obtain ⟨o, hf, h2⟩ := Option.map_eq_some_iff.1 h
        simp only [Prod.mk.injEq] at h2
        obtain ⟨rfl, rfl⟩ := h2
        refine fillS_one hf ?_
        rw [List.all_eq_true]
        intro v hv
        obtain ⟨i, _, rfl⟩ := List.mem_map.1 hv
        have hi : i % z.length < z.length := Nat.mod_lt _ hc.2.2
        have hz' := (zeroOf_ok (p := fun _ => True) hz).2
        rw [List.all_eq_true] at hz'
        exact hz' _ (by simp [List.getD, hi])
      · cases h
    · cases h
  · cases h

theorem call_enter {f : Nat} {args : Array Value} (h : callable P f = true) : (callFunc f args).run P w = .ok (.enter f args) w := by
  unfold callable at h
  split at h
  · rename_i fn hf
    simp only [Bool.and_eq_true, Bool.not_eq_true'] at h
    have hb : fn.body.isNone = false := by cases hx : fn.body <;> simp_all
    simp only [callFunc, Sem.run_bind, run_program, Result.andThen_ok, hf, h.1, hb, Bool.false_eq_true, if_false]
    rfl
  · cases h

theorem callD_run {o : Oper} {c : Call} {d : D} (ho : o.op = .call c) (hg : ∀ x v, get x = some v → ev x = v.conc F ρ ad ∧ v.ok p) (h : callD P get c = some d) :
    (execOp ev o).run P w = d.run P F ρ ad w ∧ d.good F ρ p := by
  unfold callD at h
  split at h
  · rename_i x hc
    split at h
    · rename_i f caps args h1 h2
      split at h
      · rename_i hcall
        simp only [Option.some.injEq] at h; subst h
        obtain ⟨e1, k1⟩ := hg x _ h1
        obtain ⟨e2, k2⟩ := getL_spec hg h2
        refine ⟨?_, ?_⟩
        · have ea : c.args.map ev = (SV.concL F ρ ad args).toArray := by
            rw [← e2]; apply Array.ext'; simp
          simp only [execOp, ho, resolve, hc, e1, SV.conc, Deferred.ofValue, invoke, ea, D.run]
          simp only [Sem.run_bind, Sem.run_pure, Result.andThen_ok]
          rw [call_enter hcall]
          congr 2
          simp [concL_eq]
        · simp only [D.good]; exact okL_append k2 (by simpa [SV.ok] using k1)
      · cases h
    · cases h
  · rename_i hc
    split at h
    · rename_i x t hargs htys
      split at h
      · rename_i n off len cap e h1 hu
        split at h
        · rename_i hlen
          simp only [Option.some.injEq] at h; subst h
          obtain ⟨e1, _⟩ := hg x _ h1
          refine ⟨?_, trivial⟩
          have ea : c.args.map ev = #[ev x] := by apply Array.ext'; simp [hargs]
          have et : c.argTypes = #[t] := by apply Array.ext'; simpa using htys
          have hel : P.elem t = e := by simp [Program.elem, hu]
          have hl := run_len_slice (P := P) w t o.type (some ⟨(ad n).blk, off, none⟩) len cap (by rw [hel]; exact hu)
          have hw : (E.lit (.i .i64) (len : Int)).val F ρ = .int .i64 len := by
            simp only [E.val, E.kind, E.den, K.norm, IntKind.wrap, IntKind.signed, IntKind.bits]
            simp
            split <;> omega
          simp only [execOp, ho, resolve, hc, ea, et, Sem.run_bind, Sem.run_pure, Result.andThen_ok, invoke, builtin, e1, SV.conc, hl, D.run, goInt, hw]
        · cases h
      · cases h
    · cases h
  · rename_i hc
    split at h
    · rename_i x y hargs
      split at h
      · rename_i a b h1 h2
        split at h
        · rename_i k hk
          split at h
          · rename_i hb
            simp only [Option.some.injEq] at h; subst h
            obtain ⟨e1, _⟩ := hg x _ h1
            obtain ⟨e2, _⟩ := hg y _ h2
            refine ⟨?_, trivial⟩
            have ea : c.args.map ev = #[ev x, ev y] := by apply Array.ext'; simp [hargs]
            have hm := run_max_int2 (P := P) w c.argTypes o.type k k (a.den F ρ) (b.den F ρ)
            have hcmp := mkCmp_spec .gtr b a F ρ
            have hite := mkIte_spec (mkCmp .gtr b a) b a hcmp.2 (by rw [hb, hk]) F ρ
            simp only [execOp, ho, resolve, hc, ea, Sem.run_bind, Sem.run_pure, Result.andThen_ok, invoke, builtin, e1, e2, SV.conc, E.val_i hk, E.val_i hb, hm, D.run, hite.1, hcmp.1]
            by_cases hgt : b.den F ρ > a.den F ρ
            · simp [cmpB, hgt]
            · simp [cmpB, hgt]
          · cases h
        · cases h
      · cases h
    · cases h
  · rename_i hc
    split at h
    · rename_i x y hargs
      split at h
      · rename_i a b h1 h2
        split at h
        · rename_i k hk
          split at h
          · rename_i hb
            simp only [Option.some.injEq] at h; subst h
            obtain ⟨e1, _⟩ := hg x _ h1
            obtain ⟨e2, _⟩ := hg y _ h2
            refine ⟨?_, trivial⟩
            have ea : c.args.map ev = #[ev x, ev y] := by apply Array.ext'; simp [hargs]
            have hm := run_min_int2 (P := P) w c.argTypes o.type k k (a.den F ρ) (b.den F ρ)
            have hcmp := mkCmp_spec .lss b a F ρ
            have hite := mkIte_spec (mkCmp .lss b a) b a hcmp.2 (by rw [hb, hk]) F ρ
            simp only [execOp, ho, resolve, hc, ea, Sem.run_bind, Sem.run_pure, Result.andThen_ok, invoke, builtin, e1, e2, SV.conc, E.val_i hk, E.val_i hb, hm, D.run, hite.1, hcmp.1]
            by_cases hgt : b.den F ρ < a.den F ρ
            · simp [cmpB, hgt]
            · simp [cmpB, hgt]
          · cases h
        · cases h
      · cases h
    · cases h
  · cases h

theorem loadAt_run {t : TypeId} {b off sz : Nat} {ag : Bool} (ha : aggOf P t = some ag) (hs : szOf P t = some sz) :
    (do pure (Next.value (← Instr.loadAt t (.pointer (some ⟨b, off, none⟩))))).run P w = ldSem P w b off sz ag := by
  unfold ldSem
  cases ag
  · simp only [Instr.loadAt, Instr.sureAddr, loadVar, Sem.run_bind, Sem.run_pure, Result.andThen_ok, run_isAgg' w ha, Bool.false_eq_true, if_false]
  · simp only [Instr.loadAt, Instr.sureAddr, loadVar, Sem.run_bind, Sem.run_pure, Result.andThen_ok, run_isAgg' w ha, if_true, run_sizeOf' w hs]
    cases (loadCells ⟨b, off, none⟩ sz).run P w <;> rfl
theorem storeAt_run {t : TypeId} {b off sz : Nat} {v : SV} (hs : szOf P t = some sz) (h1 : v.cells.length = sz) (h2 : v.cells.all SV.one = true) :
    (do Instr.storeAt t (.pointer (some ⟨b, off, none⟩)) (v.conc F ρ ad); pure Next.skip).run P w = stSem P w b off (SV.concL F ρ ad v.cells) := by
  unfold stSem
  have hc := SV.cells_conc (F := F) (ρ := ρ) (ad := ad) h2
  have hl : (SV.concL F ρ ad v.cells).toArray.size = sz := by rw [concL_eq]; simpa using h1
  simp only [Instr.storeAt, Instr.sureAddr, storeVar, Sem.run_bind, Sem.run_pure, Result.andThen_ok, hc, run_sizeOf' w hs, hl, ne_eq, not_true_eq_false, if_false]

theorem desc_run {o : Oper} {d : D} (hg : ∀ x v, get x = some v → ev x = v.conc F ρ ad ∧ v.ok p) (h : desc P get o.op = some d) :
    (execOp ev o).run P w = d.run P F ρ ad w ∧ d.good F ρ p := by
  unfold desc at h
  split at h
  · rename_i x ho
    obtain ⟨v, h1, rfl⟩ := Option.map_eq_some_iff.1 h
    obtain ⟨e1, k1⟩ := hg x v h1
    exact ⟨by simp [execOp, ho, e1, D.run], k1⟩
  · rename_i x ho
    obtain ⟨v, h1, rfl⟩ := Option.map_eq_some_iff.1 h
    obtain ⟨e1, k1⟩ := hg x v h1
    exact ⟨by simp [execOp, ho, e1, D.run], k1⟩
  · rename_i t ho
    obtain ⟨cs, h1, rfl⟩ := Option.map_eq_some_iff.1 h
    obtain ⟨z, r1, r2⟩ := run_zeroValue' (P := P) (F := F) (ρ := ρ) (ad := ad) w h1
    refine ⟨?_, zeroOf_ok h1⟩
    simp [execOp, ho, Instr.alloc, r1, newVar, newRow, D.run, r2]
  · rename_i t x ho
    split at h
    · rename_i v h1
      split at h
      · rename_i hone
        simp only [Option.some.injEq] at h; subst h
        obtain ⟨e1, k1⟩ := hg x v h1
        refine ⟨?_, SV.ok_cells k1, hone⟩
        simp [execOp, ho, Instr.box, e1, newVar, newRow, D.run, SV.cells_conc hone]
      · cases h
    · cases h
  · rename_i t parts ho
    split at h
    · rename_i ps h1
      obtain ⟨cs, h2, rfl⟩ := Option.map_eq_some_iff.1 h
      obtain ⟨e1, k1⟩ := getParts_spec hg h1
      refine ⟨?_, buildS_ok h2 k1⟩
      have hb := buildS_built (F := F) (ρ := ρ) (ad := ad) h2
      have hr := run_build w t (parts.map fun x => (x.1, ev x.2)) _ (by rw [Array.toList_map, e1]; exact hb)
      simp only [execOp, ho, Sem.run_bind, D.run, SV.conc]
      rw [hr]
      rfl
    · cases h
  · rename_i t len parts ho
    split at h
    · rename_i ps h1
      obtain ⟨x, h2, rfl⟩ := Option.map_eq_some_iff.1 h
      obtain ⟨e, cs⟩ := x
      obtain ⟨e1, k1⟩ := getParts_spec hg h1
      refine ⟨?_, buildSliceS_ok h2 k1, buildSliceS_one h2⟩
      have hr := buildSliceS_run (w := w) (F := F) (ρ := ρ) (ad := ad) h2
      have ea : (parts.map fun x => (x.1, ev x.2)) = (ps.map fun x => (x.1, x.2.conc F ρ ad)).toArray := by apply Array.ext'; rw [Array.toList_map, e1]
      simp only [execOp, ho, Sem.run_bind, D.run]
      rw [ea, hr]
      rfl
    · cases h
  · rename_i t a ho
    split at h
    · rename_i v ag sz h1 h2 h3
      obtain ⟨e1, k1⟩ := hg a v h1
      simp only [execOp, ho, e1]
      unfold ldD at h
      split at h
      · simp only [Option.some.injEq] at h; subst h
        exact ⟨loadAt_run h2 h3, k1⟩
      · split at h
        · rename_i m hm
          split at h
          · rename_i hc
            simp only [Option.some.injEq] at h; subst h
            have hu := E.ub_spec F ρ _ m hc.2 hm
            exact ⟨loadAt_run h2 h3, k1, by omega, hu.1⟩
          · cases h
        · cases h
      · simp only [Option.some.injEq] at h; subst h
        exact ⟨loadAt_run h2 h3, trivial⟩
      · cases h
    · cases h
  · rename_i t a x ho
    split at h
    · rename_i q v sz h1 h2 h3
      obtain ⟨e1, k1⟩ := hg a q h1
      obtain ⟨e2, k2⟩ := hg x v h2
      split at h
      · rename_i hc
        simp only [execOp, ho, e1, e2]
        unfold stD at h
        split at h
        · simp only [Option.some.injEq] at h; subst h
          exact ⟨storeAt_run h3 hc.1 hc.2, k1, SV.ok_cells k2, hc.2⟩
        · split at h
          · rename_i m hm
            split at h
            · rename_i hcc
              simp only [Option.some.injEq] at h; subst h
              have hu := E.ub_spec F ρ _ m hcc.2 hm
              exact ⟨storeAt_run h3 hc.1 hc.2, k1, SV.ok_cells k2, hc.2, by omega, hu.1⟩
            · cases h
          · cases h
        · cases h
      · cases h
    · cases h
  · rename_i x ho
    split at h
    · rename_i v h1
      split at h
      · rename_i hi
        simp only [Option.some.injEq] at h; subst h
        obtain ⟨e1, k1⟩ := hg x v h1
        refine ⟨?_, k1⟩
        unfold isAddr at hi
        split at hi
        · simp [execOp, ho, e1, SV.conc, D.run]
        · simp [execOp, ho, e1, SV.conc, D.run]
        · simp [execOp, ho, e1, SV.conc, D.run]
        · simp [execOp, ho, e1, SV.conc, D.run]
        · cases hi
      · cases h
    · cases h
  · rename_i op t x y t' ho
    split at h
    · rename_i a b h1 h2
      obtain ⟨v, h3, rfl⟩ := Option.map_eq_some_iff.1 h
      obtain ⟨e1, k1⟩ := hg x a h1
      obtain ⟨e2, k2⟩ := hg y b h2
      refine ⟨?_, binS_ok h3⟩
      simp only [execOp, ho, e1, e2, D.run]
      rw [Sem.run_bind, binS_run h3]
      rfl
    · cases h
  · rename_i op t x ho
    split at h
    · rename_i a h1
      obtain ⟨v, h3, rfl⟩ := Option.map_eq_some_iff.1 h
      obtain ⟨e1, k1⟩ := hg x a h1
      refine ⟨?_, unS_ok h3⟩
      simp only [execOp, ho, e1, D.run]
      rw [Sem.run_bind, unS_run h3]
      rfl
    · cases h
  · rename_i src dst x ho
    split at h
    · rename_i a h1
      obtain ⟨v, h3, rfl⟩ := Option.map_eq_some_iff.1 h
      obtain ⟨e1, k1⟩ := hg x a h1
      refine ⟨?_, convS_ok h3⟩
      simp only [execOp, ho, e1, D.run]
      rw [Sem.run_bind, convS_run h3]
      rfl
    · cases h
  · rename_i f first caps ho
    split at h
    · rename_i hf
      obtain ⟨cs, h3, rfl⟩ := Option.map_eq_some_iff.1 h
      obtain ⟨e1, k1⟩ := getL_spec hg h3
      refine ⟨?_, by simpa [D.good, SV.ok] using k1⟩
      have ef : first = #[] := by apply Array.ext'; simpa using hf
      have ea : caps.map ev = (SV.concL F ρ ad cs).toArray := by apply Array.ext'; simp [e1]
      simp [execOp, ho, ef, ea, Instr.makeFunc, D.run, SV.conc]
    · cases h
  · rename_i t x i ho
    split at h
    · rename_i a h1
      obtain ⟨v, h3, rfl⟩ := Option.map_eq_some_iff.1 h
      obtain ⟨e1, k1⟩ := hg x a h1
      refine ⟨?_, fieldAddrS_ok h3 k1⟩
      simp only [execOp, ho, e1, D.run]
      rw [Sem.run_bind, fieldAddrS_run h3]
      rfl
    · cases h
  · rename_i t x i ho
    split at h
    · rename_i a h1
      obtain ⟨v, h3, rfl⟩ := Option.map_eq_some_iff.1 h
      obtain ⟨e1, k1⟩ := hg x a h1
      refine ⟨?_, fieldS_ok h3 k1⟩
      simp only [execOp, ho, e1, D.run]
      rw [Sem.run_bind, fieldS_run h3]
      rfl
    · cases h
  · rename_i t x ix ho
    split at h
    · rename_i a i h1 h2
      obtain ⟨v, h3, rfl⟩ := Option.map_eq_some_iff.1 h
      obtain ⟨e1, k1⟩ := hg x a h1
      obtain ⟨e2, k2⟩ := hg ix i h2
      refine ⟨?_, indexAddrS_ok h3 k1⟩
      simp only [execOp, ho, e1, e2, D.run]
      rw [Sem.run_bind, indexAddrS_run h3]
      rfl
    · cases h
  · rename_i t x ix ho
    split at h
    · rename_i a i h1 h2
      obtain ⟨v, h3, rfl⟩ := Option.map_eq_some_iff.1 h
      obtain ⟨e1, k1⟩ := hg x a h1
      obtain ⟨e2, k2⟩ := hg ix i h2
      refine ⟨?_, indexS_ok h3 k1⟩
      simp only [execOp, ho, e1, e2, D.run]
      rw [Sem.run_bind, indexS_run h3]
      rfl
    · cases h
  · rename_i x i ho
    split at h
    · rename_i vs h1
      split at h
      · rename_i v h2
        simp only [Option.some.injEq] at h; subst h
        obtain ⟨e1, k1⟩ := hg x _ h1
        refine ⟨?_, okL_get (by simpa [SV.ok] using k1) h2⟩
        have : (SV.concL F ρ ad vs)[i]? = some (v.conc F ρ ad) := by rw [concL_eq]; simp [h2]
        simp [execOp, ho, e1, SV.conc, Instr.extract, this, D.run]
      · cases h
    · cases h
  · rename_i c ho
    exact callD_run ho hg h
  · cases h
end

end Go.Proofs.Ytmolkkphnehgcaa.Ew

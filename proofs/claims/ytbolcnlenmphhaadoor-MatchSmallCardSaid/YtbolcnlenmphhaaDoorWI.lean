/- Operations on lists, told by descriptors that hang on their operands alone, under conditions that are told with them. The program is a variable. -/
import Derived.Test.YtbolcnlenmphhaaDoorWF
import Derived.Laws.Pointers
set_option linter.unusedVariables false
set_option linter.unusedSimpArgs false
namespace Go.Proofs.YtbolcnlenmphhaaDoor.Ew
open Go Go.RowKit

/-! ### the operations of straight code, as in the first part -/
def getL (get : Operand → Option SV) : List Operand → Option (List SV)
  | [] => some []
  | x :: r => match get x, getL get r with
    | some v, some l => some (v :: l)
    | _, _ => none
def getParts (get : Operand → Option SV) : List (Nat × Operand) → Option (List (Nat × SV))
  | [] => some []
  | (i, x) :: r => match get x, getParts get r with
    | some v, some l => some ((i, v) :: l)
    | _, _ => none

def ldD (v : SV) (sz : Nat) (ag : Bool) : Option D :=
  match v with
  | .ptr n off => some (.ld n off sz ag)
  | .pi n off s e => match e.ub with
    | some m => if m < 10000 ∧ e.sound = true then some (.ldi n off s (m.toNat + 1) e sz ag) else none
    | none => none
  | .gl b off => some (.ldg b off sz ag)
  | _ => none
def stD (v : SV) (cs : List SV) : Option D :=
  match v with
  | .ptr n off => some (.st n off cs)
  | .pi n off s e => match e.ub with
    | some m => if m < 10000 ∧ e.sound = true then some (.sti n off s (m.toNat + 1) e cs) else none
    | none => none
  | _ => none
def isAddr : SV → Bool
  | .ptr .. | .pi .. | .gl .. | .pe .. => true
  | _ => false

def callable (P : Program) (f : Nat) : Bool :=
  match P.funcs[f]? with
  | some fn => !(fn.name == "runtime.NumGoroutine") && fn.body.isSome
  | none => false

def callD (P : Program) (get : Operand → Option SV) (c : Call) : Option D :=
  match c.callee with
  | .value x => match get x, getL get c.args.toList with
    | some (.fn f caps), some args => if callable P f = true then some (.call f (args ++ caps)) else none
    | _, _ => none
  | .builtin .len => match c.args.toList, c.argTypes.toList with
    | [x], [t] => match get x, P.underlying t with
      | some (.sl _ _ len _), some (.slice _) => if len < 1000000000 then some (.val (.sc (.lit (.i .i64) len))) else none
      | _, _ => none
    | _, _ => none
  | .builtin .max => match c.args.toList with
    | [x, y] => match get x, get y with
      | some (.sc a), some (.sc b) => match a.kind with
        | .i k => if b.kind = .i k then some (.val (.sc (mkIte (mkCmp .gtr b a) b a))) else none
        | _ => none
      | _, _ => none
    | _ => none
  | .builtin .min => match c.args.toList with
    | [x, y] => match get x, get y with
      | some (.sc a), some (.sc b) => match a.kind with
        | .i k => if b.kind = .i k then some (.val (.sc (mkIte (mkCmp .lss b a) b a))) else none
        | _ => none
      | _, _ => none
    | _ => none
  | _ => none

def desc (P : Program) (get : Operand → Option SV) : Op → Option D
  | .move x => (get x).map .val
  | .assign x => (get x).map .val
  | .alloc t => (zeroOf P t).map fun cs => .new t cs none
  | .box t x => match get x with
    | some v => if v.cells.all SV.one = true then some (.new t v.cells none) else none
    | none => none
  | .build t parts => match getParts get parts.toList with
    | some ps => (buildS P t ps).map fun cs => .val (.agg cs)
    | none => none
  | .buildSlice t len parts => match getParts get parts.toList with
    | some ps => (buildSliceS P t len ps).map fun x => .new x.1 x.2 (some len)
    | none => none
  | .load t a => match get a, aggOf P t, szOf P t with
    | some v, some ag, some sz => ldD v sz ag
    | _, _, _ => none
  | .store t a x => match get a, get x, szOf P t with
    | some q, some v, some sz => if v.cells.length = sz ∧ v.cells.all SV.one = true then stD q v.cells else none
    | _, _, _ => none
  | .nilCheck x => match get x with
    | some v => if isAddr v = true then some (.val v) else none
    | none => none
  | .binOp op t x y _ => match get x, get y with
    | some a, some b => (binS P op t a b).map .val
    | _, _ => none
  | .unOp op _ x => match get x with
    | some a => (unS op a).map .val
    | none => none
  | .convert src dst x => match get x with
    | some a => (convS P src dst a).map .val
    | none => none
  | .makeFunc (.func f) first caps => if first.toList.length = 0 then (getL get caps.toList).map fun cs => .val (.fn f cs) else none
  | .fieldAddr t x i => match get x with
    | some a => (fieldAddrS P t a i).map .val
    | none => none
  | .field t x i => match get x with
    | some a => (fieldS P t a i).map .val
    | none => none
  | .indexAddr t x ix => match get x, get ix with
    | some a, some i => (indexAddrS P t a i).map .val
    | _, _ => none
  | .index t x ix => match get x, get ix with
    | some a, some i => (indexS P t a i).map .val
    | _, _ => none
  | .extract x i => match get x with
    | some (.tup vs) => match vs[i]? with
      | some v => some (.val v)
      | none => none
    | _ => none
  | .call c => callD P get c
  | _ => none

section
variable {P : Program} {F : Fam} {ρ : Nat → Int} {ad : Nat → Hd} {p : Nat → Prop} {w : World} {get : Operand → Option SV} {ev : Operand → Value}

theorem getL_spec (hg : ∀ x v, get x = some v → ev x = v.conc F ρ ad ∧ v.ok p) : ∀ {l : List Operand} {vs : List SV}, getL get l = some vs → l.map ev = SV.concL F ρ ad vs ∧ SV.okL p vs
  | [], vs, h => by simp [getL] at h; subst h; exact ⟨rfl, trivial⟩
  | x :: r, vs, h => by
    simp only [getL] at h
    split at h
    · rename_i v l h1 h2
      simp only [Option.some.injEq] at h; subst h
      obtain ⟨i1, i2⟩ := getL_spec hg h2
      obtain ⟨j1, j2⟩ := hg x v h1
      exact ⟨by simp [SV.concL, i1, j1], j2, i2⟩
    · cases h
theorem getParts_spec (hg : ∀ x v, get x = some v → ev x = v.conc F ρ ad ∧ v.ok p) : ∀ {l : List (Nat × Operand)} {vs : List (Nat × SV)}, getParts get l = some vs →
    l.map (fun x => (x.1, ev x.2)) = vs.map (fun x => (x.1, x.2.conc F ρ ad)) ∧ ∀ x ∈ vs, x.2.ok p
  | [], vs, h => by simp [getParts] at h; subst h; exact ⟨rfl, by simp⟩
  | (i, x) :: r, vs, h => by
    simp only [getParts] at h
    split at h
    · rename_i v l h1 h2
      simp only [Option.some.injEq] at h; subst h
      obtain ⟨i1, i2⟩ := getParts_spec hg h2
      obtain ⟨j1, j2⟩ := hg x v h1
      refine ⟨by simp [i1, j1], ?_⟩
      intro y hy
      rcases List.mem_cons.1 hy with rfl | hy
      · exact j2
      · exact i2 y hy
    · cases h

theorem buildSliceS_one {t e : TypeId} {len : Nat} {parts : List (Nat × SV)} {out : List SV} (h : buildSliceS P t len parts = some (e, out)) : out.all SV.one = true := by
  unfold buildSliceS at h
  split at h
  · split at h
    · rename_i n z hn hz
      split at h
      · rename_i hc
        obtain ⟨o, hf, h2⟩ := Option.map_eq_some_iff.1 h
        simp only [Prod.mk.injEq] at h2
        obtain ⟨rfl, rfl⟩ := h2
        refine fillS_one hf ?_
        rw [List.all_eq_true]
        intro v hv
        obtain ⟨i, _, rfl⟩ := List.mem_map.1 hv
        have hi : i % z.length < z.length := Nat.mod_lt _ hc.2.2
        have hz' := (zeroOf_ok (p := fun _ => True) hz).2
        rw [List.all_eq_true] at hz'
        exact hz' _ (by simp [List.getD, hi])
      · cases h
    · cases h
  · cases h

theorem call_enter {f : Nat} {args : Array Value} (h : callable P f = true) : (callFunc f args).run P w = .ok (.enter f args) w := by
  unfold callable at h
  split at h
  · rename_i fn hf
    simp only [Bool.and_eq_true, Bool.not_eq_true'] at h
    have hb : fn.body.isNone = false := by cases hx : fn.body <;> simp_all
    simp only [callFunc, Sem.run_bind, run_program, Result.andThen_ok, hf, h.1, hb, Bool.false_eq_true, if_false]
    rfl
  · cases h

theorem callD_run {o : Oper} {c : Call} {d : D} (ho : o.op = .call c) (hg : ∀ x v, get x = some v → ev x = v.conc F ρ ad ∧ v.ok p) (h : callD P get c = some d) :
    (execOp ev o).run P w = d.run P F ρ ad w ∧ d.good F ρ p := by
  unfold callD at h
  split at h
  · rename_i x hc
    split at h
    · rename_i f caps args h1 h2
      split at h
      · rename_i hcall
        simp only [Option.some.injEq] at h; subst h
        obtain ⟨e1, k1⟩ := hg x _ h1
        obtain ⟨e2, k2⟩ := getL_spec hg h2
        refine ⟨?_, ?_⟩
        · have ea : c.args.map ev = (SV.concL F ρ ad args).toArray := by
            rw [← e2]; apply Array.ext'; simp
          simp only [execOp, ho, resolve, hc, e1, SV.conc, Deferred.ofValue, invoke, ea, D.run]
          simp only [Sem.run_bind, Sem.run_pure, Result.andThen_ok]
          rw [call_enter hcall]
          congr 2
          simp [concL_eq]
        · simp only [D.good]; exact okL_append k2 (by simpa [SV.ok] using k1)
      · cases h
    · cases h
  · rename_i hc
    split at h
    · rename_i x t hargs htys
      split at h
      · rename_i n off len cap e h1 hu
        split at h
        · rename_i hlen
          simp only [Option.some.injEq] at h; subst h
          obtain ⟨e1, _⟩ := hg x _ h1
          refine ⟨?_, trivial⟩
          have ea : c.args.map ev = #[ev x] := by apply Array.ext'; simp [hargs]
          have et : c.argTypes = #[t] := by apply Array.ext'; simpa using htys
          have hel : P.elem t = e := by simp [Program.elem, hu]
          have hl := run_len_slice (P := P) w t o.type (some ⟨(ad n).blk, off, none⟩) len cap (by rw [hel]; exact hu)
          have hw : (E.lit (.i .i64) (len : Int)).val F ρ = .int .i64 len := by
            simp only [E.val, E.kind, E.den, K.norm, IntKind.wrap, IntKind.signed, IntKind.bits]
            simp
            split <;> omega
          simp only [execOp, ho, resolve, hc, ea, et, Sem.run_bind, Sem.run_pure, Result.andThen_ok, invoke, builtin, e1, SV.conc, hl, D.run, goInt, hw]
        · cases h
      · cases h
    · cases h
  · rename_i hc
    split at h
    · rename_i x y hargs
      split at h
      · rename_i a b h1 h2
        split at h
        · rename_i k hk
          split at h
          · rename_i hb
            simp only [Option.some.injEq] at h; subst h
            obtain ⟨e1, _⟩ := hg x _ h1
            obtain ⟨e2, _⟩ := hg y _ h2
            refine ⟨?_, trivial⟩
            have ea : c.args.map ev = #[ev x, ev y] := by apply Array.ext'; simp [hargs]
            have hm := run_max_int2 (P := P) w c.argTypes o.type k k (a.den F ρ) (b.den F ρ)
            have hcmp := mkCmp_spec .gtr b a F ρ
            have hite := mkIte_spec (mkCmp .gtr b a) b a hcmp.2 (by rw [hb, hk]) F ρ
            simp only [execOp, ho, resolve, hc, ea, Sem.run_bind, Sem.run_pure, Result.andThen_ok, invoke, builtin, e1, e2, SV.conc, E.val_i hk, E.val_i hb, hm, D.run, hite.1, hcmp.1]
            by_cases hgt : b.den F ρ > a.den F ρ
            · simp [cmpB, hgt]
            · simp [cmpB, hgt]
          · cases h
        · cases h
      · cases h
    · cases h
  · rename_i hc
    split at h
    · rename_i x y hargs
      split at h
      · rename_i a b h1 h2
        split at h
        · rename_i k hk
          split at h
          · rename_i hb
            simp only [Option.some.injEq] at h; subst h
            obtain ⟨e1, _⟩ := hg x _ h1
            obtain ⟨e2, _⟩ := hg y _ h2
            refine ⟨?_, trivial⟩
            have ea : c.args.map ev = #[ev x, ev y] := by apply Array.ext'; simp [hargs]
            have hm := run_min_int2 (P := P) w c.argTypes o.type k k (a.den F ρ) (b.den F ρ)
            have hcmp := mkCmp_spec .lss b a F ρ
            have hite := mkIte_spec (mkCmp .lss b a) b a hcmp.2 (by rw [hb, hk]) F ρ
            simp only [execOp, ho, resolve, hc, ea, Sem.run_bind, Sem.run_pure, Result.andThen_ok, invoke, builtin, e1, e2, SV.conc, E.val_i hk, E.val_i hb, hm, D.run, hite.1, hcmp.1]
            by_cases hgt : b.den F ρ < a.den F ρ
            · simp [cmpB, hgt]
            · simp [cmpB, hgt]
          · cases h
        · cases h
      · cases h
    · cases h
  · cases h

theorem loadAt_run {t : TypeId} {b off sz : Nat} {ag : Bool} (ha : aggOf P t = some ag) (hs : szOf P t = some sz) :
    (do pure (Next.value (← Instr.loadAt t (.pointer (some ⟨b, off, none⟩))))).run P w = ldSem P w b off sz ag := by
  unfold ldSem
  cases ag
  · simp only [Instr.loadAt, Instr.sureAddr, loadVar, Sem.run_bind, Sem.run_pure, Result.andThen_ok, run_isAgg' w ha, Bool.false_eq_true, if_false]
  · simp only [Instr.loadAt, Instr.sureAddr, loadVar, Sem.run_bind, Sem.run_pure, Result.andThen_ok, run_isAgg' w ha, if_true, run_sizeOf' w hs]
    cases (loadCells ⟨b, off, none⟩ sz).run P w <;> rfl
theorem storeAt_run {t : TypeId} {b off sz : Nat} {v : SV} (hs : szOf P t = some sz) (h1 : v.cells.length = sz) (h2 : v.cells.all SV.one = true) :
    (do Instr.storeAt t (.pointer (some ⟨b, off, none⟩)) (v.conc F ρ ad); pure Next.skip).run P w = stSem P w b off (SV.concL F ρ ad v.cells) := by
  unfold stSem
  have hc := SV.cells_conc (F := F) (ρ := ρ) (ad := ad) h2
  have hl : (SV.concL F ρ ad v.cells).toArray.size = sz := by rw [concL_eq]; simpa using h1
  simp only [Instr.storeAt, Instr.sureAddr, storeVar, Sem.run_bind, Sem.run_pure, Result.andThen_ok, hc, run_sizeOf' w hs, hl, ne_eq, not_true_eq_false, if_false]

theorem desc_run {o : Oper} {d : D} (hg : ∀ x v, get x = some v → ev x = v.conc F ρ ad ∧ v.ok p) (h : desc P get o.op = some d) :
    (execOp ev o).run P w = d.run P F ρ ad w ∧ d.good F ρ p := by
  unfold desc at h
  split at h
  · rename_i x ho
    obtain ⟨v, h1, rfl⟩ := Option.map_eq_some_iff.1 h
    obtain ⟨e1, k1⟩ := hg x v h1
    exact ⟨by simp [execOp, ho, e1, D.run], k1⟩
  · rename_i x ho
    obtain ⟨v, h1, rfl⟩ := Option.map_eq_some_iff.1 h
    obtain ⟨e1, k1⟩ := hg x v h1
    exact ⟨by simp [execOp, ho, e1, D.run], k1⟩
  · rename_i t ho
    obtain ⟨cs, h1, rfl⟩ := Option.map_eq_some_iff.1 h
    obtain ⟨z, r1, r2⟩ := run_zeroValue' (P := P) (F := F) (ρ := ρ) (ad := ad) w h1
    refine ⟨?_, zeroOf_ok h1⟩
    simp [execOp, ho, Instr.alloc, r1, newVar, newRow, D.run, r2]
  · rename_i t x ho
    split at h
    · rename_i v h1
      split at h
      · rename_i hone
        simp only [Option.some.injEq] at h; subst h
        obtain ⟨e1, k1⟩ := hg x v h1
        refine ⟨?_, SV.ok_cells k1, hone⟩
        simp [execOp, ho, Instr.box, e1, newVar, newRow, D.run, SV.cells_conc hone]
      · cases h
    · cases h
  · rename_i t parts ho
    split at h
    · rename_i ps h1
      obtain ⟨cs, h2, rfl⟩ := Option.map_eq_some_iff.1 h
      obtain ⟨e1, k1⟩ := getParts_spec hg h1
      refine ⟨?_, buildS_ok h2 k1⟩
      have hb := buildS_built (F := F) (ρ := ρ) (ad := ad) h2
      have hr := run_build w t (parts.map fun x => (x.1, ev x.2)) _ (by rw [Array.toList_map, e1]; exact hb)
      simp only [execOp, ho, Sem.run_bind, D.run, SV.conc]
      rw [hr]
      rfl
    · cases h
  · rename_i t len parts ho
    split at h
    · rename_i ps h1
      obtain ⟨x, h2, rfl⟩ := Option.map_eq_some_iff.1 h
      obtain ⟨e, cs⟩ := x
      obtain ⟨e1, k1⟩ := getParts_spec hg h1
      refine ⟨?_, buildSliceS_ok h2 k1, buildSliceS_one h2⟩
      have hr := buildSliceS_run (w := w) (F := F) (ρ := ρ) (ad := ad) h2
      have ea : (parts.map fun x => (x.1, ev x.2)) = (ps.map fun x => (x.1, x.2.conc F ρ ad)).toArray := by apply Array.ext'; rw [Array.toList_map, e1]
      simp only [execOp, ho, Sem.run_bind, D.run]
      rw [ea, hr]
      rfl
    · cases h
  · rename_i t a ho
    split at h
    · rename_i v ag sz h1 h2 h3
      obtain ⟨e1, k1⟩ := hg a v h1
      simp only [execOp, ho, e1]
      unfold ldD at h
      split at h
      · simp only [Option.some.injEq] at h; subst h
        exact ⟨loadAt_run h2 h3, k1⟩
      · split at h
        · rename_i m hm
          split at h
          · rename_i hc
            simp only [Option.some.injEq] at h; subst h
            have hu := E.ub_spec F ρ _ m hc.2 hm
            exact ⟨loadAt_run h2 h3, k1, by omega, hu.1⟩
          · cases h
        · cases h
      · simp only [Option.some.injEq] at h; subst h
        exact ⟨loadAt_run h2 h3, trivial⟩
      · cases h
    · cases h
  · rename_i t a x ho
    split at h
    · rename_i q v sz h1 h2 h3
      obtain ⟨e1, k1⟩ := hg a q h1
      obtain ⟨e2, k2⟩ := hg x v h2
      split at h
      · rename_i hc
        simp only [execOp, ho, e1, e2]
        unfold stD at h
        split at h
        · simp only [Option.some.injEq] at h; subst h
          exact ⟨storeAt_run h3 hc.1 hc.2, k1, SV.ok_cells k2, hc.2⟩
        · split at h
          · rename_i m hm
            split at h
            · rename_i hcc
              simp only [Option.some.injEq] at h; subst h
              have hu := E.ub_spec F ρ _ m hcc.2 hm
              exact ⟨storeAt_run h3 hc.1 hc.2, k1, SV.ok_cells k2, hc.2, by omega, hu.1⟩
            · cases h
          · cases h
        · cases h
      · cases h
    · cases h
  · rename_i x ho
    split at h
    · rename_i v h1
      split at h
      · rename_i hi
        simp only [Option.some.injEq] at h; subst h
        obtain ⟨e1, k1⟩ := hg x v h1
        refine ⟨?_, k1⟩
        unfold isAddr at hi
        split at hi
        · simp [execOp, ho, e1, SV.conc, D.run]
        · simp [execOp, ho, e1, SV.conc, D.run]
        · simp [execOp, ho, e1, SV.conc, D.run]
        · simp [execOp, ho, e1, SV.conc, D.run]
        · cases hi
      · cases h
    · cases h
  · rename_i op t x y t' ho
    split at h
    · rename_i a b h1 h2
      obtain ⟨v, h3, rfl⟩ := Option.map_eq_some_iff.1 h
      obtain ⟨e1, k1⟩ := hg x a h1
      obtain ⟨e2, k2⟩ := hg y b h2
      refine ⟨?_, binS_ok h3⟩
      simp only [execOp, ho, e1, e2, D.run]
      rw [Sem.run_bind, binS_run h3]
      rfl
    · cases h
  · rename_i op t x ho
    split at h
    · rename_i a h1
      obtain ⟨v, h3, rfl⟩ := Option.map_eq_some_iff.1 h
      obtain ⟨e1, k1⟩ := hg x a h1
      refine ⟨?_, unS_ok h3⟩
      simp only [execOp, ho, e1, D.run]
      rw [Sem.run_bind, unS_run h3]
      rfl
    · cases h
  · rename_i src dst x ho
    split at h
    · rename_i a h1
      obtain ⟨v, h3, rfl⟩ := Option.map_eq_some_iff.1 h
      obtain ⟨e1, k1⟩ := hg x a h1
      refine ⟨?_, convS_ok h3⟩
      simp only [execOp, ho, e1, D.run]
      rw [Sem.run_bind, convS_run h3]
      rfl
    · cases h
  · rename_i f first caps ho
    split at h
    · rename_i hf
      obtain ⟨cs, h3, rfl⟩ := Option.map_eq_some_iff.1 h
      obtain ⟨e1, k1⟩ := getL_spec hg h3
      refine ⟨?_, by simpa [D.good, SV.ok] using k1⟩
      have ef : first = #[] := by apply Array.ext'; simpa using hf
      have ea : caps.map ev = (SV.concL F ρ ad cs).toArray := by apply Array.ext'; simp [e1]
      simp [execOp, ho, ef, ea, Instr.makeFunc, D.run, SV.conc]
    · cases h
  · rename_i t x i ho
    split at h
    · rename_i a h1
      obtain ⟨v, h3, rfl⟩ := Option.map_eq_some_iff.1 h
      obtain ⟨e1, k1⟩ := hg x a h1
      refine ⟨?_, fieldAddrS_ok h3 k1⟩
      simp only [execOp, ho, e1, D.run]
      rw [Sem.run_bind, fieldAddrS_run h3]
      rfl
    · cases h
  · rename_i t x i ho
    split at h
    · rename_i a h1
      obtain ⟨v, h3, rfl⟩ := Option.map_eq_some_iff.1 h
      obtain ⟨e1, k1⟩ := hg x a h1
      refine ⟨?_, fieldS_ok h3 k1⟩
      simp only [execOp, ho, e1, D.run]
      rw [Sem.run_bind, fieldS_run h3]
      rfl
    · cases h
  · rename_i t x ix ho
    split at h
    · rename_i a i h1 h2
      obtain ⟨v, h3, rfl⟩ := Option.map_eq_some_iff.1 h
      obtain ⟨e1, k1⟩ := hg x a h1
      obtain ⟨e2, k2⟩ := hg ix i h2
      refine ⟨?_, indexAddrS_ok h3 k1⟩
      simp only [execOp, ho, e1, e2, D.run]
      rw [Sem.run_bind, indexAddrS_run h3]
      rfl
    · cases h
  · rename_i t x ix ho
    split at h
    · rename_i a i h1 h2
      obtain ⟨v, h3, rfl⟩ := Option.map_eq_some_iff.1 h
      obtain ⟨e1, k1⟩ := hg x a h1
      obtain ⟨e2, k2⟩ := hg ix i h2
      refine ⟨?_, indexS_ok h3 k1⟩
      simp only [execOp, ho, e1, e2, D.run]
      rw [Sem.run_bind, indexS_run h3]
      rfl
    · cases h
  · rename_i x i ho
    split at h
    · rename_i vs h1
      split at h
      · rename_i v h2
        simp only [Option.some.injEq] at h; subst h
        obtain ⟨e1, k1⟩ := hg x _ h1
        refine ⟨?_, okL_get (by simpa [SV.ok] using k1) h2⟩
        have : (SV.concL F ρ ad vs)[i]? = some (v.conc F ρ ad) := by rw [concL_eq]; simp [h2]
        simp [execOp, ho, e1, SV.conc, Instr.extract, this, D.run]
      · cases h
    · cases h
  · rename_i c ho
    exact callD_run ho hg h
  · cases h
end

end Go.Proofs.YtbolcnlenmphhaaDoor.Ew

/- Operations on lists, told by descriptors that hang on their operands alone, under conditions that are told with them. The program is a variable. -/
set_option linter.unusedVariables false
set_option linter.unusedSimpArgs false
namespace Go.Proofs.YtbolcnlenmphhaaDoor.Ew
open Go Go.RowKit

def valN (r : Result Value) : Result Next := r.andThen fun v w => .ok (.value v) w

inductive X where
  | old (d : D)
  | len (x : SV)
  | lde (n str : Nat) (i : E) (o sz : Nat) (ag : Bool)
  | ste (n str : Nat) (i : E) (o : Nat) (cs : List SV)
  | app (t e rt : Nat) (x y : SV)
  | sub (t e : Nat) (x : SV) (lo hi : Option E)
  | mk (t e : Nat) (n c : E)
  | bl (e : Nat) (ks : List K) (cs : List SV) (len : Nat)
  deriving Repr, Inhabited

def lenR (v : Value) (w : World) : Result Next :=
  match v with
  | .slice _ n _ => .ok (.value (goInt n)) w
  | _ => .halt (.stuck "") w

def X.run (P : Program) (F : Fam) (ρ : Nat → Int) (ad : Nat → Hd) (w : World) : X → Result Next
  | .old d => d.run P F ρ ad w
  | .len x => lenR (x.conc F ρ ad) w
  | .lde n str i o sz ag => ldSem P w (ad n).blk ((ad n).off + (i.den F ρ).toNat * str + o) sz ag
  | .ste n str i o cs => stSem P w (ad n).blk ((ad n).off + (i.den F ρ).toNat * str + o) (SV.concL F ρ ad cs)
  | .app t _ rt x y => valN ((Builtin.append_ #[t, t] rt #[x.conc F ρ ad, y.conc F ρ ad]).run P w)
  | .sub t _ x lo hi => valN ((Instr.sliceAt t (x.conc F ρ ad) (lo.map (E.val F ρ)) (hi.map (E.val F ρ)) none).run P w)
  | .mk t _ n c => valN ((Instr.makeSlice t (n.val F ρ) (c.val F ρ)).run P w)
  | .bl e _ cs nl => (D.new e cs (some nl)).run P F ρ ad w

def X.good (F : Fam) (ρ : Nat → Int) (p : Nat → Prop) : X → Prop
  | .old d => d.good F ρ p
  | .len x => x.ok p
  | .lde n .. => p n
  | .ste n _ _ _ cs => p n ∧ SV.okL p cs ∧ cs.all SV.one = true
  | .app _ _ _ x y => x.ok p ∧ y.ok p
  | .sub _ _ x _ _ => x.ok p
  | .mk .. => True
  | .bl e _ cs nl => (D.new e cs (some nl)).good F ρ p

def pieces (leaf : TypeId → Option (List K)) (P : Program) : List (TypeId × Nat) → Nat → Option (List K)
  | [], _ => some []
  | (t, o) :: r, off => if o = off then
      match leaf t with
      | some ks => if P.cellsOf t = ks.length then (pieces leaf P r (off + ks.length)).map (ks ++ ·) else none
      | none => none
    else none
def leafOf (P : Program) : Nat → TypeId → Option (List K)
  | 0, _ => none
  | n + 1, t => match P.underlying t with
    | some .bool => some [.b]
    | some (.int k) => some [.i k]
    | some (.struct fs) => match pieces (leafOf P n) P (fs.toList.map fun f => (f.type, f.offset)) 0 with
      | some ks => if P.cellsOf t = ks.length then some ks else none
      | none => none
    | some (.array m e) => match pieces (leafOf P n) P ((List.range m).map fun i => (e, i * P.cellsOf e)) 0 with
      | some ks => if P.cellsOf t = ks.length then some ks else none
      | none => none
    | _ => none

/-- Scalars of these kinds, as expressions. -/
def scs : List K → List SV → Option (List E)
  | [], [] => some []
  | k :: ks, .sc e :: cs => if e.kind = k ∧ e.sound = true then (scs ks cs).map (e :: ·) else none
  | _, _ => none
def snocs (ks : List K) : Nat → List SV → E → Option E
  | 0, cs, c => if cs.length = 0 then some c else none
  | n + 1, cs, c => match scs ks (cs.take ks.length) with
    | some es => snocs ks n (cs.drop ks.length) (.app .x 0 3 (c :: es))
    | none => none
/-- The greatest number of elements that a list may have. -/
def capOf (bytes : Nat) : Nat := 140737488355328 / (max bytes 1)
def infoOf (P : Program) (e : Nat) : Option (Nat × Nat) := (P.info? e).bind fun i => (i.zero).bind fun z => if z.cells.size = i.size ∧ 0 < i.size then some (i.size, i.bytes) else none

/-- Literal slices of rows of numbers are lists. -/
def lift (P : Program) : D → X
  | .new e cs (some len) => match leafOf P 20 e, infoOf P e with
    | some ks, some (size, bytes) => bif (snocs ks len cs NILL).isSome && decide (size = ks.length) && decide ((len : Int) ≤ capOf bytes) then .bl e ks cs len else .old (.new e cs (some len))
    | _, _ => .old (.new e cs (some len))
  | d => .old d

/-- Is it nil? -/
def nilE : SV → Option E
  | .nilp .nP => some (mkB true)
  | .ptr .. | .pi .. | .pe .. | .gl .. => some (mkB false)
  | .ite c a b => match nilE a, nilE b with
    | some x, some y => if c.kind = .b ∧ x.kind = .b ∧ y.kind = .b then some (mkIte c x y) else none
    | _, _ => none
  | _ => none
def isNilP : SV → Bool
  | .nilp .nP => true
  | _ => false
def ptrT (P : Program) (t : Nat) : Bool :=
  match P.underlying t with
  | some (.pointer _) => true
  | _ => false
def inB (i le : E) : E := mkAnd (mkCmp .geq i (.lit (.i .i64) 0)) (mkCmp .lss i le)

def scI (get : Operand → Option SV) (x : Operand) : Option E :=
  match get x with
  | some (.sc e) => match e.kind with
    | .i .i64 => some e
    | _ => none
  | _ => none
def scO (get : Operand → Option SV) : Option Operand → Option (Option E)
  | none => some none
  | some x => (scI get x).map some
def elemOf (P : Program) (t : Nat) : Option Nat :=
  match P.underlying t with
  | some (.slice e) => some e
  | _ => none
def isSlV : SV → Bool
  | .ls .. | .nilp .nS => true
  | .ite _ a b => isSlV a && isSlV b
  | .sl .. => true
  | _ => false

def descL (P : Program) (get : Operand → Option SV) (o : Oper) : Option (E × X) :=
  match o.op with
  | .load t a => match get a, aggOf P t, szOf P t with
    | some (.pe n s i f), some ag, some sz => some (mkB true, .lde n s i f sz ag)
    | _, _, _ => none
  | .store t a x => match get a, get x, szOf P t with
    | some (.pe n s i f), some v, some sz => if v.cells.length = sz ∧ v.cells.all SV.one = true then some (mkB true, .ste n s i f v.cells) else none
    | _, _, _ => none
  | .indexAddr t x ix => match elemOf P t, get x, scI get ix with
    | some e, some (.ls n le), some i => match szOf P e with
      | some s => some (inB i le, X.old (.val (.pe n s i 0)))
      | none => none
    | _, _, _ => none
  | .binOp op t x y _ => match get x, get y with
    | some a, some b => if ptrT P t = true then
        match op, isNilP a, isNilP b with
        | .eql, _, true => (nilE a).map fun e => (mkB true, X.old (.val (.sc e)))
        | .eql, true, _ => (nilE b).map fun e => (mkB true, X.old (.val (.sc e)))
        | .neq, _, true => (nilE a).map fun e => (mkB true, X.old (.val (.sc (mkNot e))))
        | .neq, true, _ => (nilE b).map fun e => (mkB true, X.old (.val (.sc (mkNot e))))
        | _, _, _ => none
      else none
    | _, _ => none
  | .slice t x lo hi none => match elemOf P t, get x, scO get lo, scO get hi with
    | some e, some v, some l, some h => if isSlV v = true then some (mkB true, .sub t e v l h) else none
    | _, _, _, _ => none
  | .makeSlice t l c => match elemOf P t, scI get l, scI get c with
    | some e, some n, some k => some (mkB true, .mk t e n k)
    | _, _, _ => none
  | .call c => match c.callee, c.args.toList, c.argTypes.toList with
    | .builtin .len, [x], [t] => match elemOf P t, get x with
      | some _, some v => if isSlV v = true then some (mkB true, .len v) else none
      | _, _ => none
    | .builtin .append, [x, y], [t, t'] => match elemOf P t, get x, get y with
      | some e, some a, some b => if t' = t ∧ isSlV a = true ∧ isSlV b = true then some (mkB true, .app t e o.type a b) else none
      | _, _, _ => none
    | _, _, _ => none
  | _ => none

/-! ### pointers that are nil or not -/
def badP : SV → Bool
  | .nilp _ => true
  | .und => true
  | _ => false
def force : SV → E × SV
  | .ite c a b =>
    if c.kind = .b then
      bif badP a then (mkAnd (mkNot c) (force b).1, (force b).2)
      else bif badP b then (mkAnd c (force a).1, (force a).2)
      else (mkB true, .ite c a b)
    else (mkB true, .ite c a b)
  | v => (mkB true, v)

section
variable {P : Program} {F : Fam} {ρ : Nat → Int} {ad : Nat → Hd} {p : Nat → Prop} {w : World} {get : Operand → Option SV} {ev : Operand → Value}

theorem run_equalIn_nil_pointer (w : World) (d : Nat) (t : Nat) (q : Option Addr) (h : P.underlying t = some (.pointer (P.pointee t))) : (Op.equalIn (d + 1) t (.pointer none) (.pointer q)).run P w = .ok q.isNone w := by
  cases q <;> simp [Op.equalIn, run_underlying h]
theorem run_equal_nil_pointer (w : World) (t : Nat) (q : Option Addr) (h : P.underlying t = some (.pointer (P.pointee t))) : (Op.equal t (.pointer none) (.pointer q)).run P w = .ok q.isNone w :=
  run_equalIn_nil_pointer w 9999 t q h

theorem force_kind : ∀ v : SV, (force v).1.kind = .b
  | .ite c a b => by
    simp only [force]
    split
    · rename_i hk
      cases badP a
      · cases badP b
        · exact mkB_kind _
        · exact (mkAnd_spec c _ hk (force_kind a) (fun _ _ _ => 0) fun _ => 0).2
      · exact (mkAnd_spec (mkNot c) _ (mkNot_spec c (fun _ _ _ => 0) fun _ => 0).2 (force_kind b) (fun _ _ _ => 0) fun _ => 0).2
    · exact mkB_kind _
  | .sc _ | .ptr .. | .pi .. | .sl .. | .ls .. | .pe .. | .mp .. | .oq .. | .fn .. | .agg .. | .tup .. | .gd .. | .und | .nilp _ | .gl .. => by simp [force]
theorem force_spec : ∀ v : SV, ((force v).1.tt F ρ = true → v.conc F ρ ad = (force v).2.conc F ρ ad) ∧ (v.ok p → (force v).2.ok p)
  | .ite c a b => by
    simp only [force]
    split
    · rename_i hk
      cases badP a
      · cases badP b
        · exact ⟨fun _ => rfl, fun h => h⟩
        · simp only [cond_true, cond_false]
          have h1 := (mkAnd_spec c _ hk (force_kind a) F ρ).1
          obtain ⟨i1, i2⟩ := force_spec a
          refine ⟨fun h => ?_, fun h => i2 h.1⟩
          rw [h1, Bool.and_eq_true] at h
          simp only [SV.conc, h.1, cond_true]
          exact i1 h.2
      · simp only [cond_true]
        have h1 := (mkAnd_spec (mkNot c) _ (mkNot_spec c F ρ).2 (force_kind b) F ρ).1
        obtain ⟨i1, i2⟩ := force_spec b
        refine ⟨fun h => ?_, fun h => i2 h.2⟩
        rw [h1, Bool.and_eq_true, (mkNot_spec c F ρ).1] at h
        have hc : c.tt F ρ = false := by simpa using h.1
        simp only [SV.conc, hc, cond_false]
        exact i1 h.2
    · exact ⟨fun _ => rfl, fun h => h⟩
  | .sc _ | .ptr .. | .pi .. | .sl .. | .ls .. | .pe .. | .mp .. | .oq .. | .fn .. | .agg .. | .tup .. | .gd .. | .und | .nilp _ | .gl .. => by simp [force]

/-- The operands of an operation, pointers forced. -/
def forceG (get : Operand → Option SV) (ts : List Nat) : Operand → Option SV
  | .tmp t => if ts.contains t = true then (get (.tmp t)).map fun v => (force v).2 else none
  | x => get x
def forceOb (get : Operand → Option SV) : List Nat → E
  | [] => mkB true
  | t :: r => match get (.tmp t) with
    | some v => mkAnd (force v).1 (forceOb get r)
    | none => forceOb get r
def tmpsOf : List Operand → List Nat
  | [] => []
  | .tmp t :: r => t :: tmpsOf r
  | _ :: r => tmpsOf r
theorem forceOb_kind (get : Operand → Option SV) : ∀ l, (forceOb get l).kind = .b
  | [] => mkB_kind _
  | x :: r => by
    simp only [forceOb]
    split
    · exact (mkAnd_spec _ _ (force_kind _) (forceOb_kind get r) (fun _ _ _ => 0) fun _ => 0).2
    · exact forceOb_kind get r
theorem forceOb_spec : ∀ {l : List Nat}, (forceOb get l).tt F ρ = true → ∀ x ∈ l, ∀ v, get (.tmp x) = some v → (force v).1.tt F ρ = true
  | [], _, x, hx, _, _ => by cases hx
  | y :: r, h, x, hx, v, hv => by
    simp only [forceOb] at h
    split at h
    · rename_i u hu
      rw [(mkAnd_spec _ _ (force_kind _) (forceOb_kind get r) F ρ).1, Bool.and_eq_true] at h
      rcases List.mem_cons.1 hx with rfl | hx
      · rw [hv] at hu; simp only [Option.some.injEq] at hu; subst hu; exact h.1
      · exact forceOb_spec h.2 x hx v hv
    · rename_i hu
      rcases List.mem_cons.1 hx with rfl | hx
      · rw [hv] at hu; cases hu
      · exact forceOb_spec h x hx v hv
theorem forceG_spec (hg : ∀ x v, get x = some v → ev x = v.conc F ρ ad ∧ v.ok p) {ts : List Nat} (hf : (forceOb get ts).tt F ρ = true) : ∀ x v, forceG get ts x = some v → ev x = v.conc F ρ ad ∧ v.ok p := by
  intro x v h
  cases x with
  | tmp t =>
    simp only [forceG] at h
    split at h
    · rename_i hc
      obtain ⟨u, h1, rfl⟩ := Option.map_eq_some_iff.1 h
      obtain ⟨i1, i2⟩ := hg _ u h1
      have hft := forceOb_spec hf t (by simpa using hc) u h1
      exact ⟨i1.trans ((force_spec (F := F) (ρ := ρ) (ad := ad) (p := p) u).1 hft), (force_spec (F := F) (ρ := ρ) (ad := ad) (p := p) u).2 i2⟩
    · cases h
  | const _ => exact hg _ v h
  | global _ => exact hg _ v h
  | func _ => exact hg _ v h
theorem forceG_ok (hg : ∀ x v, get x = some v → v.ok p) {ts : List Nat} : ∀ x v, forceG get ts x = some v → v.ok p := by
  intro x v h
  cases x with
  | tmp t =>
    simp only [forceG] at h
    split at h
    · obtain ⟨u, h1, rfl⟩ := Option.map_eq_some_iff.1 h
      exact (force_spec (F := fun _ _ _ => 0) (ρ := fun _ => 0) (ad := fun _ => default) (p := p) u).2 (hg _ u h1)
    · cases h
  | const _ => exact hg _ v h
  | global _ => exact hg _ v h
  | func _ => exact hg _ v h

theorem nilE_spec : ∀ {v : SV} {e : E}, nilE v = some e → e.kind = .b ∧ ∃ a, v.conc F ρ ad = .pointer a ∧ e.tt F ρ = a.isNone
  | .nilp c, e, h => by
    cases c <;> simp only [nilE, Option.some.injEq, reduceCtorEq] at h
    subst h
    exact ⟨rfl, none, rfl, by simp⟩
  | .ptr .., e, h | .pi .., e, h | .pe .., e, h | .gl .., e, h => by
    simp only [nilE, Option.some.injEq] at h
    subst h
    exact ⟨rfl, _, rfl, by simp⟩
  | .ite c a b, e, h => by
    simp only [nilE] at h
    split at h
    · rename_i x y hx hy
      split at h
      · rename_i hk
        simp only [Option.some.injEq] at h
        subst h
        obtain ⟨i1, pa, i2, i3⟩ := nilE_spec (v := a) hx
        obtain ⟨j1, pb, j2, j3⟩ := nilE_spec (v := b) hy
        have hm := mkIte_spec c x y hk.1 (by rw [hk.2.1, hk.2.2]) F ρ
        refine ⟨by rw [hm.2, hk.2.1], ?_⟩
        have hv := hm.1
        rw [E.val_b (by rw [hm.2, hk.2.1]), E.val_b hk.2.1, E.val_b hk.2.2] at hv
        cases hc : c.tt F ρ
        · simp only [hc, cond_false, Value.bool.injEq] at hv
          exact ⟨pb, by simp only [SV.conc, hc, cond_false]; exact j2, by rw [hv, j3]⟩
        · simp only [hc, cond_true, Value.bool.injEq] at hv
          exact ⟨pa, by simp only [SV.conc, hc, cond_true]; exact i2, by rw [hv, i3]⟩
      · cases h
    · cases h
  | .sc _, e, h | .sl .., e, h | .ls .., e, h | .mp .., e, h | .oq .., e, h | .fn .., e, h | .agg .., e, h | .tup .., e, h | .gd .., e, h | .und, e, h => by simp [nilE] at h

theorem scI_spec (hg : ∀ x v, get x = some v → ev x = v.conc F ρ ad ∧ v.ok p) {x : Operand} {e : E} (h : scI get x = some e) : ev x = .int .i64 (e.den F ρ) ∧ e.kind = .i .i64 := by
  unfold scI at h
  split at h
  · rename_i e' hx
    split at h
    · rename_i hk
      simp only [Option.some.injEq] at h
      subst h
      exact ⟨by rw [(hg x _ hx).1]; simp only [SV.conc, E.val_i hk], hk⟩
    · cases h
  · cases h
theorem scO_spec (hg : ∀ x v, get x = some v → ev x = v.conc F ρ ad ∧ v.ok p) {x : Option Operand} {e : Option E} (h : scO get x = some e) : x.map ev = e.map (E.val F ρ) := by
  cases x with
  | none => simp only [scO, Option.some.injEq] at h; subst h; rfl
  | some y =>
    obtain ⟨e', h1, rfl⟩ := Option.map_eq_some_iff.1 h
    obtain ⟨i1, i2⟩ := scI_spec hg h1
    simp [i1, E.val_i i2]
theorem elemOf_spec {t e : Nat} (h : elemOf P t = some e) : P.underlying t = some (.slice e) := by
  unfold elemOf at h
  split at h
  · simp only [Option.some.injEq] at h; subst h; assumption
  · cases h
theorem ptrT_spec {t : Nat} (h : ptrT P t = true) : P.underlying t = some (.pointer (P.pointee t)) := by
  unfold ptrT at h
  split at h
  · rename_i e hu; simp [Program.pointee, hu]
  · cases h
theorem inB_spec {i le : E} : (inB i le).kind = .b ∧ ((inB i le).tt F ρ = true → 0 ≤ i.den F ρ ∧ i.den F ρ < le.den F ρ) := by
  have h1 := mkCmp_spec .geq i (.lit (.i .i64) 0) F ρ
  have h2 := mkCmp_spec .lss i le F ρ
  have h3 := mkAnd_spec _ _ h1.2 h2.2 F ρ
  refine ⟨h3.2, fun h => ?_⟩
  unfold inB at h
  rw [h3.1, h1.1, h2.1, Bool.and_eq_true] at h
  simp only [cmpB, decide_eq_true_eq] at h
  have h0 : (E.lit (.i .i64) 0).den F ρ = 0 := by rfl
  rw [h0] at h
  exact ⟨h.1, h.2⟩

theorem isSlV_spec : ∀ {v : SV}, isSlV v = true → ∃ a n c, v.conc F ρ ad = .slice a n c
  | .ls n le, _ => by
    simp only [SV.conc, Hd.sl]
    cases (ad n).nil && (E.den F ρ le).toNat == 0
    · exact ⟨_, _, _, rfl⟩
    · exact ⟨_, _, _, rfl⟩
  | .nilp c, h => by cases c <;> simp [isSlV] at h; exact ⟨_, _, _, rfl⟩
  | .sl .., _ => ⟨_, _, _, rfl⟩
  | .ite c a b, h => by
    simp only [isSlV, Bool.and_eq_true] at h
    simp only [SV.conc]
    cases c.tt F ρ
    · exact isSlV_spec h.2
    · exact isSlV_spec h.1
  | .sc _, h | .ptr .., h | .pi .., h | .pe .., h | .mp .., h | .oq .., h | .fn .., h | .agg .., h | .tup .., h | .gd .., h | .und, h | .gl .., h => by simp [isSlV] at h

theorem descL_kind {o : Oper} {g : E} {x : X} (h : descL P get o = some (g, x)) : g.kind = .b := by
  unfold descL at h
  repeat' split at h
  all_goals first
    | (simp only [Option.some.injEq, Prod.mk.injEq] at h; obtain ⟨rfl, rfl⟩ := h; (first | exact mkB_kind _ | exact (inB_spec (F := fun _ _ _ => 0) (ρ := fun _ => 0)).1))
    | (obtain ⟨e, he, hp⟩ := Option.map_eq_some_iff.1 h; simp only [Prod.mk.injEq] at hp; obtain ⟨rfl, rfl⟩ := hp; exact mkB_kind _)
    | cases h

theorem descL_run {o : Oper} {g : E} {x : X} (hg : ∀ x v, get x = some v → ev x = v.conc F ρ ad ∧ v.ok p) (h : descL P get o = some (g, x)) :
    g.kind = .b ∧ (g.tt F ρ = true → (execOp ev o).run P w = x.run P F ρ ad w) ∧ x.good F ρ p := by
  unfold descL at h
  split at h
  · rename_i t a ho
    split at h
    · rename_i n s i f ag sz h1 h2 h3
      simp only [Option.some.injEq, Prod.mk.injEq] at h
      obtain ⟨rfl, rfl⟩ := h
      obtain ⟨e1, k1⟩ := hg a _ h1
      refine ⟨rfl, fun _ => ?_, k1⟩
      have := loadAt_run (P := P) (w := w) (b := (ad n).blk) (off := (ad n).off + (i.den F ρ).toNat * s + f) h2 h3
      simp only [execOp, ho, e1, SV.conc, X.run]
      exact this
    · cases h
  · rename_i t a x ho
    split at h
    · rename_i n s i f v sz h1 h2 h3
      split at h
      · rename_i hc
        simp only [Option.some.injEq, Prod.mk.injEq] at h
        obtain ⟨rfl, rfl⟩ := h
        obtain ⟨e1, k1⟩ := hg a _ h1
        obtain ⟨e2, k2⟩ := hg x _ h2
        refine ⟨rfl, fun _ => ?_, k1, SV.ok_cells k2, hc.2⟩
        have := storeAt_run (P := P) (F := F) (ρ := ρ) (ad := ad) (w := w) (b := (ad n).blk) (off := (ad n).off + (i.den F ρ).toNat * s + f) h3 hc.1 hc.2
        simp only [execOp, ho, e1, e2, SV.conc, X.run]
        exact this
      · cases h
    · cases h
  · rename_i t x ix ho
    split at h
    · rename_i e n le i h1 h2 h3
      split at h
      · rename_i s hs
        simp only [Option.some.injEq, Prod.mk.injEq] at h
        obtain ⟨rfl, rfl⟩ := h
        obtain ⟨e2, k2⟩ := hg x _ h2
        obtain ⟨e3, k3⟩ := scI_spec hg h3
        refine ⟨(inB_spec (F := F) (ρ := ρ)).1, fun hb => ?_, k2⟩
        obtain ⟨b1, b2⟩ := (inB_spec (F := F) (ρ := ρ)).2 hb
        have hu := elemOf_spec h1
        have hsl : (ad n).sl (le.den F ρ).toNat = .slice (some ⟨(ad n).blk, (ad n).off, none⟩) (le.den F ρ).toNat (ad n).cap := by
          unfold Hd.sl
          have : ((le.den F ρ).toNat == 0) = false := by simp; omega
          rw [this]; simp
        have hlt : i.den F ρ < ((le.den F ρ).toNat : Int) := by omega
        simp [execOp, ho, e2, e3, SV.conc, hsl, X.run, D.run, Instr.indexAt, run_underlying hu, asIntOf, b1, hlt, run_sizeOf' w hs, Addr.add_none]
        intro hh
        omega
      · cases h
    · cases h
  · rename_i op t x y t' ho
    split at h
    · rename_i a b h1 h2
      split at h
      · rename_i ht
        obtain ⟨e1, k1⟩ := hg x _ h1
        obtain ⟨e2, k2⟩ := hg y _ h2
        have hu := ptrT_spec ht
        have nilv : ∀ v : SV, isNilP v = true → v.conc F ρ ad = .pointer none := fun v hv => by
          unfold isNilP at hv
          split at hv
          · rfl
          · cases hv
        have eqr : ∀ (q : Option Addr), (binOp .eql t (.pointer q) (.pointer none)).run P w = .ok (.bool q.isNone) w := fun q => by
          simp only [binOp, Sem.run_bind, run_equal_pointer_nil w t q hu, Result.andThen_ok]
          rfl
        have eql : ∀ (q : Option Addr), (binOp .eql t (.pointer none) (.pointer q)).run P w = .ok (.bool q.isNone) w := fun q => by
          have : (Op.equal t (.pointer none) (.pointer q)).run P w = .ok q.isNone w := run_equal_nil_pointer w t q hu
          simp only [binOp, Sem.run_bind, this, Result.andThen_ok]
          rfl
        have neql : ∀ (q : Option Addr), (binOp .neq t (.pointer none) (.pointer q)).run P w = .ok (.bool (!q.isNone)) w := fun q => by
          have : (Op.equal t (.pointer none) (.pointer q)).run P w = .ok q.isNone w := run_equal_nil_pointer w t q hu
          simp only [binOp, Sem.run_bind, this, Result.andThen_ok]
          rfl
        have neqr : ∀ (q : Option Addr), (binOp .neq t (.pointer q) (.pointer none)).run P w = .ok (.bool (!q.isNone)) w := fun q => by
          simp only [binOp, Sem.run_bind, run_equal_pointer_nil w t q hu, Result.andThen_ok]
          rfl
        have gd : ∀ (op : BinOp) (q r : Option Addr), (eqGuard op t x y (.pointer q) (.pointer r)).run P w = .ok () w := fun op q r => by
          cases op <;> rfl
        have fin : ∀ (op : BinOp) (q r : Option Addr) (z : Bool), o.op = .binOp op t x y t' → ev x = .pointer q → ev y = .pointer r → (binOp op t (.pointer q) (.pointer r)).run P w = .ok (.bool z) w → (execOp ev o).run P w = .ok (.value (.bool z)) w := fun op q r z ho hx hy hb => by
          simp [execOp, ho, hx, hy, gd, hb]
        split at h
        · rename_i hb
          obtain ⟨e, he, hp⟩ := Option.map_eq_some_iff.1 h
          simp only [Prod.mk.injEq] at hp
          obtain ⟨rfl, rfl⟩ := hp
          obtain ⟨i1, q, i2, i3⟩ := nilE_spec (F := F) (ρ := ρ) (ad := ad) he
          refine ⟨rfl, fun _ => ?_, trivial⟩
          rw [fin _ q none _ ho (e1.trans i2) (e2.trans (nilv b hb)) (eqr q)]
          simp [X.run, D.run, SV.conc, E.val_b i1, i3]
        · rename_i hb hn
          obtain ⟨e, he, hp⟩ := Option.map_eq_some_iff.1 h
          simp only [Prod.mk.injEq] at hp
          obtain ⟨rfl, rfl⟩ := hp
          obtain ⟨i1, q, i2, i3⟩ := nilE_spec (F := F) (ρ := ρ) (ad := ad) he
          refine ⟨rfl, fun _ => ?_, trivial⟩
          rw [fin _ none q _ ho (e1.trans (nilv a hb)) (e2.trans i2) (eql q)]
          simp [X.run, D.run, SV.conc, E.val_b i1, i3]
        · rename_i hb
          obtain ⟨e, he, hp⟩ := Option.map_eq_some_iff.1 h
          simp only [Prod.mk.injEq] at hp
          obtain ⟨rfl, rfl⟩ := hp
          obtain ⟨i1, q, i2, i3⟩ := nilE_spec (F := F) (ρ := ρ) (ad := ad) he
          have hn := mkNot_spec e F ρ
          refine ⟨rfl, fun _ => ?_, trivial⟩
          rw [fin _ q none _ ho (e1.trans i2) (e2.trans (nilv b hb)) (neqr q)]
          simp [X.run, D.run, SV.conc, E.val_b hn.2, hn.1, i3]
        · rename_i hb hn
          obtain ⟨e, he, hp⟩ := Option.map_eq_some_iff.1 h
          simp only [Prod.mk.injEq] at hp
          obtain ⟨rfl, rfl⟩ := hp
          obtain ⟨i1, q, i2, i3⟩ := nilE_spec (F := F) (ρ := ρ) (ad := ad) he
          have hn := mkNot_spec e F ρ
          refine ⟨rfl, fun _ => ?_, trivial⟩
          rw [fin _ none q _ ho (e1.trans (nilv a hb)) (e2.trans i2) (neql q)]
          simp [X.run, D.run, SV.conc, E.val_b hn.2, hn.1, i3]
        · cases h
      · cases h
    · cases h
  · rename_i t x lo hi ho
    split at h
    · rename_i e v l u h1 h2 h3 h4
      split at h
      · rename_i hv
        simp only [Option.some.injEq, Prod.mk.injEq] at h
        obtain ⟨rfl, rfl⟩ := h
        obtain ⟨e2, k2⟩ := hg x _ h2
        have e3 := scO_spec (F := F) (ρ := ρ) (ad := ad) (p := p) hg h3
        have e4 := scO_spec (F := F) (ρ := ρ) (ad := ad) (p := p) hg h4
        refine ⟨rfl, fun _ => ?_, k2⟩
        simp only [execOp, ho, e2, e3, e4, X.run, valN, Option.map_none]
        simp only [Sem.run_bind]
        rfl
      · cases h
    · cases h
  · rename_i t l c ho
    split at h
    · rename_i e n k h1 h2 h3
      simp only [Option.some.injEq, Prod.mk.injEq] at h
      obtain ⟨rfl, rfl⟩ := h
      obtain ⟨e2, k2⟩ := scI_spec (F := F) (ρ := ρ) (ad := ad) (p := p) hg h2
      obtain ⟨e3, k3⟩ := scI_spec (F := F) (ρ := ρ) (ad := ad) (p := p) hg h3
      refine ⟨rfl, fun _ => ?_, trivial⟩
      simp only [execOp, ho, e2, e3, X.run, valN, E.val_i k2, E.val_i k3]
      simp only [Sem.run_bind]
      rfl
    · cases h
  · rename_i c ho
    split at h
    · rename_i x t hcal hargs htys
      split at h
      · rename_i e v h1 h2
        split at h
        · rename_i hv
          simp only [Option.some.injEq, Prod.mk.injEq] at h
          obtain ⟨rfl, rfl⟩ := h
          obtain ⟨e2, k2⟩ := hg x _ h2
          refine ⟨rfl, fun _ => ?_, k2⟩
          obtain ⟨a, n, cp, hc⟩ := isSlV_spec (F := F) (ρ := ρ) (ad := ad) hv
          have hu := elemOf_spec h1
          have ea : c.args.map ev = #[ev x] := by apply Array.ext'; simp [hargs]
          have et : c.argTypes = #[t] := by apply Array.ext'; simpa using htys
          have hel : P.elem t = e := by simp [Program.elem, hu]
          have hl := run_len_slice (P := P) w t o.type a n cp (by rw [hel]; exact hu)
          simp only [execOp, ho, resolve, hcal, ea, et, Sem.run_bind, Sem.run_pure, Result.andThen_ok, invoke, builtin, e2, hc, hl, X.run, lenR]
        · cases h
      · cases h
    · rename_i x y t t' hcal hargs htys
      split at h
      · rename_i e a b h1 h2 h3
        split at h
        · rename_i hv
          simp only [Option.some.injEq, Prod.mk.injEq] at h
          obtain ⟨rfl, rfl⟩ := h
          obtain ⟨rfl, _, _⟩ := hv
          obtain ⟨e2, k2⟩ := hg x _ h2
          obtain ⟨e3, k3⟩ := hg y _ h3
          refine ⟨rfl, fun _ => ?_, k2, k3⟩
          have ea : c.args.map ev = #[ev x, ev y] := by apply Array.ext'; simp [hargs]
          have et : c.argTypes = #[t', t'] := by apply Array.ext'; simpa using htys
          simp only [execOp, ho, resolve, hcal, ea, et, Sem.run_bind, Sem.run_pure, Result.andThen_ok, invoke, builtin, e2, e3, X.run, valN]
        · cases h
      · cases h
    · cases h
  · cases h

/-- Division by what is not a literal. -/
def descQ (get : Operand → Option SV) (o : Oper) : Option (E × X) :=
  match o.op with
  | .binOp .quo _ x y _ => match get x, get y with
    | some (.sc a), some (.sc b) => match a.kind with
      | .i k => if b.kind = .i k then some (mkCmp .neq b (.lit (.i k) 0), .old (.val (.sc (.app (.i k) 0 20 [a, b])))) else none
      | _ => none
    | _, _ => none
  | .binOp .rem _ x y _ => match get x, get y with
    | some (.sc a), some (.sc b) => match a.kind with
      | .i k => if b.kind = .i k ∧ a.sound = true then some (mkCmp .neq b (.lit (.i k) 0), .old (.val (.sc (.app (.i k) 0 21 [a, b])))) else none
      | _ => none
    | _, _ => none
  | _ => none

theorem descQ_run (hB : ∀ j xs, F 0 j xs = bi j xs) {o : Oper} {g : E} {x : X} (hg : ∀ x v, get x = some v → ev x = v.conc F ρ ad ∧ v.ok p) (h : descQ get o = some (g, x)) :
    g.kind = .b ∧ (g.tt F ρ = true → (execOp ev o).run P w = x.run P F ρ ad w ∧ x.good F ρ p) := by
  unfold descQ at h
  split at h
  · rename_i t x y t' ho
    split at h
    · rename_i a b h1 h2
      split at h
      · rename_i k hk
        split at h
        · rename_i hb
          simp only [Option.some.injEq, Prod.mk.injEq] at h
          obtain ⟨rfl, rfl⟩ := h
          have hs := mkCmp_spec .neq b (.lit (.i k) 0) F ρ
          refine ⟨hs.2, fun ht => ⟨?_, trivial⟩⟩
          rw [hs.1] at ht
          have hz : (E.lit (.i k) 0).den F ρ = 0 := by simp only [E.den, K.norm]; cases k <;> decide
          have hne : b.den F ρ ≠ 0 := by simpa [cmpB, hz] using ht
          have hv : (E.app (.i k) 0 20 [a, b]).den F ρ = k.wrap ((a.den F ρ).tdiv (b.den F ρ)) := by simp only [E.den, E.denL, K.norm, hB]; rfl
          have e1 := (hg x _ h1).1
          have e2 := (hg y _ h2).1
          simp only [SV.conc, E.val_i hk, E.val_i hb] at e1 e2
          simp only [execOp, ho, e1, e2, X.run, D.run, SV.conc, E.val_i (show (E.app (.i k) 0 20 [a, b]).kind = .i k from rfl), hv]
          simp [eqGuard, binOp_quo, Op.intDiv, hne]
        · cases h
      · cases h
    · cases h
  · rename_i t x y t' ho
    split at h
    · rename_i a b h1 h2
      split at h
      · rename_i k hk
        split at h
        · rename_i hb
          simp only [Option.some.injEq, Prod.mk.injEq] at h
          obtain ⟨rfl, rfl⟩ := h
          have hs := mkCmp_spec .neq b (.lit (.i k) 0) F ρ
          refine ⟨hs.2, fun ht => ⟨?_, trivial⟩⟩
          rw [hs.1] at ht
          have hz : (E.lit (.i k) 0).den F ρ = 0 := by simp only [E.den, K.norm]; cases k <;> decide
          have hne : b.den F ρ ≠ 0 := by simpa [cmpB, hz] using ht
          have hn := E.den_norm F ρ a hb.2
          rw [hk] at hn
          have hv : (E.app (.i k) 0 21 [a, b]).den F ρ = (a.den F ρ).tmod (b.den F ρ) := by
            simp only [E.den, E.denL, K.norm, hB]
            exact tmod_wrap k _ _ hn
          have e1 := (hg x _ h1).1
          have e2 := (hg y _ h2).1
          simp only [SV.conc, E.val_i hk, E.val_i hb.1] at e1 e2
          simp only [execOp, ho, e1, e2, X.run, D.run, SV.conc, E.val_i (show (E.app (.i k) 0 21 [a, b]).kind = .i k from rfl), hv]
          simp [eqGuard, binOp_rem, Op.intDiv, hne]
        · cases h
      · cases h
    · cases h
  · cases h

/-- The descriptor of an operation, with the condition under which it tells it. -/
def descX (P : Program) (get : Operand → Option SV) (o : Oper) : Option (E × X) :=
  match desc P get o.op with
  | some d => some (mkB true, lift P d)
  | none => match descL P get o with
    | some x => some x
    | none => match descQ get o with
     | some x => some x
     | none => match desc P (forceG get (tmpsOf o.op.operands.toList)) o.op with
      | some d => some (forceOb get (tmpsOf o.op.operands.toList), lift P d)
      | none => (descL P (forceG get (tmpsOf o.op.operands.toList)) o).map fun x => (mkAnd (forceOb get (tmpsOf o.op.operands.toList)) x.1, x.2)

theorem lift_run {d : D} : (lift P d).run P F ρ ad w = d.run P F ρ ad w := by
  unfold lift
  split
  · split
    · rename_i ks size bytes _ _
      cases (snocs ks _ _ NILL).isSome && decide (size = ks.length) && decide ((_ : Int) ≤ capOf bytes) <;> rfl
    · rfl
  · rfl
theorem lift_good {d : D} (h : d.good F ρ p) : (lift P d).good F ρ p := by
  unfold lift
  split
  · split
    · rename_i ks size bytes _ _
      cases (snocs ks _ _ NILL).isSome && decide (size = ks.length) && decide ((_ : Int) ≤ capOf bytes) <;> exact h
    · exact h
  · exact h

theorem descX_run (hB : ∀ j xs, F 0 j xs = bi j xs) {o : Oper} {g : E} {x : X} (hg : ∀ x v, get x = some v → ev x = v.conc F ρ ad ∧ v.ok p) (h : descX P get o = some (g, x)) :
    g.kind = .b ∧ (g.tt F ρ = true → (execOp ev o).run P w = x.run P F ρ ad w ∧ x.good F ρ p) := by
  unfold descX at h
  split at h
  · rename_i d hd
    simp only [Option.some.injEq, Prod.mk.injEq] at h
    obtain ⟨rfl, rfl⟩ := h
    exact ⟨rfl, fun _ => by rw [lift_run]; exact ⟨(desc_run hg hd).1, lift_good (desc_run (w := w) hg hd).2⟩⟩
  · split at h
    · rename_i y hy
      simp only [Option.some.injEq] at h; subst h
      obtain ⟨i1, i2, i3⟩ := descL_run (w := w) hg hy
      exact ⟨i1, fun hh => ⟨i2 hh, i3⟩⟩
    · split at h
      · rename_i y hy
        simp only [Option.some.injEq] at h; subst h
        exact descQ_run hB hg hy
      split at h
      · rename_i d hd
        simp only [Option.some.injEq, Prod.mk.injEq] at h
        obtain ⟨rfl, rfl⟩ := h
        exact ⟨forceOb_kind _ _, fun hh => by rw [lift_run]; exact ⟨(desc_run (forceG_spec hg hh) hd).1, lift_good (desc_run (w := w) (forceG_spec hg hh) hd).2⟩⟩
      · obtain ⟨⟨g1, y⟩, hy, he⟩ := Option.map_eq_some_iff.1 h
        simp only [Prod.mk.injEq] at he
        obtain ⟨rfl, rfl⟩ := he
        have hk : g1.kind = .b := by
          have := descL_kind hy
          exact this
        have hm := mkAnd_spec _ _ (forceOb_kind get (tmpsOf o.op.operands.toList)) hk F ρ
        refine ⟨hm.2, fun hh => ?_⟩
        rw [hm.1, Bool.and_eq_true] at hh
        obtain ⟨i1, i2, i3⟩ := descL_run (w := w) (forceG_spec hg hh.1) hy
        exact ⟨i2 hh.2, i3⟩
end
end Go.Proofs.YtbolcnlenmphhaaDoor.Ew

/- What the operations on lists do to the memory of named things; that it tells what they do to the world. -/
set_option linter.unusedVariables false
set_option linter.unusedSimpArgs false
namespace Go.Proofs.YtbolcnlenmphhaaDoor.Ew
open Go Go.RowKit

/-! ### what a slice reads as -/
structure LV where
  own : Bool
  sh : Bool
  le : E
  c : E
  ns : List Nat
  g : E
  deriving Repr, Inhabited

def viewL (m : Mem) (ty : Nat) (row : Row) : SV → Option LV
  | .ls n le => match m.at n with
    | some (g, .lst ty' row' own le' c) => if ty' = ty ∧ row' = row ∧ le.same le' = true ∧ c.kind = .x ∧ le'.kind = .i .i64 ∧ g.kind = .b then some ⟨own, !own, le', c, [n], g⟩ else none
    | _ => none
  | .nilp .nS => some ⟨true, true, .lit (.i .i64) 0, NILL, [], mkB true⟩
  | .ite q a b => match viewL m ty row a, viewL m ty row b with
    | some x, some y => if q.kind = .b then some ⟨x.own && y.own, x.sh && y.sh, mkIte q x.le y.le, mkIte q x.c y.c, x.ns ++ y.ns, mkIte q x.g y.g⟩ else none
    | _, _ => none
  | _ => none
/-- The type and the rows of a slice's elements, as the memory has them. -/
def tyL (m : Mem) : SV → Option (Nat × Row)
  | .ls n _ => match m.at n with
    | some (_, .lst ty row _ _ _) => some (ty, row)
    | _ => none
  | .nilp .nS => none
  | .ite _ a b => match tyL m a with
    | some x => some x
    | none => tyL m b
  | _ => none

/-- A list's rows are in memory. -/
def RdL (w : World) (Im : Nat → Prop) (q : Row) (h : Hd) (l : RL) : Prop :=
  l.length ≤ maxLen ∧ l.length ≤ h.cap ∧ ∀ i r', l[i]? = some r' → ∃ us, RowV w Im q r' us ∧ ∀ j u, us[j]? = some u → w.cell? ⟨h.blk, h.off + i * q.size + j, none⟩ = some u

section
variable {P : Program} {F : Fam} {ρ : Nat → Int} {G : Glob} {w0 w w' : World} {M0 Im0 Im Im' T : Nat → Prop} {ad ad' : Nat → Hd} {m m' : Mem} {q : Row} {h : Hd} {l : RL} {ty : Nat}

theorem ShL.rd (hs : ShL w Im q h l) : RdL w Im q h l := ⟨hs.1, hs.2.1, hs.2.2.2⟩
theorem OwL.rd (ho : OwL w Im ty q h l) : RdL w Im q h l := by
  obtain ⟨h1, xs, h2, h3⟩ := ho
  rcases h2.2 with ⟨hn, hl⟩ | ⟨g, cap, cur, e, k1, k2, k3, k4, k5, k6⟩
  · have hl' : l = [] := List.eq_nil_of_length_eq_zero hl
    subst hl'
    exact ⟨Nat.zero_le _, Nat.zero_le _, fun i r' hi => by simp at hi⟩
  · have hg : (h.sl l.length).ownBlock = some g := by rw [e]; rfl
    have hgb := Hd.own_blk hg
    subst hgb
    have hoff : h.off = 0 ∧ h.cap = cap := by
      unfold Hd.sl at e
      cases hnn : h.nil && l.length == 0
      · rw [hnn] at e; simp at e; exact e
      · rw [hnn] at e; simp at e
    refine ⟨h1, by omega, fun i r' hi => ?_⟩
    obtain ⟨us, u1, u2⟩ := h3.get i r' hi
    refine ⟨us, u1, fun j u hu => ?_⟩
    have hx := u2 j u hu
    rw [hoff.1, Nat.zero_add]
    have := h2.cells hg (i * q.size + j) u hx
    rwa [Addr.add_none, Nat.zero_add] at this

theorem den_NILL : NILL.den F ρ = F 0 2 [] := rfl
/-- The family's operations on lists are those of the text. -/
def BI (F : Fam) : Prop := ∀ j xs, F 0 j xs = bi j xs
theorem BI.nil (hB : BI F) : NILL.den F ρ = cd [] := by rw [den_NILL, hB]; rfl
theorem BI.len (hB : BI F) (c : E) : (LEN c).den F ρ = IntKind.i64.wrap ((dc (c.den F ρ)).length : Int) := by
  simp only [LEN, E.den, E.denL, K.norm]
  rw [hB]
  rfl

structure LVok (F : Fam) (ρ : Nat → Int) (w : World) (Im : Nat → Prop) (ad : Nat → Hd) (m : Mem) (ty : Nat) (row : Row) (v : SV) (V : LV) (hd : Hd) : Prop where
  conc : v.conc F ρ ad = hd.sl (dc (V.c.den F ρ)).length
  code : isCd (V.c.den F ρ)
  len : V.le.den F ρ = ((dc (V.c.den F ρ)).length : Int)
  rd : RdL w Im row hd (dc (V.c.den F ρ))
  own : V.own = true → OwL w Im ty row hd (dc (V.c.den F ρ))
  sh : V.sh = true → ShL w Im row hd (dc (V.c.den F ρ))
  blk : V.own = true → ∀ b, (hd.sl (dc (V.c.den F ρ)).length).ownBlock = some b → ∃ n ∈ V.ns, ∃ g x, m.at n = some (g, x) ∧ g.tt F ρ = true ∧ mutB F ρ ad n x = some b

theorem mkIte_b {q x y : E} (hq : q.kind = .b) (hx : x.kind = .b) (hy : y.kind = .b) : (mkIte q x y).kind = .b ∧ (mkIte q x y).tt F ρ = bif q.tt F ρ then x.tt F ρ else y.tt F ρ := by
  have h := mkIte_spec q x y hq (hx.trans hy.symm) F ρ
  have hk : (mkIte q x y).kind = .b := by rw [h.2, hx]
  refine ⟨hk, ?_⟩
  have h1 := h.1
  rw [E.val_b hk, E.val_b hx, E.val_b hy] at h1
  cases hc : q.tt F ρ <;> simp only [hc, cond_true, cond_false, Value.bool.injEq] at h1 ⊢ <;> exact h1
theorem mkIte_i {q x y : E} {k : IntKind} (hq : q.kind = .b) (hx : x.kind = .i k) (hy : y.kind = .i k) : (mkIte q x y).kind = .i k ∧ (mkIte q x y).den F ρ = bif q.tt F ρ then x.den F ρ else y.den F ρ := by
  have h := mkIte_spec q x y hq (hx.trans hy.symm) F ρ
  have hk : (mkIte q x y).kind = .i k := by rw [h.2, hx]
  refine ⟨hk, ?_⟩
  have h1 := h.1
  rw [E.val_i hk, E.val_i hx, E.val_i hy] at h1
  cases hc : q.tt F ρ <;> simp only [hc, cond_true, cond_false, Value.int.injEq] at h1 ⊢ <;> exact h1.2
theorem mkIte_x {q x y : E} (hq : q.kind = .b) (hx : x.kind = .x) (hy : y.kind = .x) : (mkIte q x y).kind = .x ∧ (mkIte q x y).den F ρ = bif q.tt F ρ then x.den F ρ else y.den F ρ := by
  have h := mkIte_spec q x y hq (hx.trans hy.symm) F ρ
  have hk : (mkIte q x y).kind = .x := by rw [h.2, hx]
  refine ⟨hk, ?_⟩
  have h1 := h.1
  rw [E.val_x hk, E.val_x hx, E.val_x hy] at h1
  cases hc : q.tt F ρ <;> simp only [hc, cond_true, cond_false, Value.int.injEq] at h1 ⊢ <;> exact h1.2

theorem viewL_kind : ∀ {v : SV} {V : LV}, viewL m ty q v = some V → V.le.kind = .i .i64 ∧ V.c.kind = .x ∧ V.g.kind = .b
  | .ls n le, V, h => by
    simp only [viewL] at h
    split at h
    · split at h
      · rename_i hc
        simp only [Option.some.injEq] at h; subst h
        exact ⟨hc.2.2.2.2.1, hc.2.2.2.1, hc.2.2.2.2.2⟩
      · cases h
    · cases h
  | .nilp c, V, h => by
    cases c <;> simp only [viewL, Option.some.injEq, reduceCtorEq] at h
    subst h
    exact ⟨rfl, rfl, rfl⟩
  | .ite p a b, V, h => by
    simp only [viewL] at h
    split at h
    · rename_i x y hx hy
      split at h
      · rename_i hp
        simp only [Option.some.injEq] at h; subst h
        obtain ⟨i1, i2, i3⟩ := viewL_kind hx
        obtain ⟨j1, j2, j3⟩ := viewL_kind hy
        exact ⟨(mkIte_i (F := fun _ _ _ => 0) (ρ := fun _ => 0) hp i1 j1).1, (mkIte_x (F := fun _ _ _ => 0) (ρ := fun _ => 0) hp i2 j2).1, (mkIte_b (F := fun _ _ _ => 0) (ρ := fun _ => 0) hp i3 j3).1⟩
      · cases h
    · cases h
  | .sc _, V, h | .ptr .., V, h | .pi .., V, h | .sl .., V, h | .pe .., V, h | .mp .., V, h | .oq .., V, h | .fn .., V, h | .agg .., V, h | .tup .., V, h | .gd .., V, h | .und, V, h | .gl .., V, h => by simp [viewL] at h

theorem viewL_spec (hB : BI F) (hR : RelI F ρ w0 M0 Im ad m w) : ∀ {v : SV} {V : LV}, viewL m ty q v = some V → V.g.tt F ρ = true → ∃ hd, LVok F ρ w Im ad m ty q v V hd
  | .ls n le, V, h, hg => by
    simp only [viewL] at h
    split at h
    · rename_i g ty' row' own le' c hn
      split at h
      · rename_i hc
        obtain ⟨rfl, rfl, h3, h4, h5, h6⟩ := hc
        simp only [Option.some.injEq] at h; subst h
        simp only at hg
        obtain ⟨i1, i2⟩ := hR.ent n g _ hn hg
        obtain ⟨j1, j2, j3⟩ := i1
        have hle := E.same_eq _ _ h3
        subst hle
        have hlen : (le.den F ρ).toNat = (dc (c.den F ρ)).length := by rw [j2]; simp
        refine ⟨ad n, ⟨?_, j1, j2, ?_, ?_, ?_, ?_⟩⟩
        · simp only [SV.conc, hlen]
        · cases own
          · simp only [cond_false] at j3; exact j3.rd
          · simp only [cond_true] at j3; exact j3.rd
        · intro ho; simp only at ho; subst ho; exact j3
        · intro ho; simp only [Bool.not_eq_true'] at ho; subst ho; exact j3
        · intro ho b hb
          simp only at ho; subst ho
          exact ⟨n, by simp, g, _, hn, hg, by simp only [mutB, hlen]; exact hb⟩
      · cases h
    · cases h
  | .nilp c, V, h, hg => by
    cases c <;> simp only [viewL, Option.some.injEq, reduceCtorEq] at h
    subst h
    have hn := hB.nil (ρ := ρ)
    refine ⟨⟨0, 0, 0, true, undef⟩, ⟨?_, ?_, ?_, ?_, ?_, ?_, ?_⟩⟩
    · simp [hn, SV.conc, CV.val, Hd.sl]
    · simp [hn]
    · simp only [hn, dc_cd]; rfl
    · simp only [hn, dc_cd]; exact ⟨Nat.zero_le _, Nat.zero_le _, fun i r' hi => by simp at hi⟩
    · intro _; simp only [hn, dc_cd]; exact ⟨Nat.zero_le _, [], World.ownsRow_nil w 0 ty q.size, rfl⟩
    · intro _; simp only [hn, dc_cd]; exact ⟨Nat.zero_le _, Nat.zero_le _, fun x => (x rfl).elim, fun i r' hi => by simp at hi⟩
    · intro _ b hb; simp [hn, Hd.sl, Value.ownBlock] at hb
  | .ite p a b, V, h, hg => by
    simp only [viewL] at h
    split at h
    · rename_i x y hx hy
      split at h
      · rename_i hp
        simp only [Option.some.injEq] at h; subst h
        obtain ⟨i1, i2, i3⟩ := viewL_kind hx
        obtain ⟨j1, j2, j3⟩ := viewL_kind hy
        have k1 := (mkIte_i (F := F) (ρ := ρ) hp i1 j1).2
        have k2 := (mkIte_x (F := F) (ρ := ρ) hp i2 j2).2
        have k3 := (mkIte_b (F := F) (ρ := ρ) hp i3 j3).2
        simp only [k3] at hg
        cases hc : p.tt F ρ
        · simp only [hc, cond_false] at hg k1 k2
          obtain ⟨hd, o1, o2, o3, o4, o5, o6, o7⟩ := viewL_spec hB hR hy hg
          refine ⟨hd, ⟨?_, ?_, ?_, ?_, ?_, ?_, ?_⟩⟩
          · simp only [SV.conc, hc, cond_false, k2]; exact o1
          · simp only [k2]; exact o2
          · simp only [k1, k2]; exact o3
          · simp only [k2]; exact o4
          · simp only [k2, Bool.and_eq_true]; exact fun z => o5 z.2
          · simp only [k2, Bool.and_eq_true]; exact fun z => o6 z.2
          · simp only [k2, Bool.and_eq_true]
            intro z b hb
            obtain ⟨n, hn, rest⟩ := o7 z.2 b hb
            exact ⟨n, List.mem_append_right _ hn, rest⟩
        · simp only [hc, cond_true] at hg k1 k2
          obtain ⟨hd, o1, o2, o3, o4, o5, o6, o7⟩ := viewL_spec hB hR hx hg
          refine ⟨hd, ⟨?_, ?_, ?_, ?_, ?_, ?_, ?_⟩⟩
          · simp only [SV.conc, hc, cond_true, k2]; exact o1
          · simp only [k2]; exact o2
          · simp only [k1, k2]; exact o3
          · simp only [k2]; exact o4
          · simp only [k2, Bool.and_eq_true]; exact fun z => o5 z.1
          · simp only [k2, Bool.and_eq_true]; exact fun z => o6 z.1
          · simp only [k2, Bool.and_eq_true]
            intro z b hb
            obtain ⟨n, hn, rest⟩ := o7 z.1 b hb
            exact ⟨n, List.mem_append_left _ hn, rest⟩
      · cases h
    · cases h
  | .sc _, V, h, _ | .ptr .., V, h, _ | .pi .., V, h, _ | .sl .., V, h, _ | .pe .., V, h, _ | .mp .., V, h, _ | .oq .., V, h, _ | .fn .., V, h, _ | .agg .., V, h, _ | .tup .., V, h, _ | .gd .., V, h, _ | .und, V, h, _ | .gl .., V, h, _ => by simp [viewL] at h

/-! ### names that die -/
def killN (m : Mem) (n : Nat) : Mem :=
  match m.at n with
  | some (g, _) => m.set n (some (g, .dead))
  | none => m
def killL (m : Mem) : List Nat → Mem
  | [] => m
  | n :: r => killL (killN m n) r
theorem killN_al (m : Mem) (n k : Nat) : al (killN m n) k ↔ al m k := by
  unfold killN
  split
  · rename_i hn; exact al_set hn k
  · rfl
theorem killL_al : ∀ (ns : List Nat) (m : Mem) (k : Nat), al (killL m ns) k ↔ al m k
  | [], _, _ => Iff.rfl
  | n :: r, m, k => (killL_al r (killN m n) k).trans (killN_al m n k)
theorem killN_len (m : Mem) (n : Nat) : (killN m n).length = m.length := by
  unfold killN
  split
  · simp
  · rfl
theorem killL_len : ∀ (ns : List Nat) (m : Mem), (killL m ns).length = m.length
  | [], _ => rfl
  | n :: r, m => (killL_len r (killN m n)).trans (killN_len m n)
theorem killN_at {n k : Nat} {g : E} {x : Blk} (h : (killN m n).at k = some (g, x)) : x = .dead ∨ (m.at k = some (g, x) ∧ k ≠ n) := by
  unfold killN at h
  split at h
  · rename_i g' y hn
    by_cases hk : n = k
    · subst hk
      rw [Mem.at_set_same (Mem.at_lt hn)] at h
      simp only [Option.some.injEq, Prod.mk.injEq] at h
      exact Or.inl h.2.symm
    · rw [Mem.at_set_other hk] at h
      exact Or.inr ⟨h, fun e => hk e.symm⟩
  · rename_i hn
    by_cases hk : k = n
    · subst hk; rw [hn] at h; cases h
    · exact Or.inr ⟨h, hk⟩
theorem killL_at : ∀ {ns : List Nat} {m : Mem} {k : Nat} {g : E} {x : Blk}, (killL m ns).at k = some (g, x) → x = .dead ∨ (m.at k = some (g, x) ∧ k ∉ ns)
  | [], m, k, g, x, h => Or.inr ⟨h, by simp⟩
  | n :: r, m, k, g, x, h => by
    rcases killL_at (ns := r) h with h1 | ⟨h1, h2⟩
    · exact Or.inl h1
    · rcases killN_at h1 with h3 | ⟨h3, h4⟩
      · exact Or.inl h3
      · exact Or.inr ⟨h3, by simp [h4, h2]⟩
theorem killL_none {ns : List Nat} {k : Nat} (h : (m.at k).isNone = true) : ((killL m ns).at k).isNone = true := by
  cases hk : (killL m ns).at k with
  | none => rfl
  | some x =>
    have : al m k := (killL_al ns m k).1 (by simp [al, hk])
    rw [Option.isNone_iff_eq_none] at h
    simp [al, h] at this

/-! ### append, and where the result lies -/
theorem append_own2 (w : World) (t ty e : TypeId) (i : TypeInfo) (z : Value) (size bytes : Nat) (ht : P.underlying t = some (.slice e)) (hi : P.info? e = some i) (hz : i.zero = some z)
    (hsize : i.size = size) (hby : i.bytes = bytes) (hzs : z.cells.size = size) (hsz : 0 < size)
    (v : Value) (n : Nat) (xs : List Value) (hown : w.ownsRow 0 e size v n xs)
    (a : Addr) (k c : Nat) (news : List Value) (hl : news.length = k * size) (hnews : ∀ j u, news[j]? = some u → w.cell? (a.add j) = some u) (h1 : ∀ u ∈ news, u.oneCell' = true)
    (h63 : n + k ≤ maxLen) (hbytes : (n + k) * bytes ≤ 140737488355328) :
    ∃ v' w', (Builtin.append_ #[t, t] ty #[v, .slice (some a) k c]).run P w = .ok v' w' ∧ w'.ownsRow 0 e size v' (n + k) (xs ++ news) ∧ w.grownBy w' v.ownBlock ∧
      (v'.ownBlock = v.ownBlock ∨ v'.ownBlock = some w.heap.size) := by
  obtain ⟨v', w', r1, r2, r3, r4⟩ := run_append_own (P := P) w 0 t ty e i z size bytes ht hi hz hsize hby hzs hsz v n xs hown a k c news hl hnews h1 h63 hbytes (Nat.zero_le _)
  refine ⟨v', w', r1, r2, r3, ?_⟩
  have hsmall : n + k ≤ 9223372036854775807 := by simp only [maxLen] at h63; omega
  subst hsize
  subst hby
  rcases hown.2 with ⟨rfl, rfl⟩ | ⟨g, cap, cur, rfl, hbg, hg, hnc, hcm, hcs, htake⟩
  · by_cases hm : k = 0
    · left; rw [r4.2 ⟨rfl, hm⟩]
    · right
      have hr := run_append_nil (P := P) w t ty e i z ht hi hz a k c news hl hnews (by omega) (by omega) (by have hb := hbytes; simp only [Nat.zero_add] at hb; omega)
      rw [hr] at r1
      simp only [Result.ok.injEq] at r1
      rw [← r1.1]; rfl
  · by_cases hroom : n + k ≤ cap
    · left
      have hfit : n * i.size + news.length ≤ cur.size := by rw [hl, hcs, ← Nat.add_mul]; exact Nat.mul_le_mul_right _ hroom
      have hr := run_append_room (P := P) w t ty e i ht hi g n cap cur hg a k c news hl hnews h1 hroom hfit
      rw [hr] at r1
      simp only [Result.ok.injEq] at r1
      rw [← r1.1]; rfl
    · right
      have holds : ∀ j u, xs[j]? = some u → w.cell? ((⟨g, 0, none⟩ : Addr).add j) = some u := hown.cells (g := g) rfl
      have hr := run_append_grow (P := P) w t ty e i z ht hi hz ⟨g, 0, none⟩ n cap xs hown.1 holds a k c news hl hnews (by omega) (by omega) (growslice_fits (by omega) hbytes)
      rw [hr] at r1
      simp only [Result.ok.injEq] at r1
      rw [← r1.1]; rfl

theorem ownsRow_hd {e size n : Nat} {v : Value} {xs : List Value} (h : w.ownsRow 0 e size v n xs) : ∃ hd : Hd, v = hd.sl n := by
  rcases h.2 with ⟨rfl, rfl⟩ | ⟨g, cap, cur, rfl, _⟩
  · exact ⟨⟨0, 0, 0, true, undef⟩, rfl⟩
  · exact ⟨⟨g, 0, cap, false, undef⟩, rfl⟩
theorem sl_form (h : Hd) (n : Nat) : (h.sl n = .slice none 0 0 ∧ n = 0) ∨ h.sl n = .slice (some ⟨h.blk, h.off, none⟩) n h.cap := by
  unfold Hd.sl
  cases hc : h.nil && n == 0
  · exact Or.inr rfl
  · simp at hc; exact Or.inl ⟨rfl, hc.2⟩
end
end Go.Proofs.YtbolcnlenmphhaaDoor.Ew

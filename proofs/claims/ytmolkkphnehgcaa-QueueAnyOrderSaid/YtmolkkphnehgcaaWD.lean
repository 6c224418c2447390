/- Each operation of straight code, told by a descriptor that hangs on its operands alone; that the descriptor tells what the operation does. The program is a variable. -/
import Derived.Test.YtmolkkphnehgcaaWC
set_option linter.unusedVariables false
set_option linter.unusedSimpArgs false
namespace Go.Proofs.Ytmolkkphnehgcaa.Ew
open Go Go.RowKit

inductive D where
  | val (v : SV)
  | ld (n off sz : Nat) (ag : Bool)
  | ldi (n off str cnt : Nat) (e : E) (sz : Nat) (ag : Bool)
  | ldg (b off sz : Nat) (ag : Bool)
  | st (n off : Nat) (cs : List SV)
  | sti (n off str cnt : Nat) (e : E) (cs : List SV)
  | new (ty : Nat) (cs : List SV) (sl : Option Nat)
  | call (f : Nat) (args : List SV)
  deriving Repr, Inhabited

def ldSem (P : Program) (w : World) (b off sz : Nat) (ag : Bool) : Result Next :=
  if ag then ((loadCells ⟨b, off, none⟩ sz).run P w).andThen fun cs w' => .ok (.value (.agg cs)) w'
  else ((load ⟨b, off, none⟩).run P w).andThen fun v w' => .ok (.value v) w'
def stSem (P : Program) (w : World) (b off : Nat) (vs : List Value) : Result Next :=
  ((storeCells ⟨b, off, none⟩ vs).run P w).andThen fun _ w' => .ok .skip w'

def D.run (P : Program) (F : Fam) (ρ : Nat → Int) (ad : Nat → Hd) (w : World) : D → Result Next
  | .val v => .ok (.value (v.conc F ρ ad)) w
  | .ld n off sz ag => ldSem P w (ad n).blk off sz ag
  | .ldi n off str _ e sz ag => ldSem P w (ad n).blk (off + (e.den F ρ).toNat * str) sz ag
  | .ldg b off sz ag => ldSem P w b off sz ag
  | .st n off cs => stSem P w (ad n).blk off (SV.concL F ρ ad cs)
  | .sti n off str _ e cs => stSem P w (ad n).blk (off + (e.den F ρ).toNat * str) (SV.concL F ρ ad cs)
  | .new ty cs sl => .ok (.value (match sl with | none => .pointer (some ⟨w.heap.size, 0, none⟩) | some len => .slice (some ⟨w.heap.size, 0, none⟩) len len)) (w.alloc (.cells (SV.concL F ρ ad cs).toArray ty))
  | .call f args => .ok (.enter f (SV.concL F ρ ad args).toArray) w

/-- The index of a descriptor is in its bounds; its names are among p. -/
def D.good (F : Fam) (ρ : Nat → Int) (p : Nat → Prop) : D → Prop
  | .val v => v.ok p
  | .ld n _ _ _ => p n
  | .ldi n _ _ cnt e _ _ => p n ∧ (e.den F ρ).toNat < cnt ∧ 0 ≤ e.den F ρ
  | .ldg _ _ _ _ => True
  | .st n _ cs => p n ∧ SV.okL p cs ∧ cs.all SV.one = true
  | .sti n _ _ cnt e cs => p n ∧ SV.okL p cs ∧ cs.all SV.one = true ∧ (e.den F ρ).toNat < cnt ∧ 0 ≤ e.den F ρ
  | .new _ cs _ => SV.okL p cs ∧ cs.all SV.one = true
  | .call _ args => SV.okL p args

section
variable {P : Program} {F : Fam} {ρ : Nat → Int} {ad : Nat → Hd} {p : Nat → Prop} {w : World}

/-! ### addresses -/
def ptrAdd : SV → Nat → Option SV
  | .ptr n off, k => some (.ptr n (off + k))
  | .pi n off s e, k => some (.pi n (off + k) s e)
  | .pe n s e off, k => some (.pe n s e (off + k))
  | .gl b off, k => some (.gl b (off + k))
  | _, _ => none

theorem Addr.add_none (b off k : Nat) : (⟨b, off, none⟩ : Addr).add k = ⟨b, off + k, none⟩ := by
  unfold Addr.add
  split
  · rename_i h; subst h; rfl
  · rfl

theorem ptrAdd_conc {v v' : SV} {k : Nat} (h : ptrAdd v k = some v') : ∃ b off, v.conc F ρ ad = .pointer (some ⟨b, off, none⟩) ∧ v'.conc F ρ ad = .pointer (some ⟨b, off + k, none⟩) := by
  unfold ptrAdd at h
  split at h <;> simp only [Option.some.injEq, reduceCtorEq] at h <;> subst h
  · exact ⟨_, _, rfl, rfl⟩
  · exact ⟨_, _, rfl, by simp only [SV.conc]; congr 3; omega⟩
  · exact ⟨_, _, rfl, by simp only [SV.conc]; congr 3; omega⟩
  · exact ⟨_, _, rfl, rfl⟩
theorem ptrAdd_ok {v v' : SV} {k : Nat} (h : ptrAdd v k = some v') (hv : v.ok p) : v'.ok p := by
  unfold ptrAdd at h
  split at h <;> simp only [Option.some.injEq, reduceCtorEq] at h <;> subst h <;> first | exact hv | trivial

def fieldAddrS (P : Program) (t : TypeId) (v : SV) (i : Nat) : Option SV :=
  match P.underlying t with
  | some (.struct fs) => match fs[i]? with
    | some f => match szOf P f.type with
      | some (n + 1) => ptrAdd v f.offset
      | _ => none
    | none => none
  | _ => none
theorem fieldAddrS_run {t : TypeId} {v v' : SV} {i : Nat} (h : fieldAddrS P t v i = some v') : (Instr.fieldAt t (v.conc F ρ ad) i).run P w = .ok (v'.conc F ρ ad) w := by
  unfold fieldAddrS at h
  split at h
  · rename_i fs hu
    split at h
    · rename_i f hf
      split at h
      · rename_i n hn
        obtain ⟨b, off, e1, e2⟩ := ptrAdd_conc (F := F) (ρ := ρ) (ad := ad) h
        rw [e1, e2]
        simp [Instr.fieldAt, run_underlying hu, hf, Instr.sureAddr, fieldPlace, run_sizeOf' w hn, Addr.add_none]
      · cases h
    · cases h
  · cases h
theorem fieldAddrS_ok {t : TypeId} {v v' : SV} {i : Nat} (h : fieldAddrS P t v i = some v') (hv : v.ok p) : v'.ok p := by
  unfold fieldAddrS at h
  split at h
  · split at h
    · split at h
      · exact ptrAdd_ok h hv
      · cases h
    · cases h
  · cases h

def idxS (len s : Nat) (base : SV) (e : E) : Option SV :=
  match e.lit? with
  | some i => if 0 ≤ i ∧ i < len then ptrAdd base (i.toNat * s) else none
  | none => match base, e.ub with
    | .ptr n off, some m => if m < len ∧ e.sound = true then some (.pi n off s e) else none
    | _, _ => none
theorem idxS_spec {len s : Nat} {base v : SV} {e : E} (h : idxS len s base e = some v) : 0 ≤ e.den F ρ ∧ e.den F ρ < len ∧
    ∃ b off, base.conc F ρ ad = .pointer (some ⟨b, off, none⟩) ∧ v.conc F ρ ad = .pointer (some ⟨b, off + (e.den F ρ).toNat * s, none⟩) := by
  unfold idxS at h
  split at h
  · rename_i i hi
    rw [E.lit?_den hi]
    split at h
    · rename_i hb
      exact ⟨hb.1, hb.2, ptrAdd_conc h⟩
    · cases h
  · split at h
    · rename_i n off m hm
      split at h
      · rename_i hb
        simp only [Option.some.injEq] at h
        subst h
        have := E.ub_spec F ρ e m hb.2 hm
        exact ⟨this.1, by omega, _, _, rfl, rfl⟩
      · cases h
    · cases h
theorem idxS_ok {len s : Nat} {base v : SV} {e : E} (h : idxS len s base e = some v) (hv : base.ok p) : v.ok p := by
  unfold idxS at h
  split at h
  · split at h
    · exact ptrAdd_ok h hv
    · cases h
  · split at h
    · split at h
      · simp only [Option.some.injEq] at h; subst h; simpa [SV.ok] using hv
      · cases h
    · cases h

def indexAddrS (P : Program) (t : TypeId) (x ix : SV) : Option SV :=
  match ix with
  | .sc e => match e.kind with
    | .i _ => match P.underlying t, x with
      | some (.array len elem), x => match szOf P elem with
        | some s => idxS len s x e
        | none => none
      | some (.slice elem), .sl n off len _ => match szOf P elem with
        | some s => idxS len s (.ptr n off) e
        | none => none
      | _, _ => none
    | _ => none
  | _ => none
theorem indexAddrS_run {t : TypeId} {x ix v : SV} (h : indexAddrS P t x ix = some v) : (Instr.indexAt t (x.conc F ρ ad) (ix.conc F ρ ad)).run P w = .ok (v.conc F ρ ad) w := by
  unfold indexAddrS at h
  split at h
  · rename_i e
    split at h
    · rename_i k hk
      split at h
      · rename_i len elem hu
        split at h
        · rename_i s hs
          obtain ⟨h1, h2, b, off, e1, e2⟩ := idxS_spec (F := F) (ρ := ρ) (ad := ad) h
          rw [e1, e2]
          simp only [SV.conc, E.val_i hk]
          simp [Instr.indexAt, run_underlying hu, Instr.sureAddr, asIntOf, h1, h2, run_sizeOf' w hs, Addr.add_none]
        · cases h
      · rename_i elem n off len cap hu
        split at h
        · rename_i s hs
          obtain ⟨h1, h2, b, o, e1, e2⟩ := idxS_spec (F := F) (ρ := ρ) (ad := ad) h
          simp only [SV.conc, Value.pointer.injEq, Option.some.injEq, Addr.mk.injEq, and_true] at e1
          obtain ⟨rfl, rfl⟩ := e1
          rw [e2]
          simp only [SV.conc, E.val_i hk]
          simp [Instr.indexAt, run_underlying hu, asIntOf, h1, h2, run_sizeOf' w hs, Addr.add_none]
        · cases h
      · cases h
    · cases h
  · cases h
theorem indexAddrS_ok {t : TypeId} {x ix v : SV} (h : indexAddrS P t x ix = some v) (hx : x.ok p) : v.ok p := by
  unfold indexAddrS at h
  split at h
  · split at h
    · split at h
      · split at h
        · exact idxS_ok h hx
        · cases h
      · split at h
        · exact idxS_ok h (by simpa [SV.ok] using hx)
        · cases h
      · cases h
    · cases h
  · cases h

/-! ### a choice among values by a number -/
def sel (e : E) : Nat → List SV → SV
  | _, [] => .und
  | _, [v] => v
  | j, v :: r => merge (mkCmp .eql e (.lit (.i .i64) j)) v (sel e (j + 1) r)
theorem sel_conc {e : E} : ∀ (l : List SV) (j : Nat), j + l.length < 1000000 → (j : Int) ≤ e.den F ρ → e.den F ρ < j + l.length →
    ∃ v, l[(e.den F ρ).toNat - j]? = some v ∧ (sel e j l).conc F ρ ad = v.conc F ρ ad
  | [], j, _, h1, h2 => by simp at h2; omega
  | [v], j, _, h1, h2 => ⟨v, by simp at h2; rw [show (e.den F ρ).toNat - j = 0 by omega]; rfl, rfl⟩
  | v :: u :: r, j, hl, h1, h2 => by
    have hc := mkCmp_spec .eql e (.lit (.i .i64) (j : Int)) F ρ
    have hj : (E.lit (.i .i64) (j : Int)).den F ρ = j := by
      simp only [List.length_cons] at hl
      simp only [E.den, K.norm, IntKind.wrap, IntKind.signed, IntKind.bits]
      simp
      split <;> omega
    rw [hj] at hc
    have hm := merge_conc (F := F) (ρ := ρ) (ad := ad) hc.2 v (sel e (j + 1) (u :: r))
    simp only [sel]
    rw [hm, hc.1]
    by_cases he : e.den F ρ = j
    · refine ⟨v, by rw [he]; simp, ?_⟩
      simp [cmpB, he]
    · obtain ⟨x, i1, i2⟩ := sel_conc (e := e) (u :: r) (j + 1) (by simp at hl ⊢; omega) (by omega) (by simp at h2 ⊢; omega)
      refine ⟨x, ?_, ?_⟩
      · rw [← i1, show (e.den F ρ).toNat - j = ((e.den F ρ).toNat - (j + 1)) + 1 by omega]; rfl
      · have : cmpB .eql (e.den F ρ) j = false := by simp [cmpB, he]
        rw [this]; exact i2
theorem sel_ok {e : E} : ∀ (l : List SV) (j : Nat), SV.okL p l → (sel e j l).ok p
  | [], j, _ => trivial
  | [v], j, h => h.1
  | v :: u :: r, j, h => merge_ok _ _ h.1 (sel_ok (u :: r) (j + 1) h.2)

/-- The parts of an array's cells, from the first one on. -/
def partsS (P : Program) (t : TypeId) (cs : List SV) (s : Nat) : Nat → Nat → Option (List SV)
  | 0, _ => some []
  | n + 1, j => match partS P t cs (j * s), partsS P t cs s n (j + 1) with
    | some v, some l => some (v :: l)
    | _, _ => none
theorem partsS_spec {t : TypeId} {cs : List SV} {s : Nat} : ∀ {n j : Nat} {l : List SV}, partsS P t cs s n j = some l → l.length = n ∧ ∀ i v, l[i]? = some v → partS P t cs ((j + i) * s) = some v
  | 0, j, l, h => by simp [partsS] at h; subst h; simp
  | n + 1, j, l, h => by
    simp only [partsS] at h
    split at h
    · rename_i v r h1 h2
      simp only [Option.some.injEq] at h
      subst h
      obtain ⟨i1, i2⟩ := partsS_spec h2
      refine ⟨by simp [i1], fun i u hu => ?_⟩
      cases i with
      | zero => simp at hu; subst hu; exact h1
      | succ i => simp at hu; have := i2 i u hu; rwa [show j + 1 + i = j + (i + 1) by omega] at this
    · cases h

def indexS (P : Program) (t : TypeId) (x ix : SV) : Option SV :=
  match ix with
  | .sc e => match e.kind with
    | .i _ => match P.underlying t, x with
      | some (.array len elem), .agg cs => match szOf P elem with
        | some s => match e.lit? with
          | some i => if 0 ≤ i ∧ i < len then partS P elem cs (i.toNat * s) else none
          | none => match e.ub with
            | some m => if 0 ≤ m ∧ m < len ∧ m < 10000 ∧ e.sound = true then (partsS P elem cs s (m.toNat + 1) 0).map (sel e 0) else none
            | none => none
        | none => none
      | _, _ => none
    | _ => none
  | _ => none
theorem indexS_run {t : TypeId} {x ix v : SV} (h : indexS P t x ix = some v) : (Instr.index t (x.conc F ρ ad) (ix.conc F ρ ad)).run P w = .ok (v.conc F ρ ad) w := by
  unfold indexS at h
  split at h
  · rename_i e
    split at h
    · rename_i k hk
      split at h
      · rename_i len elem cs hu
        split at h
        · rename_i s hs
          split at h
          · rename_i i hi
            split at h
            · rename_i hb
              simp only [SV.conc, E.val_i hk, E.lit?_den hi]
              simp [Instr.index, asIntOf, run_underlying hu, hb.1, hb.2, run_sizeOf' w hs, partS_run h]
            · cases h
          · split at h
            · rename_i m hm
              split at h
              · rename_i hb
                obtain ⟨l, hp, rfl⟩ := Option.map_eq_some_iff.1 h
                obtain ⟨p1, p2⟩ := partsS_spec hp
                have hu' := E.ub_spec F ρ e m hb.2.2.2 hm
                obtain ⟨u, s1, s2⟩ := sel_conc (F := F) (ρ := ρ) (ad := ad) (e := e) l 0 (by omega) (by simpa using hu'.1) (by rw [p1]; omega)
                have hpart := p2 _ _ s1
                rw [s2]
                simp only [SV.conc, E.val_i hk]
                have hlt : e.den F ρ < len := by omega
                simp only [Nat.zero_add, Nat.sub_zero] at hpart
                simp [Instr.index, asIntOf, run_underlying hu, hu'.1, hlt, run_sizeOf' w hs, partS_run hpart]
              · cases h
            · cases h
        · cases h
      · cases h
    · cases h
  · cases h
theorem indexS_ok {t : TypeId} {x ix v : SV} (h : indexS P t x ix = some v) (hx : x.ok p) : v.ok p := by
  unfold indexS at h
  split at h
  · split at h
    · split at h
      · rename_i len elem cs hu
        have hc : SV.okL p cs := by simpa [SV.ok] using hx
        split at h
        · split at h
          · split at h
            · exact partS_ok h hc
            · cases h
          · split at h
            · split at h
              · obtain ⟨l, hp, rfl⟩ := Option.map_eq_some_iff.1 h
                refine sel_ok _ _ ?_
                rw [okL_iff]
                intro v hv
                obtain ⟨i, hi⟩ := List.getElem?_of_mem hv
                exact partS_ok ((partsS_spec hp).2 i v hi) hc
              · cases h
            · cases h
        · cases h
      · cases h
    · cases h
  · cases h

def fieldS (P : Program) (t : TypeId) (x : SV) (i : Nat) : Option SV :=
  match P.underlying t, x with
  | some (.struct fs), .agg cs => match fs[i]? with
    | some f => partS P f.type cs f.offset
    | none => none
  | _, _ => none
theorem fieldS_run {t : TypeId} {x v : SV} {i : Nat} (h : fieldS P t x i = some v) : (Instr.field t (x.conc F ρ ad) i).run P w = .ok (v.conc F ρ ad) w := by
  unfold fieldS at h
  split at h
  · rename_i fs cs hu
    split at h
    · rename_i f hf
      simp [Instr.field, run_underlying hu, hf, SV.conc, asAgg, partS_run h]
    · cases h
  · cases h
theorem fieldS_ok {t : TypeId} {x v : SV} {i : Nat} (h : fieldS P t x i = some v) (hx : x.ok p) : v.ok p := by
  unfold fieldS at h
  split at h
  · split at h
    · exact partS_ok h (by simpa [SV.ok] using hx)
    · cases h
  · cases h

/-! ### arithmetic -/
def nonneg (e : E) : Bool :=
  match e.lit? with
  | some n => decide (0 ≤ n)
  | none => e.ub.isSome && e.sound
theorem nonneg_spec {e : E} (h : nonneg e = true) : 0 ≤ e.den F ρ := by
  unfold nonneg at h
  split at h
  · rename_i n hn; rw [E.lit?_den hn]; simpa using h
  · simp only [Bool.and_eq_true, Option.isSome_iff_exists] at h
    obtain ⟨⟨m, hm⟩, hs⟩ := h
    exact (E.ub_spec F ρ e m hs hm).1

def binE (op : BinOp) (k : IntKind) (a b : E) : Option E :=
  match op with
  | .add | .sub | .mul | .and | .or | .xor | .andNot => if b.kind = .i k then some (mkBin op k a b) else none
  | .quo | .rem => match b.lit? with
    | some n => if b.kind = .i k ∧ n ≠ 0 ∧ a.sound = true then some (mkDv op k a n) else none
    | none => none
  | .shl | .shr => match b.kind with
    | .i _ => if nonneg b = true ∧ a.sound = true then some (mkSh op k a b) else none
    | _ => none
  | op => if b.kind = .i k then some (mkCmp op a b) else none

theorem bits_run (op : BinOp) (k : IntKind) (x y : Int) (h : op = .and ∨ op = .or ∨ op = .xor ∨ op = .andNot) : (Op.intBits op k x y).run P w = .ok (.int k (bitsI op k x y)) w := by
  rcases h with rfl | rfl | rfl | rfl <;> rfl

theorem binE_run {op : BinOp} {t : TypeId} {k : IntKind} {a b e : E} (hk : a.kind = .i k) (h : binE op k a b = some e) : (binOp op t (a.val F ρ) (b.val F ρ)).run P w = .ok (e.val F ρ) w := by
  rw [E.val_i hk]
  unfold binE at h
  split at h
  · split at h
    · rename_i hb; simp only [Option.some.injEq] at h; subst h
      rw [E.val_i hb, (mkBin_spec _ k a b F ρ).1, binOp_add]; rfl
    · cases h
  · split at h
    · rename_i hb; simp only [Option.some.injEq] at h; subst h
      rw [E.val_i hb, (mkBin_spec _ k a b F ρ).1, binOp_sub]; rfl
    · cases h
  · split at h
    · rename_i hb; simp only [Option.some.injEq] at h; subst h
      rw [E.val_i hb, (mkBin_spec _ k a b F ρ).1, binOp_mul]; rfl
    · cases h
  · split at h
    · rename_i hb; simp only [Option.some.injEq] at h; subst h
      rw [E.val_i hb, (mkBin_spec _ k a b F ρ).1, binOp_and, bits_run _ _ _ _ (by simp)]; rfl
    · cases h
  · split at h
    · rename_i hb; simp only [Option.some.injEq] at h; subst h
      rw [E.val_i hb, (mkBin_spec _ k a b F ρ).1, binOp_or, bits_run _ _ _ _ (by simp)]; rfl
    · cases h
  · split at h
    · rename_i hb; simp only [Option.some.injEq] at h; subst h
      rw [E.val_i hb, (mkBin_spec _ k a b F ρ).1, binOp_xor, bits_run _ _ _ _ (by simp)]; rfl
    · cases h
  · split at h
    · rename_i hb; simp only [Option.some.injEq] at h; subst h
      rw [E.val_i hb, (mkBin_spec _ k a b F ρ).1, binOp_andNot, bits_run _ _ _ _ (by simp)]; rfl
    · cases h
  · split at h
    · rename_i n hn
      split at h
      · rename_i hb; simp only [Option.some.injEq] at h; subst h
        rw [E.val_i hb.1, E.lit?_den hn, (mkDv_spec _ k a n hb.2.2 hk F ρ).1, binOp_quo]
        simp [Op.intDiv, hb.2.1, dvI]
      · cases h
    · cases h
  · split at h
    · rename_i n hn
      split at h
      · rename_i hb; simp only [Option.some.injEq] at h; subst h
        rw [E.val_i hb.1, E.lit?_den hn, (mkDv_spec _ k a n hb.2.2 hk F ρ).1, binOp_rem]
        simp [Op.intDiv, hb.2.1, dvI]
      · cases h
    · cases h
  · split at h
    · rename_i k' hk'
      split at h
      · rename_i hb; simp only [Option.some.injEq] at h; subst h
        have h0 := nonneg_spec (F := F) (ρ := ρ) hb.1
        rw [E.val_i hk', (mkSh_spec _ k a b hb.2 hk F ρ).1, binOp_shl]
        simp [Op.shift, Int.not_lt.2 h0, shI]
      · cases h
    · cases h
  · split at h
    · rename_i k' hk'
      split at h
      · rename_i hb; simp only [Option.some.injEq] at h; subst h
        have h0 := nonneg_spec (F := F) (ρ := ρ) hb.1
        rw [E.val_i hk', (mkSh_spec _ k a b hb.2 hk F ρ).1, binOp_shr]
        simp [Op.shift, Int.not_lt.2 h0, shI]
      · cases h
    · cases h
  · rename_i op' n1 n2 n3 n4 n5 n6 n7 n8 n9 n10 n11
    split at h
    · rename_i hb; simp only [Option.some.injEq] at h; subst h
      have hs := mkCmp_spec op a b F ρ
      rw [E.val_i hb, E.val_b hs.2, hs.1]
      cases op <;> first
        | (exfalso; first | exact n1 rfl | exact n2 rfl | exact n3 rfl | exact n4 rfl | exact n5 rfl | exact n6 rfl | exact n7 rfl | exact n8 rfl | exact n9 rfl | exact n10 rfl | exact n11 rfl)
        | (simp [go_sem, cmpB]; done)
    · cases h

def isBoolT (P : Program) (t : TypeId) : Bool :=
  match P.underlying t with
  | some .bool => true
  | _ => false
theorem isBoolT_spec {t : TypeId} (h : isBoolT P t = true) : P.underlying t = some .bool := by
  unfold isBoolT at h
  split at h
  · assumption
  · cases h

def binS (P : Program) (op : BinOp) (t : TypeId) (x y : SV) : Option SV :=
  match x, y with
  | .sc a, .sc b => match a.kind with
    | .i k => (binE op k a b).map .sc
    | .b => if isBoolT P t = true ∧ a.sound = true ∧ b.sound = true ∧ b.kind = .b then
        match op with
        | .eql => some (.sc (mkEqB a b))
        | .neq => some (.sc (mkNot (mkEqB a b)))
        | _ => none
      else none
    | .x => none
  | .agg xs, .agg ys => if P.eqGuardType P.depth t = false then
      match op, eqS P 20 t (.agg xs) (.agg ys) with
      | .eql, some e => some (.sc e)
      | .neq, some e => some (.sc (mkNot e))
      | _, _ => none
    else none
  | _, _ => none

theorem binS_run {op : BinOp} {t : TypeId} {x y v : SV} {ox oy : Operand} (h : binS P op t x y = some v) :
    (do eqGuard op t ox oy (x.conc F ρ ad) (y.conc F ρ ad); binOp op t (x.conc F ρ ad) (y.conc F ρ ad)).run P w = .ok (v.conc F ρ ad) w := by
  unfold binS at h
  split at h
  · rename_i a b
    split at h
    · rename_i k hk
      obtain ⟨e, hb, rfl⟩ := Option.map_eq_some_iff.1 h
      have hr := binE_run (P := P) (F := F) (ρ := ρ) (w := w) (t := t) hk hb
      simp only [SV.conc]
      rw [E.val_i hk] at hr ⊢
      simp [go_sem, hr]
    · rename_i hk
      split at h
      · rename_i hc
        have hs := mkEqB_spec a b hk hc.2.2.2 hc.2.1 hc.2.2.1 F ρ
        simp only [SV.conc, E.val_b hk, E.val_b hc.2.2.2]
        split at h
        · simp only [Option.some.injEq] at h
          subst h
          simp only [SV.conc, E.val_b hs.2, hs.1]
          simp [go_sem, binOp, run_equal_bool w t _ _ (isBoolT_spec hc.1)]
        · simp only [Option.some.injEq] at h
          subst h
          have hn := mkNot_spec (mkEqB a b) F ρ
          simp only [SV.conc, E.val_b hn.2, hn.1, hs.1]
          simp [go_sem, binOp, run_equal_bool w t _ _ (isBoolT_spec hc.1)]
        · cases h
      · cases h
    · cases h
  · rename_i xs ys
    split at h
    · rename_i hg
      split at h
      · rename_i e he
        simp only [Option.some.injEq] at h
        subst h
        obtain ⟨hk, hr⟩ := eqS_run (F := F) (ρ := ρ) (ad := ad) 20 t _ _ e he
        have hr' := hr 9980 w
        simp only [SV.conc] at hr' ⊢
        rw [Sem.run_bind, run_eqGuard_agg w _ _ _ _ _ _ hg, Result.andThen_ok, run_eql_struct]
        simp only [Nat.reduceAdd] at hr'
        rw [hr', E.val_b hk]
        rfl
      · rename_i e he
        simp only [Option.some.injEq] at h
        subst h
        obtain ⟨hk, hr⟩ := eqS_run (F := F) (ρ := ρ) (ad := ad) 20 t _ _ e he
        have hr' := hr 9980 w
        have hn := mkNot_spec e F ρ
        simp only [SV.conc] at hr' ⊢
        rw [Sem.run_bind, run_eqGuard_agg w _ _ _ _ _ _ hg, Result.andThen_ok, run_neq_struct]
        simp only [Nat.reduceAdd] at hr'
        rw [hr', E.val_b hn.2, hn.1]
        rfl
      · cases h
    · cases h
  · cases h
theorem binS_ok {op : BinOp} {t : TypeId} {x y v : SV} (h : binS P op t x y = some v) : v.ok p := by
  unfold binS at h
  split at h
  · split at h
    · obtain ⟨e, _, rfl⟩ := Option.map_eq_some_iff.1 h
      trivial
    · split at h
      · split at h <;> simp only [Option.some.injEq, reduceCtorEq] at h <;> subst h <;> trivial
      · cases h
    · cases h
  · split at h
    · split at h <;> simp only [Option.some.injEq, reduceCtorEq] at h <;> subst h <;> trivial
    · cases h
  · cases h

def unS (op : UnOp) (x : SV) : Option SV :=
  match x with
  | .sc a => match op, a.kind with
    | .not, .b => some (.sc (mkNot a))
    | .neg, .i k => some (.sc (mkBin .sub k (.lit (.i k) 0) a))
    | .xor, .i k => some (.sc (mkBin .xor k (.lit (.i k) (if k.signed then -1 else k.max)) a))
    | _, _ => none
  | _ => none
theorem wrap_ones (k : IntKind) : k.wrap (if k.signed then -1 else k.max) = (if k.signed then -1 else k.max) := by cases k <;> rfl
theorem unS_run {op : UnOp} {x v : SV} (h : unS op x = some v) : (Op.unary op (x.conc F ρ ad)).run P w = .ok (v.conc F ρ ad) w := by
  unfold unS at h
  split at h
  · rename_i a
    split at h
    · rename_i hk
      simp only [Option.some.injEq] at h; subst h
      have hn := mkNot_spec a F ρ
      simp only [SV.conc, E.val_b hk, E.val_b hn.2, hn.1]
      rfl
    · rename_i k hk
      simp only [Option.some.injEq] at h; subst h
      simp only [SV.conc, E.val_i hk]
      rw [(mkBin_spec _ _ _ _ F ρ).1]
      simp [Op.unary, Op.intArith, binI, E.den, K.norm, wrap_zero]
    · rename_i k hk
      simp only [Option.some.injEq] at h; subst h
      simp only [SV.conc, E.val_i hk]
      rw [(mkBin_spec _ _ _ _ F ρ).1]
      simp only [Op.unary]
      rw [bits_run _ _ _ _ (by simp)]
      simp only [binI, E.den, K.norm, wrap_ones]
    · cases h
  · cases h
theorem unS_ok {op : UnOp} {x v : SV} (h : unS op x = some v) : v.ok p := by
  unfold unS at h
  split at h
  · split at h <;> simp only [Option.some.injEq, reduceCtorEq] at h <;> subst h <;> trivial
  · cases h

def convS (P : Program) (src dst : TypeId) (x : SV) : Option SV :=
  match x with
  | .sc a => match a.kind, P.underlying dst with
    | .i _, some (.int k) => if (P.underlying src).isSome = true then some (.sc (mkConv k a)) else none
    | _, _ => none
  | _ => none
theorem convS_run {src dst : TypeId} {x v : SV} (h : convS P src dst x = some v) : (convert src dst (x.conc F ρ ad)).run P w = .ok (v.conc F ρ ad) w := by
  unfold convS at h
  split at h
  · rename_i a
    split at h
    · rename_i k' k hk hd
      split at h
      · rename_i hs
        simp only [Option.some.injEq] at h; subst h
        simp only [SV.conc, E.val_i hk]
        rw [(mkConv_spec _ _ F ρ).1]
        have hik : P.intKind dst = k := by simp [Program.intKind, hd]
        have := run_convert_int (P := P) w src dst k' (a.den F ρ) hs (by rw [hik]; exact hd)
        rw [hik] at this
        exact this
      · cases h
    · cases h
  · cases h
theorem convS_ok {src dst : TypeId} {x v : SV} (h : convS P src dst x = some v) : v.ok p := by
  unfold convS at h
  split at h
  · split at h
    · split at h
      · simp only [Option.some.injEq] at h; subst h; trivial
      · cases h
    · cases h
  · cases h
end
end Go.Proofs.Ytmolkkphnehgcaa.Ew

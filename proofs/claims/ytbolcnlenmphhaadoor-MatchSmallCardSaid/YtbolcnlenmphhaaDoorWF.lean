/- Each operation of straight code, told by a descriptor that hangs on its operands alone; that the descriptor tells what the operation does. The program is a variable. -/
import Derived.Test.YtbolcnlenmphhaaDoorWC
set_option linter.unusedVariables false
set_option linter.unusedSimpArgs false
namespace Go.Proofs.YtbolcnlenmphhaaDoor.Ew
open Go Go.RowKit

inductive D where
  | val (v : SV)
  | ld (n off sz : Nat) (ag : Bool)
  | ldi (n off str cnt : Nat) (e : E) (sz : Nat) (ag : Bool)
  | ldg (b off sz : Nat) (ag : Bool)
  | st (n off : Nat) (cs : List SV)
  | sti (n off str cnt : Nat) (e : E) (cs : List SV)
  | new (ty : Nat) (cs : List SV) (sl : Option Nat)
  | call (f : Nat) (args : List SV)
  deriving Repr, Inhabited

def ldSem (P : Program) (w : World) (b off sz : Nat) (ag : Bool) : Result Next :=
  if ag then ((loadCells ⟨b, off, none⟩ sz).run P w).andThen fun cs w' => .ok (.value (.agg cs)) w'
  else ((load ⟨b, off, none⟩).run P w).andThen fun v w' => .ok (.value v) w'
def stSem (P : Program) (w : World) (b off : Nat) (vs : List Value) : Result Next :=
  ((storeCells ⟨b, off, none⟩ vs).run P w).andThen fun _ w' => .ok .skip w'

def D.run (P : Program) (F : Fam) (ρ : Nat → Int) (ad : Nat → Hd) (w : World) : D → Result Next
  | .val v => .ok (.value (v.conc F ρ ad)) w
  | .ld n off sz ag => ldSem P w (ad n).blk off sz ag
  | .ldi n off str _ e sz ag => ldSem P w (ad n).blk (off + (e.den F ρ).toNat * str) sz ag
  | .ldg b off sz ag => ldSem P w b off sz ag
  | .st n off cs => stSem P w (ad n).blk off (SV.concL F ρ ad cs)
  | .sti n off str _ e cs => stSem P w (ad n).blk (off + (e.den F ρ).toNat * str) (SV.concL F ρ ad cs)
  | .new ty cs sl => .ok (.value (match sl with | none => .pointer (some ⟨w.heap.size, 0, none⟩) | some len => .slice (some ⟨w.heap.size, 0, none⟩) len len)) (w.alloc (.cells (SV.concL F ρ ad cs).toArray ty))
  | .call f args => .ok (.enter f (SV.concL F ρ ad args).toArray) w

/-- The index of a descriptor is in its bounds; its names are among p. -/
def D.good (F : Fam) (ρ : Nat → Int) (p : Nat → Prop) : D → Prop
  | .val v => v.ok p
  | .ld n _ _ _ => p n
  | .ldi n _ _ cnt e _ _ => p n ∧ (e.den F ρ).toNat < cnt ∧ 0 ≤ e.den F ρ
  | .ldg _ _ _ _ => True
  | .st n _ cs => p n ∧ SV.okL p cs ∧ cs.all SV.one = true
  | .sti n _ _ cnt e cs => p n ∧ SV.okL p cs ∧ cs.all SV.one = true ∧ (e.den F ρ).toNat < cnt ∧ 0 ≤ e.den F ρ
  | .new _ cs _ => SV.okL p cs ∧ cs.all SV.one = true
  | .call _ args => SV.okL p args

section
variable {P : Program} {F : Fam} {ρ : Nat → Int} {ad : Nat → Hd} {p : Nat → Prop} {w : World}

/-! ### addresses -/
def ptrAdd : SV → Nat → Option SV
  | .ptr n off, k => some (.ptr n (off + k))
  | .pi n off s e, k => some (.pi n (off + k) s e)
  | .pe n s e off, k => some (.pe n s e (off + k))
  | .gl b off, k => some (.gl b (off + k))
  | _, _ => none

theorem Addr.add_none (b off k : Nat) : (⟨b, off, none⟩ : Addr).add k = ⟨b, off + k, none⟩ := by
  unfold Addr.add
  split
  · rename_i h; subst h; rfl
  · rfl

theorem ptrAdd_conc {v v' : SV} {k : Nat} (h : ptrAdd v k = some v') : ∃ b off, v.conc F ρ ad = .pointer (some ⟨b, off, none⟩) ∧ v'.conc F ρ ad = .pointer (some ⟨b, off + k, none⟩) := by
  unfold ptrAdd at h
  split at h <;> simp only [Option.some.injEq, reduceCtorEq] at h <;> subst h
  · exact ⟨_, _, rfl, rfl⟩
  · exact ⟨_, _, rfl, by simp only [SV.conc]; congr 3; omega⟩
  · exact ⟨_, _, rfl, by simp only [SV.conc]; congr 3; omega⟩
  · exact ⟨_, _, rfl, rfl⟩
theorem ptrAdd_ok {v v' : SV} {k : Nat} (h : ptrAdd v k = some v') (hv : v.ok p) : v'.ok p := by
  unfold ptrAdd at h
  split at h <;> simp only [Option.some.injEq, reduceCtorEq] at h <;> subst h <;> first | exact hv | trivial

def fieldAddrS (P : Program) (t : TypeId) (v : SV) (i : Nat) : Option SV :=
  match P.underlying t with
  | some (.struct fs) => match fs[i]? with
    | some f => match szOf P f.type with
      | some (n + 1) => ptrAdd v f.offset
      | _ => none
    | none => none
  | _ => none
theorem fieldAddrS_run {t : TypeId} {v v' : SV} {i : Nat} (h : fieldAddrS P t v i = some v') : (Instr.fieldAt t (v.conc F ρ ad) i).run P w = .ok (v'.conc F ρ ad) w := by
  unfold fieldAddrS at h
  split at h
  · rename_i fs hu
    split at h
    · rename_i f hf
      split at h
      · rename_i n hn
        obtain ⟨b, off, e1, e2⟩ := ptrAdd_conc (F := F) (ρ := ρ) (ad := ad) h
        rw [e1, e2]
        simp [Instr.fieldAt, run_underlying hu, hf, Instr.sureAddr, fieldPlace, run_sizeOf' w hn, Addr.add_none]
      · cases h
    · cases h
  · cases h
theorem fieldAddrS_ok {t : TypeId} {v v' : SV} {i : Nat} (h : fieldAddrS P t v i = some v') (hv : v.ok p) : v'.ok p := by
  unfold fieldAddrS at h
  split at h
  · split at h
    · split at h
      · exact ptrAdd_ok h hv
      · cases h
    · cases h
  · cases h

def idxS (len s : Nat) (base : SV) (e : E) : Option SV :=
  match e.lit? with
  | some i => if 0 ≤ i ∧ i < len then ptrAdd base (i.toNat * s) else none
  | none => match base, e.ub with
    | .ptr n off, some m => if m < len ∧ e.sound = true then some (.pi n off s e) else none
    | _, _ => none
theorem idxS_spec {len s : Nat} {base v : SV} {e : E} (h : idxS len s base e = some v) : 0 ≤ e.den F ρ ∧ e.den F ρ < len ∧
    ∃ b off, base.conc F ρ ad = .pointer (some ⟨b, off, none⟩) ∧ v.conc F ρ ad = .pointer (some ⟨b, off + (e.den F ρ).toNat * s, none⟩) := by
  unfold idxS at h
  split at h
  · rename_i i hi
    rw [E.lit?_den hi]
    split at h
    · rename_i hb
      exact ⟨hb.1, hb.2, ptrAdd_conc h⟩
    · cases h
  · split at h
    · rename_i n off m hm
      split at h
      · rename_i hb
        simp only [Option.some.injEq] at h
        subst h
        have := E.ub_spec F ρ e m hb.2 hm
        exact ⟨this.1, by omega, _, _, rfl, rfl⟩
      · cases h
    · cases h
theorem idxS_ok {len s : Nat} {base v : SV} {e : E} (h : idxS len s base e = some v) (hv : base.ok p) : v.ok p := by
  unfold idxS at h
  split at h
  · split at h
    · exact ptrAdd_ok h hv
    · cases h
  · split at h
    · split at h
      · simp only [Option.some.injEq] at h; subst h; simpa [SV.ok] using hv
      · cases h
    · cases h

def indexAddrS (P : Program) (t : TypeId) (x ix : SV) : Option SV :=
  match ix with
  | .sc e => match e.kind with
    | .i _ => match P.underlying t, x with
      | some (.array len elem), x => match szOf P elem with
        | some s => idxS len s x e
        | none => none
      | some (.slice elem), .sl n off len _ => match szOf P elem with
        | some s => idxS len s (.ptr n off) e
        | none => none
      | _, _ => none
    | _ => none
  | _ => none
theorem indexAddrS_run {t : TypeId} {x ix v : SV} (h : indexAddrS P t x ix = some v) : (Instr.indexAt t (x.conc F ρ ad) (ix.conc F ρ ad)).run P w = .ok (v.conc F ρ ad) w := by
  unfold indexAddrS at h
  split at h
  · rename_i e
    split at h
    · rename_i k hk
      split at h
      · rename_i len elem hu
        split at h
        · rename_i s hs
          obtain ⟨h1, h2, b, off, e1, e2⟩ := idxS_spec (F := F) (ρ := ρ) (ad := ad) h
          rw [e1, e2]
          simp only [SV.conc, E.val_i hk]
          simp [Instr.indexAt, run_underlying hu, Instr.sureAddr, asIntOf, h1, h2, run_sizeOf' w hs, Addr.add_none]
        · cases h
      · rename_i elem n off len cap hu
        split at h
        · rename_i s hs
          obtain ⟨h1, h2, b, o, e1, e2⟩ := idxS_spec (F := F) (ρ := ρ) (ad := ad) h
          simp only [SV.conc, Value.pointer.injEq, Option.some.injEq, Addr.mk.injEq, and_true] at e1
          obtain ⟨rfl, rfl⟩ := e1
          rw [e2]
          simp only [SV.conc, E.val_i hk]
          simp [Instr.indexAt, run_underlying hu, asIntOf, h1, h2, run_sizeOf' w hs, Addr.add_none]
        · cases h
      · cases h
    · cases h
  · cases h
theorem indexAddrS_ok {t : TypeId} {x ix v : SV} (h : indexAddrS P t x ix = some v) (hx : x.ok p) : v.ok p := by
  unfold indexAddrS at h
  split at h
  · split at h
    · split at h
      · split at h
        · exact idxS_ok h hx
        · cases h
      · split at h
        · exact idxS_ok h (by simpa [SV.ok] using hx)
        · cases h
      · cases h
    · cases h
  · cases h

/-! ### a choice among values by a number -/
def sel (e : E) : Nat → List SV → SV
  | _, [] => .und
  | _, [v] => v
  | j, v :: r => merge (mkCmp .eql e (.lit (.i .i64) j)) v (sel e (j + 1) r)
theorem sel_conc {e : E} : ∀ (l : List SV) (j : Nat), j + l.length < 1000000 → (j : Int) ≤ e.den F ρ → e.den F ρ < j + l.length →
    ∃ v, l[(e.den F ρ).toNat - j]? = some v ∧ (sel e j l).conc F ρ ad = v.conc F ρ ad
  | [], j, _, h1, h2 => by simp at h2; omega
  | [v], j, _, h1, h2 => ⟨v, by simp at h2; rw [show (e.den F ρ).toNat - j = 0 by omega]; rfl, rfl⟩
  | v :: u :: r, j, hl, h1, h2 => by
    have hc := mkCmp_spec .eql e (.lit (.i .i64) (j : Int)) F ρ
    have hj : (E.lit (.i .i64) (j : Int)).den F ρ = j := by
      simp only [List.length_cons] at hl
      simp only [E.den, K.norm, IntKind.wrap, IntKind.signed, IntKind.bits]
      simp
      split <;> omega
    rw [hj] at hc
    have hm := merge_conc (F := F) (ρ := ρ) (ad := ad) hc.2 v (sel e (j + 1) (u :: r))
    simp only [sel]
    rw [hm, hc.1]
    by_cases he : e.den F ρ = j
    · refine ⟨v, by rw [he]; simp, ?_⟩
      simp [cmpB, he]
    · obtain ⟨x, i1, i2⟩ := sel_conc (e := e) (u :: r) (j + 1) (by simp at hl ⊢; omega) (by omega) (by simp at h2 ⊢; omega)
      refine ⟨x, ?_, ?_⟩
      · rw [← i1, show (e.den F ρ).toNat - j = ((e.den F ρ).toNat - (j + 1)) + 1 by omega]; rfl
      · have : cmpB .eql (e.den F ρ) j = false := by simp [cmpB, he]
        rw [this]; exact i2
theorem sel_ok {e : E} : ∀ (l : List SV) (j : Nat), SV.okL p l → (sel e j l).ok p
  | [], j, _ => trivial
  | [v], j, h => h.1
  | v :: u :: r, j, h => merge_ok _ _ h.1 (sel_ok (u :: r) (j + 1) h.2)

/-- The parts of an array's cells, from the first one on. -/
def partsS (P : Program) (t : TypeId) (cs : List SV) (s : Nat) : Nat → Nat → Option (List SV)
  | 0, _ => some []
  | n + 1, j => match partS P t cs (j * s), partsS P t cs s n (j + 1) with
    | some v, some l => some (v :: l)
    | _, _ => none
theorem partsS_spec {t : TypeId} {cs : List SV} {s : Nat} : ∀ {n j : Nat} {l : List SV}, partsS P t cs s n j = some l → l.length = n ∧ ∀ i v, l[i]? = some v → partS P t cs ((j + i) * s) = some v
  | 0, j, l, h => by simp [partsS] at h; subst h; simp
  | n + 1, j, l, h => by
    simp only [partsS] at h
    split at h
    · rename_i v r h1 h2
      simp only [Option.some.injEq] at h
      subst h
      obtain ⟨i1, i2⟩ := partsS_spec h2
      refine ⟨by simp [i1], fun i u hu => ?_⟩
      cases i with
      | zero => simp at hu; subst hu; exact h1
      | succ i => simp at hu; have := i2 i u hu; rwa [show j + 1 + i = j + (i + 1) by omega] at this
    · cases h

def indexS (P : Program) (t : TypeId) (x ix : SV) : Option SV :=
  match ix with
  | .sc e => match e.kind with
    | .i _ => match P.underlying t, x with
      | some (.array len elem), .agg cs => match szOf P elem with
        | some s => match e.lit? with
          | some i => if 0 ≤ i ∧ i < len then partS P elem cs (i.toNat * s) else none
          | none => match e.ub with
            | some m => if 0 ≤ m ∧ m < len ∧ m < 10000 ∧ e.sound = true then (partsS P elem cs s (m.toNat + 1) 0).map (sel e 0) else none
            | none => none
        | none => none
      | _, _ => none
    | _ => none
  | _ => none
theorem indexS_run {t : TypeId} {x ix v : SV} (h : indexS P t x ix = some v) : (Instr.index t (x.conc F ρ ad) (ix.conc F ρ ad)).run P w = .ok (v.conc F ρ ad) w := by
  unfold indexS at h
  split at h
  · rename_i e
    split at h
    · rename_i k hk
      split at h
      · rename_i len elem cs hu
        split at h
        · rename_i s hs
          split at h
          · rename_i i hi
            split at h
            · rename_i hb
              simp only [SV.conc, E.val_i hk, E.lit?_den hi]
              simp [Instr.index, asIntOf, run_underlying hu, hb.1, hb.2, run_sizeOf' w hs, partS_run h]
            · cases h
          · split at h
            · rename_i m hm
              split at h
              · rename_i hb
                obtain ⟨l, hp, rfl⟩ := Option.map_eq_some_iff.1 h
                obtain ⟨p1, p2⟩ := partsS_spec hp
                have hu' := E.ub_spec F ρ e m hb.2.2.2 hm
                obtain ⟨u, s1, s2⟩ := sel_conc (F := F) (ρ := ρ) (ad := ad) (e := e) l 0 (by omega) (by simpa using hu'.1) (by rw [p1]; omega)
                have hpart := p2 _ _ s1
                rw [s2]
                simp only [SV.conc, E.val_i hk]
                have hlt : e.den F ρ < len := by omega
                simp only [Nat.zero_add, Nat.sub_zero] at hpart
                simp [Instr.index, asIntOf, run_underlying hu, hu'.1, hlt, run_sizeOf' w hs, partS_run hpart]
              · cases h
            · cases h
        · cases h
      · cases h
    · cases h
  · cases h
theorem indexS_ok {t : TypeId} {x ix v : SV} (h : indexS P t x ix = some v) (hx : x.ok p) : v.ok p := by
  unfold indexS at h
  split at h
  · split at h
    · split at h
      · rename_i len elem cs hu
        have hc : SV.okL p cs := by simpa [SV.ok] using hx
        split at h
        · split at h
          · split at h
            · exact partS_ok h hc
            · cases h
          · split at h
            · split at h
              · obtain ⟨l, hp, rfl⟩ := Option.map_eq_some_iff.1 h
                refine sel_ok _ _ ?_
                rw [okL_iff]
                intro v hv
                obtain ⟨i, hi⟩ := List.getElem?_of_mem hv
                exact partS_ok ((partsS_spec hp).2 i v hi) hc
              · cases h
            · cases h
        · cases h
      · cases h
    · cases h
  · cases h

def fieldS (P : Program) (t : TypeId) (x : SV) (i : Nat) : Option SV :=
  match P.underlying t, x with
  | some (.struct fs), .agg cs => match fs[i]? with
    | some f => partS P f.type cs f.offset
    | none => none
  | _, _ => none
theorem fieldS_run {t : TypeId} {x v : SV} {i : Nat} (h : fieldS P t x i = some v) : (Instr.field t (x.conc F ρ ad) i).run P w = .ok (v.conc F ρ ad) w := by
  unfold fieldS at h
  split at h
  · rename_i fs cs hu
    split at h
    · rename_i f hf
      simp [Instr.field, run_underlying hu, hf, SV.conc, asAgg, partS_run h]
    · cases h
  · cases h
theorem fieldS_ok {t : TypeId} {x v : SV} {i : Nat} (h : fieldS P t x i = some v) (hx : x.ok p) : v.ok p := by
  unfold fieldS at h
  split at h
  · split at h
    · exact partS_ok h (by simpa [SV.ok] using hx)
    · cases h
  · cases h

/-! ### arithmetic -/
def nonneg (e : E) : Bool :=
  match e.lit? with
  | some n => decide (0 ≤ n)
  | none => e.ub.isSome && e.sound
theorem nonneg_spec {e : E} (h : nonneg e = true) : 0 ≤ e.den F ρ := by
  unfold nonneg at h
  split at h
  · rename_i n hn; rw [E.lit?_den hn]; simpa using h
  · simp only [Bool.and_eq_true, Option.isSome_iff_exists] at h
    obtain ⟨⟨m, hm⟩, hs⟩ := h
    exact (E.ub_spec F ρ e m hs hm).1

def binE (op : BinOp) (k : IntKind) (a b : E) : Option E :=
  match op with
  | .add | .sub | .mul | .and | .or | .xor | .andNot => if b.kind = .i k then some (mkBin op k a b) else none
  | .quo | .rem => match b.lit? with
    | some n => if b.kind = .i k ∧ n ≠ 0 ∧ a.sound = true then some (mkDv op k a n) else none
    | none => none
  | .shl | .shr => match b.kind with
    | .i _ => if nonneg b = true ∧ a.sound = true then some (mkSh op k a b) else none
    | _ => none
  | op => if b.kind = .i k then some (mkCmp op a b) else none

theorem bits_run (op : BinOp) (k : IntKind) (x y : Int) (h : op = .and ∨ op = .or ∨ op = .xor ∨ op = .andNot) : (Op.intBits op k x y).run P w = .ok (.int k (bitsI op k x y)) w := by
  rcases h with rfl | rfl | rfl | rfl <;> rfl

theorem binE_run {op : BinOp} {t : TypeId} {k : IntKind} {a b e : E} (hk : a.kind = .i k) (h : binE op k a b = some e) : (binOp op t (a.val F ρ) (b.val F ρ)).run P w = .ok (e.val F ρ) w := by
  rw [E.val_i hk]
  unfold binE at h
  split at h
  · split at h
    · rename_i hb; simp only [Option.some.injEq] at h; subst h
      rw [E.val_i hb, (mkBin_spec _ k a b F ρ).1, binOp_add]; rfl
    · cases h
  · split at h
    · rename_i hb; simp only [Option.some.injEq] at h; subst h
      rw [E.val_i hb, (mkBin_spec _ k a b F ρ).1, binOp_sub]; rfl
    · cases h
  · split at h
    · rename_i hb; simp only [Option.some.injEq] at h; subst h
      rw [E.val_i hb, (mkBin_spec _ k a b F ρ).1, binOp_mul]; rfl
    · cases h
  · split at h
    · rename_i hb; simp only [Option.some.injEq] at h; subst h
      rw [E.val_i hb, (mkBin_spec _ k a b F ρ).1, binOp_and, bits_run _ _ _ _ (by simp)]; rfl
    · cases h
  · split at h
    · rename_i hb; simp only [Option.some.injEq] at h; subst h
      rw [E.val_i hb, (mkBin_spec _ k a b F ρ).1, binOp_or, bits_run _ _ _ _ (by simp)]; rfl
    · cases h
  · split at h
    · rename_i hb; simp only [Option.some.injEq] at h; subst h
      rw [E.val_i hb, (mkBin_spec _ k a b F ρ).1, binOp_xor, bits_run _ _ _ _ (by simp)]; rfl
    · cases h
  · split at h
    · rename_i hb; simp only [Option.some.injEq] at h; subst h
      rw [E.val_i hb, (mkBin_spec _ k a b F ρ).1, binOp_andNot, bits_run _ _ _ _ (by simp)]; rfl
    · cases h
  · split at h
    · rename_i n hn
      split at h
      · rename_i hb; simp only [Option.some.injEq] at h; subst h
        rw [E.val_i hb.1, E.lit?_den hn, (mkDv_spec _ k a n hb.2.2 hk F ρ).1, binOp_quo]
        simp [Op.intDiv, hb.2.1, dvI]
      · cases h
    · cases h
  · split at h
    · rename_i n hn
      split at h
      · rename_i hb; simp only [Option.some.injEq] at h; subst h
        rw [E.val_i hb.1, E.lit?_den hn, (mkDv_spec _ k a n hb.2.2 hk F ρ).1, binOp_rem]
        simp [Op.intDiv, hb.2.1, dvI]
      · cases h
    · cases h
  · split at h
    · rename_i k' hk'
      split at h
      · rename_i hb; simp only [Option.some.injEq] at h; subst h
        have h0 := nonneg_spec (F := F) (ρ := ρ) hb.1
        rw [E.val_i hk', (mkSh_spec _ k a b hb.2 hk F ρ).1, binOp_shl]
        simp [Op.shift, Int.not_lt.2 h0, shI]
      · cases h
    · cases h
  · split at h
    · rename_i k' hk'
      split at h
      · rename_i hb; simp only [Option.some.injEq] at h; subst h
        have h0 := nonneg_spec (F := F) (ρ := ρ) hb.1
        rw [E.val_i hk', (mkSh_spec _ k a b hb.2 hk F ρ).1, binOp_shr]
        simp [Op.shift, Int.not_lt.2 h0, shI]
      · cases h
    · cases h
  · rename_i op' n1 n2 n3 n4 n5 n6 n7 n8 n9 n10 n11
    split at h
    · rename_i hb; simp only [Option.some.injEq] at h; subst h
      have hs := mkCmp_spec op a b F ρ
      rw [E.val_i hb, E.val_b hs.2, hs.1]
      cases op <;> first
        | (exfalso; first | exact n1 rfl | exact n2 rfl | exact n3 rfl | exact n4 rfl | exact n5 rfl | exact n6 rfl | exact n7 rfl | exact n8 rfl | exact n9 rfl | exact n10 rfl | exact n11 rfl)
        | (simp [go_sem, cmpB]; done)
    · cases h

def isBoolT (P : Program) (t : TypeId) : Bool :=
  match P.underlying t with
  | some .bool => true
  | _ => false
theorem isBoolT_spec {t : TypeId} (h : isBoolT P t = true) : P.underlying t = some .bool := by
  unfold isBoolT at h
  split at h
  · assumption
  · cases h

def binS (P : Program) (op : BinOp) (t : TypeId) (x y : SV) : Option SV :=
  match x, y with
  | .sc a, .sc b => match a.kind with
    | .i k => (binE op k a b).map .sc
    | .b => if isBoolT P t = true ∧ a.sound = true ∧ b.sound = true ∧ b.kind = .b then
        match op with
        | .eql => some (.sc (mkEqB a b))
        | .neq => some (.sc (mkNot (mkEqB a b)))
        | _ => none
      else none
    | .x => none
  | .agg xs, .agg ys => if P.eqGuardType P.depth t = false then
      match op, eqS P 20 t (.agg xs) (.agg ys) with
      | .eql, some e => some (.sc e)
      | .neq, some e => some (.sc (mkNot e))
      | _, _ => none
    else none
  | _, _ => none

theorem binS_run {op : BinOp} {t : TypeId} {x y v : SV} {ox oy : Operand} (h : binS P op t x y = some v) :
    (do eqGuard op t ox oy (x.conc F ρ ad) (y.conc F ρ ad); binOp op t (x.conc F ρ ad) (y.conc F ρ ad)).run P w = .ok (v.conc F ρ ad) w := by
  unfold binS at h
  split at h
  · rename_i a b
    split at h
    · rename_i k hk
      obtain ⟨e, hb, rfl⟩ := Option.map_eq_some_iff.1 h
      have hr := binE_run (P := P) (F := F) (ρ := ρ) (w := w) (t := t) hk hb
      simp only [SV.conc]
      rw [E.val_i hk] at hr ⊢
      simp [go_sem, hr]
    · rename_i hk
      split at h
      · rename_i hc
        have hs := mkEqB_spec a b hk hc.2.2.2 hc.2.1 hc.2.2.1 F ρ
        simp only [SV.conc, E.val_b hk, E.val_b hc.2.2.2]
        split at h
        · simp only [Option.some.injEq] at h
          subst h
          simp only [SV.conc, E.val_b hs.2, hs.1]
          simp [go_sem, binOp, run_equal_bool w t _ _ (isBoolT_spec hc.1)]
        · simp only [Option.some.injEq] at h
          subst h
          have hn := mkNot_spec (mkEqB a b) F ρ
          simp only [SV.conc, E.val_b hn.2, hn.1, hs.1]
          simp [go_sem, binOp, run_equal_bool w t _ _ (isBoolT_spec hc.1)]
        · cases h
      · cases h
    · cases h
  · rename_i xs ys
    split at h
    · rename_i hg
      split at h
      · rename_i e he
        simp only [Option.some.injEq] at h
        subst h
        obtain ⟨hk, hr⟩ := eqS_run (F := F) (ρ := ρ) (ad := ad) 20 t _ _ e he
        have hr' := hr 9980 w
        simp only [SV.conc] at hr' ⊢
        rw [Sem.run_bind, run_eqGuard_agg w _ _ _ _ _ _ hg, Result.andThen_ok, run_eql_struct]
        simp only [Nat.reduceAdd] at hr'
        rw [hr', E.val_b hk]
        rfl
      · rename_i e he
        simp only [Option.some.injEq] at h
        subst h
        obtain ⟨hk, hr⟩ := eqS_run (F := F) (ρ := ρ) (ad := ad) 20 t _ _ e he
        have hr' := hr 9980 w
        have hn := mkNot_spec e F ρ
        simp only [SV.conc] at hr' ⊢
        rw [Sem.run_bind, run_eqGuard_agg w _ _ _ _ _ _ hg, Result.andThen_ok, run_neq_struct]
        simp only [Nat.reduceAdd] at hr'
        rw [hr', E.val_b hn.2, hn.1]
        rfl
      · cases h
    · cases h
  · cases h
theorem binS_ok {op : BinOp} {t : TypeId} {x y v : SV} (h : binS P op t x y = some v) : v.ok p := by
  unfold binS at h
  split at h
  · split at h
    · obtain ⟨e, _, rfl⟩ := Option.map_eq_some_iff.1 h
      trivial
    · split at h
      · split at h <;> simp only [Option.some.injEq, reduceCtorEq] at h <;> subst h <;> trivial
      · cases h
    · cases h
  · split at h
    · split at h <;> simp only [Option.some.injEq, reduceCtorEq] at h <;> subst h <;> trivial
    · cases h
  · cases h

def unS (op : UnOp) (x : SV) : Option SV :=
  match x with
  | .sc a => match op, a.kind with
    | .not, .b => some (.sc (mkNot a))
    | .neg, .i k => some (.sc (mkBin .sub k (.lit (.i k) 0) a))
    | .xor, .i k => some (.sc (mkBin .xor k (.lit (.i k) (if k.signed then -1 else k.max)) a))
    | _, _ => none
  | _ => none
theorem wrap_ones (k : IntKind) : k.wrap (if k.signed then -1 else k.max) = (if k.signed then -1 else k.max) := by cases k <;> rfl
theorem unS_run {op : UnOp} {x v : SV} (h : unS op x = some v) : (Op.unary op (x.conc F ρ ad)).run P w = .ok (v.conc F ρ ad) w := by
  unfold unS at h
  split at h
  · rename_i a
    split at h
    · rename_i hk
      simp only [Option.some.injEq] at h; subst h
      have hn := mkNot_spec a F ρ
      simp only [SV.conc, E.val_b hk, E.val_b hn.2, hn.1]
      rfl
    · rename_i k hk
      simp only [Option.some.injEq] at h; subst h
      simp only [SV.conc, E.val_i hk]
      rw [(mkBin_spec _ _ _ _ F ρ).1]
      simp [Op.unary, Op.intArith, binI, E.den, K.norm, wrap_zero]
    · rename_i k hk
      simp only [Option.some.injEq] at h; subst h
      simp only [SV.conc, E.val_i hk]
      rw [(mkBin_spec _ _ _ _ F ρ).1]
      simp only [Op.unary]
      rw [bits_run _ _ _ _ (by simp)]
      simp only [binI, E.den, K.norm, wrap_ones]
    · cases h
  · cases h
theorem unS_ok {op : UnOp} {x v : SV} (h : unS op x = some v) : v.ok p := by
  unfold unS at h
  split at h
  · split at h <;> simp only [Option.some.injEq, reduceCtorEq] at h <;> subst h <;> trivial
  · cases h

def convS (P : Program) (src dst : TypeId) (x : SV) : Option SV :=
  match x with
  | .sc a => match a.kind, P.underlying dst with
    | .i _, some (.int k) => if (P.underlying src).isSome = true then some (.sc (mkConv k a)) else none
    | _, _ => none
  | _ => none
theorem convS_run {src dst : TypeId} {x v : SV} (h : convS P src dst x = some v) : (convert src dst (x.conc F ρ ad)).run P w = .ok (v.conc F ρ ad) w := by
  unfold convS at h
  split at h
  · rename_i a
    split at h
    · rename_i k' k hk hd
      split at h
      · rename_i hs
        simp only [Option.some.injEq] at h; subst h
        simp only [SV.conc, E.val_i hk]
        rw [(mkConv_spec _ _ F ρ).1]
        have hik : P.intKind dst = k := by simp [Program.intKind, hd]
        have := run_convert_int (P := P) w src dst k' (a.den F ρ) hs (by rw [hik]; exact hd)
        rw [hik] at this
        exact this
      · cases h
    · cases h
  · cases h
theorem convS_ok {src dst : TypeId} {x v : SV} (h : convS P src dst x = some v) : v.ok p := by
  unfold convS at h
  split at h
  · split at h
    · split at h
      · simp only [Option.some.injEq] at h; subst h; trivial
      · cases h
    · cases h
  · cases h
end
end Go.Proofs.YtbolcnlenmphhaaDoor.Ew

/- Lists in memory: rows of numbers that cells read as; lists that are shared and lists of the call's own; how a world may differ from an earlier one. -/
set_option linter.unusedVariables false
set_option linter.unusedSimpArgs false
namespace Go.Proofs.YtbolcnlenmphhaaDoor.Ew
open Go Go.RowKit

/-- The world w' is as w was, but for the blocks of M and new ones. -/
structure Fr (M : Nat → Prop) (w w' : World) : Prop where
  os : w'.os = w.os
  tape : w'.tape = w.tape
  output : w'.output = w.output
  size : w.heap.size ≤ w'.heap.size
  block : ∀ k, k < w.heap.size → ¬ M k → w'.heap[k]? = w.heap[k]?
theorem Fr.refl (M : Nat → Prop) (w : World) : Fr M w w := ⟨rfl, rfl, rfl, Nat.le_refl _, fun _ _ _ => rfl⟩
theorem Fr.mono {M M' : Nat → Prop} {w w' : World} (h : Fr M w w') (hm : ∀ b, M b → M' b) : Fr M' w w' := ⟨h.os, h.tape, h.output, h.size, fun k hk hn => h.block k hk fun x => hn (hm k x)⟩
theorem Fr.trans {M M' : Nat → Prop} {w w' w'' : World} (h : Fr M w w') (h' : Fr M' w' w'') (hm : ∀ b, b < w.heap.size → M' b → M b) : Fr M w w'' :=
  ⟨h'.os.trans h.os, h'.tape.trans h.tape, h'.output.trans h.output, Nat.le_trans h.size h'.size, fun k hk hn => (h'.block k (Nat.lt_of_lt_of_le hk h.size) fun x => hn (hm k hk x)).trans (h.block k hk hn)⟩
theorem Fr.grown {w w' : World} {row : Option Nat} (h : w.grownBy w' row) : Fr (fun b => row = some b) w w' := ⟨h.os, h.tape, h.output, h.size, fun k hk hn => h.block k hk fun e => hn e.symm⟩
theorem Fr.below {M : Nat → Prop} {w w' : World} (h : Below w.heap.size w w') : Fr M w w' := ⟨h.os, h.tape, h.output, h.size, fun k hk _ => h.block k hk⟩
theorem Fr.toBelow {w w' : World} (h : Fr (fun _ => False) w w') : Below w.heap.size w w' := ⟨h.os, h.tape, h.output, h.size, fun k hk => h.block k hk fun x => x⟩
theorem Fr.alloc (M : Nat → Prop) (w : World) (o : Obj) : Fr M w (w.alloc o) := Fr.below ((Below.refl _ _).alloc (Nat.le_refl _) o)
theorem Fr.drew (M : Nat → Prop) (w : World) : Fr M w { w with drawn := w.drawn + 1 } := ⟨rfl, rfl, rfl, Nat.le_refl _, fun _ _ _ => rfl⟩
theorem Fr.cell {M : Nat → Prop} {w w' : World} (h : Fr M w w') {b o : Nat} (hb : b < w.heap.size) (hn : ¬ M b) : w'.cell? ⟨b, o, none⟩ = w.cell? ⟨b, o, none⟩ := by
  simp [World.cell?, h.block b hb hn]
theorem Fr.setRow {w : World} (g : Nat) (cs : Array Value) : Fr (fun b => b = g) w (w.setRow g cs) := ⟨rfl, rfl, rfl, by simp, fun k _ hn => setRow_other w g k cs hn⟩

/-- The values of a row's cells. -/
def RowV (w : World) (Im : Nat → Prop) : Row → List Int → List Value → Prop
  | .nil, zs, vs => zs = [] ∧ vs = []
  | .c k r, zs, vs => ∃ z zs' vs', zs = z :: zs' ∧ vs = k.val z :: vs' ∧ k.norm z = z ∧ RowV w Im r zs' vs'
  | .ls _ q r, zs, vs => ∃ z zs' h vs', zs = z :: zs' ∧ vs = Hd.sl h (dc z).length :: vs' ∧ (isCd z ∧ (dc z).length ≤ maxLen ∧ (dc z).length ≤ h.cap ∧ (dc z ≠ [] → Im h.blk) ∧
      (∀ i r', (dc z)[i]? = some r' → ∃ us, RowV w Im q r' us ∧ ∀ j u, us[j]? = some u → w.cell? ⟨h.blk, h.off + i * q.size + j, none⟩ = some u)) ∧ RowV w Im r zs' vs'

/-- A list that is shared: it reads in blocks that do not turn. -/
def ShL (w : World) (Im : Nat → Prop) (q : Row) (h : Hd) (l : RL) : Prop :=
  l.length ≤ maxLen ∧ l.length ≤ h.cap ∧ (l ≠ [] → Im h.blk) ∧ ∀ i r', l[i]? = some r' → ∃ us, RowV w Im q r' us ∧ ∀ j u, us[j]? = some u → w.cell? ⟨h.blk, h.off + i * q.size + j, none⟩ = some u

def RowsV (w : World) (Im : Nat → Prop) (q : Row) : RL → List Value → Prop
  | [], xs => xs = []
  | r :: l, xs => ∃ us ys, xs = us ++ ys ∧ RowV w Im q r us ∧ RowsV w Im q l ys

/-- A list of the call's own. -/
def OwL (w : World) (Im : Nat → Prop) (ty : Nat) (q : Row) (h : Hd) (l : RL) : Prop :=
  l.length ≤ maxLen ∧ ∃ xs, w.ownsRow 0 ty q.size (h.sl l.length) l.length xs ∧ RowsV w Im q l xs

section
variable {w w' : World} {Im Im' M : Nat → Prop} {q : Row} {h : Hd} {l : RL}

theorem RowV.len : ∀ {q : Row} {zs : List Int} {vs : List Value}, RowV w Im q zs vs → vs.length = q.size ∧ zs.length = q.size
  | .nil, zs, vs, h => by obtain ⟨rfl, rfl⟩ := h; exact ⟨rfl, rfl⟩
  | .c k r, zs, vs, h => by obtain ⟨z, zs', vs', rfl, rfl, _, h'⟩ := h; have := RowV.len h'; simp [Row.size, this.1, this.2]
  | .ls ty p r, zs, vs, h => by obtain ⟨z, zs', hd, vs', rfl, rfl, _, h'⟩ := h; have := RowV.len h'; simp [Row.size, this.1, this.2]

theorem Hd.sl_one (h : Hd) (n : Nat) : (h.sl n).oneCell' = true := by unfold Hd.sl; cases h.nil && n == 0 <;> rfl
theorem K.val_one (k : K) (z : Int) : (k.val z).oneCell' = true := by cases k <;> rfl
theorem RowV.one : ∀ {q : Row} {zs : List Int} {vs : List Value}, RowV w Im q zs vs → ∀ v ∈ vs, v.oneCell' = true
  | .nil, zs, vs, h => by obtain ⟨rfl, rfl⟩ := h; simp
  | .c k r, zs, vs, h => by
    obtain ⟨z, zs', vs', rfl, rfl, _, h'⟩ := h
    intro v hv
    rcases List.mem_cons.1 hv with rfl | hv
    · exact K.val_one k z
    · exact RowV.one h' v hv
  | .ls ty p r, zs, vs, h => by
    obtain ⟨z, zs', hd, vs', rfl, rfl, _, h'⟩ := h
    intro v hv
    rcases List.mem_cons.1 hv with rfl | hv
    · exact Hd.sl_one _ _
    · exact RowV.one h' v hv

/-- What reads in blocks that do not turn reads on. -/
theorem RowV.fr (hI : ∀ b, Im b → Im' b ∧ w'.heap[b]? = w.heap[b]?) : ∀ {q : Row} {zs : List Int} {vs : List Value}, RowV w Im q zs vs → RowV w' Im' q zs vs
  | .nil, zs, vs, h => h
  | .c k r, zs, vs, h => by
    obtain ⟨z, zs', vs', h1, h2, h3, h'⟩ := h
    exact ⟨z, zs', vs', h1, h2, h3, RowV.fr hI h'⟩
  | .ls ty p r, zs, vs, h => by
    obtain ⟨z, zs', hd, vs', h1, h2, ⟨h3, h4, h5, h6, h7⟩, h'⟩ := h
    refine ⟨z, zs', hd, vs', h1, h2, ⟨h3, h4, h5, fun hn => (hI _ (h6 hn)).1, fun i r' hi => ?_⟩, RowV.fr hI h'⟩
    obtain ⟨us, u1, u2⟩ := h7 i r' hi
    have hne : dc z ≠ [] := fun e => by rw [e] at hi; simp at hi
    refine ⟨us, RowV.fr hI u1, fun j u hu => ?_⟩
    have := u2 j u hu
    simp only [World.cell?, (hI _ (h6 hne)).2] at this ⊢
    exact this

theorem ShL.fr (hI : ∀ b, Im b → Im' b ∧ w'.heap[b]? = w.heap[b]?) (hs : ShL w Im q h l) : ShL w' Im' q h l := by
  obtain ⟨h1, h2, h3, h4⟩ := hs
  refine ⟨h1, h2, fun hn => (hI _ (h3 hn)).1, fun i r' hi => ?_⟩
  obtain ⟨us, u1, u2⟩ := h4 i r' hi
  have hne : l ≠ [] := fun e => by rw [e] at hi; simp at hi
  refine ⟨us, RowV.fr hI u1, fun j u hu => ?_⟩
  have := u2 j u hu
  simp only [World.cell?, (hI _ (h3 hne)).2] at this ⊢
  exact this

theorem RowsV.fr (hI : ∀ b, Im b → Im' b ∧ w'.heap[b]? = w.heap[b]?) : ∀ {l : RL} {xs : List Value}, RowsV w Im q l xs → RowsV w' Im' q l xs
  | [], xs, h => h
  | r :: l, xs, h => by
    obtain ⟨us, ys, h1, h2, h3⟩ := h
    exact ⟨us, ys, h1, RowV.fr hI h2, RowsV.fr hI h3⟩
theorem RowsV.len : ∀ {l : RL} {xs : List Value}, RowsV w Im q l xs → xs.length = l.length * q.size
  | [], xs, h => by simp only [RowsV] at h; subst h; simp
  | r :: l, xs, h => by
    obtain ⟨us, ys, rfl, h2, h3⟩ := h
    rw [List.length_append, h2.len.1, RowsV.len h3, List.length_cons, Nat.succ_mul, Nat.add_comm]
theorem RowsV.one : ∀ {l : RL} {xs : List Value}, RowsV w Im q l xs → ∀ v ∈ xs, v.oneCell' = true
  | [], xs, h => by simp only [RowsV] at h; subst h; simp
  | r :: l, xs, h => by
    obtain ⟨us, ys, rfl, h2, h3⟩ := h
    intro v hv
    rcases List.mem_append.1 hv with hv | hv
    · exact h2.one v hv
    · exact RowsV.one h3 v hv
theorem RowsV.append : ∀ {l l' : RL} {xs xs' : List Value}, RowsV w Im q l xs → RowsV w Im q l' xs' → RowsV w Im q (l ++ l') (xs ++ xs')
  | [], l', xs, xs', h, h' => by simp only [RowsV] at h; subst h; exact h'
  | r :: l, l', xs, xs', h, h' => by
    obtain ⟨us, ys, rfl, h2, h3⟩ := h
    exact ⟨us, ys ++ xs', by rw [List.append_assoc], h2, RowsV.append h3 h'⟩
theorem RowsV.single {r : List Int} {us : List Value} (h : RowV w Im q r us) : RowsV w Im q [r] us := ⟨us, [], by simp, h, rfl⟩
/-- One row of many. -/
theorem RowsV.get : ∀ {l : RL} {xs : List Value}, RowsV w Im q l xs → ∀ i r, l[i]? = some r → ∃ us, RowV w Im q r us ∧ ∀ j u, us[j]? = some u → xs[i * q.size + j]? = some u
  | [], xs, h, i, r, hi => by simp at hi
  | r :: l, xs, h, 0, r', hi => by
    obtain ⟨us, ys, rfl, h2, h3⟩ := h
    simp at hi
    subst hi
    refine ⟨us, h2, fun j u hu => ?_⟩
    rw [Nat.zero_mul, Nat.zero_add, List.getElem?_append_left (List.getElem?_eq_some_iff.1 hu).1]
    exact hu
  | r :: l, xs, h, i + 1, r', hi => by
    obtain ⟨us, ys, rfl, h2, h3⟩ := h
    obtain ⟨vs, v1, v2⟩ := RowsV.get h3 i r' (by simpa using hi)
    refine ⟨vs, v1, fun j u hu => ?_⟩
    have hl := h2.len.1
    rw [List.getElem?_append_right (by rw [hl, Nat.succ_mul]; omega), hl]
    have := v2 j u hu
    rw [Nat.succ_mul]
    rwa [show i * q.size + q.size + j - q.size = i * q.size + j by omega]
/-- One row is replaced. -/
theorem RowsV.set : ∀ {l : RL} {xs : List Value}, RowsV w Im q l xs → ∀ i r us, i < l.length → RowV w Im q r us → RowsV w Im q (l.set i r) (xs.take (i * q.size) ++ us ++ xs.drop (i * q.size + q.size))
  | [], xs, h, i, r, us, hi, hr => by simp at hi
  | r0 :: l, xs, h, 0, r, us, hi, hr => by
    obtain ⟨us0, ys, rfl, h2, h3⟩ := h
    have hl := h2.len.1
    refine ⟨us, ys, ?_, hr, h3⟩
    simp [← hl]
  | r0 :: l, xs, h, i + 1, r, us, hi, hr => by
    obtain ⟨us0, ys, rfl, h2, h3⟩ := h
    have hl := h2.len.1
    refine ⟨us0, ys.take (i * q.size) ++ us ++ ys.drop (i * q.size + q.size), ?_, h2, RowsV.set h3 i r us (by simpa using hi) hr⟩
    have e1 : (i + 1) * q.size = us0.length + i * q.size := by rw [Nat.succ_mul, hl]; omega
    have e2 : (i + 1) * q.size + q.size = us0.length + (i * q.size + q.size) := by rw [e1]; omega
    rw [e2, e1, List.take_append, List.drop_append]
    rw [List.take_of_length_le (l := us0) (by omega), List.drop_of_length_le (l := us0) (by omega)]
    simp

theorem OwL.fr (hI : ∀ b, Im b → Im' b ∧ w'.heap[b]? = w.heap[b]?) (hb : ∀ b, (h.sl l.length).ownBlock = some b → w'.heap[b]? = w.heap[b]?) {ty : Nat} (ho : OwL w Im ty q h l) : OwL w' Im' ty q h l := by
  obtain ⟨h1, xs, h2, h3⟩ := ho
  refine ⟨h1, xs, ⟨h2.1, ?_⟩, h3.fr hI⟩
  rcases h2.2 with hn | ⟨g, cap, cur, e, k1, k2, k3⟩
  · exact .inl hn
  · exact .inr ⟨g, cap, cur, e, k1, by rw [hb g (by rw [e]; rfl)]; exact k2, k3⟩

theorem Hd.own_blk {h : Hd} {n b : Nat} (e : (h.sl n).ownBlock = some b) : b = h.blk := by
  unfold Hd.sl at e
  cases hn : h.nil && n == 0 <;> rw [hn] at e <;> simp [Value.ownBlock] at e
  exact e.symm

/-- What is of the call's own can be shared: its block does not turn any more. -/
theorem OwL.share {ty : Nat} (ho : OwL w Im ty q h l) : ShL w (fun b => Im b ∨ (h.sl l.length).ownBlock = some b) q h l := by
  obtain ⟨h1, xs, h2, h3⟩ := ho
  have hI : ∀ b, Im b → (Im b ∨ (h.sl l.length).ownBlock = some b) ∧ w.heap[b]? = w.heap[b]? := fun b hb => ⟨Or.inl hb, rfl⟩
  rcases h2.2 with ⟨hn, hl⟩ | ⟨g, cap, cur, e, k1, k2, k3, k4, k5, k6⟩
  · have hl' : l = [] := List.eq_nil_of_length_eq_zero hl
    subst hl'
    exact ⟨Nat.zero_le _, Nat.zero_le _, fun x => (x rfl).elim, fun i r' hi => by simp at hi⟩
  · have hg : (h.sl l.length).ownBlock = some g := by rw [e]; rfl
    have hgb := Hd.own_blk hg
    subst hgb
    have hoff : h.off = 0 ∧ h.cap = cap := by
      unfold Hd.sl at e
      cases hnn : h.nil && l.length == 0
      · rw [hnn] at e; simp at e; exact e
      · rw [hnn] at e; simp at e
    refine ⟨h1, by omega, fun _ => Or.inr hg, fun i r' hi => ?_⟩
    obtain ⟨us, u1, u2⟩ := h3.get i r' hi
    refine ⟨us, u1.fr hI, fun j u hu => ?_⟩
    have hx := u2 j u hu
    rw [hoff.1, Nat.zero_add]
    have := h2.cells hg (i * q.size + j) u hx
    rwa [Addr.add_none, Nat.zero_add] at this
end
end Go.Proofs.YtbolcnlenmphhaaDoor.Ew

/- The memory of named things: blocks of cells, lists, maps; how it stands to the world; how it stays so behind a step. -/
set_option linter.unusedVariables false
set_option linter.unusedSimpArgs false
namespace Go.Proofs.YtbolcnlenmphhaaDoor.Ew
open Go Go.RowKit

/-- What a name stands for: a block of cells; a list (its length, its rows), shared or of the call's own; a map; nothing any more. -/
inductive Blk where
  | cells (ty : Nat) (cs : List SV)
  | lst (ty : Nat) (row : Row) (own : Bool) (le c : E)
  | mp (ks vs : List K) (kag vag : Bool) (c : E)
  | dead
  deriving Repr, Inhabited
/-- By name: under which condition it is there, and what it is. -/
abbrev Mem := List (Option (E × Blk))
def Mem.at (m : Mem) (n : Nat) : Option (E × Blk) := m.getD n none
def al (m : Mem) (n : Nat) : Prop := (m.at n).isSome = true
/-- What the variables that were there before hold. -/
abbrev Glob := Nat → Nat → Option SV

theorem Mem.at_lt {m : Mem} {n : Nat} {x} (h : m.at n = some x) : n < m.length := by
  unfold Mem.at at h
  rcases Nat.lt_or_ge n m.length with h' | h'
  · exact h'
  · simp [List.getD, List.getElem?_eq_none h'] at h
theorem Mem.at_set_same {m : Mem} {n : Nat} (h : n < m.length) (x : Option (E × Blk)) : Mem.at (List.set m n x) n = x := by
  simp [Mem.at, List.getD, h]
theorem Mem.at_set_other {m : Mem} {n k : Nat} (h : n ≠ k) (x : Option (E × Blk)) : Mem.at (List.set m n x) k = m.at k := by
  simp [Mem.at, List.getD, List.getElem?_set, h]

/-- A value of some numbers: one cell, or an aggregate. -/
def numV (ks : List K) (zs : List Int) : List Value := List.zipWith K.val ks zs
def keyV (ks : List K) (ag : Bool) (zs : List Int) : Value := bif ag then .agg (numV ks zs).toArray else (numV ks zs).getD 0 undef
/-- The entries of a map, told by rows: the numbers of the key and of the value. -/
def MapV (ks vs : List K) (kag vag : Bool) (es : Array MapEntry) (l : RL) : Prop :=
  es.size = l.length ∧ ∀ (i : Nat) (e : MapEntry) (r : List Int), es[i]? = some e → l[i]? = some r → fits (ks ++ vs) r ∧ e.key = keyV ks kag (r.take ks.length) ∧ e.val = keyV vs vag (r.drop ks.length)

/-- The block that may be written by way of a name. -/
def mutB (F : Fam) (ρ : Nat → Int) (ad : Nat → Hd) (n : Nat) : Blk → Option Nat
  | .cells _ _ => some (ad n).blk
  | .lst _ _ true le _ => ((ad n).sl (le.den F ρ).toNat).ownBlock
  | .lst _ _ false _ _ => none
  | .mp .. => some (ad n).blk
  | .dead => none
def BlkOK (F : Fam) (ρ : Nat → Int) (Im : Nat → Prop) (ad : Nat → Hd) (n : Nat) (w : World) : Blk → Prop
  | .cells ty cs => w.heap[(ad n).blk]? = some (.cells (SV.concL F ρ ad cs).toArray ty (0, 0))
  | .lst ty row own le c => isCd (c.den F ρ) ∧ le.den F ρ = ((dc (c.den F ρ)).length : Int) ∧
      (bif own then OwL w Im ty row (ad n) (dc (c.den F ρ)) else ShL w Im row (ad n) (dc (c.den F ρ)))
  | .mp ks vs kag vag c => isCd (c.den F ρ) ∧ ∃ es ck, w.heap[(ad n).blk]? = some (.map es ck) ∧ MapV ks vs kag vag es (dc (c.den F ρ))
  | .dead => True

structure RelI (F : Fam) (ρ : Nat → Int) (w0 : World) (M0 Im : Nat → Prop) (ad : Nat → Hd) (m : Mem) (w : World) : Prop where
  ent : ∀ n g x, m.at n = some (g, x) → g.tt F ρ = true → BlkOK F ρ Im ad n w x ∧ ∀ b, mutB F ρ ad n x = some b → (M0 b ∨ w0.heap.size ≤ b) ∧ ¬ Im b ∧ b < w.heap.size
  ok : ∀ n g ty cs, m.at n = some (g, .cells ty cs) → SV.okL (al m) cs
  inj : ∀ n k g x g' y b, m.at n = some (g, x) → g.tt F ρ = true → m.at k = some (g', y) → g'.tt F ρ = true → mutB F ρ ad n x = some b → mutB F ρ ad k y = some b → n = k
  im : ∀ b, Im b → b < w.heap.size
  fr : Fr M0 w0 w
/-- The memory tells of the world w. w0: the world in which all began; M0: the blocks of then that may be written; Im0: those that may not. -/
def Rel (F : Fam) (ρ : Nat → Int) (w0 : World) (M0 Im0 : Nat → Prop) (ad : Nat → Hd) (m : Mem) (w : World) : Prop :=
  (∀ b, M0 b → ¬ Im0 b ∧ b < w0.heap.size) ∧ ∃ Im : Nat → Prop, (∀ b, Im0 b → Im b) ∧ (∀ b, Im b → Im0 b ∨ M0 b ∨ w0.heap.size ≤ b) ∧ RelI F ρ w0 M0 Im ad m w

def GOK (G : Glob) (Im0 : Nat → Prop) (w0 : World) : Prop :=
  ∀ (F : Fam) (ρ : Nat → Int) b off v, G b off = some v → Im0 b ∧ b < w0.heap.size ∧ w0.cell? ⟨b, off, none⟩ = some (v.conc F ρ (fun _ => default)) ∧ v.ok (fun _ => False)

/-- From one state of names to a later one. -/
structure Ext (ad ad' : Nat → Hd) (m m' : Mem) : Prop where
  same : ∀ k, al m k → ad k = ad' k
  keep : ∀ k, al m k → al m' k
theorem Ext.refl (ad : Nat → Hd) (m : Mem) : Ext ad ad m m := ⟨fun _ _ => rfl, fun _ h => h⟩
theorem Ext.trans {ad ad' ad'' : Nat → Hd} {m m' m'' : Mem} (h : Ext ad ad' m m') (h' : Ext ad' ad'' m' m'') : Ext ad ad'' m m'' :=
  ⟨fun k hk => (h.same k hk).trans (h'.same k (h.keep k hk)), fun k hk => h'.keep k (h.keep k hk)⟩

section
variable {P : Program} {F : Fam} {ρ : Nat → Int} {G : Glob} {w0 w w' : World} {M0 Im0 Im Im' T : Nat → Prop} {ad ad' : Nat → Hd} {m m' : Mem}

theorem Mem.at_al {n : Nat} {x} (h : m.at n = some x) : al m n := by simp [al, h]

theorem GOK.fr (h : GOK G Im0 w0) (hM : ∀ b, M0 b → ¬ Im0 b ∧ b < w0.heap.size) (hf : Fr M0 w0 w) {Im1 : Nat → Prop} (hI : ∀ b, Im0 b → Im1 b) : GOK G Im1 w := fun F ρ b off v hv => by
  obtain ⟨h0, h1, h2, h3⟩ := h F ρ b off v hv
  exact ⟨hI b h0, Nat.lt_of_lt_of_le h1 hf.size, (hf.cell h1 fun x => (hM b x).1 h0).trans h2, h3⟩

theorem cell_of_heap {b : Nat} {c : Array Value} {t : TypeId} {fr : Nat × Nat} (h : w.heap[b]? = some (.cells c t fr)) (o : Nat) : w.cell? ⟨b, o, none⟩ = c[o]? := by
  simp [World.cell?, h]

theorem mutB_congr {n : Nat} {x : Blk} (h : ad' n = ad n) : mutB F ρ ad' n x = mutB F ρ ad n x := by
  cases x with
  | lst ty row own le c => cases own <;> simp [mutB, h]
  | _ => simp [mutB, h]

/-- What a name stands for stays so where what it reads has not turned. -/
theorem BlkOK.fr {n : Nat} {x : Blk} (h : BlkOK F ρ Im ad n w x) (hI : ∀ b, Im b → Im' b ∧ w'.heap[b]? = w.heap[b]?) (hb : ∀ b, mutB F ρ ad n x = some b → w'.heap[b]? = w.heap[b]?)
    (hn : ad' n = ad n) (hc : ∀ ty cs, x = .cells ty cs → SV.concL F ρ ad' cs = SV.concL F ρ ad cs) : BlkOK F ρ Im' ad' n w' x := by
  cases x with
  | cells ty cs =>
    simp only [BlkOK] at h ⊢
    rw [hn, hb _ rfl, hc ty cs rfl]
    exact h
  | lst ty row own le c =>
    obtain ⟨h1, h2, h3⟩ := h
    refine ⟨h1, h2, ?_⟩
    cases own with
    | true =>
      simp only [cond_true] at h3 ⊢
      rw [hn]
      refine h3.fr hI fun b hb' => hb b ?_
      simp only [mutB, h2]
      exact hb'
    | false =>
      simp only [cond_false] at h3 ⊢
      rw [hn]
      exact h3.fr hI
  | mp ks vs kag vag c =>
    obtain ⟨h1, es, ck, h2, h3⟩ := h
    exact ⟨h1, es, ck, by rw [hn, hb _ rfl]; exact h2, h3⟩
  | dead => trivial

/-- A step: some blocks are written (T), new ones are made; each name stands for what it stood for, and was not touched, or for something that is told anew. -/
theorem RelI.step (hR : RelI F ρ w0 M0 Im ad m w) (hf : Fr T w w') (hT : ∀ b, b < w.heap.size → T b → (M0 b ∨ w0.heap.size ≤ b) ∧ ¬ Im b)
    (hI : ∀ b, Im b → Im' b) (hIw : ∀ b, Im' b → b < w'.heap.size) (hx : ∀ k, al m k → ad k = ad' k) (hk : ∀ k, al m k → al m' k)
    (hE : ∀ n g x, m'.at n = some (g, x) → g.tt F ρ = true →
      ((∃ g', m.at n = some (g', x) ∧ g'.tt F ρ = true) ∧ ∀ b, mutB F ρ ad n x = some b → ¬ T b ∧ ¬ Im' b) ∨
      (BlkOK F ρ Im' ad' n w' x ∧ ∀ b, mutB F ρ ad' n x = some b → ((M0 b ∨ w0.heap.size ≤ b) ∧ ¬ Im' b ∧ b < w'.heap.size) ∧ (T b ∨ w.heap.size ≤ b)))
    (hok : ∀ n g ty cs, m'.at n = some (g, .cells ty cs) → SV.okL (al m') cs)
    (hN : ∀ n k g x g' y b, m'.at n = some (g, x) → g.tt F ρ = true → m'.at k = some (g', y) → g'.tt F ρ = true → mutB F ρ ad' n x = some b → mutB F ρ ad' k y = some b → (T b ∨ w.heap.size ≤ b) → n = k) :
    RelI F ρ w0 M0 Im' ad' m' w' := by
  have hIm : ∀ b, Im b → Im' b ∧ w'.heap[b]? = w.heap[b]? := fun b hb => ⟨hI b hb, hf.block b (hR.im b hb) fun t => (hT b (hR.im b hb) t).2 hb⟩
  refine ⟨fun n g x hn hg => ?_, hok, fun n k g x g' y b h1 h2 h3 h4 h5 h6 => ?_, hIw, hR.fr.trans hf fun b hb t => ?_⟩
  · rcases hE n g x hn hg with ⟨⟨g', h1, h2⟩, h3⟩ | ⟨h1, h2⟩
    · obtain ⟨i1, i2⟩ := hR.ent n g' x h1 h2
      have hadn := (hx n (Mem.at_al h1)).symm
      refine ⟨i1.fr hIm (fun b hb => hf.block b (i2 b hb).2.2 (h3 b hb).1) hadn fun ty cs e => ?_, fun b hb => ?_⟩
      · subst e
        exact (SV.concL_congr hx cs (hR.ok n g' ty cs h1)).symm
      · rw [mutB_congr hadn] at hb
        exact ⟨(i2 b hb).1, (h3 b hb).2, Nat.lt_of_lt_of_le (i2 b hb).2.2 hf.size⟩
    · exact ⟨h1, fun b hb => (h2 b hb).1⟩
  · by_cases ht : T b ∨ w.heap.size ≤ b
    · exact hN n k g x g' y b h1 h2 h3 h4 h5 h6 ht
    · rcases hE n g x h1 h2 with ⟨⟨g1, e1, e2⟩, e3⟩ | ⟨_, e2⟩
      · rcases hE k g' y h3 h4 with ⟨⟨g2, f1, f2⟩, f3⟩ | ⟨_, f2⟩
        · rw [mutB_congr (hx n (Mem.at_al e1)).symm] at h5
          rw [mutB_congr (hx k (Mem.at_al f1)).symm] at h6
          exact hR.inj n k g1 x g2 y b e1 e2 f1 f2 h5 h6
        · exact (ht (f2 b h6).2).elim
      · exact (ht (e2 b h5).2).elim
  · by_cases hb' : b < w.heap.size
    · rcases (hT b hb' t).1 with h | h
      · exact h
      · omega
    · have := hR.fr.size; omega

theorem RelI.refl_w (hR : RelI F ρ w0 M0 Im ad m w) {w1 : World} (h : w1.heap = w.heap) (hf : Fr M0 w0 w1) : RelI F ρ w0 M0 Im ad m w1 := by
  refine ⟨fun n g x hn hg => ?_, hR.ok, hR.inj, fun b hb => by rw [h]; exact hR.im b hb, hf⟩
  obtain ⟨i1, i2⟩ := hR.ent n g x hn hg
  exact ⟨i1.fr (fun b hb => ⟨hb, by rw [h]⟩) (fun b _ => by rw [h]) rfl fun _ _ _ => rfl, fun b hb => by rw [h]; exact i2 b hb⟩

/-- A list of the call's own may be taken for a shared one. -/
def shareN (m : Mem) (n : Nat) : Mem :=
  match m.at n with
  | some (g, .lst ty row true le c) => m.set n (some (g, .lst ty row false le c))
  | _ => m
theorem al_set {m : Mem} {n : Nat} {x y} (h : m.at n = some x) (k : Nat) : al (m.set n (some y)) k ↔ al m k := by
  have hl := Mem.at_lt h
  by_cases hk : n = k
  · subst hk; simp [al, Mem.at_set_same hl, h]
  · simp [al, Mem.at_set_other hk]
theorem al_set_new {m : Mem} {n : Nat} {y} (h : n < m.length) (k : Nat) : al m k → al (m.set n (some y)) k := by
  intro hk
  by_cases he : n = k
  · subst he; simp [al, Mem.at_set_same h]
  · simpa [al, Mem.at_set_other he] using hk

theorem Rel.share (hR : Rel F ρ w0 M0 Im0 ad m w) (n : Nat) : Rel F ρ w0 M0 Im0 ad (shareN m n) w := by
  unfold shareN
  split
  · rename_i g ty row le c hn
    obtain ⟨hM, Im, h1, h2, hI⟩ := hR
    have hl := Mem.at_lt hn
    by_cases hg : g.tt F ρ = true
    · obtain ⟨i1, i2⟩ := hI.ent n g _ hn hg
      obtain ⟨j1, j2, j3⟩ := i1
      simp only [cond_true] at j3
      have hlen : (le.den F ρ).toNat = (dc (c.den F ρ)).length := by rw [j2]; simp
      refine ⟨hM, fun b => Im b ∨ ((ad n).sl (dc (c.den F ρ)).length).ownBlock = some b, fun b hb => Or.inl (h1 b hb), fun b hb => ?_, ?_⟩
      · rcases hb with hb | hb
        · exact h2 b hb
        · have := i2 b (by simp only [mutB, hlen]; exact hb)
          exact Or.inr this.1
      · refine hI.step (T := fun _ => False) (Fr.refl _ _) (fun b _ hb => hb.elim) (fun b hb => Or.inl hb) (fun b hb => ?_) (fun _ _ => rfl) (fun k hk => (al_set hn k).2 hk) (fun k g' x hk hg' => ?_) (fun k g' ty' cs hk => ?_) (fun k k' g1 x g2 y b a1 a2 a3 a4 a5 a6 a7 => ?_)
        · rcases hb with hb | hb
          · exact hI.im b hb
          · exact (i2 b (by simp only [mutB, hlen]; exact hb)).2.2
        · by_cases hkn : n = k
          · subst hkn
            rw [Mem.at_set_same hl] at hk
            simp only [Option.some.injEq, Prod.mk.injEq] at hk
            obtain ⟨rfl, rfl⟩ := hk
            right
            exact ⟨⟨j1, j2, j3.share⟩, fun b hb => by simp [mutB] at hb⟩
          · rw [Mem.at_set_other hkn] at hk
            left
            refine ⟨⟨g', hk, hg'⟩, fun b hb => ⟨fun x => x, fun hb' => ?_⟩⟩
            rcases hb' with hb' | hb'
            · exact ((hI.ent k g' x hk hg').2 b hb).2.1 hb'
            · exact hkn (hI.inj n k g _ g' x b hn hg hk hg' (by simp only [mutB, hlen]; exact hb') hb)
        · by_cases hkn : n = k
          · subst hkn
            rw [Mem.at_set_same hl] at hk
            cases hk
          · rw [Mem.at_set_other hkn] at hk
            exact SV.okL_mono (fun k hk => (al_set hn k).2 hk) _ (hI.ok k g' ty' cs hk)
        · rcases a7 with a7 | a7
          · exact a7.elim
          · exfalso
            by_cases hkn : n = k
            · subst hkn
              rw [Mem.at_set_same hl] at a1
              simp only [Option.some.injEq, Prod.mk.injEq] at a1
              obtain ⟨rfl, rfl⟩ := a1
              simp [mutB] at a5
            · rw [Mem.at_set_other hkn] at a1
              have := ((hI.ent k g1 x a1 a2).2 b a5).2.2
              omega
    · refine ⟨hM, Im, h1, h2, hI.step (T := fun _ => False) (Fr.refl _ _) (fun b _ hb => hb.elim) (fun b hb => hb) hI.im (fun _ _ => rfl) (fun k hk => (al_set hn k).2 hk) (fun k g' x hk hg' => ?_) (fun k g' ty' cs hk => ?_) (fun k k' g1 x g2 y b a1 a2 a3 a4 a5 a6 a7 => ?_)⟩
      · by_cases hkn : n = k
        · subst hkn
          rw [Mem.at_set_same hl] at hk
          simp only [Option.some.injEq, Prod.mk.injEq] at hk
          obtain ⟨rfl, rfl⟩ := hk
          exact (hg hg').elim
        · rw [Mem.at_set_other hkn] at hk
          exact Or.inl ⟨⟨g', hk, hg'⟩, fun b hb => ⟨fun x => x, ((hI.ent k g' x hk hg').2 b hb).2.1⟩⟩
      · by_cases hkn : n = k
        · subst hkn
          rw [Mem.at_set_same hl] at hk
          cases hk
        · rw [Mem.at_set_other hkn] at hk
          exact SV.okL_mono (fun k hk => (al_set hn k).2 hk) _ (hI.ok k g' ty' cs hk)
      · rcases a7 with a7 | a7
        · exact a7.elim
        · exfalso
          by_cases hkn : n = k
          · subst hkn
            rw [Mem.at_set_same hl] at a1
            simp only [Option.some.injEq, Prod.mk.injEq] at a1
            obtain ⟨rfl, rfl⟩ := a1
            exact hg a2
          · rw [Mem.at_set_other hkn] at a1
            have := ((hI.ent k g1 x a1 a2).2 b a5).2.2
            omega
  · exact hR
theorem shareN_al (m : Mem) (n k : Nat) : al (shareN m n) k ↔ al m k := by
  unfold shareN
  split
  · rename_i hn; exact al_set hn k
  · rfl
def shareL (m : Mem) : List Nat → Mem
  | [] => m
  | n :: r => shareL (shareN m n) r
theorem Rel.shareL : ∀ (ns : List Nat) {m : Mem}, Rel F ρ w0 M0 Im0 ad m w → Rel F ρ w0 M0 Im0 ad (Ew.shareL m ns) w
  | [], _, hR => hR
  | n :: r, _, hR => Rel.shareL r (hR.share n)
theorem shareL_al : ∀ (ns : List Nat) (m : Mem) (k : Nat), al (shareL m ns) k ↔ al m k
  | [], m, k => Iff.rfl
  | n :: r, m, k => (shareL_al r (shareN m n) k).trans (shareN_al m n k)
end
end Go.Proofs.YtbolcnlenmphhaaDoor.Ew

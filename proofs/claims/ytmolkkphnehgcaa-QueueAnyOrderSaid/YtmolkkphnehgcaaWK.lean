/- What each described operation does to the memory of named things, and that it tells what the operation does to the world. -/
import Derived.Test.YtmolkkphnehgcaaWJ
set_option linter.unusedVariables false
set_option linter.unusedSimpArgs false
namespace Go.Proofs.Ytmolkkphnehgcaa.Ew
open Go Go.RowKit

/-! ### blocks of cells -/
def blkC (m : Mem) (n : Nat) : Option (E × Nat × List SV) :=
  match m.at n with
  | some (g, .cells ty cs) => if g.kind = .b then some (g, ty, cs) else none
  | _ => none
def rdC (cs : List SV) (off sz : Nat) (ag : Bool) : Option SV :=
  bif ag then (if off + sz ≤ cs.length then some (.agg ((cs.drop off).take sz)) else none) else cs[off]?
def rdsC (cs : List SV) (off str sz : Nat) (ag : Bool) : Nat → Nat → Option (List SV)
  | 0, _ => some []
  | c + 1, j => match rdC cs (off + j * str) sz ag, rdsC cs off str sz ag c (j + 1) with
    | some v, some l => some (v :: l)
    | _, _ => none
def wrC (old : List SV) (off : Nat) (cs : List SV) : Option (List SV) := if off + cs.length ≤ old.length then some (splice old off cs) else none
def wrsC (e : E) (off str : Nat) (cs : List SV) : Nat → Nat → List SV → Option (List SV)
  | 0, _, old => some old
  | c + 1, j, old => if off + j * str + cs.length ≤ old.length then
      wrsC e off str cs c (j + 1) (splice old (off + j * str) (mergeL (mkCmp .eql e (.lit (.i .i64) j)) cs ((old.drop (off + j * str)).take cs.length)))
    else none
def rdG (G : Glob) (b : Nat) : Nat → Nat → Option (List SV)
  | _, 0 => some []
  | off, n + 1 => match G b off, rdG G b (off + 1) n with
    | some v, some l => some (v :: l)
    | _, _ => none

def apply (G : Glob) (m : Mem) (nm : Nat) : D → Option (E × SV × Mem)
  | .val v => some (mkB true, v, m)
  | .ld n off sz ag => match blkC m n with
    | some (g, _, cs) => (rdC cs off sz ag).map fun v => (g, v, m)
    | none => none
  | .ldi n off str cnt e sz ag => match blkC m n with
    | some (g, _, cs) => if cnt < 100000 then (rdsC cs off str sz ag cnt 0).map fun l => (g, sel e 0 l, m) else none
    | none => none
  | .ldg b off sz ag => bif ag then (rdG G b off sz).map fun l => (mkB true, .agg l, m) else (G b off).map fun v => (mkB true, v, m)
  | .st n off vs => match blkC m n with
    | some (g, ty, cs) => (wrC cs off vs).map fun cs' => (g, .und, m.set n (some (g, .cells ty cs')))
    | none => none
  | .sti n off str cnt e vs => match blkC m n with
    | some (g, ty, cs) => if cnt < 100000 then (wrsC e off str vs cnt 0 cs).map fun cs' => (g, .und, m.set n (some (g, .cells ty cs'))) else none
    | none => none
  | .new ty cs sl => if nm < m.length ∧ (m.at nm).isNone = true then some (mkB true, match sl with | none => .ptr nm 0 | some len => .sl nm 0 len len, m.set nm (some (mkB true, .cells ty cs))) else none
  | .call .. => none

/-! ### lists -/
def rowKs : Row → Option (List K)
  | .nil => some []
  | .c k r => (rowKs r).map (k :: ·)
  | .ls .. => none
/-- The rows of a list that is written out. -/
def chainR : Nat → E → Option (List (List E))
  | 0, _ => none
  | _ + 1, .app .x 0 2 [] => some []
  | n + 1, .app .x 0 3 (c :: es) => (chainR n c).map fun l => es :: l
  | _, _ => none
def cel (k : K) (c i : E) (j : Nat) : E :=
  match i.lit? with
  | some n => match chainR 1000 c with
    | some l => match (l.reverse[n.toNat]?).bind (·[j]?) with
      | some e => if e.kind = k ∧ e.sound = true then e else CEL k c i j
      | none => CEL k c i j
    | none => CEL k c i j
  | none => CEL k c i j
/-- The cells of one row of a list. -/
def celS (c i : E) : List K → Nat → List SV
  | [], _ => []
  | k :: ks, j => .sc (cel k c i j) :: celS c i ks (j + 1)
/-- Zero's cells, all of them numbers. -/
def zeroK (P : Program) (e : Nat) (ks : List K) : Bool :=
  match P.info? e with
  | some i => match i.zero with
    | some z => z.cells.size == ks.length && (List.range ks.length).all fun j => match z.cells[j]?, ks[j]? with
      | some (.bool b), some .b => !b
      | some (.int k n), some (.i k') => decide (k = k') && n == 0
      | _, _ => false
    | none => false
  | none => false
/-- A map's type: its key, an integer kind; its values' numbers; whether these are an aggregate. -/
def zeroV (P : Program) (e : Nat) (vs : List K) (ag : Bool) : Bool :=
  match P.info? e with
  | some i => match i.zero with
    | some (.agg _) => ag && zeroK P e vs
    | some (.int ..) => !ag && zeroK P e vs && vs.length == 1
    | some (.bool _) => !ag && zeroK P e vs && vs.length == 1
    | _ => false
  | none => false
def mapInfo (P : Program) (t : Nat) : Option (IntKind × List K × Bool) :=
  match P.underlying t with
  | some (.map kt et) => match P.underlying kt with
    | some (.int k) => match leafOf P 20 et, aggOf P et with
      | some vs, some ag => if zeroV P et vs ag = true then some (k, vs, ag) else none
      | _, _ => none
    | _ => none
  | _ => none
def colsM (c e : E) (n : Nat) : List K → Nat → List SV
  | [], _ => []
  | k :: ks, j => .sc (.app k 0 9 [c, .lit .x n, .lit .x j, e]) :: colsM c e n ks (j + 1)
def shpV (ag : Bool) (l : List SV) : SV := bif ag then .agg l else l.getD 0 .und
def isAg : SV → Bool
  | .agg _ => true
  | _ => false
def mapAt (P : Program) (m : Mem) (t n : Nat) (key : SV) : Option (E × IntKind × List K × Bool × E × E) :=
  match m.at n, mapInfo P t, key with
  | some (g, .mp ks vs kag vag c), some (k, vs', ag), .sc e => if ks = [.i k] ∧ vs = vs' ∧ kag = false ∧ vag = ag ∧ g.kind = .b ∧ e.kind = .i k ∧ e.sound = true ∧ c.kind = .x then some (g, k, vs, ag, c, e) else none
  | _, _, _ => none
/-! ### blocks with a tail of rows -/
def segAt (m : Mem) (n : Nat) : Option (E × Nat × List SV × List K × E) :=
  match m.at n with
  | some (g, .seg ty cs ks c) => if g.kind = .b ∧ c.kind = .x ∧ ks.length ≠ 0 then some (g, ty, cs, ks, c) else none
  | _ => none
def rowE (e : E) (r0 : Nat) : E := bif r0 == 0 then e else mkBin .add .i64 e (.lit (.i .i64) r0)
def rowG (e : E) (r0 : Nat) (c : E) : E := mkAnd (inB e big9) (inB (rowE e r0) (LEN c))
def segLd (m : Mem) (n off str : Nat) (e : E) (sz : Nat) (ag : Bool) : Option (E × SV × Mem) :=
  match segAt m n with
  | some (g, _, cs, ks, c) => if cs.length ≤ off ∧ str = ks.length ∧ e.kind = .i .i64 ∧ (off - cs.length) / ks.length ≤ 1000000 then
      (rdC (celS c (rowE e ((off - cs.length) / ks.length)) ks 0) ((off - cs.length) % ks.length) sz ag).map fun v => (mkAnd g (rowG e ((off - cs.length) / ks.length) c), v, m)
    else none
  | none => none
def segSt (m : Mem) (n off str : Nat) (e : E) (vs : List SV) : Option (E × SV × Mem) :=
  match segAt m n with
  | some (g, ty, cs, ks, c) => match scs ((ks.drop ((off - cs.length) % ks.length)).take vs.length) vs with
    | some es => if cs.length ≤ off ∧ str = ks.length ∧ e.kind = .i .i64 ∧ (off - cs.length) / ks.length ≤ 1000000 ∧ (off - cs.length) % ks.length + vs.length ≤ ks.length then
        some (mkAnd g (rowG e ((off - cs.length) / ks.length) c), .und, m.set n (some (g, .seg ty cs ks (.app .x 0 6 (c :: rowE e ((off - cs.length) / ks.length) :: .lit .x ((off - cs.length) % ks.length : Nat) :: es)))))
      else none
    | none => none
  | none => none
def lit0 : E := .lit (.i .i64) 0
def applyG (m : Mem) : D → Option (E × SV × Mem)
  | .ld n off sz ag => match segAt m n with
    | some (g, _, cs, ks, _) => if off + sz ≤ cs.length then (rdC cs off sz ag).map fun v => (g, v, m) else segLd m n off ks.length lit0 sz ag
    | none => none
  | .ldi n off str _ e sz ag => segLd m n off str e sz ag
  | .st n off vs => match segAt m n with
    | some (g, ty, cs, ks, c) => if off + vs.length ≤ cs.length then (wrC cs off vs).map fun cs' => (g, .und, m.set n (some (g, .seg ty cs' ks c))) else segSt m n off ks.length lit0 vs
    | none => none
  | .sti n off str _ e vs => segSt m n off str e vs
  | _ => none
def applyN (P : Program) (m : Mem) (nm : Nat) : X → Option (E × SV × Mem)
  | .mnew t => match mapInfo P t with
    | some (k, vs, ag) => if nm < m.length ∧ (m.at nm).isNone = true then some (mkB true, .mp nm, m.set nm (some (mkB true, .mp [.i k] vs false ag NILL))) else none
    | none => none
  | .mlk t n key ok => match mapAt P m t n key with
    | some (g, _, vs, ag, c, e) => some (g, bif ok then .tup [shpV ag (colsM c e vs.length vs 1), .sc (.app .b 0 8 [c, e])] else shpV ag (colsM c e vs.length vs 1), m)
    | none => none
  | .mup t n key val => match mapAt P m t n key with
    | some (g, k, vs, ag, c, e) => match scs vs val.cells with
      | some es => if isAg val = ag then some (g, .und, m.set n (some (g, .mp [.i k] vs false ag (.app .x 0 10 (c :: .lit .x 1 :: e :: es))))) else none
      | none => none
    | none => none
  | .mdl t kt ty n key => match mapAt P m t n key with
    | some (g, k, vs, ag, c, e) => some (g, .tup [], m.set n (some (g, .mp [.i k] vs false ag (.app .x 0 11 [c, e]))))
    | none => none
  | .mln t ty n => match m.at n with
    | some (g, .mp ks vs kag vag c) => if g.kind = .b ∧ mapT P t = true then some (mkAnd g (mkCmp .leq (.app .x 0 0 [c]) (.lit .x maxLen)), .sc (LEN c), m) else none
    | _ => none
  | .vix t n str l0 lo hi i => match m.at n with
    | some (_, .lst ty row _ _ _) => match viewL m ty row (.sv n str l0 lo hi) with
      | some V => if elemOf P t = some ty ∧ szOf P ty = some str ∧ i.kind = .i .i64 ∧ lo.kind = .i .i64 then some (mkAnd V.g (inB i V.le), .pe n str (mkBin .add .i64 lo i) 0, m) else none
      | none => none
    | _ => none
  | .clr t ty e n le => match m.at n with
    | some (g, .lst e' row true le' c) => match rowKs row with
      | some ks => if g.kind = .b ∧ e' = e ∧ le.same le' = true ∧ elemOf P t = some e ∧ zeroK P e ks = true then some (g, .tup [], m.set n (some (g, .dead))) else none
      | none => none
    | _ => none
  | .lds n off str e sz ag => segLd m n off str e sz ag
  | .sts n off str e vs => segSt m n off str e vs
  | _ => none
/-- A part of a list of the call's own: it is told by its bounds. -/
def subV (P : Program) (m : Mem) (t e : Nat) (x : SV) (lo hi : Option E) : Option (E × SV × Mem) :=
  match x with
  | .ls n le => match m.at n with
    | some (g, .lst ty row true le' c) =>
      let l := lo.getD (.lit (.i .i64) 0)
      let h := hi.getD le
      if ty = e ∧ le.same le' = true ∧ c.kind = .x ∧ le'.kind = .i .i64 ∧ g.kind = .b ∧ elemOf P t = some e ∧ szOf P e = some row.size ∧ (∀ q, lo = some q → q.kind = .i .i64) ∧ (∀ q, hi = some q → q.kind = .i .i64) then
        some (mkAnd g (mkAnd (mkCmp .geq l (.lit (.i .i64) 0)) (mkAnd (mkCmp .leq l h) (mkCmp .leq h le'))), .sv n row.size le l h, m)
      else none
    | _ => none
  | _ => none
def applyX (P : Program) (G : Glob) (m : Mem) (nm : Nat) : X → Option (E × SV × Mem)
  | .old d => match apply G m nm d with
    | some r => some r
    | none => applyG m d
  | .len x => match tyL m x with
    | some (ty, row) => (viewL m ty row x).map fun V => (V.g, .sc V.le, m)
    | none => (viewL m 0 .nil x).map fun V => (V.g, .sc V.le, m)
  | .lde n str i o sz ag => match m.at n with
    | some (g, .lst _ row _ le c) => match rowKs row with
      | some ks => if g.kind = .b ∧ str = ks.length then
          (rdC (celS c i ks 0) o sz ag).map fun v => (mkAnd g (inB i le), v, m)
        else none
      | none => none
    | _ => none
  | .ste n str i o cs => match m.at n with
    | some (g, .lst ty row true le c) => match rowKs row with
      | some ks => match scs ((ks.drop o).take cs.length) cs with
        | some es => if g.kind = .b ∧ str = ks.length ∧ o + cs.length ≤ ks.length then some (mkAnd g (inB i le), .und, m.set n (some (g, .lst ty row true le (.app .x 0 6 (c :: i :: .lit .x o :: es))))) else none
        | none => none
      | none => none
    | _ => none
  | .app t e rt x y => match (match tyL m x with
      | some (_, row) => rowKs row
      | none => leafOf P 20 e) with
    | some ks => match viewL m e (Row.ofKs ks) x, infoOf P e with
      | some V, some (size, bytes) =>
        if size = ks.length ∧ V.own = true ∧ elemOf P t = some e ∧ nm < m.length ∧ (m.at nm).isNone = true then
          match y with
          | .sl m2 0 len _ => match blkC m m2 with
            | some (g2, _, cs) => if cs.length = len * ks.length then (snocs ks len cs V.c).map fun c' =>
                (mkAnd (mkAnd V.g g2) (mkCmp .leq (.app .x 0 0 [c']) (.lit .x (capOf bytes))), .ls nm (LEN c'), (killL m V.ns).set nm (some (mkB true, .lst e (Row.ofKs ks) true (LEN c') c')))
              else none
            | none => none
          | y => match viewL m e (Row.ofKs ks) y with
            | some V2 => some (mkAnd (mkAnd V.g V2.g) (mkCmp .leq (.app .x 0 0 [.app .x 0 4 [V.c, V2.c]]) (.lit .x (capOf bytes))), .ls nm (LEN (.app .x 0 4 [V.c, V2.c])),
                (killL m V.ns).set nm (some (mkB true, .lst e (Row.ofKs ks) true (LEN (.app .x 0 4 [V.c, V2.c])) (.app .x 0 4 [V.c, V2.c]))))
            | none => none
        else none
      | _, _ => none
    | none => none
  | .sub t e x lo hi => match subV P m t e x lo hi with
   | some r => some r
   | none => match tyL m x with
    | some (_, row) => match viewL m e row x with
      | some V0 => match viewL (shareL m V0.ns) e row x with
        | some V => if V.sh = true ∧ elemOf P t = some e ∧ szOf P e = some row.size ∧ nm < m.length ∧ ((shareL m V0.ns).at nm).isNone = true ∧ (∀ q, lo = some q → q.kind = .i .i64) ∧ (∀ q, hi = some q → q.kind = .i .i64) then
            let l := lo.getD (.lit (.i .i64) 0)
            let h := hi.getD V.le
            let c' := E.app .x 0 5 [V.c, l, h]
            some (mkAnd V.g (mkAnd (mkCmp .geq l (.lit (.i .i64) 0)) (mkAnd (mkCmp .leq l h) (mkCmp .leq h V.le))), .ls nm (LEN c'), (shareL m V0.ns).set nm (some (mkB true, .lst e row false (LEN c') c')))
          else none
        | none => none
      | none => none
    | none => none
  | .mk t e n c => match leafOf P 20 e, infoOf P e with
    | some ks, some (size, bytes) => if n.same c = true ∧ n.kind = .i .i64 ∧ elemOf P t = some e ∧ size = ks.length ∧ zeroK P e ks = true ∧ nm < m.length ∧ (m.at nm).isNone = true then
        let c' := E.app .x 0 7 (n :: ks.map fun k => .lit k 0)
        some (mkAnd (mkCmp .geq n (.lit (.i .i64) 0)) (mkCmp .leq n (.lit .x (capOf bytes))), .ls nm (LEN c'), m.set nm (some (mkB true, .lst e (Row.ofKs ks) true (LEN c') c')))
      else none
    | _, _ => none
  | .bl e ks cs len => match snocs ks len cs NILL, infoOf P e with
    | some c', some (size, bytes) => if size = ks.length ∧ (len : Int) ≤ capOf bytes ∧ nm < m.length ∧ (m.at nm).isNone = true then
        some (mkB true, .ls nm (.lit (.i .i64) len), m.set nm (some (mkB true, .lst e (Row.ofKs ks) true (.lit (.i .i64) len) c')))
      else none
    | _, _ => none
  | x => applyN P m nm x

section
variable {P : Program} {F : Fam} {ρ : Nat → Int} {G : Glob} {w0 w w' : World} {M0 Im0 Im Im' T : Nat → Prop} {ad ad' : Nat → Hd} {m m' : Mem}

theorem blkC_spec {n : Nat} {g : E} {ty : Nat} {cs : List SV} (h : blkC m n = some (g, ty, cs)) : m.at n = some (g, .cells ty cs) ∧ g.kind = .b := by
  unfold blkC at h
  split at h
  · rename_i g' ty' cs' hn
    split at h
    · rename_i hk
      simp only [Option.some.injEq, Prod.mk.injEq] at h
      obtain ⟨rfl, rfl, rfl⟩ := h
      exact ⟨hn, hk⟩
    · cases h
  · cases h

theorem ldSem_agg {b off : Nat} {cs : List Value} (h : ∀ j v, cs[j]? = some v → w.cell? ⟨b, off + j, none⟩ = some v) : ldSem P w b off cs.length true = .ok (.value (.agg cs.toArray)) w := by
  have := run_loadCells_list (P := P) w ⟨b, off, none⟩ cs (fun j v hj => by rw [Addr.add_none]; exact h j v hj)
  simp [ldSem, this]
theorem ldSem_one {b off : Nat} {v : Value} (sz : Nat) (h : w.cell? ⟨b, off, none⟩ = some v) : ldSem P w b off sz false = .ok (.value v) w := by
  simp [ldSem, h]

/-- Cells that are told are read as told. -/
theorem rdC_run {b : Nat} {cs : List SV} {base off sz : Nat} {ag : Bool} {v : SV} (hc : ∀ j u, (SV.concL F ρ ad cs)[j]? = some u → w.cell? ⟨b, base + j, none⟩ = some u) (h : rdC cs off sz ag = some v) :
    ldSem P w b (base + off) sz ag = .ok (.value (v.conc F ρ ad)) w ∧ ∀ p, SV.okL p cs → v.ok p := by
  unfold rdC at h
  cases ag with
  | true =>
    simp only [cond_true] at h
    split at h
    · rename_i hl
      simp only [Option.some.injEq] at h; subst h
      have hlen : ((SV.concL F ρ ad cs).drop off |>.take sz).length = sz := by rw [concL_eq]; simp; omega
      have hr := ldSem_agg (P := P) (w := w) (b := b) (off := base + off) (cs := (SV.concL F ρ ad cs).drop off |>.take sz) (fun j v hj => by
        rw [List.getElem?_take] at hj
        split at hj
        · rw [List.getElem?_drop] at hj
          have := hc _ _ hj
          rwa [← Nat.add_assoc] at this
        · cases hj)
      rw [hlen] at hr
      refine ⟨?_, fun p hp => ?_⟩
      · rw [hr]
        simp only [SV.conc, concL_eq, List.map_take, List.map_drop]
      · simp only [SV.ok]; exact okL_take (okL_drop hp _) _
    · cases h
  | false =>
    simp only [cond_false] at h
    refine ⟨ldSem_one sz ?_, fun p hp => okL_get hp h⟩
    exact hc off _ (by rw [concL_eq]; simp [h])

theorem rdsC_spec {cs : List SV} {off str sz : Nat} {ag : Bool} : ∀ {c j : Nat} {l : List SV}, rdsC cs off str sz ag c j = some l → l.length = c ∧ ∀ i v, l[i]? = some v → rdC cs (off + (j + i) * str) sz ag = some v
  | 0, j, l, h => by simp [rdsC] at h; subst h; simp
  | c + 1, j, l, h => by
    simp only [rdsC] at h
    split at h
    · rename_i v r h1 h2
      simp only [Option.some.injEq] at h; subst h
      obtain ⟨i1, i2⟩ := rdsC_spec h2
      refine ⟨by simp [i1], fun i u hu => ?_⟩
      cases i with
      | zero => simp at hu; subst hu; exact h1
      | succ i => simp at hu; have := i2 i u hu; rwa [show j + 1 + i = j + (i + 1) by omega] at this
    · cases h

theorem rdG_spec (hG : GOK G Im0 w) {b : Nat} : ∀ {n off : Nat} {l : List SV}, rdG G b off n = some l → l.length = n ∧ (∀ p, SV.okL p l) ∧
    (∀ j v, (SV.concL F ρ ad l)[j]? = some v → w.cell? ⟨b, off + j, none⟩ = some v)
  | 0, off, l, h => by simp [rdG] at h; subst h; exact ⟨rfl, fun _ => trivial, by simp [SV.concL]⟩
  | n + 1, off, l, h => by
    simp only [rdG] at h
    split at h
    · rename_i v r h1 h2
      simp only [Option.some.injEq] at h; subst h
      obtain ⟨i1, i2, i3⟩ := rdG_spec hG h2
      obtain ⟨_, g1, g2, g3⟩ := hG F ρ b off v h1
      refine ⟨by simp [i1], fun p => ⟨SV.ok_mono (fun _ f => f.elim) v g3, i2 p⟩, fun j u hu => ?_⟩
      cases j with
      | zero =>
        simp only [SV.concL, List.getElem?_cons_zero, Option.some.injEq] at hu
        subst hu
        rw [Nat.add_zero, g2, SV.conc_congr (ad' := ad) (p := fun _ => False) (fun _ f => f.elim) v g3]
      | succ j =>
        simp only [SV.concL, List.getElem?_cons_succ] at hu
        have := i3 j u hu
        rwa [show off + 1 + j = off + (j + 1) by omega] at this
    · cases h

theorem stSem_run {b off : Nat} {c : Array Value} {ty : TypeId} {vs : List Value} (h : w.heap[b]? = some (.cells c ty (0, 0))) (hl : off + vs.length ≤ c.size) (h1 : ∀ v ∈ vs, v.oneCell' = true) :
    stSem P w b off vs = .ok .skip (w.setRow b (c.toList.take off ++ vs ++ c.toList.drop (off + vs.length)).toArray) := by
  have := run_storeCells_at P b off ty vs 0 c w h (by simpa using hl) h1
  simp [stSem, this]

theorem concL_splice (cs vs : List SV) (off : Nat) : SV.concL F ρ ad (splice cs off vs) = (SV.concL F ρ ad cs).take off ++ SV.concL F ρ ad vs ++ (SV.concL F ρ ad cs).drop (off + (SV.concL F ρ ad vs).length) := by
  simp [splice, concL_eq, List.map_take, List.map_drop]
theorem ones_conc {cs : List SV} (h : cs.all SV.one = true) : ∀ v ∈ SV.concL F ρ ad cs, v.oneCell' = true := by
  intro v hv
  rw [concL_eq] at hv
  obtain ⟨s, hs, rfl⟩ := List.mem_map.1 hv
  exact SV.one_conc (List.all_eq_true.1 h s hs)
theorem splice_self (l : List SV) (off n : Nat) (h : off + n ≤ l.length) : splice l off ((l.drop off).take n) = l := by
  unfold splice
  have e : ((l.drop off).take n).length = n := by simp; omega
  rw [e, List.append_assoc, ← List.drop_drop, List.take_append_drop, List.take_append_drop]

/-- A write into cells that are told. -/
theorem wrC_run {b ty : Nat} {cs vs cs' : List SV} {off : Nat} (hh : w.heap[b]? = some (.cells (SV.concL F ρ ad cs).toArray ty (0, 0))) (h : wrC cs off vs = some cs') (h1 : vs.all SV.one = true) :
    stSem P w b off (SV.concL F ρ ad vs) = .ok .skip (w.setRow b (SV.concL F ρ ad cs').toArray) ∧ (w.setRow b (SV.concL F ρ ad cs').toArray).heap[b]? = some (.cells (SV.concL F ρ ad cs').toArray ty (0, 0)) ∧ ∀ p, SV.okL p cs → SV.okL p vs → SV.okL p cs' := by
  unfold wrC at h
  split at h
  · rename_i hl
    simp only [Option.some.injEq] at h; subst h
    have hs := stSem_run (P := P) (off := off) (vs := SV.concL F ρ ad vs) hh (by simp only [concL_eq, List.size_toArray, List.length_map]; exact hl) (ones_conc h1)
    refine ⟨?_, setRow_heap w b _ _ _ _ hh, fun p hp hv => splice_ok hp hv⟩
    rw [hs, concL_splice]
  · cases h

theorem wrsC_run {e : E} {off str b ty : Nat} {vs : List SV} (h1 : vs.all SV.one = true) : ∀ (c j : Nat) (cs cs' : List SV) (w : World), j + c < 1000000 → w.heap[b]? = some (.cells (SV.concL F ρ ad cs).toArray ty (0, 0)) →
    wrsC e off str vs c j cs = some cs' →
    (∀ p, SV.okL p cs → SV.okL p vs → SV.okL p cs') ∧
    ((e.den F ρ < j ∨ ((j : Int) + c ≤ e.den F ρ)) → SV.concL F ρ ad cs' = SV.concL F ρ ad cs) ∧
    ((j : Int) ≤ e.den F ρ → e.den F ρ < j + c → stSem P w b (off + (e.den F ρ).toNat * str) (SV.concL F ρ ad vs) = .ok .skip (w.setRow b (SV.concL F ρ ad cs').toArray))
  | 0, j, cs, cs', w, hj, hh, h => by
    simp only [wrsC, Option.some.injEq] at h; subst h
    exact ⟨fun _ h _ => h, fun _ => rfl, fun h1 h2 => by simp at h2; omega⟩
  | c + 1, j, cs, cs', w, hj, hh, h => by
    simp only [wrsC] at h
    split at h
    · rename_i hl
      have hcmp := mkCmp_spec .eql e (.lit (.i .i64) (j : Int)) F ρ
      have hjd : (E.lit (.i .i64) (j : Int)).den F ρ = j := by
        simp only [E.den, K.norm, IntKind.wrap, IntKind.signed, IntKind.bits]
        simp
        split <;> omega
      rw [hjd] at hcmp
      have hlen : vs.length = ((cs.drop (off + j * str)).take vs.length).length := by simp; omega
      have hmc := mergeL_conc (F := F) (ρ := ρ) (ad := ad) hcmp.2 vs ((cs.drop (off + j * str)).take vs.length) hlen
      have hoks : ∀ p, SV.okL p cs → SV.okL p vs → SV.okL p (splice cs (off + j * str) (mergeL (mkCmp .eql e (.lit (.i .i64) (j : Int))) vs ((cs.drop (off + j * str)).take vs.length))) := fun p hp hv =>
        splice_ok hp (mergeL_ok vs ((cs.drop (off + j * str)).take vs.length) hv (okL_take (okL_drop hp _) _))
      by_cases he : e.den F ρ = j
      · have ht : cmpB .eql (e.den F ρ) (j : Int) = true := by simp [cmpB, he]
        rw [hcmp.1, ht] at hmc
        simp only [cond_true] at hmc
        have hsp : SV.concL F ρ ad (splice cs (off + j * str) (mergeL (mkCmp .eql e (.lit (.i .i64) (j : Int))) vs ((cs.drop (off + j * str)).take vs.length))) = SV.concL F ρ ad (splice cs (off + j * str) vs) := by
          rw [concL_splice, concL_splice, hmc]
        obtain ⟨r1, r2, r3⟩ := wrC_run (P := P) (vs := vs) (off := off + j * str) (cs' := splice cs (off + j * str) vs) hh (by simp [wrC, hl]) h1
        rw [← hsp] at r1 r2
        obtain ⟨i1, i2, _⟩ := wrsC_run h1 c (j + 1) _ cs' _ (by omega) r2 h
        refine ⟨fun p hp hv => i1 p (hoks p hp hv) hv, fun hx => by exfalso; simp at hx; omega, fun _ _ => ?_⟩
        rw [i2 (Or.inl (by rw [he]; push_cast; omega)), he]
        simpa using r1
      · have ht : cmpB .eql (e.den F ρ) (j : Int) = false := by simp [cmpB, he]
        rw [hcmp.1, ht] at hmc
        simp only [cond_false] at hmc
        have hsp : SV.concL F ρ ad (splice cs (off + j * str) (mergeL (mkCmp .eql e (.lit (.i .i64) (j : Int))) vs ((cs.drop (off + j * str)).take vs.length))) = SV.concL F ρ ad cs := by
          rw [concL_splice, hmc, ← concL_splice, splice_self cs _ _ hl]
        obtain ⟨i1, i2, i3⟩ := wrsC_run h1 c (j + 1) _ cs' w (by omega) (by rw [hsp]; exact hh) h
        refine ⟨fun p hp hv => i1 p (hoks p hp hv) hv, fun hx => (i2 ?_).trans hsp, fun h1 h2 => i3 (by push_cast; omega) (by push_cast at h2 ⊢; omega)⟩
        rcases hx with hx | hx
        · left; push_cast; omega
        · right; push_cast at hx ⊢; omega
    · cases h

/-- What an operation's run comes to: a value, or nothing ('undef'). -/
def Came (r : Result Next) (v : Value) (w' : World) : Prop := r = .ok (.value v) w' ∨ (r = .ok .skip w' ∧ v = undef)

def Done (F : Fam) (ρ : Nat → Int) (w0 : World) (M0 Im0 : Nat → Prop) (ad : Nat → Hd) (m m' : Mem) (r : Result Next) (v : SV) : Prop :=
  ∃ ad' w', Came r (v.conc F ρ ad') w' ∧ Rel F ρ w0 M0 Im0 ad' m' w' ∧ Ext ad ad' m m' ∧ v.ok (al m')

theorem GOK.now (hG : GOK G Im0 w0) (hR : Rel F ρ w0 M0 Im0 ad m w) : GOK G Im0 w := by
  obtain ⟨hM, Im, h1, h2, hI⟩ := hR
  exact hG.fr hM hI.fr fun b hb => hb

theorem apply_sound (hG : GOK G Im0 w0) (hR : Rel F ρ w0 M0 Im0 ad m w) {d : D} {nm : Nat} {g : E} {v : SV} {m' : Mem} (hg : d.good F ρ (al m)) (h : apply G m nm d = some (g, v, m')) :
    g.kind = .b ∧ (g.tt F ρ = true → Done F ρ w0 M0 Im0 ad m m' (d.run P F ρ ad w) v) := by
  have cells : ∀ {n g ty cs}, m.at n = some (g, .cells ty cs) → g.tt F ρ = true → w.heap[(ad n).blk]? = some (.cells (SV.concL F ρ ad cs).toArray ty (0, 0)) ∧ SV.okL (al m) cs := fun {n g ty cs} hn hg => by
    obtain ⟨hM, Im, h1, h2, hI⟩ := hR
    exact ⟨(hI.ent n g _ hn hg).1, hI.ok n g _ hn⟩
  have hcell : ∀ {b : Nat} {cs : List SV} {ty : Nat}, w.heap[b]? = some (.cells (SV.concL F ρ ad cs).toArray ty (0, 0)) → ∀ j u, (SV.concL F ρ ad cs)[j]? = some u → w.cell? ⟨b, 0 + j, none⟩ = some u := fun {b cs ty} hh j u hu => by
    rw [Nat.zero_add, cell_of_heap hh]; simpa using hu
  cases d with
  | val u =>
    simp only [apply, Option.some.injEq, Prod.mk.injEq] at h
    obtain ⟨rfl, rfl, rfl⟩ := h
    exact ⟨rfl, fun _ => ⟨ad, w, Or.inl rfl, hR, Ext.refl _ _, hg⟩⟩
  | ld n off sz ag =>
    simp only [apply] at h
    split at h
    · rename_i g' ty cs hb
      obtain ⟨u, h1, h2⟩ := Option.map_eq_some_iff.1 h
      simp only [Prod.mk.injEq] at h2
      obtain ⟨rfl, rfl, rfl⟩ := h2
      obtain ⟨b1, b2⟩ := blkC_spec hb
      refine ⟨b2, fun ht => ?_⟩
      obtain ⟨c1, c2⟩ := cells b1 ht
      obtain ⟨i1, i2⟩ := rdC_run (P := P) (base := 0) (hcell c1) h1
      rw [Nat.zero_add] at i1
      exact ⟨ad, w, Or.inl i1, hR, Ext.refl _ _, i2 _ c2⟩
    · cases h
  | ldi n off str cnt e sz ag =>
    simp only [apply] at h
    split at h
    · rename_i g' ty cs hb
      split at h
      · rename_i hcnt
        obtain ⟨l, h1, h2⟩ := Option.map_eq_some_iff.1 h
        simp only [Prod.mk.injEq] at h2
        obtain ⟨rfl, rfl, rfl⟩ := h2
        obtain ⟨b1, b2⟩ := blkC_spec hb
        refine ⟨b2, fun ht => ?_⟩
        obtain ⟨c1, c2⟩ := cells b1 ht
        obtain ⟨p1, p2⟩ := rdsC_spec h1
        obtain ⟨g1, g2, g3⟩ := hg
        obtain ⟨u, s1, s2⟩ := sel_conc (F := F) (ρ := ρ) (ad := ad) (e := e) l 0 (by omega) (by simpa using g3) (by rw [p1]; omega)
        have hr := p2 _ _ s1
        simp only [Nat.zero_add, Nat.sub_zero] at hr
        obtain ⟨i1, i2⟩ := rdC_run (P := P) (base := 0) (hcell c1) hr
        rw [Nat.zero_add] at i1
        refine ⟨ad, w, Or.inl ?_, hR, Ext.refl _ _, ?_⟩
        · rw [s2]; exact i1
        · refine sel_ok _ _ ?_
          rw [okL_iff]
          intro x hx
          obtain ⟨i, hi⟩ := List.getElem?_of_mem hx
          exact (rdC_run (P := P) (base := 0) (hcell c1) (p2 i x hi)).2 _ c2
      · cases h
    · cases h
  | ldg b off sz ag =>
    have hG' := hG.now hR
    cases ag with
    | true =>
      simp only [apply, cond_true] at h
      obtain ⟨l, h1, h2⟩ := Option.map_eq_some_iff.1 h
      simp only [Prod.mk.injEq] at h2
      obtain ⟨rfl, rfl, rfl⟩ := h2
      obtain ⟨i1, i2, i3⟩ := rdG_spec (F := F) (ρ := ρ) (ad := ad) hG' h1
      refine ⟨rfl, fun _ => ⟨ad, w, Or.inl ?_, hR, Ext.refl _ _, by simpa [SV.ok] using i2 (al m)⟩⟩
      have := ldSem_agg (P := P) (w := w) (b := b) (off := off) (cs := SV.concL F ρ ad l) i3
      have hl : (SV.concL F ρ ad l).length = sz := by rw [concL_eq]; simpa using i1
      rw [hl] at this
      exact this
    | false =>
      simp only [apply, cond_false] at h
      obtain ⟨u, h1, h2⟩ := Option.map_eq_some_iff.1 h
      simp only [Prod.mk.injEq] at h2
      obtain ⟨rfl, rfl, rfl⟩ := h2
      obtain ⟨_, g1, g2, g3⟩ := hG' F ρ b off u h1
      refine ⟨rfl, fun _ => ⟨ad, w, Or.inl ?_, hR, Ext.refl _ _, SV.ok_mono (fun _ f => f.elim) u g3⟩⟩
      refine ldSem_one sz ?_
      rw [g2, SV.conc_congr (ad' := ad) (p := fun _ => False) (fun _ f => f.elim) u g3]
  | st n off vs =>
    simp only [apply] at h
    split at h
    · rename_i g' ty cs hb
      obtain ⟨cs', h1, h2⟩ := Option.map_eq_some_iff.1 h
      simp only [Prod.mk.injEq] at h2
      obtain ⟨rfl, rfl, rfl⟩ := h2
      obtain ⟨b1, b2⟩ := blkC_spec hb
      refine ⟨b2, fun ht => ?_⟩
      obtain ⟨c1, c2⟩ := cells b1 ht
      obtain ⟨r1, r2, r3⟩ := wrC_run (P := P) c1 h1 hg.2.2
      refine ⟨ad, _, Or.inr ⟨r1, rfl⟩, hR.turn b1 (Fr.setRow _ _) (fun b hb => ⟨by rw [hb]; rfl, ht⟩) (fun Im _ _ => r2) (fun b hb => hb) (r3 _ c2 hg.2.1), Ext.set ad b1, trivial⟩
    · cases h
  | sti n off str cnt e vs =>
    simp only [apply] at h
    split at h
    · rename_i g' ty cs hb
      split at h
      · rename_i hcnt
        obtain ⟨cs', h1, h2⟩ := Option.map_eq_some_iff.1 h
        simp only [Prod.mk.injEq] at h2
        obtain ⟨rfl, rfl, rfl⟩ := h2
        obtain ⟨b1, b2⟩ := blkC_spec hb
        refine ⟨b2, fun ht => ?_⟩
        obtain ⟨c1, c2⟩ := cells b1 ht
        obtain ⟨g1, g2, g3, g4, g5⟩ := hg
        obtain ⟨r1, _, r3⟩ := wrsC_run (P := P) g3 cnt 0 cs cs' w (by omega) c1 h1
        have r := r3 (by simpa using g5) (by omega)
        refine ⟨ad, _, Or.inr ⟨r, rfl⟩, hR.turn b1 (Fr.setRow _ _) (fun b hb => ⟨by rw [hb]; rfl, ht⟩) (fun Im _ _ => setRow_heap w _ _ _ _ _ c1) (fun b hb => hb) (r1 _ c2 g2), Ext.set ad b1, trivial⟩
      · cases h
    · cases h
  | new ty cs sl =>
    simp only [apply] at h
    split at h
    · rename_i hc
      simp only [Option.some.injEq, Prod.mk.injEq] at h
      obtain ⟨rfl, rfl, rfl⟩ := h
      refine ⟨rfl, fun _ => ?_⟩
      have hcg : SV.concL F ρ (upd ad nm ⟨w.heap.size, 0, 0, false, undef⟩) cs = SV.concL F ρ ad cs := (SV.concL_congr (upd_al hc.2 _) cs hg.1).symm
      have hnew : (w.alloc (.cells (SV.concL F ρ ad cs).toArray ty)).heap[w.heap.size]? = some (.cells (SV.concL F ρ ad cs).toArray ty (0, 0)) := (MapKept.heap_alloc w _).1
      refine ⟨upd ad nm ⟨w.heap.size, 0, 0, false, undef⟩, w.alloc (.cells (SV.concL F ρ ad cs).toArray ty), Or.inl ?_, ?_, ?_, ?_⟩
      · cases sl <;> simp [D.run, SV.conc, upd_same]
      · obtain ⟨hM, Im, h1, h2, hI⟩ := hR
        refine ⟨hM, Im, h1, h2, hI.put (ns := []) (T := fun _ => False) (Fr.alloc _ _ _) (fun b hb => hb.elim) hc.1 hc.2 ?_ (fun b hb => ?_) hg.1⟩
        · simp only [BlkOK, upd_same, hcg]; exact hnew
        · simp only [mutB, upd_same, Option.some.injEq] at hb
          subst hb
          exact ⟨by simp, Or.inl (Nat.le_refl _)⟩
      · exact Ext.put (ns := []) _ hc.1 hc.2
      · have := al_put (m := m) (ns := []) (nm := nm) (y := (mkB true, Blk.cells ty cs)) hc.1
        cases sl <;> exact this
    · cases h
  | call f args => simp [apply] at h
end
end Go.Proofs.Ytmolkkphnehgcaa.Ew

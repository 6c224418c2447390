/- What each operation of straight code does, told of symbolic operands. The program is a variable. -/
import Derived.Test.YtmolkkphnehgcaaWB
set_option linter.unusedVariables false
set_option linter.unusedSimpArgs false
namespace Go.Proofs.Ytmolkkphnehgcaa.Ew
open Go Go.RowKit

/-! ### from plain values to symbolic ones -/
def ofVal : Value → Option SV
  | .bool b => some (.sc (mkB b))
  | .int k n => if k.wrap n = n then some (.sc (.lit (.i k) n)) else none
  | .pointer none => some (.nilp .nP)
  | .nilFunc => some (.nilp .nF)
  | .slice none 0 0 => some (.nilp .nS)
  | .nilIface => some (.nilp .nI)
  | .map none => some (.nilp .nM)
  | .chan none => some (.nilp .nC)
  | _ => none

theorem ofVal_conc {F : Fam} {ρ : Nat → Int} {ad : Nat → Hd} {v : Value} {s : SV} (h : ofVal v = some s) : s.conc F ρ ad = v := by
  unfold ofVal at h
  split at h
  · simp only [Option.some.injEq] at h; subst h; simp [SV.conc]
  · split at h
    · rename_i hk; simp only [Option.some.injEq] at h; subst h; simp [SV.conc, E.val, E.kind, E.den, K.norm, hk]
    · cases h
  all_goals first | (simp only [Option.some.injEq] at h; subst h; simp [SV.conc, CV.val]) | cases h
theorem ofVal_ok {p : Nat → Prop} {v : Value} {s : SV} (h : ofVal v = some s) : s.ok p := by
  unfold ofVal at h
  split at h
  · simp only [Option.some.injEq] at h; subst h; trivial
  · split at h
    · simp only [Option.some.injEq] at h; subst h; trivial
    · cases h
  all_goals first | (simp only [Option.some.injEq] at h; subst h; trivial) | cases h
theorem ofVal_one {v : Value} {s : SV} (h : ofVal v = some s) : s.one = true := by
  unfold ofVal at h
  split at h
  · simp only [Option.some.injEq] at h; subst h; rfl
  · split at h
    · simp only [Option.some.injEq] at h; subst h; rfl
    · cases h
  all_goals first | (simp only [Option.some.injEq] at h; subst h; rfl) | cases h

def ofVals : List Value → Option (List SV)
  | [] => some []
  | v :: r => match ofVal v, ofVals r with
    | some s, some l => some (s :: l)
    | _, _ => none
theorem ofVals_spec {F : Fam} {ρ : Nat → Int} {ad : Nat → Hd} {p : Nat → Prop} : ∀ {l : List Value} {s : List SV}, ofVals l = some s → SV.concL F ρ ad s = l ∧ SV.okL p s ∧ s.all SV.one = true
  | [], s, h => by simp [ofVals] at h; subst h; exact ⟨rfl, trivial, rfl⟩
  | v :: r, s, h => by
    simp only [ofVals] at h
    split at h
    · rename_i a l h1 h2
      simp only [Option.some.injEq] at h
      subst h
      obtain ⟨i1, i2, i3⟩ := ofVals_spec (F := F) (ρ := ρ) (ad := ad) (p := p) h2
      exact ⟨by simp [SV.concL, ofVal_conc h1, i1], ⟨ofVal_ok h1, i2⟩, by simp [ofVal_one h1, i3]⟩
    · cases h

/-! ### types -/
def aggOf (P : Program) (t : TypeId) : Option Bool :=
  match P.underlying t with
  | some (.struct _) => some true
  | some (.array _ _) => some true
  | some _ => some false
  | none => none
def szOf (P : Program) (t : TypeId) : Option Nat := (P.info? t).map (·.size)
def zeroOf (P : Program) (t : TypeId) : Option (List SV) :=
  match P.info? t with
  | some i => match i.zero with
    | some z => ofVals z.cells.toList
    | none => none
  | none => none

section
variable {P : Program} (w : World)
theorem run_isAgg' {t : TypeId} {b : Bool} (h : aggOf P t = some b) : (isAgg t).run P w = .ok b w := by
  unfold aggOf at h
  split at h
  · rename_i hu; simp only [Option.some.injEq] at h; subst h; simp [isAgg, run_underlying hu]
  · rename_i hu; simp only [Option.some.injEq] at h; subst h; simp [isAgg, run_underlying hu]
  · rename_i d hu h1 h2
    simp only [Option.some.injEq] at h; subst h
    simp only [isAgg, Sem.run_bind, run_underlying h2, Result.andThen_ok]
    cases d <;> first | rfl | (exfalso; first | exact hu _ rfl | exact h1 _ _ rfl)
  · cases h
theorem run_sizeOf' {t : TypeId} {n : Nat} (h : szOf P t = some n) : (sizeOf t).run P w = .ok n w := by
  unfold szOf at h
  cases hi : P.info? t with
  | none => simp [hi] at h
  | some i => simp [hi] at h; simp [sizeOf, typeInfo, hi, h]
theorem run_zeroValue' {F : Fam} {ρ : Nat → Int} {ad : Nat → Hd} {t : TypeId} {cs : List SV} (h : zeroOf P t = some cs) :
    ∃ z, (zeroValue t).run P w = .ok z w ∧ z.cells = (SV.concL F ρ ad cs).toArray := by
  unfold zeroOf at h
  split at h
  · rename_i i hi
    split at h
    · rename_i z hz
      refine ⟨z, by simp [zeroValue, typeInfo, hi, hz], ?_⟩
      rw [(ofVals_spec (F := F) (ρ := ρ) (ad := ad) (p := fun _ => True) h).1]
    · cases h
  · cases h
end

theorem zeroOf_ok {P : Program} {p : Nat → Prop} {t : TypeId} {cs : List SV} (h : zeroOf P t = some cs) : SV.okL p cs ∧ cs.all SV.one = true := by
  unfold zeroOf at h
  split at h
  · split at h
    · exact ⟨(ofVals_spec (F := fun _ _ _ => 0) (ρ := fun _ => 0) (ad := fun _ => default) (p := p) h).2.1, (ofVals_spec (F := fun _ _ _ => 0) (ρ := fun _ => 0) (ad := fun _ => default) (p := p) h).2.2⟩
    · cases h
  · cases h

/-- A part of an aggregate's cells. -/
def partS (P : Program) (t : TypeId) (cs : List SV) (off : Nat) : Option SV :=
  match aggOf P t, szOf P t with
  | some true, some n => if off + n ≤ cs.length then some (.agg ((cs.drop off).take n)) else none
  | some false, _ => cs[off]?
  | _, _ => none

theorem okL_drop {p : Nat → Prop} {l : List SV} (h : SV.okL p l) (n : Nat) : SV.okL p (l.drop n) := by
  rw [okL_iff] at *; exact fun v hv => h v (List.mem_of_mem_drop hv)
theorem okL_take {p : Nat → Prop} {l : List SV} (h : SV.okL p l) (n : Nat) : SV.okL p (l.take n) := by
  rw [okL_iff] at *; exact fun v hv => h v (List.mem_of_mem_take hv)
theorem okL_append {p : Nat → Prop} {l m : List SV} (h : SV.okL p l) (h' : SV.okL p m) : SV.okL p (l ++ m) := by
  rw [okL_iff] at *; intro v hv; rcases List.mem_append.1 hv with h1 | h1; exact h v h1; exact h' v h1
theorem okL_get {p : Nat → Prop} {l : List SV} {i : Nat} {v : SV} (h : SV.okL p l) (hv : l[i]? = some v) : v.ok p := by
  rw [okL_iff] at h; exact h v (List.mem_of_getElem? hv)

theorem partS_run {P : Program} {w : World} {F : Fam} {ρ : Nat → Int} {ad : Nat → Hd} {t : TypeId} {cs : List SV} {off : Nat} {v : SV} (h : partS P t cs off = some v) :
    (part t (SV.concL F ρ ad cs).toArray off).run P w = .ok (v.conc F ρ ad) w := by
  unfold partS at h
  split at h
  · rename_i n h1 h2
    split at h
    · rename_i hn
      simp only [Option.some.injEq] at h
      subst h
      simp only [part, Sem.run_bind, run_isAgg' w h1, Result.andThen_ok, if_true, run_sizeOf' w h2, Sem.run_pure]
      congr 2
      simp only [SV.conc, concL_eq, List.map_take, List.map_drop]
      congr 1
      rw [List.extract_toArray]
      simp [List.extract_eq_take_drop]
    · cases h
  · rename_i h1
    simp only [part, Sem.run_bind, run_isAgg' w h1, Result.andThen_ok, Bool.false_eq_true, if_false]
    simp [concL_eq, h]
  · cases h
theorem partS_ok {P : Program} {p : Nat → Prop} {t : TypeId} {cs : List SV} {off : Nat} {v : SV} (h : partS P t cs off = some v) (hc : SV.okL p cs) : v.ok p := by
  unfold partS at h
  split at h
  · split at h
    · simp only [Option.some.injEq] at h; subst h; simp only [SV.ok]; exact okL_take (okL_drop hc _) _
    · cases h
  · exact okL_get hc h
  · cases h

/-! ### building -/
def splice (cs : List SV) (off : Nat) (vs : List SV) : List SV := cs.take off ++ vs ++ cs.drop (off + vs.length)

theorem splice_ok {p : Nat → Prop} {cs vs : List SV} {off : Nat} (h : SV.okL p cs) (h' : SV.okL p vs) : SV.okL p (splice cs off vs) :=
  okL_append (okL_append (okL_take h _) h') (okL_drop h _)
theorem splice_length {cs vs : List SV} {off : Nat} (h : off + vs.length ≤ cs.length) : (splice cs off vs).length = cs.length := by
  simp [splice]; omega

theorem foldl_splice : ∀ (vs : List Value) (off : Nat) (k : Nat) (cs : List Value), off + k + vs.length ≤ cs.length →
    ((vs.zipIdx k).foldl (fun (c : Array Value) x => c.setIfInBounds (off + x.2) x.1) cs.toArray) = (cs.take (off + k) ++ vs ++ cs.drop (off + k + vs.length)).toArray
  | [], off, k, cs, h => by simp
  | v :: vs, off, k, cs, h => by
    simp only [List.zipIdx_cons, List.foldl_cons, List.setIfInBounds_toArray]
    rw [foldl_splice vs off (k + 1) (cs.set (off + k) v) (by simp at h ⊢; omega)]
    congr 1
    simp only [List.length_cons] at h
    have h1 : (cs.set (off + k) v).take (off + (k + 1)) = cs.take (off + k) ++ [v] := by
      rw [← Nat.add_assoc, List.take_succ_eq_append_getElem (by simp; omega)]
      simp [List.take_set_of_le]
    have h2 : (cs.set (off + k) v).drop (off + (k + 1) + vs.length) = cs.drop (off + k + (vs.length + 1)) := by
      rw [List.drop_set_of_lt (by omega)]; congr 1; omega
    rw [h1, h2]
    simp

def fillS (place : Nat → Option (Nat × Nat)) (cells : List SV) : List (Nat × SV) → Option (List SV)
  | [] => some cells
  | (i, v) :: rest => match place i with
    | none => none
    | some (off, size) =>
      if v.cells.length = size ∧ off + size ≤ cells.length ∧ v.cells.all SV.one = true then fillS place (splice cells off v.cells) rest else none

theorem fillS_spec {F : Fam} {ρ : Nat → Int} {ad : Nat → Hd} {place : Nat → Option (Nat × Nat)} : ∀ {parts : List (Nat × SV)} {cells out : List SV}, fillS place cells parts = some out →
    Instr.fill place (SV.concL F ρ ad cells).toArray (parts.map fun x => (x.1, x.2.conc F ρ ad)) = some (SV.concL F ρ ad out).toArray
  | [], cells, out, h => by simp [fillS] at h; subst h; simp [Instr.fill]
  | (i, v) :: rest, cells, out, h => by
    simp only [fillS] at h
    split at h
    · cases h
    · rename_i off size hp
      split at h
      · rename_i hc
        have ih := fillS_spec (F := F) (ρ := ρ) (ad := ad) h
        have hcell := SV.cells_conc (F := F) (ρ := ρ) (ad := ad) hc.2.2
        have hlen : (SV.concL F ρ ad v.cells).length = size := by rw [concL_eq]; simpa using hc.1
        simp only [List.map_cons, Instr.fill, hp, hcell, List.size_toArray, hlen]
        rw [if_neg (by rw [concL_eq F ρ ad cells]; simp; omega), ← ih]
        congr 1
        have e := foldl_splice (SV.concL F ρ ad v.cells) off 0 (SV.concL F ρ ad cells) (by rw [hlen, concL_eq]; simp; omega)
        simp only [Nat.add_zero] at e
        have e2 : (SV.concL F ρ ad v.cells).toArray.zipIdx = ((SV.concL F ρ ad v.cells).zipIdx 0).toArray := by simp
        rw [e2]
        have e3 : ∀ (l : List (Value × Nat)) (c : Array Value), l.toArray.foldl (fun cs (x : Value × Nat) => match x with | (c, j) => cs.setIfInBounds (off + j) c) c = l.foldl (fun (c : Array Value) x => c.setIfInBounds (off + x.2) x.1) c := fun l c => by
          rw [List.foldl_toArray]
        rw [e3, e]
        congr 1
        simp only [splice, concL_eq, List.map_append, List.map_take, List.map_drop, List.length_map]
      · cases h
theorem fillS_ok {p : Nat → Prop} {place : Nat → Option (Nat × Nat)} : ∀ {parts : List (Nat × SV)} {cells out : List SV}, fillS place cells parts = some out → SV.okL p cells → (∀ x ∈ parts, x.2.ok p) → SV.okL p out
  | [], cells, out, h, hc, _ => by simp [fillS] at h; subst h; exact hc
  | (i, v) :: rest, cells, out, h, hc, hp => by
    simp only [fillS] at h
    split at h
    · cases h
    · split at h
      · exact fillS_ok h (splice_ok hc (SV.ok_cells (hp (i, v) (by simp)))) (fun x hx => hp x (by simp [hx]))
      · cases h
theorem fillS_one {place : Nat → Option (Nat × Nat)} : ∀ {parts : List (Nat × SV)} {cells out : List SV}, fillS place cells parts = some out → cells.all SV.one = true → out.all SV.one = true
  | [], cells, out, h, hc => by simp [fillS] at h; subst h; exact hc
  | (i, v) :: rest, cells, out, h, hc => by
    simp only [fillS] at h
    split at h
    · cases h
    · split at h
      · rename_i hv
        refine fillS_one h ?_
        simp only [splice, List.all_append, Bool.and_eq_true]
        rw [List.all_eq_true] at hc
        exact ⟨⟨List.all_eq_true.2 fun x hx => hc x (List.mem_of_mem_take hx), hv.2.2⟩, List.all_eq_true.2 fun x hx => hc x (List.mem_of_mem_drop hx)⟩
      · cases h

def placesOf (P : Program) (fs : List Field) : Option (List (Nat × Nat)) := fs.mapM fun f => (P.info? f.type).map fun i => (f.offset, i.size)

def buildS (P : Program) (t : TypeId) (parts : List (Nat × SV)) : Option (List SV) :=
  match zeroOf P t, P.underlying t with
  | some z, some (.array _ e) => match szOf P e with
    | some n => fillS (fun i => some (i * n, n)) z parts
    | none => none
  | some z, some (.struct fs) => match placesOf P fs.toList with
    | some places => fillS (places.toArray[·]?) z parts
    | none => none
  | _, _ => none

theorem buildS_built {P : Program} {F : Fam} {ρ : Nat → Int} {ad : Nat → Hd} {t : TypeId} {parts : List (Nat × SV)} {out : List SV} (h : buildS P t parts = some out) :
    P.built t (parts.map fun x => (x.1, x.2.conc F ρ ad)) = some (SV.concL F ρ ad out).toArray := by
  have hz : ∀ z, zeroOf P t = some z → ∃ it zv, P.info? t = some it ∧ it.zero = some zv ∧ zv.cells = (SV.concL F ρ ad z).toArray := by
    intro z hz
    unfold zeroOf at hz
    split at hz
    · rename_i i hi
      split at hz
      · rename_i zv hzv
        exact ⟨i, zv, hi, hzv, by rw [(ofVals_spec (F := F) (ρ := ρ) (ad := ad) (p := fun _ => True) hz).1]⟩
      · cases hz
    · cases hz
  unfold buildS at h
  split at h
  · rename_i z n e h1 h2
    obtain ⟨it, zv, i1, i2, i3⟩ := hz z h1
    split at h
    · rename_i m hm
      unfold szOf at hm
      cases hie : P.info? e with
      | none => simp [hie] at hm
      | some ie =>
        simp [hie] at hm
        subst hm
        simp only [Program.built, i1, h2, i2, hie, i3]
        exact fillS_spec h
    · cases h
  · rename_i z fs h1 h2
    obtain ⟨it, zv, i1, i2, i3⟩ := hz z h1
    split at h
    · rename_i places hp
      unfold placesOf at hp
      simp only [Program.built, i1, h2, i2, hp, i3]
      exact fillS_spec h
    · cases h
  · cases h
theorem buildS_ok {P : Program} {p : Nat → Prop} {t : TypeId} {parts : List (Nat × SV)} {out : List SV} (h : buildS P t parts = some out) (hp : ∀ x ∈ parts, x.2.ok p) : SV.okL p out := by
  unfold buildS at h
  split at h
  · rename_i h1 _
    split at h
    · exact fillS_ok h (zeroOf_ok h1).1 hp
    · cases h
  · rename_i h1 _
    split at h
    · exact fillS_ok h (zeroOf_ok h1).1 hp
    · cases h
  · cases h

/-- The cells of a slice literal. -/
def buildSliceS (P : Program) (t : TypeId) (len : Nat) (parts : List (Nat × SV)) : Option (TypeId × List SV) :=
  match P.underlying t with
  | some (.slice e) => match szOf P e, zeroOf P e with
    | some n, some z => if 0 < len * n ∧ len * n ≤ 16777216 ∧ 0 < z.length then (fillS (fun i => some (i * n, n)) ((List.range (len * n)).map fun i => z.getD (i % z.length) .und) parts).map (e, ·) else none
    | _, _ => none
  | _ => none

theorem concL_getD (F : Fam) (ρ : Nat → Int) (ad : Nat → Hd) (l : List SV) (i : Nat) (h : i < l.length) : (SV.concL F ρ ad l)[i]? = some ((l.getD i .und).conc F ρ ad) := by
  rw [concL_eq]; simp [h]

theorem buildSliceS_run {P : Program} {w : World} {F : Fam} {ρ : Nat → Int} {ad : Nat → Hd} {t e : TypeId} {len : Nat} {parts : List (Nat × SV)} {out : List SV} (h : buildSliceS P t len parts = some (e, out)) :
    (Instr.buildSlice t len (parts.map fun x => (x.1, x.2.conc F ρ ad)).toArray).run P w = .ok (.slice (some ⟨w.heap.size, 0, none⟩) len len) (w.alloc (.cells (SV.concL F ρ ad out).toArray e)) := by
  unfold buildSliceS at h
  split at h
  · rename_i e' hu
    split at h
    · rename_i n z hn hz
      split at h
      · rename_i hc
        cases hf : fillS (fun i => some (i * n, n)) ((List.range (len * n)).map fun i => z.getD (i % z.length) .und) parts with
        | none => rw [hf] at h; simp at h
        | some o =>
          rw [hf] at h
          simp only [Option.map_some, Option.some.injEq, Prod.mk.injEq] at h
          obtain ⟨rfl, rfl⟩ := h
          obtain ⟨zv, r1, r2⟩ := run_zeroValue' (P := P) (F := F) (ρ := ρ) (ad := ad) w hz
          have hs := fillS_spec (F := F) (ρ := ρ) (ad := ad) hf
          have hinit : ((Array.range (len * n)).map fun x => zv.cells[x % zv.cells.size]!) = (SV.concL F ρ ad ((List.range (len * n)).map fun i => z.getD (i % z.length) .und)).toArray := by
            rw [r2, concL_eq F ρ ad ((List.range (len * n)).map fun i => z.getD (i % z.length) .und), List.map_map]
            apply Array.ext'
            simp only [Array.toList_map, Array.toList_range]
            apply List.map_congr_left
            intro i _
            have hl : (SV.concL F ρ ad z).length = z.length := by rw [concL_eq]; simp
            have hi : i % z.length < z.length := Nat.mod_lt _ hc.2.2
            have := concL_getD F ρ ad z (i % z.length) hi
            simp only [List.size_toArray, hl, Function.comp]
            rw [getElem!_def]
            simp [this]
          simp only [Instr.buildSlice, Sem.run_bind, run_underlying hu, Result.andThen_ok, run_sizeOf' w hn, Sem.run_ite]
          rw [if_neg (by simpa using hc.2.1)]
          simp only [Sem.run_pure, Result.andThen_ok, Sem.run_ite]
          rw [if_neg (by omega)]
          simp only [Sem.run_bind, r1, Result.andThen_ok, Sem.run_pure, hinit]
          have hs' : Instr.fill (fun i => some (i * n, n)) (SV.concL F ρ ad ((List.range (len * n)).map fun i => z.getD (i % z.length) .und)).toArray (parts.map fun x => (x.1, x.2.conc F ρ ad)).toArray.toList = some (SV.concL F ρ ad o).toArray := by simpa using hs
          rw [hs']
          simp [newRow]
      · cases h
    · cases h
  · cases h
theorem buildSliceS_ok {P : Program} {p : Nat → Prop} {t e : TypeId} {len : Nat} {parts : List (Nat × SV)} {out : List SV} (h : buildSliceS P t len parts = some (e, out)) (hp : ∀ x ∈ parts, x.2.ok p) : SV.okL p out := by
  unfold buildSliceS at h
  split at h
  · split at h
    · rename_i n z hn hz
      split at h
      · rename_i hc
        cases hf : fillS (fun i => some (i * n, n)) ((List.range (len * n)).map fun i => z.getD (i % z.length) .und) parts with
        | none => rw [hf] at h; simp at h
        | some o =>
          rw [hf] at h
          simp only [Option.map_some, Option.some.injEq, Prod.mk.injEq] at h
          obtain ⟨rfl, rfl⟩ := h
          refine fillS_ok hf ?_ hp
          rw [okL_iff]
          intro v hv
          obtain ⟨i, _, rfl⟩ := List.mem_map.1 hv
          have hi : i % z.length < z.length := Nat.mod_lt _ hc.2.2
          have hz' := (zeroOf_ok (p := p) hz).1
          exact okL_get hz' (i := i % z.length) (by simp [hi])
      · cases h
    · cases h
  · cases h

/-! ### equality by type -/
def eqFs (P : Program) (g : TypeId → SV → SV → Option E) (xs ys : List SV) : List Field → Option E
  | [] => some (mkB true)
  | f :: fs =>
    if f.name ≠ "_" then
      match partS P f.type xs f.offset, partS P f.type ys f.offset with
      | some a, some b => match g f.type a b, eqFs P g xs ys fs with
        | some e, some e' => some (mkAnd e e')
        | _, _ => none
      | _, _ => none
    else eqFs P g xs ys fs
def eqS (P : Program) : Nat → TypeId → SV → SV → Option E
  | 0, _, _, _ => none
  | d + 1, t, x, y => match P.underlying t with
    | some .bool => match x, y with
      | .sc a, .sc b => if a.kind = .b ∧ b.kind = .b ∧ a.sound = true ∧ b.sound = true then some (mkEqB a b) else none
      | _, _ => none
    | some (.int _) => match x, y with
      | .sc a, .sc b => match a.kind with
        | .i k => if b.kind = .i k then some (mkCmp .eql a b) else none
        | _ => none
      | _, _ => none
    | some (.struct fs) => match x, y with
      | .agg xs, .agg ys => if P.stoodInHeld t = false then eqFs P (eqS P d) xs ys fs.toList else none
      | _, _ => none
    | _ => none

theorem eqFs_run {P : Program} {F : Fam} {ρ : Nat → Int} {ad : Nat → Hd} {g : TypeId → SV → SV → Option E} {d : Nat}
    (hg : ∀ (t : TypeId) (x y : SV) (e : E), g t x y = some e → e.kind = .b ∧ ∀ (m : Nat) (w : World), (Op.equalIn (m + d) t (x.conc F ρ ad) (y.conc F ρ ad)).run P w = .ok (e.tt F ρ) w) :
    ∀ (fs : List Field) (xs ys : List SV) (e : E), eqFs P g xs ys fs = some e → e.kind = .b ∧
    ∀ (m : Nat) (w : World), (Op.eqFields (m + d) (SV.concL F ρ ad xs).toArray (SV.concL F ρ ad ys).toArray fs).run P w = .ok (e.tt F ρ) w
  | [], xs, ys, e, h => by simp [eqFs] at h; subst h; exact ⟨rfl, fun m w => by simp [Op.eqFields]⟩
  | f :: fs, xs, ys, e, h => by
    simp only [eqFs] at h
    split at h
    · rename_i hn
      split at h
      · rename_i a b ha hb
        split at h
        · rename_i e1 e2 h1 h2
          simp only [Option.some.injEq] at h
          subst h
          obtain ⟨k1, r1⟩ := hg f.type a b e1 h1
          obtain ⟨k2, r2⟩ := eqFs_run hg fs xs ys e2 h2
          have hs := mkAnd_spec e1 e2 k1 k2 F ρ
          refine ⟨hs.2, fun m w => ?_⟩
          rw [hs.1]
          simp only [Op.eqFields, Sem.run_ite, if_pos hn, Sem.run_bind, partS_run ha, partS_run hb, Result.andThen_ok, r1 m w]
          cases e1.tt F ρ
          · simp
          · simp [r2 m w]
        · cases h
      · cases h
    · rename_i hn
      obtain ⟨k2, r2⟩ := eqFs_run hg fs xs ys e h
      refine ⟨k2, fun m w => ?_⟩
      simp only [Op.eqFields, Sem.run_ite, if_neg hn]
      exact r2 m w

theorem eqS_run {P : Program} {F : Fam} {ρ : Nat → Int} {ad : Nat → Hd} : ∀ (d : Nat) (t : TypeId) (x y : SV) (e : E), eqS P d t x y = some e → e.kind = .b ∧
    ∀ (m : Nat) (w : World), (Op.equalIn (m + d) t (x.conc F ρ ad) (y.conc F ρ ad)).run P w = .ok (e.tt F ρ) w
  | 0, _, _, _, _, h => by simp [eqS] at h
  | d + 1, t, x, y, e, h => by
    simp only [eqS] at h
    split at h
    · rename_i hu
      split at h
      · rename_i a b
        split at h
        · rename_i hc
          simp only [Option.some.injEq] at h
          subst h
          have hs := mkEqB_spec a b hc.1 hc.2.1 hc.2.2.1 hc.2.2.2 F ρ
          refine ⟨hs.2, fun m w => ?_⟩
          rw [hs.1]
          simp only [SV.conc, E.val_b hc.1, E.val_b hc.2.1]
          exact run_equalIn_bool w (m + d) t _ _ hu
        · cases h
      · cases h
    · rename_i k' hu
      split at h
      · rename_i a b
        split at h
        · rename_i k hk
          split at h
          · rename_i hb
            simp only [Option.some.injEq] at h
            subst h
            have hs := mkCmp_spec .eql a b F ρ
            refine ⟨hs.2, fun m w => ?_⟩
            rw [hs.1]
            simp only [SV.conc, E.val_i hk, E.val_i hb]
            exact run_equalIn_int w (m + d) t k k' _ _ hu
          · cases h
        · cases h
      · cases h
    · rename_i fs hu
      split at h
      · rename_i xs ys
        split at h
        · rename_i hp
          obtain ⟨hk, hr⟩ := eqFs_run (F := F) (ρ := ρ) (ad := ad) (eqS_run d) fs.toList xs ys e h
          refine ⟨hk, fun m w => ?_⟩
          simp only [SV.conc]
          have hf : P.fieldsOf t = fs := by simp [Program.fieldsOf, hu]
          rw [show m + (d + 1) = (m + d) + 1 from rfl, run_equalIn_struct w (m + d) t _ _ (by rw [hf]; exact hu) hp, hf]
          exact hr m w
        · cases h
      · cases h
    · cases h

end Go.Proofs.Ytmolkkphnehgcaa.Ew

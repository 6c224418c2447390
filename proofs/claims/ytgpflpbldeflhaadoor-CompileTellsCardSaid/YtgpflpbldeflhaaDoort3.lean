/- Texts that the claim needs, set narrow. -/
import Derived.Test.YtgpflpbldeflhaaDoort2
import Derived.ProofKit
import Derived.OpenShut
import Derived.Deep.Slices
import Derived.Below
import Derived.DataShut
import Derived.ChangeSame
set_option linter.unusedVariables false
set_option linter.unusedSimpArgs false
set_option maxHeartbeats 8000000
namespace Go.Proofs.YtgpflpbldeflhaaDoor.Ew.Ar
open Go Go.RowKit Go.ChangeShapes Go.WideShapes Go.Proofs.YtgpflpbldeflhaaDoor.Ew
def vals : List K -> List Int -> List Value
 | k :: ks, x :: xs => k.val x :: vals ks xs
 | _, _ => []
theorem BH : ∀ {ks ls : List K} {xs ys : List Int}, fits ks xs -> fits ls ys -> fits (ks ++ ls) (xs ++ ys)
 | [], _, [], _, _, h => h
 | [], _, _ :: _, _, h, _ => h.elim
 | _ :: _, _, [], _, h, _ => h.elim
 | _ :: _, _, _ :: _, _, h, h' => ⟨h.1, BH h.2 h'⟩
def Bm (leaf : TypeId -> Option (List K)) (P : Program) : List (TypeId × Nat) -> Nat -> Option (List K)
 | [], _ => some []
 | (t, o) :: r, off => if o = off then
  match leaf t with
  | some ks => if P.cellsOf t = ks.length then (Bm leaf P r (off + ks.length)).map (ks ++ ·) else none
  | none => none
   else none
def AK (P : Program) : Nat -> TypeId -> Option (List K)
 | 0, _ => none
 | n + 1, t => match P.underlying t with
   | some .bool => some [.b]
   | some (.int k) => some [.i k]
   | some (.struct fs) => match Bm (AK P n) P (fs.toList.map fun f => (f.type, f.offset)) 0 with
     | some ks => if P.cellsOf t = ks.length then some ks else none
     | none => none
   | some (.array m e) => match Bm (AK P n) P ((List.range m).map fun i => (e, i * P.cellsOf e)) 0 with
     | some ks => if P.cellsOf t = ks.length then some ks else none
     | none => none
   | _ => none
theorem Hc : ∀ {ks ls : List K} {xs ys : List Int}, fits ks xs -> vals (ks ++ ls) (xs ++ ys) = vals ks xs ++ vals ls ys
 | [], _, [], _, _ => rfl
 | [], _, _ :: _, _, h => h.elim
 | _ :: _, _, [], _, h => h.elim
 | _ :: ks, _, _ :: xs, _, h => by simp [vals, Hc h.2]
section
variable {H : Type} {enc : TypeId × Value -> H} {P : Program} {w : World} {base : Nat} {spare : Nat -> Bool} {held : Bool}
def PS (enc : TypeId × Value -> H) (P : Program) (t : TypeId) (ks : List K) : Prop :=
 ∀ (w : World) (base : Nat) (spare : Nat -> Bool) (held : Bool) (fuel : Nat) (cs : List Value) (x : DataW H × List MemPlace), DataW.trod enc P w base spare held fuel t cs = some x ->
   ∃ xs, cs = vals ks xs /\ fits ks xs /\ x.2 = [] /\ ∀ (w' : World) (base' : Nat) (spare' : Nat -> Bool) (held' : Bool), DataW.trod enc P w' base' spare' held' fuel t cs = some x
theorem MH {k : IntKind} {n : Int} (h : (Lit.int k n).wf = true) : k.wrap n = n := by
 simp only [Lit.wf, Bool.and_eq_true, decide_eq_true_eq] at h
 cases k <;> simp [IntKind.wrap, IntKind.signed, IntKind.bits] <;> simp [IntKind.min, IntKind.max, IntKind.signed, IntKind.bits] at h <;> omega
theorem HA {ks : List K} {xs : List Int} (h : fits ks xs) : (vals ks xs).length = ks.length := by
 induction ks generalizing xs with
 | nil => cases xs <;> simp [vals]
 | cons k ks ih => cases xs with
   | nil => exact h.elim
   | cons x xs => simp [vals, ih h.2]
theorem Gs {leaf : TypeId -> Option (List K)} (hleaf : ∀ t ks, leaf t = some ks -> PS enc P t ks) {fuel : Nat} (cs : List Value) :
 ∀ (l : List (TypeId × Nat)) (off : Nat) (ks : List K) (ys : List (DataW H × List MemPlace)), Bm leaf P l off = some ks -> (cs.drop off).length = ks.length ->
   (l.mapM fun p => DataW.trod enc P w base spare held fuel p.1 ((cs.drop p.2).take (P.cellsOf p.1))) = some ys ->
   ∃ xs, cs.drop off = vals ks xs /\ fits ks xs /\ ys.flatMap (·.2) = [] /\ ∀ (w' : World) (base' : Nat) (spare' : Nat -> Bool) (held' : Bool), (l.mapM fun p => DataW.trod enc P w' base' spare' held' fuel p.1 ((cs.drop p.2).take (P.cellsOf p.1))) = some ys
 | [], off, ks, ys, hp, hl, hm => by
   simp only [Bm, oJ] at hp
   subst hp
   simp only [List.mapM_nil, Option.pure_def, oJ] at hm
   subst hm
   refine ⟨[], ?_, trivial, rfl, fun _ _ _ _ => by simp⟩
   simp only [vals]
   exact List.eq_nil_of_length_eq_zero (by simpa using hl)
 | (t, o) :: r, off, ks, ys, hp, hl, hm => by
   simp only [Bm] at hp
   split at hp
   ·rename_i ho
    subst ho
    split at hp
    ·rename_i k1 hk1
     split at hp
     ·rename_i hc
      obtain ⟨k2, hk2, rfl⟩ := Option.map_eq_some_iff.1 hp
      simp only [List.mapM_cons, Option.bind_eq_bind, Option.pure_def, Option.bind_eq_some_iff, oJ] at hm
      obtain ⟨y, hy, ys', hys', rfl⟩ := hm
      rw [hc] at hy
      obtain ⟨xs1, e1, f1, p1, a1⟩ := hleaf t k1 hk1 _ _ _ _ _ _ _ hy
      have hl2 : (cs.drop (o + k1.length)).length = k2.length := by
       simp only [List.length_drop, List.length_append] at hl ⊢
       omega
      obtain ⟨xs2, e2, f2, p2, a2⟩ := Gs hleaf cs r (o + k1.length) k2 ys' hk2 hl2 hys'
      refine ⟨xs1 ++ xs2, ?_, BH f1 f2, by simp [p1, p2], fun w' base' spare' held' => ?_⟩
      ·rw [Hc f1, <- e1, <- e2, <- List.drop_drop, List.take_append_drop]
      ·simp only [List.mapM_cons, Option.bind_eq_bind, Option.pure_def, a2 w' base' spare' held', hc, a1 w' base' spare' held', Option.bind_some]
     ·cases hp
    ·cases hp
   ·cases hp
theorem J5 {α β γ : Type} (f : α -> β) (g : β -> Option γ) (l : List α) : (l.map f).mapM g = l.mapM fun a => g (f a) := by
 induction l with
 | nil => simp
 | cons a r ih => simp [List.mapM_cons, ih]
theorem Ed : ∀ (n : Nat) (t : TypeId) (ks : List K), AK P n t = some ks -> PS enc P t ks
 | 0, _, _, h => by simp [AK] at h
 | n + 1, t, ks, h => by
   intro w base spare held fuel cs x hx
   simp only [AK] at h
   split at h
   ·rename_i hu
    simp only [oJ] at h; subst h
    obtain ⟨b, rfl, rfl⟩ := DataW.trod_bool hu hx
    refine ⟨[b2i b], by simp [vals, K.val], ⟨by simp [CD], trivial⟩, rfl, fun w' base' spare' held' => ?_⟩
    cases fuel with
    | zero => simp [DataW.trod] at hx
    | succ m => simp [DataW.trod, hu]
   ·rename_i k hu
    simp only [oJ] at h; subst h
    obtain ⟨z, rfl, rfl, hw⟩ := DataW.trod_int hu hx
    refine ⟨[z], by simp [vals, K.val], ⟨MH hw, trivial⟩, rfl, fun w' base' spare' held' => ?_⟩
    cases fuel with
    | zero => simp [DataW.trod] at hx
    | succ m => simp [DataW.trod, hu, hw]
   ·rename_i fs hu
    split at h
    ·rename_i ks' hp
     split at h
     ·rename_i hc
      simp only [oJ] at h; subst h
      cases fuel with
      | zero => simp [DataW.trod] at hx
      | succ m =>
        have un : ∀ (w : World) (base : Nat) (spare : Nat -> Bool) (held : Bool), DataW.trod enc P w base spare held (m + 1) t cs = if cs.length = P.cellsOf t then ((fs.toList.map fun f => (f.type, f.offset)).mapM fun p => DataW.trod enc P w base spare held m p.1 ((cs.drop p.2).take (P.cellsOf p.1))).map (fun xs => (.agg (xs.map (·.1)), xs.flatMap (·.2))) else none := by
         intro w base spare held
         rw [J5, DataW.trod]
         simp only [hu]
        rw [un] at hx
        split at hx
        ·rename_i hl
         obtain ⟨ys, hys, rfl⟩ := Option.map_eq_some_iff.1 hx
         obtain ⟨xs, e1, f1, p1, a1⟩ := Gs (fun t ks ht => Ed n t ks ht) cs _ 0 ks' ys hp (by simp [hl, hc]) hys
         refine ⟨xs, by simpa using e1, f1, p1, fun w' base' spare' held' => ?_⟩
         rw [un, if_pos hl, a1 w' base' spare' held']
         rfl
        ·cases hx
     ·cases h
    ·cases h
   ·rename_i m' e hu
    split at h
    ·rename_i ks' hp
     split at h
     ·rename_i hc
      simp only [oJ] at h; subst h
      cases fuel with
      | zero => simp [DataW.trod] at hx
      | succ m =>
        have un : ∀ (w : World) (base : Nat) (spare : Nat -> Bool) (held : Bool), DataW.trod enc P w base spare held (m + 1) t cs = if cs.length = P.cellsOf t then (((List.range m').map fun i => (e, i * P.cellsOf e)).mapM fun p => DataW.trod enc P w base spare held m p.1 ((cs.drop p.2).take (P.cellsOf p.1))).map (fun xs => (.agg (xs.map (·.1)), xs.flatMap (·.2))) else none := by
         intro w base spare held
         rw [J5]
         conv => lhs; unfold DataW.trod
         rw [hu]
        rw [un] at hx
        split at hx
        ·rename_i hl
         obtain ⟨ys, hys, rfl⟩ := Option.map_eq_some_iff.1 hx
         obtain ⟨xs, e1, f1, p1, a1⟩ := Gs (fun t ks ht => Ed n t ks ht) cs _ 0 ks' ys hp (by simp [hl, hc]) hys
         refine ⟨xs, by simpa using e1, f1, p1, fun w' base' spare' held' => ?_⟩
         rw [un, if_pos hl, a1 w' base' spare' held']
         rfl
        ·cases hx
     ·cases h
    ·cases h
   ·cases h
theorem J6 {w : World} {Im : Nat -> Prop} : ∀ {ks : List K} {xs : List Int}, fits ks xs -> RowV w Im (Row.ofKs ks) xs (vals ks xs)
 | [], [], _ => ⟨rfl, rfl⟩
 | [], _ :: _, h => h.elim
 | _ :: _, [], h => h.elim
 | k :: ks, x :: xs, h => ⟨x, xs, vals ks xs, rfl, rfl, h.1, J6 h.2⟩
theorem NT {W : World} {t e : TypeId} {ks : List K} {r : Reach} {b0 : Nat} {v : Value} {d : DataW H} {p : List MemPlace} (ht : P.underlying t = some (.slice e)) (hk : AK P 9 e = some ks) (hc : P.cellsOf e = ks.length) (h0 : 0 < ks.length)
 (hv : Value.okWide P W r b0 t v) (h : DataW.Trod enc P W 0 (fun _ => true) true t v d p) :
 ∃ (hd : Hd) (l : RL), v = hd.sl l.length /\ ShL W (fun b => b < W.heap.size) (Row.ofKs ks) hd l /\ (∀ r ∈ l, fits ks r) /\ l.length <= maxLen /\
   ∀ (W' : World) (sp : Nat -> Bool), Below W.heap.size W W' -> (∀ q ∈ p, sp q.block = true) -> DataW.Trod enc P W' 0 sp true t v d p := by
 obtain ⟨fuel, hf⟩ := h
 rcases Deep.open_slice ht hf with ⟨hcs, hx⟩ | ⟨a, len, cap, m, n, D, Pl, hcs, hb, hl, hm, hmm, hx, hel⟩
 ·obtain ⟨a, len, cap, rfl⟩ := okWide_slice ht hv
  have hcs' : [Value.slice a len cap] = [.slice none 0 0] := hcs
  simp only [List.cons.injEq, Value.slice.injEq, and_true] at hcs'
  obtain ⟨rfl, rfl, rfl⟩ := hcs'
  refine ⟨{ blk := 0, nil := true }, [], rfl, ⟨Nat.zero_le _, Nat.zero_le _, fun h => absurd rfl h, fun i r' hi => absurd hi (by simp)⟩, (fun r hr => absurd hr (by simp)), Nat.zero_le _, fun W' sp _ _ => ⟨fuel, ?_⟩⟩
  simp only [pJ] at hx
  obtain ⟨rfl, rfl⟩ := hx
  show DataW.trod enc P W' 0 sp true fuel t [.slice none 0 0] = _
  cases fuel with
  | zero => simp [DataW.trod] at hf
  | succ fuel => simp [DataW.trod, ht]
 ·obtain ⟨a', len', cap', rfl⟩ := okWide_slice ht hv
  have hcs' : [Value.slice a' len' cap'] = [.slice (some a) len cap] := hcs
  simp only [List.cons.injEq, Value.slice.injEq, and_true] at hcs'
  obtain ⟨rfl, rfl, rfl⟩ := hcs'
  simp only [if_true] at hmm
  subst hmm
  have hsp : a.spot = none := by
   simp only [Value.okWide, ht, Cell.okWide, Cell.ok] at hv
   exact hv.2.2.2.1
  obtain ⟨blk, off, spot⟩ := a
  simp only at hsp
  subst hsp
  simp only [pJ] at hx
  obtain ⟨rfl, rfl⟩ := hx
  have hrow : ∀ i, i < m -> ∃ xs, fits ks xs /\ W.cells? 0 ((⟨blk, off, none⟩ : Addr).add (i * P.cellsOf e)) (P.cellsOf e) = some (vals ks xs) /\ Pl i = [] /\ ∀ (W' : World) (sp : Nat -> Bool), DataW.trod enc P W' 0 sp true n e (vals ks xs) = some (D i, []) := fun i hi => by
   obtain ⟨cs', c1, c2⟩ := hel i hi
   obtain ⟨xs, e1, f1, p1, a1⟩ := Ed 9 e ks hk _ _ _ _ _ _ _ c2
   simp only at p1
   refine ⟨xs, f1, by rw [<- e1]; exact c1, p1, fun W' sp => ?_⟩
   rw [<- e1]
   have := a1 W' 0 sp true
   rw [p1] at this
   exact this
  obtain ⟨R, hR⟩ := Deep.choose_lt hrow
  have hcell : ∀ i, i < m -> ∀ j u, (vals ks (R i))[j]? = some u -> W.cell? ⟨blk, off + i * ks.length + j, none⟩ = some u := fun i hi j u hu => by
   have c1 := (hR i hi).2.1
   have hs := World.cells?_some c1
   have hlv := HA (hR i hi).1
   have hj : j < ks.length := by have := (List.getElem?_eq_some_iff.1 hu).1; omega
   have h2 := hs.2.2 j (by omega)
   rw [hu] at h2
   rw [<- h2, hc]
   simp only [Addr.add]
   split <;> (split at * <;> simp_all <;> omega)
  refine ⟨{ blk := blk, off := off, cap := m }, (List.range len').map R, by simp [Hd.sl], ⟨by simp; omega, by simpa using hl, fun hne => ?_, fun i r' hi => ?_⟩, fun r hr => ?_, by simp; omega, fun W' sp hbl hsp => ?_⟩
  ·have h1 : 0 < len' := by
    cases len' with
    | zero => exact absurd rfl hne
    | succ _ => omega
   have c1 := (hR 0 (by omega)).2.1
   simpa [Addr.add] using World.cells?_block c1 (by omega)
  ·rw [List.getElem?_map] at hi
   obtain ⟨i', hi', rfl⟩ := Option.map_eq_some_iff.1 hi
   obtain ⟨hil, hie⟩ := List.getElem?_eq_some_iff.1 hi'
   simp only [List.length_range] at hil
   simp only [List.getElem_range] at hie
   subst hie
   refine ⟨_, J6 (hR i (by omega)).1, fun j u hu => ?_⟩
   rw [AY]
   exact hcell i (by omega) j u hu
  ·obtain ⟨i, hi, hri⟩ := List.mem_map.1 hr
   rw [<- hri]
   exact (hR i (by have := List.mem_range.1 hi; omega)).1
  ·have hpl : (List.range m).flatMap Pl = (List.range m).flatMap fun _ => ([] : List MemPlace) := by
    rw [List.flatMap_def, List.flatMap_def, List.map_congr_left fun i hi => (hR i (List.mem_range.1 hi)).2.2.1]
   by_cases hm0 : m = 0
   ·subst hm0
    have hl0 : len' = 0 := by omega
    subst hl0
    refine ⟨fuel, ?_⟩
    show DataW.trod enc P W' 0 sp true fuel t [.slice (some ⟨blk, off, none⟩) 0 0] = _
    cases fuel with
    | zero => simp [DataW.trod] at hf
    | succ fuel => simp [DataW.trod, ht, hm]
   refine Deep.shut_slice_whole (a := ⟨blk, off, none⟩) ht (Nat.zero_le _) hl hm ?_ D Pl fun i hi => ⟨vals ks (R i), n, ?_, ?_⟩
   ·refine hsp (.cell blk off) ?_
    refine List.mem_append_left _ (MemPlace.mem_row.2 ⟨0, ?_, by simp⟩)
    rw [hc]; exact Nat.mul_pos (by omega) h0
   ·have c1 := (hR i hi).2.1
    obtain ⟨g1, g2, g3⟩ := World.cells?_some c1
    have hbk := World.cells?_block c1 (by omega)
    refine World.cells?_of_each g1 g2 fun j hj => ?_
    rw [<- g3 j hj]
    rw [add_plain] at hbk
    rw [add_plain, add_plain]
    exact hbl.cell (p := ⟨blk, off + i * P.cellsOf e + j, none⟩) hbk
   ·rw [(hR i hi).2.2.1]
    exact (hR i hi).2.2.2 W' sp
theorem Lk {W : World} {t : TypeId} {k : IntKind} {r : Reach} {b0 : Nat} {v : Value} {d : DataW H} {p : List MemPlace} (ht : P.underlying t = some (.int k)) (hv : Value.okWide P W r b0 t v) (h : DataW.Trod enc P W base spare held t v d p) :
 ∃ z, v = .int k z /\ k.wrap z = z /\ p = [] /\ ∀ (W' : World) (b : Nat) (sp : Nat -> Bool) (hd : Bool), DataW.Trod enc P W' b sp hd t v d [] := by
 obtain ⟨n, rfl, rfl, rfl, hw⟩ := open_int ht hv h
 exact ⟨n, rfl, MH hw, rfl, fun W' b sp hd => shut_int ht hw⟩
theorem RI {W : World} {t : TypeId} {fs : Array Field} {ks : List K} {r : Reach} {b0 : Nat} {v : Value} {d : DataW H} {p : List MemPlace} (ht : P.underlying t = some (.struct fs)) (hk : AK P 9 t = some ks) (hv : Value.okWide P W r b0 t v) (h : DataW.Trod enc P W base spare held t v d p) :
 ∃ xs, v = .agg (vals ks xs).toArray /\ fits ks xs /\ p = [] /\ ∀ (W' : World) (b : Nat) (sp : Nat -> Bool) (hd : Bool), DataW.Trod enc P W' b sp hd t v d [] := by
 obtain ⟨cs, rfl, _⟩ := okWide_struct ht hv
 obtain ⟨fuel, hf⟩ := h
 obtain ⟨xs, e1, f1, p1, a1⟩ := Ed 9 t ks hk _ _ _ _ _ _ _ hf
 simp only at p1
 subst p1
 refine ⟨xs, ?_, f1, rfl, fun W' b sp hd => ⟨fuel, a1 W' b sp hd⟩⟩
 have e2 : cs.toList = vals ks xs := e1
 rw [<- e2]
theorem NU {f : Func} {s : ChangeSpec} {apart fresh handsOn again : Bool} {W W' : World} {args : Array Value} {v : Value} {ds gs : List (DataW H)} {before pa pv : List MemPlace}
 (hW : DataW.Whole enc P f.params.toList s.vars apart W args.toList ds gs before)
 (hres : ∀ (b : Nat) (sp : Nat -> Bool) (hd : Bool), DataW.TrodAll enc P W' b sp hd f.resultTypes.toList (v.resultList f.resultTypes.size) (s.fn H (ds ++ gs)).results [])
 (hargs : ∀ sp : Nat -> Bool, (∀ p ∈ before, sp p.block = true) -> DataW.TrodAll enc P W' 0 sp true f.params.toList args.toList (s.fn H (ds ++ gs)).args pa)
 (hvars : ∀ sp : Nat -> Bool, (∀ p ∈ before, sp p.block = true) -> DataW.TrodVars enc P W' sp s.vars (s.fn H (ds ++ gs)).vars pv)
 (hps : before = pa ++ pv) (hb : Below W.heap.size W W')
 (hok : ∀ (j : Nat) (t : TypeId) (r : Value), f.resultTypes[j]? = some t -> (v.resultList f.resultTypes.size)[j]? = some r -> Value.okWide P W' .any 0 t r) :
 s.post enc P f apart fresh handsOn again W args v W' := by
 have hlt : ∀ p ∈ before, p.block < W.heap.size := fun p hp => hW.lt p hp
 have hold : ∀ p ∈ before, (fun b => decide (b < W.heap.size)) p.block = true := fun p hp => by simpa using hlt p hp
 refine ⟨ds, gs, before, [], pa, pv, hW, hres _ _ _, hargs _ hold, hvars _ hold, World.keptBut_mono (fun p hp => ⟨hp, ?_⟩) (hb.frame (· ∈ before)), fun _ => ?_⟩
 ·rw [hps, List.mem_append] at hp
  exact Or.inr hp
 ·obtain ⟨_, _, _, _, _, hz, hn⟩ := hW
  refine ⟨hok, _, _, ([] ++ pa) ++ pv, ⟨[] ++ pa, pv, trodAll_append (hargs _ (fun _ _ => rfl)) (hres _ _ _), hvars _ (fun _ _ => rfl), rfl, ?_, ?_⟩, ?_⟩
  ·intro b off hp
   have hin : MemPlace.cell b off ∈ before := by rw [hps]; simpa using hp
   rw [hb.frozen (hlt _ hin)]
   exact hz b off hin
  ·intro ha
   have := hn ha
   rw [hps] at this
   simpa using this
  ·intro p hp _
   rw [hps]
   simpa using hp
theorem RJ {W : World} {ρ : Nat -> Int} {hs : Nat -> Hd} : RelE F0 ρ W (fun _ => False) (fun b => b < W.heap.size) hs [] W :=
 ⟨(fun x hx => by cases hx), (fun x hx => by cases hx), (fun b hb => hb), Fr.refl _ _⟩
theorem PT {W : World} {ρ : Nat -> Int} {hs : Nat -> Hd} {n : Nat} {g le c : E} {ty : Nat} {row : Row} {l : Ents} (h1 : isCd (c.den F0 ρ)) (h2 : le.den F0 ρ = ((dc (c.den F0 ρ)).length : Int)) (h3 : ShL W (fun b => b < W.heap.size) row (hs n) (dc (c.den F0 ρ)))
 (h : RelE F0 ρ W (fun _ => False) (fun b => b < W.heap.size) hs l W) : RelE F0 ρ W (fun _ => False) (fun b => b < W.heap.size) hs ((n, g, .lst ty row false le c) :: l) W := by
 refine ⟨fun x hx hg => ?_, fun x hx y hy hgx hgy b hbx hby => ?_, h.im, h.fr⟩
 ·rcases List.mem_cons.1 hx with rfl | hx
  ·exact ⟨⟨h1, h2, h3⟩, fun b hb => by simp [mutB] at hb⟩
  ·exact h.ent x hx hg
 ·rcases List.mem_cons.1 hx with rfl | hx
  ·simp [mutB] at hbx
  ·rcases List.mem_cons.1 hy with rfl | hy
   ·simp [mutB] at hby
   ·exact h.inj x hx y hy hgx hgy b hbx hby
end
end Go.Proofs.YtgpflpbldeflhaaDoor.Ew.Ar

/- Summaries of the first evaluator are summaries of the second one. -/
import Derived.Test.YtbolcnlenmphhaaDoorW8
import Derived.Test.YtbolcnlenmphhaaDoorEvK
set_option linter.unusedVariables false
set_option linter.unusedSimpArgs false
namespace Go.Proofs.YtbolcnlenmphhaaDoor.Ew
open Go Go.RowKit

def kOf : Ev.K → K
  | .b => .b
  | .i k => .i k
def shOf : Ev.Sh1 → Sh
  | .s k => .sc (kOf k)
  | .a ks => .agg (ks.map fun k => .sc (kOf k))
  | .c f => .fnc f []
  | .l k n => .lt (kOf k) n
def rsOf : Ev.Sh → Sh
  | .one s => shOf s
  | .tup l => .tup (l.map shOf)
def entOfP (e : Ev.Entry) (pre : List Int → Prop) : Ent := { key := e.key, f := e.f, ps := e.ps.map shOf, os := [], kp := [], rs := rsOf e.rs, fn := e.fn, pre := pre }
def entOf (e : Ev.Entry) : Ent := entOfP e fun _ => True

theorem kOf_norm (k : Ev.K) (n : Int) : (kOf k).norm n = k.norm n := by cases k <;> rfl
theorem kOf_val (k : Ev.K) (n : Int) : (kOf k).val n = k.val n := by cases k <;> rfl
theorem scs_ks : ∀ ks : List Ev.K, Sh.ksL (ks.map fun k => .sc (kOf k)) = ks.map kOf
  | [] => rfl
  | k :: ks => by simp only [List.map_cons, Sh.ksL, Sh.ks, scs_ks ks]; rfl
theorem scs_nn : ∀ ks : List Ev.K, Sh.nnL (ks.map fun k => .sc (kOf k)) = 0
  | [] => rfl
  | k :: ks => by simp only [List.map_cons, Sh.nnL, Sh.nn, scs_nn ks]
theorem shOf_ks (s : Ev.Sh1) : (shOf s).ks = s.ks.map kOf := by
  cases s with
  | a ks => simp only [shOf, Sh.ks, Ev.Sh1.ks, scs_ks]
  | _ => rfl
theorem shOf_nn (s : Ev.Sh1) : (shOf s).nn = 0 := by
  cases s with
  | a ks => simp only [shOf, Sh.nn, scs_nn]
  | _ => rfl
theorem shL_ks : ∀ l : List Ev.Sh1, Sh.ksL (l.map shOf) = (Ev.allKs l).map kOf
  | [] => rfl
  | s :: l => by simp only [List.map_cons, Sh.ksL, shOf_ks, shL_ks l, Ev.allKs, List.flatMap_cons, List.map_append]
theorem shL_nn : ∀ l : List Ev.Sh1, Sh.nnL (l.map shOf) = 0
  | [] => rfl
  | s :: l => by simp only [List.map_cons, Sh.nnL, shOf_nn, shL_nn l]
theorem rsOf_ks (s : Ev.Sh) : (rsOf s).ks = s.ks.map kOf := by
  cases s with
  | one s => exact shOf_ks s
  | tup l => simp only [rsOf, Sh.ks, shL_ks, Ev.Sh.ks]
theorem rsOf_nn (s : Ev.Sh) : (rsOf s).nn = 0 := by
  cases s with
  | one s => exact shOf_nn s
  | tup l => simp only [rsOf, Sh.nn, shL_nn]
theorem fits_of_ew : ∀ {ks : List Ev.K} {xs : List Int}, fits (ks.map kOf) xs → Ev.fits ks xs
  | [], [], _ => trivial
  | [], _ :: _, h => h.elim
  | _ :: _, [], h => h.elim
  | k :: ks, x :: xs, h => ⟨by rw [← kOf_norm]; exact h.1, fits_of_ew h.2⟩
theorem outs_ew (fn : Nat → List Int → Int) (xs : List Int) : ∀ (ks : List Ev.K) (j : Nat), outsE fn xs j (ks.map kOf) = Ev.outsE fn xs j ks
  | [], _ => rfl
  | k :: ks, j => by simp only [List.map_cons, outsE, Ev.outsE, kOf_norm, outs_ew fn xs ks (j + 1)]

section
variable {xs : List Int} {ev : Nat → E} {nv : Nat → Nat} {hs : Nat → Hd}
/-- The expressions read as the numbers. -/
def RdAs (ev : Nat → E) (xs : List Int) (ks : List Ev.K) (vi : Nat) : Prop := (∀ i k, ks[i]? = some k → (ev (vi + i)).val F0 (env xs) = k.val (xs.getD (vi + i) 0)) ∧ vi + ks.length ≤ xs.length
theorem RdAs.left {ks ls : List Ev.K} {vi : Nat} (h : RdAs ev xs (ks ++ ls) vi) : RdAs ev xs ks vi := ⟨fun i k hi => h.1 i k (by rw [List.getElem?_append_left (List.getElem?_eq_some_iff.1 hi).1]; exact hi), by have := h.2; rw [List.length_append] at this; omega⟩
theorem RdAs.right {ks ls : List Ev.K} {vi : Nat} (h : RdAs ev xs (ks ++ ls) vi) : RdAs ev xs ls (vi + ks.length) := ⟨fun i k hi => by
  have := h.1 (ks.length + i) k (by rw [List.getElem?_append_right (by omega)]; simpa using hi)
  rwa [← Nat.add_assoc] at this, by have := h.2; rw [List.length_append] at this; omega⟩
theorem getD_drop (vi i : Nat) : (xs.drop vi).getD i 0 = xs.getD (vi + i) 0 := by simp [List.getD, List.getElem?_drop]

theorem gen_scs : ∀ (ks : List Ev.K) (g : E) (vi ni : Nat), RdAs ev xs ks vi → SV.concL F0 (env xs) hs (Sh.genL ev nv (ks.map fun k => .sc (kOf k)) g vi ni).1 = Ev.vals ks ((xs.drop vi).take ks.length) ∧ (Sh.genL ev nv (ks.map fun k => .sc (kOf k)) g vi ni).2 = []
  | [], g, vi, ni, h => ⟨by simp [Sh.genL, SV.concL, Ev.vals], rfl⟩
  | k :: ks, g, vi, ni, h => by
    have h1 := h.1 0 k rfl
    obtain ⟨i1, i2⟩ := gen_scs ks g (vi + 1) ni (RdAs.right (ks := [k]) h)
    have hl := h.2
    simp only [List.length_cons] at hl
    have hx : xs.drop vi = xs.getD vi 0 :: xs.drop (vi + 1) := by
      rw [List.drop_eq_getElem_cons (by omega)]
      simp [List.getD, show vi < xs.length by omega]
    rw [Nat.add_zero] at h1
    simp only [List.map_cons, Sh.genL, Sh.gen, Sh.ks, Sh.nn, List.length_cons, List.length_nil, Nat.zero_add, Nat.add_zero, SV.concL, SV.conc, List.nil_append, i2, h1]
    refine ⟨?_, trivial⟩
    rw [hx, List.take_succ_cons, Ev.vals]
    rw [i1]

theorem gen_sh (s : Ev.Sh1) (g : E) (vi ni : Nat) (h : RdAs ev xs s.ks vi) : ((shOf s).gen ev nv g vi ni).1.conc F0 (env xs) hs = s.val ((xs.drop vi).take s.n) ∧ ((shOf s).gen ev nv g vi ni).2 = [] := by
  cases s with
  | s k =>
    have h1 := h.1 0 k rfl
    have hl := h.2
    rw [Nat.add_zero] at h1
    refine ⟨?_, rfl⟩
    simp only [shOf, Sh.gen, SV.conc, h1, Ev.Sh1.val]
    congr 1
    simp only [Ev.Sh1.n, Ev.Sh1.ks, List.length_cons, List.length_nil] at hl ⊢
    simp [List.getD, List.getElem?_take, List.getElem?_drop]
  | a ks =>
    obtain ⟨i1, i2⟩ := gen_scs (ev := ev) (nv := nv) (hs := hs) ks g vi ni h
    exact ⟨by simp only [shOf, Sh.gen, SV.conc, i1, Ev.Sh1.val]; rfl, by simp only [shOf, Sh.gen, i2]⟩
  | c f => exact ⟨rfl, rfl⟩
  | l k n =>
    refine ⟨?_, rfl⟩
    simp only [shOf, Sh.gen, SV.conc, Ev.Sh1.val]
    rw [← val_of_kind, ← kOf_val, ← kOf_norm]
    rfl

theorem gen_shs : ∀ (l : List Ev.Sh1) (g : E) (vi ni : Nat), RdAs ev xs (Ev.allKs l) vi → SV.concL F0 (env xs) hs (Sh.genL ev nv (l.map shOf) g vi ni).1 = Ev.argVals l (xs.drop vi) ∧ (Sh.genL ev nv (l.map shOf) g vi ni).2 = []
  | [], g, vi, ni, h => ⟨rfl, rfl⟩
  | s :: l, g, vi, ni, h => by
    have h' : RdAs ev xs (s.ks ++ Ev.allKs l) vi := by simpa only [Ev.allKs, List.flatMap_cons] using h
    obtain ⟨i1, i2⟩ := gen_sh (ev := ev) (nv := nv) (hs := hs) s g vi ni h'.left
    obtain ⟨j1, j2⟩ := gen_shs l g (vi + (shOf s).ks.length) (ni + (shOf s).nn) (by rw [shOf_ks, List.length_map]; exact h'.right)
    refine ⟨?_, by simp only [List.map_cons, Sh.genL, i2, j2, List.append_nil]⟩
    simp only [List.map_cons, Sh.genL, SV.concL, i1, j1, Ev.argVals, List.drop_drop]
    rw [shOf_ks, List.length_map]
    rfl

theorem rdAs_var {KS : List K} {ks : List Ev.K} {vi : Nat} (hf : fits KS xs) (h : ∀ i k, ks[i]? = some k → KS[vi + i]? = some (kOf k)) (hl : vi + ks.length ≤ xs.length) : RdAs (varE KS) xs ks vi := by
  refine ⟨fun i k hi => ?_, hl⟩
  have hk := h i k hi
  rw [← val_of_kind, varE_kind KS _ _ hk, varE_den hf, if_pos (List.getElem?_eq_some_iff.1 hk).1, kOf_val]
end

theorem entOf_okP {P : Program} {G : Glob} {G1 : Ev.Glob} (hGG : ∀ Im0 w, GOK G Im0 w → Ev.GOK G1 w) {e : Ev.Entry} {pre : List Int → Prop}
    (h : ∀ xs, Ev.fits (Ev.allKs e.ps) xs → pre xs → ∀ w, Ev.GOK G1 w → Calls P e.f (Ev.argVals e.ps xs).toArray w fun en w' => en = .returned (e.rs.val (Ev.outsE e.fn xs 0 e.rs.ks)) ∧ Below w.heap.size w w') : EntryOK P G (entOfP e pre) := by
  intro xs hfit hpre w M0 Im0 hs hM hG hE
  have hpk : (entOfP e pre).pks = (Ev.allKs e.ps).map kOf := shL_ks e.ps
  have hok : (entOfP e pre).oks = e.rs.ks.map kOf := by
    show Sh.ksL ([] ++ [rsOf e.rs]) = _
    simp only [List.nil_append, Sh.ksL, rsOf_ks, List.append_nil]
  have hnn : (entOfP e pre).nn = 0 := shL_nn e.ps
  have hxl : xs.length = (entOfP e pre).pks.length := fits_length hfit
  have hys : outsE (entOfP e pre).fn xs 0 (entOfP e pre).oks = Ev.outsE e.fn xs 0 e.rs.ks := by rw [hok]; exact outs_ew _ _ _ _
  have hyf : fits (entOfP e pre).oks (outsE (entOfP e pre).fn xs 0 (entOfP e pre).oks) := outsE_fits _ _ _ _
  obtain ⟨ys, hy⟩ : ∃ ys, ys = outsE (entOfP e pre).fn xs 0 (entOfP e pre).oks := ⟨_, rfl⟩
  rw [← hy] at hyf hys
  have hyl := fits_length hyf
  have hall := fits_append hfit hyf
  obtain ⟨p1, p2⟩ := gen_shs (xs := xs) (ev := varE (entOfP e pre).pks) (nv := id) (hs := hs) e.ps (mkB true) 0 0 (rdAs_var hfit (fun i k hi => by rw [Nat.zero_add, hpk, List.getElem?_map, hi]; rfl) (by rw [hxl, hpk]; simp))
  have p1' : SV.concL F0 (env xs) hs (entOfP e pre).pgen.1 = Ev.argVals e.ps xs := by rw [List.drop_zero] at p1; exact p1
  have hrd : RdAs (varE ((entOfP e pre).pks ++ (entOfP e pre).oks)) (xs ++ ys) e.rs.ks (entOfP e pre).np := rdAs_var hall (fun i k hi => by
    rw [List.getElem?_append_right (by show (entOfP e pre).pks.length ≤ _; simp [Ent.np]), hok, List.getElem?_map, show (entOfP e pre).np + i - (entOfP e pre).pks.length = i by simp [Ent.np], hi]; rfl) (by
    rw [List.length_append, hxl, hyl, hok, List.length_map]; exact Nat.le_refl _)
  have hdrop : (xs ++ ys).drop (entOfP e pre).np = ys := List.drop_left' hxl
  have hre : (lastV (entOfP e pre).ogen.1).conc F0 (env (xs ++ ys)) hs = e.rs.val ys ∧ (entOfP e pre).ogen.2 = [] := by
    have hog : (entOfP e pre).ogen = Sh.genL (varE ((entOfP e pre).pks ++ (entOfP e pre).oks)) id [rsOf e.rs] (mkB true) (entOfP e pre).np (entOfP e pre).nn := rfl
    rw [hog]
    simp only [Sh.genL, lastV, List.getLastD_cons, List.getLastD_nil, List.append_nil]
    cases hrs : e.rs with
    | one s =>
      rw [hrs] at hrd
      obtain ⟨q1, q2⟩ := gen_sh (ev := varE ((entOfP e pre).pks ++ (entOfP e pre).oks)) (nv := id) (hs := hs) s (mkB true) (entOfP e pre).np (entOfP e pre).nn hrd
      have hsn : ys.length = s.n := by rw [hyl, hok, hrs]; simp [Ev.Sh.ks, Ev.Sh1.n]
      refine ⟨?_, by simp only [rsOf, q2]⟩
      simp only [rsOf]
      rw [hdrop, List.take_of_length_le (by omega)] at q1
      exact q1
    | tup l =>
      rw [hrs] at hrd
      obtain ⟨q1, q2⟩ := gen_shs (ev := varE ((entOfP e pre).pks ++ (entOfP e pre).oks)) (nv := id) (hs := hs) l (mkB true) (entOfP e pre).np (entOfP e pre).nn hrd
      rw [hdrop] at q1
      exact ⟨by simp only [rsOf, Sh.gen, SV.conc, q1, Ev.Sh.val], by simp only [rsOf, Sh.gen, q2]⟩
  rw [p1']
  refine (h xs (fits_of_ew (by rw [← hpk]; exact hfit)) hpre w (hGG _ _ hG)).mono ?_
  rintro en w' ⟨rfl, hb⟩
  rw [← hy]
  refine ⟨hs, Im0, fun _ _ => rfl, fun _ h => h, fun _ h => Or.inl h, by rw [hre.1, hys], ?_⟩
  have hoe : (entOfP e pre).oents = [] := by
    show objE [] _ ++ (keptE [] _ ++ (entOfP e pre).ogen.2) = []
    rw [hre.2]
    have : keptE [] (entOfP e pre).pgen.2 = [] := by
      show keptE [] (Sh.genL _ _ _ _ _ _).2 = []
      have : (Sh.genL (varE (entOfP e pre).pks) id (entOfP e pre).ps (mkB true) 0 0).2 = [] := p2
      rw [this]; rfl
    rw [this]; rfl
  rw [hoe]
  exact ⟨fun x hx => (by cases hx), fun x hx => (by cases hx), fun b hb' => Nat.lt_of_lt_of_le (hE.im b hb') hb.size, Fr.below hb⟩
theorem entOf_ok {P : Program} {G : Glob} {G1 : Ev.Glob} (hGG : ∀ Im0 w, GOK G Im0 w → Ev.GOK G1 w) {e : Ev.Entry} (h : Ev.EntryOK P G1 e) : EntryOK P G (entOf e) := entOf_okP hGG fun xs hf _ w hG => h xs hf w hG
end Go.Proofs.YtbolcnlenmphhaaDoor.Ew

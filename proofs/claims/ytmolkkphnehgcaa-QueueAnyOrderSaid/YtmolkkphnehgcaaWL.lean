/- That the described operations on lists tell what the operations do to the world. -/
import Derived.Test.YtmolkkphnehgcaaWK
set_option linter.unusedVariables false
set_option linter.unusedSimpArgs false
namespace Go.Proofs.Ytmolkkphnehgcaa.Ew
open Go Go.RowKit

section
variable {P : Program} {F : Fam} {ρ : Nat → Int} {G : Glob} {w0 w w' : World} {M0 Im0 Im Im' T : Nat → Prop} {ad ad' : Nat → Hd} {m m' : Mem} {q : Row} {ks : List K}

/-! ### rows of numbers alone -/
theorem rowKs_ofKs : ∀ ks : List K, rowKs (Row.ofKs ks) = some ks
  | [] => rfl
  | k :: ks => by simp [Row.ofKs, rowKs, rowKs_ofKs ks]
theorem rowKs_eq : ∀ {q : Row} {ks : List K}, rowKs q = some ks → q = Row.ofKs ks
  | .nil, ks, h => by simp [rowKs] at h; subst h; rfl
  | .c k r, ks, h => by
    simp only [rowKs] at h
    obtain ⟨ks', h1, rfl⟩ := Option.map_eq_some_iff.1 h
    rw [rowKs_eq h1]; rfl
  | .ls .., ks, h => by simp [rowKs] at h
theorem ofKs_size : ∀ ks : List K, (Row.ofKs ks).size = ks.length
  | [] => rfl
  | k :: ks => by simp [Row.ofKs, Row.size, ofKs_size ks]
theorem RowV_ks : ∀ {ks : List K} {zs : List Int} {vs : List Value}, RowV w Im (Row.ofKs ks) zs vs ↔ fits ks zs ∧ vs = numV ks zs
  | [], zs, vs => by
    simp only [Row.ofKs, RowV]
    constructor
    · rintro ⟨rfl, rfl⟩; exact ⟨trivial, rfl⟩
    · rintro ⟨h1, h2⟩
      cases zs with
      | nil => exact ⟨rfl, h2⟩
      | cons _ _ => exact h1.elim
  | k :: ks, zs, vs => by
    simp only [Row.ofKs, RowV]
    constructor
    · rintro ⟨z, zs', vs', rfl, rfl, h3, h4⟩
      obtain ⟨i1, i2⟩ := RowV_ks.1 h4
      exact ⟨⟨h3, i1⟩, by simp [numV, i2]⟩
    · rintro ⟨h1, h2⟩
      cases zs with
      | nil => exact h1.elim
      | cons z zs => exact ⟨z, zs, numV ks zs, rfl, by rw [h2]; rfl, h1.1, RowV_ks.2 ⟨h1.2, rfl⟩⟩
theorem numV_len {ks : List K} {zs : List Int} (h : fits ks zs) : (numV ks zs).length = ks.length := by simp [numV, fits_length h]

theorem fits_append {ks ls : List K} {xs ys : List Int} (h : fits ks xs) (h' : fits ls ys) : fits (ks ++ ls) (xs ++ ys) := by
  induction ks generalizing xs with
  | nil => cases xs with
    | nil => exact h'
    | cons _ _ => exact h.elim
  | cons k ks ih => cases xs with
    | nil => exact h.elim
    | cons x xs => exact ⟨h.1, ih h.2⟩
theorem fits_take : ∀ {ks : List K} {xs : List Int} (n : Nat), fits ks xs → fits (ks.take n) (xs.take n)
  | [], [], n, _ => by simp [fits]
  | [], _ :: _, _, h => h.elim
  | _ :: _, [], _, h => h.elim
  | k :: ks, x :: xs, 0, _ => by simp [fits]
  | k :: ks, x :: xs, n + 1, h => by simp only [List.take_succ_cons]; exact ⟨h.1, fits_take n h.2⟩
theorem fits_drop : ∀ {ks : List K} {xs : List Int} (n : Nat), fits ks xs → fits (ks.drop n) (xs.drop n)
  | [], [], n, _ => by simp [fits]
  | [], _ :: _, _, h => h.elim
  | _ :: _, [], _, h => h.elim
  | k :: ks, x :: xs, 0, h => h
  | k :: ks, x :: xs, n + 1, h => by simp only [List.drop_succ_cons]; exact fits_drop n h.2
theorem numV_append {ks ls : List K} {xs ys : List Int} (h : fits ks xs) : numV (ks ++ ls) (xs ++ ys) = numV ks xs ++ numV ls ys := by
  unfold numV
  rw [List.zipWith_append (by simp [fits_length h])]
theorem numV_take (ks : List K) (xs : List Int) (n : Nat) : (numV ks xs).take n = numV (ks.take n) (xs.take n) := by simp [numV, List.take_zipWith]
theorem numV_drop (ks : List K) (xs : List Int) (n : Nat) : (numV ks xs).drop n = numV (ks.drop n) (xs.drop n) := by simp [numV, List.drop_zipWith]
/-- A segment of a row is replaced. -/
theorem fits_splR {zs es : List Int} {o : Nat} (h : fits ks zs) (he : fits ((ks.drop o).take es.length) es) (hl : o + es.length ≤ ks.length) :
    fits ks (splR zs o es) ∧ numV ks (splR zs o es) = (numV ks zs).take o ++ numV ((ks.drop o).take es.length) es ++ (numV ks zs).drop (o + es.length) := by
  have e : ks = ks.take o ++ (ks.drop o).take es.length ++ ks.drop (o + es.length) := by
    rw [List.append_assoc, ← List.drop_drop, List.take_append_drop, List.take_append_drop]
  have f1 := fits_take o h
  have f2 := fits_drop (o + es.length) h
  unfold splR
  refine ⟨?_, ?_⟩
  · have := fits_append (fits_append f1 he) f2
    rwa [← e] at this
  · have := numV_append (ys := zs.drop (o + es.length)) (ls := ks.drop (o + es.length)) (fits_append f1 he)
    rw [← e, numV_append f1] at this
    rw [this, numV_take, numV_drop]

/-! ### cells of a row as expressions -/
theorem celS_len (c i : E) : ∀ (ks : List K) (j : Nat), (celS c i ks j).length = ks.length
  | [], _ => rfl
  | k :: ks, j => by simp [celS, celS_len c i ks (j + 1)]
theorem celS_ok (c i : E) (p : Nat → Prop) : ∀ (ks : List K) (j : Nat), SV.okL p (celS c i ks j)
  | [], _ => trivial
  | k :: ks, j => ⟨trivial, celS_ok c i p ks (j + 1)⟩
theorem CEL_den (hB : BI F) (k : K) (c i : E) (j : Nat) : (CEL k c i j).den F ρ = k.norm (((dc (c.den F ρ)).getD (i.den F ρ).toNat []).getD j 0) := by
  simp only [CEL, E.den, E.denL, K.norm]
  rw [hB]
  simp [bi, K.norm]
theorem den_app0 (hB : BI F) (k : K) (j : Nat) (as : List E) : (E.app k 0 j as).den F ρ = k.norm (bi j (as.map (E.den F ρ))) := by
  simp only [E.den, denL_eq]
  rw [hB]

theorem chainR_spec (hB : BI F) (ρ : Nat → Int) : ∀ (n : Nat) {c : E} {l : List (List E)}, chainR n c = some l → dc (c.den F ρ) = (l.reverse.map fun es => es.map (E.den F ρ))
  | 0, c, l, h => by simp [chainR] at h
  | n + 1, c, l, h => by
    unfold chainR at h
    split at h
    · rename_i heq; cases heq
    · simp only [Option.some.injEq] at h; subst h
      have : (NILL).den F ρ = cd [] := hB.nil
      show dc ((NILL).den F ρ) = _
      rw [this, dc_cd]; rfl
    · rename_i n' c0 es heq
      cases heq
      obtain ⟨l0, h0, rfl⟩ := Option.map_eq_some_iff.1 h
      rw [den_app0 hB]
      simp only [List.map_cons, bi, K.norm, dc_cd, chainR_spec hB ρ n h0, List.reverse_cons, List.map_append, List.map_nil]
    · cases h
theorem cel_val (hB : BI F) (k : K) (c i : E) (j : Nat) : (cel k c i j).val F ρ = (CEL k c i j).val F ρ := by
  unfold cel
  split
  · rename_i n hn
    split
    · rename_i l hl
      split
      · rename_i e he
        split
        · rename_i hc
          obtain ⟨es, h1, h2⟩ := Option.bind_eq_some_iff.1 he
          have hd := chainR_spec hB ρ _ hl
          rw [← val_of_kind, ← val_of_kind, show (CEL k c i j).kind = k from rfl, hc.1, CEL_den hB, hd, E.lit?_den hn]
          have h3 : ((l.reverse.map fun es => es.map (E.den F ρ)).getD n.toNat []).getD j 0 = e.den F ρ := by
            simp only [List.getD, List.getElem?_map, h1, h2, Option.map_some, Option.getD_some]
          rw [h3]
          have := E.den_norm F ρ e hc.2
          rw [hc.1] at this
          rw [this]
        · rfl
      · rfl
    · rfl
  · rfl
theorem celS_conc (hB : BI F) {c i : E} {r : List Int} (hr : (dc (c.den F ρ)).getD (i.den F ρ).toNat [] = r) : ∀ (ks : List K) (j : Nat) (zs : List Int), fits ks zs → (∀ t, r.getD (j + t) 0 = zs.getD t 0) →
    SV.concL F ρ ad (celS c i ks j) = numV ks zs
  | [], _, zs, h, _ => by cases zs with
    | nil => rfl
    | cons _ _ => exact h.elim
  | k :: ks, j, zs, h, hz => by
    cases zs with
    | nil => exact h.elim
    | cons z zs =>
      have h0 := hz 0
      simp only [Nat.add_zero, List.getD_cons_zero] at h0
      simp only [celS, SV.concL, SV.conc, numV, List.zipWith_cons_cons]
      have hv : (cel k c i j).val F ρ = k.val z := by
        rw [cel_val hB, ← val_of_kind]
        show k.val _ = _
        rw [CEL_den hB, hr, h0, h.1]
      rw [hv, celS_conc hB hr ks (j + 1) zs h.2 fun t => by have := hz (t + 1); simpa [Nat.add_assoc, Nat.add_comm 1 t] using this]
      rfl

theorem scs_spec (F : Fam) (ρ : Nat → Int) (ad : Nat → Hd) : ∀ {ks : List K} {cs : List SV} {es : List E}, scs ks cs = some es →
    fits ks (es.map (E.den F ρ)) ∧ SV.concL F ρ ad cs = numV ks (es.map (E.den F ρ)) ∧ es.length = cs.length
  | [], [], es, h => by simp [scs] at h; subst h; exact ⟨trivial, rfl, rfl⟩
  | [], _ :: _, es, h => by simp [scs] at h
  | _ :: _, [], es, h => by simp [scs] at h
  | k :: ks, v :: cs, es, h => by
    cases v with
    | sc e =>
      simp only [scs] at h
      split at h
      · rename_i hk
        obtain ⟨rfl, hs⟩ := hk
        obtain ⟨es', h1, rfl⟩ := Option.map_eq_some_iff.1 h
        obtain ⟨i1, i2, i3⟩ := scs_spec F ρ ad h1
        refine ⟨⟨E.den_norm F ρ e hs, i1⟩, ?_, by simp [i3]⟩
        simp [SV.concL, SV.conc, numV, i2, val_of_kind]
      · cases h
    | _ => simp [scs] at h

theorem snocs_spec (hB : BI F) : ∀ {n : Nat} {cs : List SV} {c c' : E}, snocs ks n cs c = some c' → isCd (c.den F ρ) → c.kind = .x → ∃ rows : RL, c'.den F ρ = cd (dc (c.den F ρ) ++ rows) ∧ c'.kind = .x ∧ rows.length = n ∧ RowsV w Im (Row.ofKs ks) rows (SV.concL F ρ ad cs)
  | 0, cs, c, c', h, hc, hk => by
    simp only [snocs] at h
    split at h
    · rename_i hl
      simp only [Option.some.injEq] at h; subst h
      have : cs = [] := List.eq_nil_of_length_eq_zero hl
      subst this
      exact ⟨[], by rw [List.append_nil]; exact hc.symm, hk, rfl, rfl⟩
    · cases h
  | n + 1, cs, c, c', h, hc, hk => by
    simp only [snocs] at h
    split at h
    · rename_i es hes
      obtain ⟨i1, i2, i3⟩ := scs_spec F ρ ad hes
      have hd : (E.app .x 0 3 (c :: es)).den F ρ = cd (dc (c.den F ρ) ++ [es.map (E.den F ρ)]) := by
        rw [den_app0 hB]; rfl
      obtain ⟨rows, r1, r2, r3, r4⟩ := snocs_spec hB (n := n) h (by rw [hd]; exact isCd_cd _) rfl
      refine ⟨es.map (E.den F ρ) :: rows, ?_, r2, by simp [r3], ?_⟩
      · rw [r1, hd, dc_cd, List.append_assoc]; rfl
      · refine ⟨numV ks (es.map (E.den F ρ)), SV.concL F ρ ad (cs.drop ks.length), ?_, RowV_ks.2 ⟨i1, rfl⟩, r4⟩
        rw [← i2, concL_eq, concL_eq, concL_eq, List.map_take, List.map_drop, List.take_append_drop]
    · cases h

/-- The rows of a list in memory, one behind the other. -/
theorem flatL {b : Nat} : ∀ {l : RL} {o : Nat}, (∀ i r', l[i]? = some r' → ∃ us, RowV w Im q r' us ∧ ∀ j u, us[j]? = some u → w.cell? ⟨b, o + i * q.size + j, none⟩ = some u) →
    ∃ xs, RowsV w Im q l xs ∧ ∀ j u, xs[j]? = some u → w.cell? ⟨b, o + j, none⟩ = some u
  | [], o, h => ⟨[], rfl, fun j u hj => by simp at hj⟩
  | r :: l, o, h => by
    obtain ⟨us, u1, u2⟩ := h 0 r (by simp)
    obtain ⟨xs, x1, x2⟩ := flatL (l := l) (o := o + q.size) fun i r' hi => by
      obtain ⟨vs, v1, v2⟩ := h (i + 1) r' (by simpa using hi)
      refine ⟨vs, v1, fun j u hu => ?_⟩
      have := v2 j u hu
      rw [Nat.succ_mul] at this
      rwa [show o + q.size + i * q.size + j = o + (i * q.size + q.size) + j by omega]
    refine ⟨us ++ xs, ⟨us, xs, rfl, u1, x1⟩, fun j u hj => ?_⟩
    have hl := u1.len.1
    by_cases hjl : j < us.length
    · rw [List.getElem?_append_left hjl] at hj
      have := u2 j u hj
      simpa using this
    · rw [List.getElem?_append_right (by omega)] at hj
      have := x2 _ u hj
      rwa [hl, show o + q.size + (j - q.size) = o + j by omega] at this

theorem infoOf_spec {e size bytes : Nat} (h : infoOf P e = some (size, bytes)) : ∃ i z, P.info? e = some i ∧ i.zero = some z ∧ i.size = size ∧ i.bytes = bytes ∧ z.cells.size = size ∧ 0 < size := by
  unfold infoOf at h
  obtain ⟨i, h1, h2⟩ := Option.bind_eq_some_iff.1 h
  obtain ⟨z, h3, h4⟩ := Option.bind_eq_some_iff.1 h2
  split at h4
  · rename_i hc
    simp only [Option.some.injEq, Prod.mk.injEq] at h4
    obtain ⟨rfl, rfl⟩ := h4
    exact ⟨i, z, h1, h3, rfl, rfl, hc.1, hc.2⟩
  · cases h4
theorem capOf_spec {n bytes : Nat} (h : (n : Int) ≤ capOf bytes) : n * bytes ≤ 140737488355328 ∧ n ≤ maxLen := by
  have h' : n ≤ capOf bytes := by omega
  unfold capOf at h'
  have h1 : n * max bytes 1 ≤ 140737488355328 := by
    have := (Nat.le_div_iff_mul_le (by omega)).1 h'
    exact this
  have h2 : n * bytes ≤ n * max bytes 1 := Nat.mul_le_mul_left _ (by omega)
  have h3 : n * 1 ≤ n * max bytes 1 := Nat.mul_le_mul_left _ (by omega)
  simp only [maxLen]
  omega
theorem wrap_len {n : Nat} (h : n ≤ maxLen) : IntKind.i64.wrap (n : Int) = n := by
  simp only [maxLen] at h
  simp only [IntKind.wrap, IntKind.signed, IntKind.bits]
  simp
  split <;> omega

theorem setRow_Fr {n : Nat} (v : Value) : ∀ b, v.ownBlock = some b → True := fun _ _ => trivial

theorem seg_lemma {α : Type} (cl V us : List α) (A s o N : Nat) (h : us = ((cl.take N).drop A).take s) (h1 : o + V.length ≤ s) (h2 : A + s ≤ N) (h3 : N ≤ cl.length) :
    (cl.take (A + o) ++ V ++ cl.drop (A + o + V.length)).take N = (cl.take N).take A ++ (us.take o ++ V ++ us.drop (o + V.length)) ++ (cl.take N).drop (A + s) := by
  have hul : us.length = s := by rw [h]; simp; omega
  have e1 : (cl.take N).take A = cl.take A := by rw [List.take_take]; congr 1; omega
  have e2 : cl.take (A + o) = cl.take A ++ us.take o := by
    rw [h, List.take_take, List.drop_take, List.take_take, ← List.take_add]
    congr 2
    omega
  rw [e1, e2]
  have e3 : (cl.drop (A + o + V.length)).take (N - (A + o + V.length)) = us.drop (o + V.length) ++ (cl.take N).drop (A + s) := by
    rw [h, ← List.drop_take]
    apply List.ext_getElem?
    intro j
    simp only [List.getElem?_append, List.getElem?_drop, List.getElem?_take, List.length_drop, List.length_take]
    split <;> split <;> (try split) <;> (try split) <;> first | rfl | omega | (congr 1; omega)
  have l1 : (cl.take A).length = A := by simp; omega
  have l2 : (us.take o).length = o := by simp; omega
  have lX : (cl.take A ++ us.take o ++ V).length = A + o + V.length := by rw [List.length_append, List.length_append, l1, l2]
  rw [List.take_append, List.take_of_length_le (by rw [lX]; omega), lX, e3]
  simp

/-- A write into a row of a list of the call's own. -/
theorem OwL.set {ty : Nat} {hd : Hd} {l : RL} (ho : OwL w Im ty (Row.ofKs ks) hd l) {i o : Nat} {es : List Int} {z : List Int} (hz : l[i]? = some z) (he : fits ((ks.drop o).take es.length) es) (hl : o + es.length ≤ ks.length) :
    ∃ w', stSem P w hd.blk (hd.off + i * ks.length + o) (numV ((ks.drop o).take es.length) es) = .ok .skip w' ∧ Fr (fun b => (hd.sl l.length).ownBlock = some b) w w' ∧
      (∀ w1, Fr (fun b => (hd.sl l.length).ownBlock = some b) w w1 → w1 = w' → (∀ b, Im b → w1.heap[b]? = w.heap[b]?) → OwL w1 Im ty (Row.ofKs ks) hd (l.set i (splR z o es))) := by
  obtain ⟨h1, xs, h2, h3⟩ := ho
  have hi : i < l.length := (List.getElem?_eq_some_iff.1 hz).1
  have hsz := ofKs_size ks
  rcases h2.2 with ⟨hn, hl0⟩ | ⟨g, cap, cur, e, k1, k2, k3, k4, k5, k6⟩
  · omega
  · have hg : (hd.sl l.length).ownBlock = some g := by rw [e]; rfl
    have hgb := Hd.own_blk hg
    subst hgb
    have hoff : hd.off = 0 ∧ hd.cap = cap := by
      unfold Hd.sl at e
      cases hnn : hd.nil && l.length == 0
      · rw [hnn] at e; simp at e; exact e
      · rw [hnn] at e; simp at e
    rw [hsz] at k5 k6
    have hx := h3.len
    rw [hsz] at hx
    have hnl := numV_len he
    have hvl : (numV ((ks.drop o).take es.length) es).length = es.length := by rw [hnl]; simp; omega
    have hmul : i * ks.length + ks.length ≤ l.length * ks.length := by
      have : (i + 1) * ks.length ≤ l.length * ks.length := Nat.mul_le_mul_right _ hi
      rwa [Nat.succ_mul] at this
    have hcap : l.length * ks.length ≤ cap * ks.length := Nat.mul_le_mul_right _ k3
    have hones : ∀ v ∈ numV ((ks.drop o).take es.length) es, v.oneCell' = true := fun v hv => RowV.one (w := w) (Im := Im) (RowV_ks.2 ⟨he, rfl⟩) v hv
    have hst := stSem_run (P := P) (off := i * ks.length + o) (vs := numV ((ks.drop o).take es.length) es) k2 (by rw [hvl, k5]; omega) hones
    rw [hoff.1, Nat.zero_add]
    refine ⟨_, hst, ?_, ?_⟩
    · exact (Fr.setRow _ _).mono fun b hb => by rw [hb]; exact hg
    · rintro w1 hf rfl hIm
      obtain ⟨us, u1, u2⟩ := h3.get i z hz
      obtain ⟨f1, f2⟩ := RowV_ks.1 u1
      obtain ⟨s1, s2⟩ := fits_splR f1 he hl
      refine ⟨by simpa using h1, _, ⟨?_, .inr ⟨hd.blk, cap, _, ?_, k1, setRow_heap w hd.blk cur _ ty _ k2, by simpa using k3, k4, ?_, rfl⟩⟩, ?_⟩
      · rw [hsz, List.length_set, List.length_take]
        simp only [List.length_append, List.length_take, List.length_drop, Array.length_toList, List.length_set, hsz]
        rw [hvl, k5]
        omega
      · rw [List.length_set]; exact e
      · rw [hsz]
        simp only [List.size_toArray, List.length_append, List.length_take, List.length_drop, Array.length_toList]
        rw [hvl, k5]
        omega
      · have hset := RowsV.set (w := w) (Im := Im) h3 i (splR z o es) (numV ks (splR z o es)) hi (RowV_ks.2 ⟨s1, rfl⟩)
        rw [hsz] at hset
        have hxs : xs = xs.take (i * ks.length) ++ us ++ xs.drop (i * ks.length + ks.length) := by
          have hul := u1.len.1
          rw [hsz] at hul
          apply List.ext_getElem?
          intro j
          by_cases hj1 : j < i * ks.length
          · rw [List.append_assoc, List.getElem?_append_left (by simp; omega), List.getElem?_take, if_pos hj1]
          · by_cases hj2 : j < i * ks.length + ks.length
            · have hlt : j - i * ks.length < us.length := by omega
              have := u2 (j - i * ks.length) us[j - i * ks.length] (by simp [hlt])
              rw [hsz, show i * ks.length + (j - i * ks.length) = j by omega] at this
              rw [this, List.append_assoc, List.getElem?_append_right (by simp; omega), List.getElem?_append_left (by simp; omega)]
              have e1 : j - (List.take (i * ks.length) xs).length = j - i * ks.length := by simp; omega
              rw [e1]
              simp [hlt]
            · rw [List.getElem?_append_right (by simp; omega), List.getElem?_drop]
              congr 1
              simp
              omega
        have hfin : ((cur.toList.take (i * ks.length + o) ++ numV ((ks.drop o).take es.length) es ++ cur.toList.drop (i * ks.length + o + (numV ((ks.drop o).take es.length) es).length)).toArray.toList.take ((l.set i (splR z o es)).length * (Row.ofKs ks).size)) =
            xs.take (i * ks.length) ++ numV ks (splR z o es) ++ xs.drop (i * ks.length + ks.length) := by
          have hul := u1.len.1
          rw [hsz] at hul
          have hus : us = ((cur.toList.take (l.length * ks.length)).drop (i * ks.length)).take ks.length := by
            apply List.ext_getElem?
            intro j
            by_cases hj : j < ks.length
            · have := u2 j us[j] (by simp [hul, hj])
              rw [hsz, ← k6] at this
              rw [List.getElem?_take, if_pos hj, List.getElem?_drop, this]
              simp [hul, hj]
            · rw [List.getElem?_eq_none (by omega), List.getElem?_eq_none (by simp; omega)]
          have hseg := seg_lemma cur.toList (numV ((ks.drop o).take es.length) es) us (i * ks.length) ks.length o (l.length * ks.length) hus (by rw [hvl]; exact hl) hmul (by have e : cur.toList.length = cur.size := Array.length_toList; omega)
          rw [hvl] at hseg
          rw [s2, ← f2, hsz, List.length_set, ← k6, hvl]
          exact hseg
        rw [hfin]
        exact hset.fr fun b hb => ⟨hb, hIm b hb⟩
end
end Go.Proofs.Ytmolkkphnehgcaa.Ew

/- Maps, parts of slices and what is cleared: what the operations do to the memory tells what they do to the world. -/
import Derived.Test.YtmolkkphnehgcaaWMa
import Derived.Laws.CopyRow
import GoSem.Builtin.Clear
set_option linter.unusedVariables false
set_option linter.unusedSimpArgs false
namespace Go.Proofs.Ytmolkkphnehgcaa.Ew
open Go Go.RowKit

section
variable {P : Program} {F : Fam} {ρ : Nat → Int} {G : Glob} {w0 w w' : World} {M0 Im0 Im Im' T : Nat → Prop} {ad ad' : Nat → Hd} {m m' : Mem} {q : Row} {ks : List K}

/-- A part of a slice, to the address. -/
theorem run_sliceAt_part (w : World) {t e sz : Nat} (ht : P.underlying t = some (.slice e)) (hs : szOf P e = some sz) (hd : Hd) (n : Nat) (hcap : n ≤ hd.cap) (lo hi : Option E) {l u : Int}
    (hlo : lo.map (E.val F ρ) = (lo.map fun _ => Value.int .i64 l)) (hlo0 : lo = none → l = 0) (hhi : hi.map (E.val F ρ) = (hi.map fun _ => Value.int .i64 u)) (hhi0 : hi = none → u = n)
    (h1 : 0 ≤ l) (h2 : l ≤ u) (h3 : u ≤ n) :
    (Instr.sliceAt t (hd.sl n) (lo.map (E.val F ρ)) (hi.map (E.val F ρ)) none).run P w = .ok ((hd.part n l.toNat sz).sl (u.toNat - l.toNat)) w := by
  have run : ∀ (a : Option Addr) (cap : Nat), n ≤ cap → (Instr.sliceAt t (.slice a n cap) (lo.map (E.val F ρ)) (hi.map (E.val F ρ)) none).run P w =
      .ok (.slice (if cap = l.toNat then a else a.map (·.add (l.toNat * sz))) (u.toNat - l.toNat) (cap - l.toNat)) w := fun a cap hc => by
    rw [hlo, hhi]
    have b1 : u ≤ (cap : Int) := by omega
    have b0 : 0 ≤ u := by omega
    have b2 : l ≤ (u.toNat : Int) := by omega
    cases lo with
    | none =>
      have hl := hlo0 rfl
      subst hl
      cases hi with
      | none =>
        have hu := hhi0 rfl
        subst hu
        simp [Instr.sliceAt, Instr.slice, Instr.sliceBounds, run_underlying ht, run_sizeOf' w hs]
      | some q =>
        simp [Instr.sliceAt, Instr.slice, Instr.sliceBounds, Instr.sliceBound, asIntOf, run_underlying ht, run_sizeOf' w hs, b1, b0]
    | some p =>
      cases hi with
      | none =>
        have hu := hhi0 rfl
        subst hu
        have b3 : l ≤ (n : Int) := by omega
        simp [Instr.sliceAt, Instr.slice, Instr.sliceBounds, Instr.sliceBound, asIntOf, run_underlying ht, run_sizeOf' w hs, h1, b3]
      | some q =>
        have b3 : l ≤ max u 0 := by omega
        simp [Instr.sliceAt, Instr.slice, Instr.sliceBounds, Instr.sliceBound, asIntOf, run_underlying ht, run_sizeOf' w hs, h1, b0, b1, b2, b3]
  cases hn : hd.nil && n == 0
  · have e : hd.sl n = .slice (some ⟨hd.blk, hd.off, none⟩) n hd.cap := by unfold Hd.sl; rw [hn]; rfl
    rw [e, run _ _ hcap]
    simp only [Hd.sl, Hd.part, hn, Bool.false_and, cond_false]
    by_cases hc : hd.cap = l.toNat
    · rw [if_pos hc, if_pos hc]
    · rw [if_neg hc, if_neg hc]; simp [Addr.add_none]
  · have hn' := hn
    simp only [Bool.and_eq_true, beq_iff_eq] at hn'
    have e : hd.sl n = .slice none 0 0 := by unfold Hd.sl; rw [hn]; rfl
    have hz : l.toNat = 0 ∧ u.toNat = 0 := by omega
    have run0 := run none 0 (by omega)
    rw [hn'.2] at run0
    rw [e, run0]
    simp [Hd.sl, Hd.part, hn, hz.1, hz.2]

theorem zeroV_spec {e : Nat} {vs : List K} {ag : Bool} (h : zeroV P e vs ag = true) : (∀ w, (zeroValue e).run P w = .ok (keyV vs ag (vs.map fun _ => 0)) w) ∧ fits vs (vs.map fun _ => 0) := by
  unfold zeroV at h
  split at h
  · rename_i i hi
    have key : ∀ z, i.zero = some z → zeroK P e vs = true → (z = .agg z.cells ∧ ag = true ∨ z.cells = #[z] ∧ ag = false) → (∀ w, (zeroValue e).run P w = .ok (keyV vs ag (vs.map fun _ => 0)) w) ∧ fits vs (vs.map fun _ => 0) := fun z hz hk hc => by
      obtain ⟨i', z', j1, j2, j3, j4⟩ := zeroK_spec hk
      rw [hi] at j1
      simp only [Option.some.injEq] at j1
      subst j1
      rw [hz] at j2
      simp only [Option.some.injEq] at j2
      subst j2
      have hv : z = keyV vs ag (vs.map fun _ => 0) := by
        unfold keyV
        rw [← j3]
        rcases hc with ⟨h1, rfl⟩ | ⟨h1, rfl⟩
        · simp only [cond_true]
          rw [h1]; simp [Value.cells]
        · simp only [cond_false]
          rw [h1]; rfl
      exact ⟨fun w => by rw [← hv]; simp [zeroValue, typeInfo, hi, hz], j4⟩
    split at h
    · rename_i cs hz
      simp only [Bool.and_eq_true] at h
      exact key _ hz h.2 (Or.inl ⟨by simp [Value.cells], h.1⟩)
    · rename_i k n hz
      simp only [Bool.and_eq_true, Bool.not_eq_true'] at h
      exact key _ hz h.1.2 (Or.inr ⟨by simp [Value.cells], h.1.1⟩)
    · rename_i b hz
      simp only [Bool.and_eq_true, Bool.not_eq_true'] at h
      exact key _ hz h.1.2 (Or.inr ⟨by simp [Value.cells], h.1.1⟩)
    · cases h
  · cases h
theorem mapInfo_spec {t : Nat} {k : IntKind} {vs : List K} {ag : Bool} (h : mapInfo P t = some (k, vs, ag)) :
    ∃ kt et, P.underlying t = some (.map kt et) ∧ P.underlying kt = some (.int k) ∧ (∀ w, (zeroValue et).run P w = .ok (keyV vs ag (vs.map fun _ => 0)) w) ∧ fits vs (vs.map fun _ => 0) := by
  unfold mapInfo at h
  split at h
  · rename_i kt et hu
    split at h
    · rename_i k' hk
      split at h
      · rename_i vs' ag' h1 h2
        split at h
        · rename_i hz
          simp only [Option.some.injEq, Prod.mk.injEq] at h
          obtain ⟨rfl, rfl, rfl⟩ := h
          exact ⟨kt, et, hu, hk, zeroV_spec hz⟩
        · cases h
      · cases h
    · cases h
  · cases h

def gotV (zv : Value) : Option (Nat × Value) → Value
  | some (_, v) => v
  | none => zv
theorem run_lookup_int {t kt et : Nat} {k : IntKind} {zv : Value} {b ck : Nat} {es : Array MapEntry} (hm : P.underlying t = some (.map kt et)) (hk : P.underlying kt = some (.int k)) (hz : ∀ w, (zeroValue et).run P w = .ok zv w)
    (hb : w.heap[b]? = some (.map es ck)) (z : Int) (res : Option (Nat × Value)) (hf : Instr.findNow (.int k) (.int k z) es.toList 0 = some res) (ok : Bool) :
    (Instr.lookup t (.map (some b)) (.int k z) ok).run P w = .ok (bif ok then .tuple #[gotV zv res, .bool res.isSome] else gotV zv res) w := by
  have hkk : MapKept.IsKey (.int k) (.int k z) := rfl
  cases res with
  | none => cases ok <;> simp [Instr.lookup, run_underlying hm, MapKept.run_getObj_map hb, MapKept.run_checkKey hk hkk, MapKept.run_findKey hk hf, hz, Result.andThen, gotV]
  | some r =>
    obtain ⟨i, v⟩ := r
    cases ok <;> simp [Instr.lookup, run_underlying hm, MapKept.run_getObj_map hb, MapKept.run_checkKey hk hkk, MapKept.run_findKey hk hf, hz, Result.andThen, gotV]

theorem mapAt_spec {t n : Nat} {key : SV} {g : E} {k : IntKind} {vs : List K} {ag : Bool} {c e : E} (h : mapAt P m t n key = some (g, k, vs, ag, c, e)) :
    m.at n = some (g, .mp [.i k] vs false ag c) ∧ mapInfo P t = some (k, vs, ag) ∧ key = .sc e ∧ g.kind = .b ∧ e.kind = .i k ∧ e.sound = true ∧ c.kind = .x := by
  unfold mapAt at h
  split at h
  · rename_i g' ks' vs' kag vag c' k' vs'' ag' e' h1 h2
    split at h
    · rename_i hc
      obtain ⟨rfl, rfl, rfl, rfl, c5, c6, c7, c8⟩ := hc
      simp only [Option.some.injEq, Prod.mk.injEq] at h
      obtain ⟨rfl, rfl, rfl, rfl, rfl, rfl⟩ := h
      exact ⟨h1, h2, rfl, c5, c6, c7, c8⟩
    · cases h
  · cases h

theorem colsM_conc (hB : BI F) {c e : E} {n : Nat} {R : List Int} (hR : ((dc (c.den F ρ)).find? fun r => r.take 1 == [e.den F ρ]).getD ([e.den F ρ] ++ List.replicate n 0) = R) :
    ∀ (ks : List K) (j : Nat), fits ks (R.drop j) → SV.concL F ρ ad (colsM c e n ks j) = numV ks (R.drop j)
  | [], j, _ => by simp [colsM, SV.concL, numV]
  | k :: ks, j, hf => by
    cases hd : R.drop j with
    | nil => rw [hd] at hf; exact hf.elim
    | cons x xs =>
      rw [hd] at hf
      have hj : R.getD j 0 = x := by
        have h0 : (R.drop j)[0]? = some x := by rw [hd]; rfl
        rw [List.getElem?_drop, Nat.add_zero] at h0
        simp [List.getD, h0]
      have hx : R.drop (j + 1) = xs := by
        rw [← List.drop_drop, hd]; rfl
      have hv : (E.app k 0 9 [c, .lit .x n, .lit .x j, e]).den F ρ = x := by
        rw [den_app0 hB]
        simp only [List.map_cons, List.map_nil, bi, E.den, K.norm, Int.toNat_natCast, List.length_singleton, hR, hj]
        exact hf.1
      have ih := colsM_conc hB hR ks (j + 1) (by rw [hx]; exact hf.2)
      simp only [colsM, SV.concL, SV.conc, ih, hx, numV, List.zipWith_cons_cons]
      congr 1
      rw [← val_of_kind, hv]; rfl
theorem colsM_ok {p : Nat → Prop} (c e : E) (n : Nat) : ∀ (ks : List K) (j : Nat), SV.okL p (colsM c e n ks j)
  | [], _ => trivial
  | _ :: ks, j => ⟨trivial, colsM_ok c e n ks (j + 1)⟩
theorem shpV_conc {ag : Bool} {l : List SV} {vs : List K} {us : List Int} (h : SV.concL F ρ ad l = numV vs us) : (shpV ag l).conc F ρ ad = keyV vs ag us := by
  cases ag
  · simp only [shpV, keyV, cond_false]
    rw [← h]
    cases l <;> rfl
  · simp only [shpV, keyV, cond_true, SV.conc, h]
theorem shpV_ok {p : Nat → Prop} {ag : Bool} {l : List SV} (h : SV.okL p l) : (shpV ag l).ok p := by
  cases ag
  · cases l with
    | nil => trivial
    | cons v r => exact h.1
  · exact h

/-- What stands in a map's row, or zero. -/
def rowM (l : RL) (z : Int) (n : Nat) : List Int := (l.find? fun r => r.take 1 == [z]).getD ([z] ++ List.replicate n 0)

theorem mapTold (hR : Rel F ρ w0 M0 Im0 ad m w) {n : Nat} {g : E} {k : IntKind} {vs : List K} {ag : Bool} {c : E} (hn : m.at n = some (g, .mp [.i k] vs false ag c)) (hg : g.tt F ρ = true) :
    isCd (c.den F ρ) ∧ ∃ es ck, w.heap[(ad n).blk]? = some (.map es ck) ∧ MapV [.i k] vs false ag es (dc (c.den F ρ)) := by
  obtain ⟨hM, Im, h1, h2, hI⟩ := hR
  exact (hI.ent n g _ hn hg).1

theorem has_den (hB : BI F) {c e : E} : (E.app .b 0 8 [c, e]).den F ρ = b2i ((dc (c.den F ρ)).any fun r => r.take 1 == [e.den F ρ]) := by
  rw [den_app0 hB]
  simp only [List.map_cons, List.map_nil, bi, List.length_singleton, K.norm]
  cases (dc (c.den F ρ)).any fun r => r.take 1 == [e.den F ρ] <;> rfl

theorem mlk_sound (hB : BI F) (hR : Rel F ρ w0 M0 Im0 ad m w) {t n : Nat} {key : SV} {ok : Bool} {g : E} {k : IntKind} {vs : List K} {ag : Bool} {c e : E} (h : mapAt P m t n key = some (g, k, vs, ag, c, e)) (hg : g.tt F ρ = true) :
    Done F ρ w0 M0 Im0 ad m m (valN ((Instr.lookup t (.map (some (ad n).blk)) (key.conc F ρ ad) ok).run P w)) (bif ok then .tup [shpV ag (colsM c e vs.length vs 1), .sc (.app .b 0 8 [c, e])] else shpV ag (colsM c e vs.length vs 1)) := by
  obtain ⟨hn, hi, rfl, k1, k2, k3, k4⟩ := mapAt_spec h
  obtain ⟨kt, et, t1, t2, t3, t4⟩ := mapInfo_spec hi
  obtain ⟨hc, es, ck, hb, hs, l', hp, hz⟩ := mapTold hR hn hg
  have he : (SV.sc e).conc F ρ ad = .int k (e.den F ρ) := by simp only [SV.conc, E.val_i k2]
  rw [he]
  have hok : SV.okL (al m) (colsM c e vs.length vs 1) := colsM_ok c e vs.length vs 1
  have fin : ∀ (res : Option (Nat × Value)) (us : List Int), Instr.findNow (.int k) (.int k (e.den F ρ)) es.toList 0 = some res → fits vs us → gotV (keyV vs ag (vs.map fun _ => 0)) res = keyV vs ag us →
      ((dc (c.den F ρ)).find? fun r => r.take 1 == [e.den F ρ]).getD ([e.den F ρ] ++ List.replicate vs.length 0) = e.den F ρ :: us → ((dc (c.den F ρ)).any fun r => r.take 1 == [e.den F ρ]) = res.isSome →
      Done F ρ w0 M0 Im0 ad m m (valN ((Instr.lookup t (.map (some (ad n).blk)) (.int k (e.den F ρ)) ok).run P w)) (bif ok then .tup [shpV ag (colsM c e vs.length vs 1), .sc (.app .b 0 8 [c, e])] else shpV ag (colsM c e vs.length vs 1)) := fun res us h1 h2 h3 h4 h5 => by
    have hcols := colsM_conc (ad := ad) hB h4 vs 1 (by simpa using h2)
    simp only [List.drop_succ_cons, List.drop_zero] at hcols
    have hv := shpV_conc (ag := ag) hcols
    have hh : (SV.sc (E.app .b 0 8 [c, e])).conc F ρ ad = .bool res.isSome := by
      simp only [SV.conc, E.val_b (show (E.app .b 0 8 [c, e]).kind = .b from rfl), E.tt, has_den hB, i2b_b2i, h5]
    rw [run_lookup_int t1 t2 t3 hb _ res h1 ok, h3]
    cases ok
    · exact ⟨ad, w, Or.inl (by simp [valN, hv]), hR, Ext.refl _ _, shpV_ok hok⟩
    · refine ⟨ad, w, Or.inl ?_, hR, Ext.refl _ _, ⟨shpV_ok hok, trivial, trivial⟩⟩
      simp only [valN, Result.andThen_ok, cond_true, SV.conc, SV.concL] at hh ⊢
      rw [hv, hh]
  have hanyf : ∀ (p : List Int → Bool) (l : RL), l.any p = (l.find? p).isSome := fun p l => by
    induction l with
    | nil => rfl
    | cons a l ih => simp only [List.any_cons, List.find?_cons, ih]; cases p a <;> simp
  rcases find_key hs hp hz (e.den F ρ) with ⟨f1, f2, f3⟩ | ⟨i, en, us, f1, f2, f3, f4, f5, f6⟩
  · refine fin none (vs.map fun _ => 0) f1 t4 rfl ?_ (by rw [hanyf, f2]; rfl)
    rw [f2]
    simp [List.map_const']
  · refine fin (some (i, keyV vs ag us)) us f1 f5 rfl (by rw [f6]; rfl) (by rw [hanyf, f6]; rfl)

theorem Fr.setObj {b : Nat} {o o' : Obj} (hb : w.heap[b]? = some o) : Fr (fun x => x = b) w { w with heap := w.heap.setIfInBounds b o' } :=
  ⟨rfl, rfl, rfl, by simp, fun k _ hn => (MapKept.heap_set hb).2 k hn⟩

theorem map_turn (hR : Rel F ρ w0 M0 Im0 ad m w) {n : Nat} {g : E} {k : IntKind} {vs : List K} {ag : Bool} {c c' : E} {es es' : Array MapEntry} {ck ck' : Nat} (hn : m.at n = some (g, .mp [.i k] vs false ag c)) (hg : g.tt F ρ = true)
    (hb : w.heap[(ad n).blk]? = some (.map es ck)) (hc' : isCd (c'.den F ρ)) (hV : MapV [.i k] vs false ag es' (dc (c'.den F ρ))) :
    Rel F ρ w0 M0 Im0 ad (m.set n (some (g, .mp [.i k] vs false ag c'))) { w with heap := w.heap.setIfInBounds (ad n).blk (.map es' ck') } := by
  refine hR.turn hn (Fr.setObj hb) (fun b hbb => ⟨by simp only [mutB, hbb], hg⟩) (fun Im' hI' _ => ⟨hc', es', ck', (MapKept.heap_set hb).1, hV⟩) (fun b hb => hb) trivial

theorem arr_modify {α : Type} (a : Array α) (i : Nat) (f : α → α) (x : α) (h : a[i]? = some x) : (a.modify i f).toList = a.toList.set i (f x) := by
  apply List.ext_getElem?
  intro j
  simp only [Array.getElem?_toList, Array.getElem?_modify, List.getElem?_set, Array.length_toList]
  have hi := (Array.getElem?_eq_some_iff.1 h).1
  by_cases hij : i = j
  · subst hij
    have hx : a[i] = x := by simpa [hi] using h
    simp [hi, hx]
  · simp [hij]

theorem mup_sound (hB : BI F) (hR : Rel F ρ w0 M0 Im0 ad m w) {t n : Nat} {key val : SV} {g : E} {k : IntKind} {vs : List K} {ag : Bool} {c e : E} {es : List E} (h : mapAt P m t n key = some (g, k, vs, ag, c, e)) (hsc : scs vs val.cells = some es) (ha : isAg val = ag) (hg : g.tt F ρ = true) :
    Done F ρ w0 M0 Im0 ad m (m.set n (some (g, .mp [.i k] vs false ag (.app .x 0 10 (c :: .lit .x 1 :: e :: es))))) (((Instr.mapUpdate t (.map (some (ad n).blk)) (key.conc F ρ ad) (val.conc F ρ ad)).run P w).andThen fun _ w' => .ok .skip w') .und := by
  obtain ⟨hn, hi, rfl, k1, k2, k3, k4⟩ := mapAt_spec h
  obtain ⟨kt, et, t1, t2, t3, t4⟩ := mapInfo_spec hi
  obtain ⟨hc, en, ck, hb, hs, l', hp, hz⟩ := mapTold hR hn hg
  have he : (SV.sc e).conc F ρ ad = .int k (e.den F ρ) := by simp only [SV.conc, E.val_i k2]
  obtain ⟨s1, s2, s3⟩ := scs_spec F ρ ad hsc
  have hv : val.conc F ρ ad = keyV vs ag (es.map (E.den F ρ)) := by
    unfold keyV
    rw [← s2, ← ha]
    cases val <;> first | rfl | (simp only [isAg, cond_false, SV.cells, SV.concL]; rfl)
  rw [he, hv]
  have hw : k.wrap (e.den F ρ) = e.den F ρ := by
    have := E.den_norm F ρ e k3
    rw [k2] at this; exact this
  generalize hus : es.map (E.den F ρ) = us at s1 hv ⊢
  generalize hzz : e.den F ρ = z at he hw ⊢
  have hden : (E.app .x 0 10 (c :: .lit .x 1 :: e :: es)).den F ρ = cd (putR 1 (z :: us) (dc (c.den F ρ))) := by
    rw [den_app0 hB]
    simp only [List.map_cons, hus, hzz, bi, K.norm, E.den]
    rfl
  have hkk : MapKept.IsKey (.int k) (.int k z) := rfl
  have hperm := putR_perm (n := 1) (row := z :: us) hs
  have hent : ∀ b, EntV [.i k] vs false ag ⟨.int k z, keyV vs ag us, b⟩ (z :: us) := fun b => entV_mk hw s1
  rcases find_key hs hp hz z with ⟨f1, f2, f3⟩ | ⟨i, en1, us1, f1, f2, f3, f4, f5, f6⟩
  · refine ⟨ad, _, Or.inr ⟨?_, rfl⟩, map_turn hR hn hg hb (es' := en.push ⟨.int k z, keyV vs ag us, ck⟩) (ck' := ck + 1) (by rw [hden]; exact isCd_cd _) ?_, Ext.set ad hn, trivial⟩
    · simp [Instr.mapUpdate, run_underlying t1, MapKept.run_getObj_map hb, MapKept.run_checkKey t2 hkk, MapKept.run_findKey t2 f1, MapKept.run_setObj_map _ hb, Result.andThen]
    · rw [hden, dc_cd]
      refine ⟨putR_sorted hs, l' ++ [z :: us], ?_, ?_⟩
      · refine List.Perm.trans ?_ hperm.symm
        refine (List.perm_append_comm (l₁ := l') (l₂ := [z :: us])).trans (List.Perm.cons _ ?_)
        have : (dc (c.den F ρ)).filter (fun r => !(r.take 1 == (z :: us).take 1)) = dc (c.den F ρ) := filter_all fun a ha => by
          have := f3 a (hp.mem_iff.2 ha)
          simpa using this
        rw [this]; exact hp
      · rw [Array.toList_push]
        exact hz.snoc _ _ (hent ck)
  · have hj : en[i]? = some en1 := by simpa using f2
    refine ⟨ad, _, Or.inr ⟨?_, rfl⟩, map_turn hR hn hg hb (es' := en.modify i fun e => { e with key := .int k z, val := keyV vs ag us }) (ck' := ck) (by rw [hden]; exact isCd_cd _) ?_, Ext.set ad hn, trivial⟩
    · simp [Instr.mapUpdate, run_underlying t1, MapKept.run_getObj_map hb, MapKept.run_checkKey t2 hkk, MapKept.run_findKey t2 f1, hj, f3, MapKept.run_keyThatStays hkk, MapKept.run_setObj_map _ hb, Result.andThen]
    · rw [hden, dc_cd]
      refine ⟨putR_sorted hs, l'.set i (z :: us), ?_, ?_⟩
      · refine List.Perm.trans ?_ hperm.symm
        have h1 := set_perm (row := z :: us) (ne_perm hp hs.ne) f4 (k := [z]) rfl
        exact h1.trans (List.Perm.cons _ (hp.filter _))
      · rw [arr_modify _ _ _ _ hj]
        exact hz.set i _ _ (hent _)

theorem mdl_sound (hB : BI F) (hR : Rel F ρ w0 M0 Im0 ad m w) {t kt' ty n : Nat} {key : SV} {g : E} {k : IntKind} {vs : List K} {ag : Bool} {c e : E} (h : mapAt P m t n key = some (g, k, vs, ag, c, e)) (hg : g.tt F ρ = true) :
    Done F ρ w0 M0 Im0 ad m (m.set n (some (g, .mp [.i k] vs false ag (.app .x 0 11 [c, e])))) (valN ((Builtin.delete_ #[t, kt'] ty #[.map (some (ad n).blk), key.conc F ρ ad]).run P w)) (.tup []) := by
  obtain ⟨hn, hi, rfl, k1, k2, k3, k4⟩ := mapAt_spec h
  obtain ⟨kt, et, t1, t2, t3, t4⟩ := mapInfo_spec hi
  obtain ⟨hc, en, ck, hb, hs, l', hp, hz⟩ := mapTold hR hn hg
  have he : (SV.sc e).conc F ρ ad = .int k (e.den F ρ) := by simp only [SV.conc, E.val_i k2]
  rw [he]
  generalize hzz : e.den F ρ = z at he ⊢
  have hden : (E.app .x 0 11 [c, e]).den F ρ = cd (delR [z] (dc (c.den F ρ))) := by
    rw [den_app0 hB]
    simp only [List.map_cons, List.map_nil, hzz, bi, K.norm]
  have hkk : MapKept.IsKey (.int k) (.int k z) := rfl
  have hdel := delR_filter (k := [z]) (n := 1) rfl hs
  rcases find_key hs hp hz z with ⟨f1, f2, f3⟩ | ⟨i, en1, us1, f1, f2, f3, f4, f5, f6⟩
  · refine ⟨ad, _, Or.inl ?_, map_turn hR hn hg hb (es' := en) (ck' := ck) (by rw [hden]; exact isCd_cd _) ?_, Ext.set ad hn, trivial⟩
    · simp [valN, Builtin.delete_, run_underlying t1, MapKept.run_getObj_map hb, MapKept.run_checkKey t2 hkk, MapKept.run_findKey t2 f1, MapKept.run_setObj_map _ hb, Result.andThen, SV.conc, SV.concL]
    · rw [hden, dc_cd]
      refine ⟨delR_sorted (k := [z]) (n := 1) rfl hs, l', ?_, hz⟩
      rw [hdel]
      have : (dc (c.den F ρ)).filter (fun r => !(r.take 1 == [z])) = dc (c.den F ρ) := filter_all fun a ha => by
        have := f3 a (hp.mem_iff.2 ha)
        simpa using this
      rw [this]; exact hp
  · have hj : en[i]? = some en1 := by simpa using f2
    refine ⟨ad, _, Or.inl ?_, map_turn hR hn hg hb (es' := en.eraseIdxIfInBounds i) (ck' := ck) (by rw [hden]; exact isCd_cd _) ?_, Ext.set ad hn, trivial⟩
    · simp [valN, Builtin.delete_, run_underlying t1, MapKept.run_getObj_map hb, MapKept.run_checkKey t2 hkk, MapKept.run_findKey t2 f1, MapKept.run_setObj_map _ hb, Result.andThen, SV.conc, SV.concL]
    · rw [hden, dc_cd]
      refine ⟨delR_sorted (k := [z]) (n := 1) rfl hs, l'.eraseIdx i, ?_, ?_⟩
      · rw [hdel, erase_perm (ne_perm hp hs.ne) f4 (k := [z]) rfl]
        exact hp.filter _
      · have hi' := (Array.getElem?_eq_some_iff.1 hj).1
        have : (en.eraseIdxIfInBounds i).toList = en.toList.eraseIdx i := by simp [Array.eraseIdxIfInBounds, hi']
        rw [this]
        exact hz.erase i

theorem mnew_sound (hB : BI F) (hR : Rel F ρ w0 M0 Im0 ad m w) {k : IntKind} {vs : List K} {ag : Bool} {nm : Nat} (hn1 : nm < m.length) (hn2 : (m.at nm).isNone = true) :
    Done F ρ w0 M0 Im0 ad m (m.set nm (some (mkB true, .mp [.i k] vs false ag NILL))) (.ok (.value (.map (some w.heap.size))) (w.alloc (.map #[] 0))) (.mp nm) := by
  obtain ⟨hM, Im, h1, h2, hI⟩ := hR
  refine ⟨upd ad nm ⟨w.heap.size, 0, 0, false, undef⟩, w.alloc (.map #[] 0), Or.inl ?_, ⟨hM, Im, h1, h2, ?_⟩, Ext.put (ns := []) _ hn1 hn2, al_put (ns := []) hn1⟩
  · simp [SV.conc, upd_same]
  · refine hI.put (ns := []) (T := fun _ => False) (Fr.alloc _ _ _) (fun b hb => hb.elim) hn1 hn2 ?_ (fun b hb => ?_) trivial
    · refine ⟨by rw [hB.nil (ρ := ρ)]; exact isCd_cd _, #[], 0, by simp only [upd_same]; exact (MapKept.heap_alloc w _).1, ?_⟩
      rw [hB.nil (ρ := ρ), dc_cd]
      exact ⟨List.Pairwise.nil, [], List.Perm.refl _, trivial⟩
    · simp only [mutB, upd_same, Option.some.injEq] at hb
      subst hb
      exact ⟨by simp, Or.inl (Nat.le_refl _)⟩

theorem mln_sound (hB : BI F) (hR : Rel F ρ w0 M0 Im0 ad m w) {t ty n : Nat} {g : E} {ks vs : List K} {kag vag : Bool} {c : E} (hn : m.at n = some (g, .mp ks vs kag vag c)) (hk : g.kind = .b) (ht : mapT P t = true) :
    (mkAnd g (mkCmp .leq (.app .x 0 0 [c]) (.lit .x maxLen))).kind = .b ∧ ((mkAnd g (mkCmp .leq (.app .x 0 0 [c]) (.lit .x maxLen))).tt F ρ = true →
      Done F ρ w0 M0 Im0 ad m m (valN ((Builtin.len_ #[t] ty #[.map (some (ad n).blk)]).run P w)) (.sc (LEN c))) := by
  have p1 := mkCmp_spec .leq (.app .x 0 0 [c]) (.lit .x maxLen) F ρ
  have p2 := mkAnd_spec g _ hk p1.2 F ρ
  refine ⟨p2.2, fun hg => ?_⟩
  rw [p2.1, Bool.and_eq_true] at hg
  have hle := leq_spec hg.2
  rw [den_app0 hB] at hle
  simp only [List.map_cons, List.map_nil, bi, K.norm] at hle
  have hR' := hR
  obtain ⟨hM, Im, h1, h2, hI⟩ := hR
  obtain ⟨hc, es, ck, hb, hs, l', hp, hz⟩ := (hI.ent n g _ hn hg.1).1
  have hsz : es.size = (dc (c.den F ρ)).length := by
    have := hz.len
    rw [hp.length_eq] at this
    simpa using this
  have hlen : (LEN c).den F ρ = ((dc (c.den F ρ)).length : Int) := by rw [hB.len, wrap_small (by omega)]
  obtain ⟨a, b, hab⟩ : ∃ a b, P.underlying t = some (.map a b) := by
    unfold mapT at ht
    split at ht
    · rename_i a b h; exact ⟨a, b, h⟩
    · cases ht
  refine ⟨ad, w, Or.inl ?_, hR', Ext.refl _ _, trivial⟩
  simp only [SV.conc, E.val_i (show (LEN c).kind = .i .i64 from rfl), hlen, ← hsz]
  simp [valN, Builtin.len_, run_underlying hab, MapKept.run_getObj_map hb, Result.andThen, goInt]

theorem vix_sound (hB : BI F) (hR : Rel F ρ w0 M0 Im0 ad m w) {t n str ty : Nat} {row : Row} {l0 lo hi i : E} {V : LV} (hV : viewL m ty row (.sv n str l0 lo hi) = some V) (ht : elemOf P t = some ty) (hs : szOf P ty = some str) (hik : i.kind = .i .i64) (hlk : lo.kind = .i .i64) (hal : al m n) :
    (mkAnd V.g (inB i V.le)).kind = .b ∧ ((mkAnd V.g (inB i V.le)).tt F ρ = true → Done F ρ w0 M0 Im0 ad m m (valN ((Instr.indexAt t ((SV.sv n str l0 lo hi).conc F ρ ad) (i.val F ρ)).run P w)) (.pe n str (mkBin .add .i64 lo i) 0)) := by
  obtain ⟨k1, k2, k3⟩ := viewL_kind hV
  have p1 := mkAnd_spec V.g (inB i V.le) k3 (inB_spec (F := F) (ρ := ρ)).1 F ρ
  refine ⟨p1.2, fun hg => ?_⟩
  rw [p1.1, Bool.and_eq_true] at hg
  have hR' := hR
  obtain ⟨hM, Im, h1, h2, hI⟩ := hR
  obtain ⟨hd, o1, o2, o3, o4, o5, o6, o7⟩ := viewL_spec hB hI hV hg.1
  obtain ⟨b1, b2⟩ := inB_lt o3 hg.2
  -- what the part is of
  have hV' := hV
  simp only [viewL] at hV'
  split at hV'
  · rename_i g ty' row' own le' c hn
    split at hV'
    · rename_i hc
      obtain ⟨rfl, rfl, rfl, h3, h4, h5, h6⟩ := hc
      simp only [Option.some.injEq] at hV'
      subst hV'
      simp only at hg o1 o3 o4 b1
      have hgg := hg.1
      rw [(mkAnd_spec _ _ h6 (svG_spec (F := F) (ρ := ρ)).1 F ρ).1, Bool.and_eq_true] at hgg
      obtain ⟨c1, c2, c3⟩ := (svG_spec (F := F) (ρ := ρ)).2 hgg.2
      obtain ⟨⟨j1, j2, j3⟩, i2⟩ := hI.ent n g _ hn hgg.1
      have hrd : RdL w Im row' (ad n) (dc (c.den F ρ)) := by
        cases own
        · simp only [cond_false] at j3; exact j3.rd
        · simp only [cond_true] at j3; exact j3.rd
      obtain ⟨d1, d2, d3⟩ := hrd
      have hden : (E.app .x 0 5 [c, lo, hi]).den F ρ = cd (((dc (c.den F ρ)).take (hi.den F ρ).toNat).drop (lo.den F ρ).toNat) := by
        rw [den_app0 hB]; rfl
      have hsl : (((dc (c.den F ρ)).take (hi.den F ρ).toNat).drop (lo.den F ρ).toNat).length = (hi.den F ρ).toNat - (lo.den F ρ).toNat := by simp; omega
      rw [hden, dc_cd, hsl] at b1
      have hle := E.same_eq _ _ h3
      subst hle
      have hsum : (mkBin .add .i64 lo i).den F ρ = lo.den F ρ + i.den F ρ := by
        have hb := mkBin_spec .add .i64 lo i F ρ
        have hv := hb.1
        rw [E.val_i hb.2] at hv
        simp only [Value.int.injEq, true_and] at hv
        rw [hv]
        simp only [binI]
        have hnn : lo.den F ρ + i.den F ρ = (((lo.den F ρ).toNat + (i.den F ρ).toNat : Nat) : Int) := by omega
        rw [hnn]
        exact wrap_small (by omega)
      have hu := elemOf_spec ht
      have hform : (SV.sv n row'.size l0 lo hi).conc F ρ ad = .slice (some ⟨(ad n).blk, (ad n).off + (lo.den F ρ).toNat * row'.size, none⟩) ((hi.den F ρ).toNat - (lo.den F ρ).toNat) ((ad n).cap - (lo.den F ρ).toNat) := by
        simp only [SV.conc, Hd.sl]
        have : (((hi.den F ρ).toNat - (lo.den F ρ).toNat) == 0) = false := by simp; omega
        rw [this]
        simp only [Bool.and_false, cond_false, Hd.part]
        rw [if_neg (by omega)]
      refine ⟨ad, w, Or.inl ?_, hR', Ext.refl _ _, hal⟩
      rw [hform, E.val_i hik]
      have hnn : 0 ≤ i.den F ρ := by omega
      have hlt : i.den F ρ < (((hi.den F ρ).toNat - (lo.den F ρ).toNat : Nat) : Int) := by omega
      have hto : (lo.den F ρ + i.den F ρ).toNat = (lo.den F ρ).toNat + (i.den F ρ).toNat := by omega
      have hmul : (ad n).off + (lo.den F ρ).toNat * row'.size + (i.den F ρ).toNat * row'.size = (ad n).off + ((lo.den F ρ).toNat + (i.den F ρ).toNat) * row'.size := by rw [Nat.add_mul]; omega
      have hlt' : ¬ (((hi.den F ρ).toNat - (lo.den F ρ).toNat : Nat) : Int) ≤ i.den F ρ := by omega
      simp only [SV.conc, hsum, hto]
      simp [valN, Instr.indexAt, run_underlying hu, asIntOf, hnn, hlt, hlt', run_sizeOf' w hs, Addr.add_none, hmul]
    · cases hV'
  · cases hV'

theorem clr_sound (hR : Rel F ρ w0 M0 Im0 ad m w) {t ty e n : Nat} {row : Row} {le c g : E} (hn : m.at n = some (g, .lst e row true le c)) (hr : rowKs row = some ks) (ht : elemOf P t = some e) (hz : zeroK P e ks = true) (hg : g.tt F ρ = true) :
    Done F ρ w0 M0 Im0 ad m (m.set n (some (g, .dead))) (valN ((Builtin.clear_ #[t] ty #[(SV.ls n le).conc F ρ ad]).run P w)) (.tup []) := by
  have hR' := hR
  obtain ⟨hM, Im, h1, h2, hI⟩ := hR
  obtain ⟨⟨i1, i2, i3⟩, i4⟩ := hI.ent n g _ hn hg
  have hq := rowKs_eq hr
  subst hq
  simp only [cond_true] at i3
  obtain ⟨j1, xs, j2, j3⟩ := i3
  have hu := elemOf_spec ht
  have hlen : (le.den F ρ).toNat = (dc (c.den F ρ)).length := by rw [i2]; simp
  simp only [SV.conc, hlen]
  obtain ⟨inf, z, z1, z2, z3, z4⟩ := zeroK_spec hz
  have done : ∀ w', (Builtin.clear_ #[t] ty #[(ad n).sl (dc (c.den F ρ)).length]).run P w = .ok (.tuple #[]) w' → Fr (fun b => ((ad n).sl (dc (c.den F ρ)).length).ownBlock = some b) w w' →
      Done F ρ w0 M0 Im0 ad m (m.set n (some (g, .dead))) (valN ((Builtin.clear_ #[t] ty #[(ad n).sl (dc (c.den F ρ)).length]).run P w)) (.tup []) := fun w' hw hf => by
    refine ⟨ad, w', Or.inl (by rw [hw]; simp [valN, SV.conc, SV.concL]), ?_, Ext.set ad hn, trivial⟩
    exact hR'.turn hn hf (fun b hb => ⟨by simp only [mutB, hlen]; exact hb, hg⟩) (fun _ _ _ => trivial) (fun b hb => by simp [mutB] at hb) trivial
  rcases j2.2 with ⟨hnil, hl0⟩ | ⟨gb, cap, cur, e1, k1, k2, k3, k4, k5, k6⟩
  · refine done w ?_ (Fr.refl _ _)
    rw [hnil]
    simp [Builtin.clear_, run_underlying hu, Result.andThen]
  · by_cases h0 : (dc (c.den F ρ)).length = 0
    · refine done w ?_ (Fr.refl _ _)
      rw [e1, h0]
      simp [Builtin.clear_, run_underlying hu, Result.andThen]
    · obtain ⟨k, hk⟩ : ∃ k, (dc (c.den F ρ)).length = k + 1 := ⟨(dc (c.den F ρ)).length - 1, by omega⟩
      have hzs : z.cells.size = ks.length := by
        have := congrArg List.length z3
        rw [numV_len z4] at this
        simpa using this
      have hones : ∀ v ∈ (Builtin.zeroCells z.cells (dc (c.den F ρ)).length).toList, v.oneCell' = true := fun v hv => by
        by_cases hks : ks.length = 0
        · simp [Builtin.zeroCells, hzs, hks] at hv
        · simp only [Builtin.zeroCells, Array.toList_map, List.mem_map] at hv
          obtain ⟨i, _, rfl⟩ := hv
          have hlt : i % z.cells.size < z.cells.size := Nat.mod_lt _ (by omega)
          have hm : z.cells[i % z.cells.size]! ∈ numV ks (ks.map fun _ => 0) := by
            rw [← z3, Array.mem_toList_iff]
            rw [getElem!_pos z.cells _ hlt]
            exact Array.getElem_mem hlt
          exact RowV.one (w := w) (Im := Im) (RowV_ks.2 ⟨z4, rfl⟩) _ hm
      have hcap : (dc (c.den F ρ)).length * ks.length ≤ cap * ks.length := Nat.mul_le_mul_right _ k3
      rw [ofKs_size] at k5
      have hst := run_storeCells_at (P := P) gb 0 e (Builtin.zeroCells z.cells (dc (c.den F ρ)).length).toList 0 cur w k2 (by simp [Builtin.zeroCells, hzs, k5]; omega) hones
      obtain ⟨X, hX⟩ : ∃ X, Sem.run P (storeCells ⟨gb, 0, none⟩ (Builtin.zeroCells z.cells (dc (c.den F ρ)).length).toList 0) w = .ok () (w.setRow gb X) := ⟨_, hst⟩
      refine done (w.setRow gb X) ?_ ((Fr.setRow gb X).mono fun b hb => by rw [hb, e1]; rfl)
      rw [e1, hk]
      rw [hk] at hX
      simp only [Builtin.clear_, Sem.run_bind]
      simp [run_underlying hu, zeroValue, typeInfo, z1, z2, Result.andThen, hX]

theorem subV_sound (hB : BI F) (hR : Rel F ρ w0 M0 Im0 ad m w) {t e : Nat} {x : SV} {lo hi : Option E} {g : E} {v : SV} (h : subV P m t e x lo hi = some (g, v, m')) :
    g.kind = .b ∧ (g.tt F ρ = true → Done F ρ w0 M0 Im0 ad m m' (valN ((Instr.sliceAt t (x.conc F ρ ad) (lo.map (E.val F ρ)) (hi.map (E.val F ρ)) none).run P w)) v) := by
  unfold subV at h
  split at h
  · rename_i n le
    split at h
    · rename_i g' ty row le' c hn
      simp only at h
      split at h
      · rename_i hc
        obtain ⟨rfl, c2, c3, c4, c5, c6, c7, c8, c9⟩ := hc
        simp only [Option.some.injEq, Prod.mk.injEq] at h
        obtain ⟨rfl, rfl, rfl⟩ := h
        have hle := E.same_eq _ _ c2
        subst hle
        have p1 := svG_spec (F := F) (ρ := ρ) (lo := lo.getD (.lit (.i .i64) 0)) (hi := hi.getD le) (le := le)
        have p2 := mkAnd_spec g' _ c5 p1.1 F ρ
        refine ⟨p2.2, fun hg => ?_⟩
        rw [p2.1, Bool.and_eq_true] at hg
        obtain ⟨b1, b2, b3⟩ := p1.2 hg.2
        have hR' := hR
        obtain ⟨hM, Im, h1, h2, hI⟩ := hR
        obtain ⟨⟨i1, i2, i3⟩, i4⟩ := hI.ent n g' _ hn hg.1
        simp only [cond_true] at i3
        obtain ⟨d1, d2, d3⟩ := i3.rd
        have htt := elemOf_spec c6
        have hlen : (le.den F ρ).toNat = (dc (c.den F ρ)).length := by rw [i2]; simp
        have elo : lo.map (E.val F ρ) = lo.map fun _ => Value.int .i64 ((lo.getD (.lit (.i .i64) 0)).den F ρ) := by
          cases lo with
          | none => rfl
          | some q => simp only [Option.map_some, E.val_i (c8 q rfl)]; rfl
        have ehi : hi.map (E.val F ρ) = hi.map fun _ => Value.int .i64 ((hi.getD le).den F ρ) := by
          cases hi with
          | none => rfl
          | some q => simp only [Option.map_some, E.val_i (c9 q rfl)]; rfl
        have run := run_sliceAt_part (P := P) (F := F) (ρ := ρ) w htt c7 (ad n) (dc (c.den F ρ)).length d2 lo hi elo (fun e => by rw [e]; rfl) ehi (fun e => by rw [e]; exact i2) b1 b2 (by rw [← i2]; exact b3)
        refine ⟨ad, w, Or.inl ?_, hR', Ext.refl _ _, Mem.at_al hn⟩
        simp only [SV.conc, hlen, run, valN, Result.andThen_ok]
      · cases h
    · cases h
  · cases h

/-! ### blocks with a tail of rows -/
theorem segAt_spec {n : Nat} {g : E} {ty : Nat} {cs : List SV} {c : E} (h : segAt m n = some (g, ty, cs, ks, c)) : m.at n = some (g, .seg ty cs ks c) ∧ g.kind = .b ∧ c.kind = .x ∧ ks.length ≠ 0 := by
  unfold segAt at h
  split at h
  · rename_i g' ty' cs' ks' c' hn
    split at h
    · rename_i hk
      simp only [Option.some.injEq, Prod.mk.injEq] at h
      obtain ⟨rfl, rfl, rfl, rfl, rfl⟩ := h
      exact ⟨hn, hk.1, hk.2.1, hk.2.2⟩
    · cases h
  · cases h
theorem flatN_rows : ∀ {l : RL}, (∀ r ∈ l, fits ks r) → RowsV w Im (Row.ofKs ks) l (flatN ks l)
  | [], _ => rfl
  | r :: l, h => ⟨numV ks r, flatN ks l, by simp [flatN], RowV_ks.2 ⟨h r (List.mem_cons_self ..), rfl⟩, flatN_rows fun a ha => h a (List.mem_cons_of_mem _ ha)⟩
theorem flatN_of : ∀ {l : RL} {xs : List Value}, RowsV w Im (Row.ofKs ks) l xs → xs = flatN ks l ∧ ∀ r ∈ l, fits ks r
  | [], xs, h => ⟨h, fun r hr => by cases hr⟩
  | r :: l, xs, ⟨us, ys, h1, h2, h3⟩ => by
    obtain ⟨i1, i2⟩ := flatN_of h3
    obtain ⟨j1, j2⟩ := RowV_ks.1 h2
    refine ⟨by rw [h1, i1, j2]; simp [flatN], fun a ha => ?_⟩
    rcases List.mem_cons.1 ha with rfl | ha
    · exact j1
    · exact i2 a ha
theorem rowG_spec (hB : BI F) {e c : E} {r0 : Nat} (hk : e.kind = .i .i64) (h0 : r0 ≤ 1000000) : (rowG e r0 c).kind = .b ∧ ((rowG e r0 c).tt F ρ = true → ∃ i : Nat, e.den F ρ = (i : Int) ∧ (rowE e r0).den F ρ = ((i + r0 : Nat) : Int) ∧ i + r0 < (dc (c.den F ρ)).length) := by
  have hm := mkAnd_spec (inB e big9) (inB (rowE e r0) (LEN c)) (inB_spec (F := F) (ρ := ρ)).1 (inB_spec (F := F) (ρ := ρ)).1 F ρ
  refine ⟨hm.2, fun h => ?_⟩
  unfold rowG at h
  rw [hm.1, Bool.and_eq_true] at h
  obtain ⟨c1, c2⟩ := (inB_spec (F := F) (ρ := ρ)).2 h.1
  obtain ⟨b1, b2⟩ := (inB_spec (F := F) (ρ := ρ)).2 h.2
  have hbig : big9.den F ρ = 1000000000 := lit64_den (n := 1000000000) (Nat.le_refl _)
  rw [hbig] at c2
  obtain ⟨i, hi⟩ := Int.eq_ofNat_of_zero_le c1
  have hrow : (rowE e r0).den F ρ = ((i + r0 : Nat) : Int) := by
    unfold rowE
    cases hz : r0 == 0
    · simp only [cond_false]
      have p1 := mkBin_spec .add .i64 e (.lit (.i .i64) r0) F ρ
      have q1 := p1.1
      rw [E.val_i p1.2] at q1
      simp only [Value.int.injEq, true_and, binI, lit64_den (show r0 ≤ 1000000000 by omega), hi] at q1
      rw [q1]
      simp only [IntKind.wrap, IntKind.signed, IntKind.bits]; simp; split <;> omega
    · have : r0 = 0 := by simpa using hz
      subst this
      simp only [cond_true, hi, Nat.add_zero]
  refine ⟨i, hi, hrow, ?_⟩
  rw [hrow, hB.len] at b2
  have hw : IntKind.i64.wrap ((dc (c.den F ρ)).length : Int) ≤ ((dc (c.den F ρ)).length : Int) := by
    simp only [IntKind.wrap, IntKind.signed, IntKind.bits]; simp; split <;> omega
  omega
theorem seg_split {off h k r0 i : Nat} (hh : h ≤ off) (hr : r0 = (off - h) / k) : off + i * k = h + ((i + r0) * k + (off - h) % k) := by
  have h1 := Nat.div_add_mod (off - h) k
  rw [← hr, Nat.mul_comm] at h1
  rw [Nat.add_mul]
  omega

theorem segTold (hR : Rel F ρ w0 M0 Im0 ad m w) {n : Nat} {g : E} {ty : Nat} {cs : List SV} {c : E} (hn : m.at n = some (g, .seg ty cs ks c)) (hg : g.tt F ρ = true) :
    isCd (c.den F ρ) ∧ (∀ r ∈ dc (c.den F ρ), fits ks r) ∧ w.heap[(ad n).blk]? = some (.cells (SV.concL F ρ ad cs ++ flatN ks (dc (c.den F ρ))).toArray ty (0, 0)) ∧ SV.okL (al m) cs := by
  obtain ⟨hM, Im, h1, h2, hI⟩ := hR
  obtain ⟨a, b, c'⟩ := (hI.ent n g _ hn hg).1
  exact ⟨a, b, c', hI.ok n g _ hn⟩

theorem segLd_sound (hB : BI F) (hR : Rel F ρ w0 M0 Im0 ad m w) {n off str sz : Nat} {e g : E} {ag : Bool} {v : SV} (h : segLd m n off str e sz ag = some (g, v, m')) :
    g.kind = .b ∧ (g.tt F ρ = true → Done F ρ w0 M0 Im0 ad m m' (ldSem P w (ad n).blk (off + (e.den F ρ).toNat * str) sz ag) v) := by
  unfold segLd at h
  split at h
  · rename_i g' ty cs ks c hs
    obtain ⟨s1, s2, s3, s4⟩ := segAt_spec hs
    split at h
    · rename_i hc
      obtain ⟨u, hu, he⟩ := Option.map_eq_some_iff.1 h
      simp only [Prod.mk.injEq] at he
      obtain ⟨rfl, rfl, rfl⟩ := he
      obtain ⟨c1, rfl, c3, c4⟩ := hc
      have hrg := rowG_spec (ρ := ρ) (c := c) hB c3 c4
      have hm := mkAnd_spec g' _ s2 hrg.1 F ρ
      refine ⟨hm.2, fun hg => ?_⟩
      rw [hm.1, Bool.and_eq_true] at hg
      obtain ⟨i, i1, i2, i3⟩ := hrg.2 hg.2
      obtain ⟨t1, t2, t3, t4⟩ := segTold hR s1 hg.1
      have hrows := flatN_rows (w := w) (Im := fun _ => False) t2
      obtain ⟨us, u1, u2⟩ := hrows.get _ _ (List.getElem?_eq_getElem i3)
      obtain ⟨f1, f2⟩ := RowV_ks.1 u1
      rw [ofKs_size] at u2
      have hget : (dc (c.den F ρ)).getD ((rowE e ((off - cs.length) / ks.length)).den F ρ).toNat [] = (dc (c.den F ρ))[i + (off - cs.length) / ks.length] := by rw [i2, Int.toNat_natCast]; simp only [List.getD, List.getElem?_eq_getElem i3, Option.getD_some]
      have hconc := celS_conc (ad := ad) hB hget ks 0 _ f1 (fun t => by rw [Nat.zero_add])
      have hcl : (SV.concL F ρ ad cs).length = cs.length := by rw [concL_eq]; simp
      obtain ⟨r1, r2⟩ := rdC_run (P := P) (F := F) (ρ := ρ) (ad := ad) (w := w) (b := (ad n).blk) (base := cs.length + (i + (off - cs.length) / ks.length) * ks.length) (fun j x hx => by
        rw [hconc, ← f2] at hx
        rw [cell_of_heap t3]
        have := u2 j x hx
        rw [List.getElem?_toArray, List.getElem?_append_right (by rw [hcl]; omega), hcl]
        rwa [show cs.length + (i + (off - cs.length) / ks.length) * ks.length + j - cs.length = (i + (off - cs.length) / ks.length) * ks.length + j by omega]) hu
      rw [i1, Int.toNat_natCast, seg_split c1 rfl, ← Nat.add_assoc]
      exact ⟨ad, w, Or.inl r1, hR, Ext.refl _ _, r2 _ (celS_ok c _ _ ks 0)⟩
    · cases h
  · cases h

theorem segSt_sound (hB : BI F) (hR : Rel F ρ w0 M0 Im0 ad m w) {n off str : Nat} {e g : E} {vs : List SV} {v : SV} (h1v : vs.all SV.one = true) (h : segSt m n off str e vs = some (g, v, m')) :
    g.kind = .b ∧ (g.tt F ρ = true → Done F ρ w0 M0 Im0 ad m m' (stSem P w (ad n).blk (off + (e.den F ρ).toNat * str) (SV.concL F ρ ad vs)) v) := by
  unfold segSt at h
  split at h
  · rename_i g' ty cs ks c hs
    obtain ⟨s1, s2, s3, s4⟩ := segAt_spec hs
    split at h
    · rename_i es hes
      split at h
      · rename_i hc
        simp only [Option.some.injEq, Prod.mk.injEq] at h
        obtain ⟨rfl, rfl, rfl⟩ := h
        obtain ⟨c1, rfl, c3, c4, c5⟩ := hc
        have hrg := rowG_spec (ρ := ρ) (c := c) hB c3 c4
        have hm := mkAnd_spec g' _ s2 hrg.1 F ρ
        refine ⟨hm.2, fun hg => ?_⟩
        rw [hm.1, Bool.and_eq_true] at hg
        obtain ⟨i, i1, i2, i3⟩ := hrg.2 hg.2
        obtain ⟨t1, t2, t3, t4⟩ := segTold hR s1 hg.1
        obtain ⟨e1, e2, e3⟩ := scs_spec F ρ ad hes
        generalize hr0 : (off - cs.length) / ks.length = r0 at c4 hrg i2 i3 hg hm ⊢
        generalize hcol : (off - cs.length) % ks.length = col at c5 hes e1 e2 ⊢
        have hoff : off + (e.den F ρ).toNat * ks.length = cs.length + ((i + r0) * ks.length + col) := by
          rw [i1, Int.toNat_natCast, ← hcol]; exact seg_split c1 hr0.symm
        rw [hoff]
        have hesl : (es.map (E.den F ρ)).length = vs.length := by simp [e3]
        generalize hzs : es.map (E.den F ρ) = zs at e1 e2 hesl
        have hden : (E.app .x 0 6 (c :: rowE e r0 :: .lit .x (col : Nat) :: es)).den F ρ = cd ((dc (c.den F ρ)).set (i + r0) (splR (dc (c.den F ρ))[i + r0] col zs)) := by
          rw [den_app0 hB]
          simp only [List.map_cons, hzs, bi, i2, K.norm, E.den, Int.toNat_natCast]
          congr 2
          simp [List.getD, i3]
        have hfr := t2 _ (List.getElem_mem i3)
        obtain ⟨p1, p2⟩ := fits_splR (o := col) (es := zs) hfr (by rw [hesl]; exact e1) (by rw [hesl]; exact c5)
        have hrows := flatN_rows (w := w) (Im := fun _ => False) t2
        have hset := RowsV.set hrows (i + r0) (splR (dc (c.den F ρ))[i + r0] col zs) _ i3 (RowV_ks.2 ⟨p1, rfl⟩)
        obtain ⟨q1, q2⟩ := flatN_of hset
        rw [ofKs_size] at q1
        obtain ⟨us, u1, u2⟩ := hrows.get _ _ (List.getElem?_eq_getElem i3)
        obtain ⟨f1, f2⟩ := RowV_ks.1 u1
        rw [ofKs_size] at u2
        have hcl : (SV.concL F ρ ad cs).length = cs.length := by rw [concL_eq]; simp
        have hfl : (flatN ks (dc (c.den F ρ))).length = (dc (c.den F ρ)).length * ks.length := by rw [hrows.len, ofKs_size]
        have hvl : (SV.concL F ρ ad vs).length = vs.length := by rw [concL_eq]; simp
        have hmul : (i + r0) * ks.length + ks.length ≤ (dc (c.den F ρ)).length * ks.length := by
          have : (i + r0 + 1) * ks.length ≤ (dc (c.den F ρ)).length * ks.length := Nat.mul_le_mul_right _ i3
          rwa [Nat.succ_mul] at this
        have hones : ∀ x ∈ SV.concL F ρ ad vs, x.oneCell' = true := fun x hx => by
          rw [concL_eq] at hx
          obtain ⟨y, hy, rfl⟩ := List.mem_map.1 hx
          exact SV.one_conc (List.all_eq_true.1 h1v y hy)
        have hst := stSem_run (P := P) (w := w) (off := cs.length + ((i + r0) * ks.length + col)) (vs := SV.concL F ρ ad vs) t3 (by simp only [List.size_toArray, List.length_append, hcl, hfl, hvl]; omega) hones
        have hnew : ((SV.concL F ρ ad cs ++ flatN ks (dc (c.den F ρ))).toArray.toList.take (cs.length + ((i + r0) * ks.length + col)) ++ SV.concL F ρ ad vs ++ (SV.concL F ρ ad cs ++ flatN ks (dc (c.den F ρ))).toArray.toList.drop (cs.length + ((i + r0) * ks.length + col) + (SV.concL F ρ ad vs).length)) =
            SV.concL F ρ ad cs ++ flatN ks ((dc (c.den F ρ)).set (i + r0) (splR (dc (c.den F ρ))[i + r0] col zs)) := by
          rw [← q1, p2, ← f2]
          have hus : us = ((flatN ks (dc (c.den F ρ))).drop ((i + r0) * ks.length)).take ks.length := by
            apply List.ext_getElem?
            intro j
            have hul : us.length = ks.length := by rw [f2, numV_len f1]
            by_cases hj : j < ks.length
            · have := u2 j us[j] (by simp [hul, hj])
              rw [List.getElem?_take, if_pos hj, List.getElem?_drop, this]
              simp [hul, hj]
            · rw [List.getElem?_eq_none (by omega), List.getElem?_take, if_neg hj]
          have hseg := seg_lemma (flatN ks (dc (c.den F ρ))) (SV.concL F ρ ad vs) us ((i + r0) * ks.length) ks.length col (flatN ks (dc (c.den F ρ))).length (by rw [List.take_length]; exact hus) (by rw [hvl]; exact c5) (by rw [hfl]; exact hmul) (Nat.le_refl _)
          rw [List.take_length] at hseg
          have hlen2 : ((flatN ks (dc (c.den F ρ))).take ((i + r0) * ks.length + col) ++ SV.concL F ρ ad vs ++ (flatN ks (dc (c.den F ρ))).drop ((i + r0) * ks.length + col + (SV.concL F ρ ad vs).length)).length ≤ (flatN ks (dc (c.den F ρ))).length := by
            simp only [List.length_append, List.length_take, List.length_drop, hfl, hvl]; omega
          rw [List.take_of_length_le hlen2] at hseg
          have hzz : us.take col ++ SV.concL F ρ ad vs ++ us.drop (col + (SV.concL F ρ ad vs).length) = us.take col ++ numV ((ks.drop col).take vs.length) zs ++ us.drop (col + zs.length) := by rw [e2, ← e2, hvl, hesl]
          simp only [List.toList_toArray]
          rw [List.take_append, List.drop_append, hcl]
          rw [List.take_of_length_le (l := SV.concL F ρ ad cs) (by rw [hcl]; omega), List.drop_of_length_le (l := SV.concL F ρ ad cs) (by rw [hcl]; omega)]
          rw [show cs.length + ((i + r0) * ks.length + col) - cs.length = (i + r0) * ks.length + col by omega, show cs.length + ((i + r0) * ks.length + col) + (SV.concL F ρ ad vs).length - cs.length = (i + r0) * ks.length + col + (SV.concL F ρ ad vs).length by omega]
          rw [List.nil_append, List.append_assoc, List.append_assoc, ← List.append_assoc _ _ (List.drop _ _), hseg, hzz, hesl]
        rw [hnew] at hst
        refine ⟨ad, _, Or.inr ⟨hst, rfl⟩, hR.turn s1 (Fr.setRow _ _) (fun b hb => ⟨by rw [hb]; rfl, hg.1⟩) (fun Im' _ _ => ?_) (fun b hb => hb) t4, Ext.set ad s1, trivial⟩
        refine ⟨by rw [hden]; exact isCd_cd _, ?_, ?_⟩
        · rw [hden, dc_cd]; exact q2
        · rw [hden, dc_cd]; exact setRow_heap w _ _ _ _ _ t3
      · cases h
    · cases h
  · cases h

theorem applyG_sound (hB : BI F) (hR : Rel F ρ w0 M0 Im0 ad m w) {d : D} {g : E} {v : SV} (hd : d.good F ρ (al m)) (h : applyG m d = some (g, v, m')) :
    g.kind = .b ∧ (g.tt F ρ = true → Done F ρ w0 M0 Im0 ad m m' (d.run P F ρ ad w) v) := by
  have hz : lit0.den F ρ = 0 := lit64_den (n := 0) (by omega)
  cases d with
  | ld n off sz ag =>
    simp only [applyG] at h
    split at h
    · rename_i g' ty cs ks c hs
      obtain ⟨s1, s2, s3, s4⟩ := segAt_spec hs
      split at h
      · obtain ⟨u, hu, he⟩ := Option.map_eq_some_iff.1 h
        simp only [Prod.mk.injEq] at he
        obtain ⟨rfl, rfl, rfl⟩ := he
        refine ⟨s2, fun hg => ?_⟩
        obtain ⟨t1, t2, t3, t4⟩ := segTold hR s1 hg
        obtain ⟨r1, r2⟩ := rdC_run (P := P) (F := F) (ρ := ρ) (ad := ad) (w := w) (b := (ad n).blk) (base := 0) (fun j x hx => by
          rw [Nat.zero_add, cell_of_heap t3, List.getElem?_toArray, List.getElem?_append_left (List.getElem?_eq_some_iff.1 hx).1]; exact hx) hu
        rw [Nat.zero_add] at r1
        exact ⟨ad, w, Or.inl r1, hR, Ext.refl _ _, r2 _ t4⟩
      · obtain ⟨i1, i2⟩ := segLd_sound (P := P) hB hR h
        refine ⟨i1, fun hg => ?_⟩
        have := i2 hg
        rw [hz] at this
        simpa [D.run] using this
    · cases h
  | ldi n off str cnt e sz ag => exact segLd_sound (P := P) hB hR h
  | st n off vs =>
    simp only [applyG] at h
    split at h
    · rename_i g' ty cs ks c hs
      obtain ⟨s1, s2, s3, s4⟩ := segAt_spec hs
      split at h
      · rename_i hle
        obtain ⟨cs', hw, he⟩ := Option.map_eq_some_iff.1 h
        simp only [Prod.mk.injEq] at he
        obtain ⟨rfl, rfl, rfl⟩ := he
        refine ⟨s2, fun hg => ?_⟩
        obtain ⟨t1, t2, t3, t4⟩ := segTold hR s1 hg
        have hcl : (SV.concL F ρ ad cs).length = cs.length := by rw [concL_eq]; simp
        have hvl : (SV.concL F ρ ad vs).length = vs.length := by rw [concL_eq]; simp
        unfold wrC at hw
        rw [if_pos hle] at hw
        simp only [Option.some.injEq] at hw
        subst hw
        have hones : ∀ x ∈ SV.concL F ρ ad vs, x.oneCell' = true := fun x hx => by
          rw [concL_eq] at hx
          obtain ⟨y, hy, rfl⟩ := List.mem_map.1 hx
          exact SV.one_conc (List.all_eq_true.1 hd.2.2 y hy)
        have hst := stSem_run (P := P) (w := w) (off := off) (vs := SV.concL F ρ ad vs) t3 (by simp only [List.size_toArray, List.length_append, hcl, hvl]; omega) hones
        have hsp : SV.concL F ρ ad (splice cs off vs) = (SV.concL F ρ ad cs).take off ++ SV.concL F ρ ad vs ++ (SV.concL F ρ ad cs).drop (off + vs.length) := by
          unfold splice
          simp only [concL_eq, List.map_append, List.map_take, List.map_drop]
        have hnew : ((SV.concL F ρ ad cs ++ flatN ks (dc (c.den F ρ))).toArray.toList.take off ++ SV.concL F ρ ad vs ++ (SV.concL F ρ ad cs ++ flatN ks (dc (c.den F ρ))).toArray.toList.drop (off + (SV.concL F ρ ad vs).length)) = SV.concL F ρ ad (splice cs off vs) ++ flatN ks (dc (c.den F ρ)) := by
          rw [hsp, hvl]
          simp only [List.toList_toArray]
          rw [List.take_append_of_le_length (by rw [hcl]; omega), List.drop_append_of_le_length (by rw [hcl]; omega)]
          simp
        rw [hnew] at hst
        refine ⟨ad, _, Or.inr ⟨hst, rfl⟩, hR.turn s1 (Fr.setRow _ _) (fun b hb => ⟨by rw [hb]; rfl, hg⟩) (fun Im' _ _ => ⟨t1, t2, setRow_heap w _ _ _ _ _ t3⟩) (fun b hb => hb) ?_, Ext.set ad s1, trivial⟩
        show SV.okL (al m) (splice cs off vs)
        rw [okL_iff] at t4 ⊢
        have hv := (okL_iff (al m) vs).1 hd.2.1
        intro x hx
        unfold splice at hx
        simp only [List.mem_append] at hx
        rcases hx with (hx | hx) | hx
        · exact t4 x (List.mem_of_mem_take hx)
        · exact hv x hx
        · exact t4 x (List.mem_of_mem_drop hx)
      · obtain ⟨i1, i2⟩ := segSt_sound (P := P) hB hR hd.2.2 h
        refine ⟨i1, fun hg => ?_⟩
        have := i2 hg
        rw [hz] at this
        simpa [D.run] using this
    · cases h
  | sti n off str cnt e vs => exact segSt_sound (P := P) hB hR hd.2.2.1 h
  | _ => simp [applyG] at h

theorem applyN_sound (hB : BI F) (hR : Rel F ρ w0 M0 Im0 ad m w) {x : X} {nm : Nat} {g : E} {v : SV} (hx : x.good F ρ (al m)) (h : applyN P m nm x = some (g, v, m')) :
    g.kind = .b ∧ (g.tt F ρ = true → Done F ρ w0 M0 Im0 ad m m' (x.run P F ρ ad w) v) := by
  cases x with
  | mnew t =>
    simp only [applyN] at h
    split at h
    · split at h
      · rename_i hc
        simp only [Option.some.injEq, Prod.mk.injEq] at h
        obtain ⟨rfl, rfl, rfl⟩ := h
        exact ⟨mkB_kind _, fun _ => mnew_sound hB hR hc.1 hc.2⟩
      · cases h
    · cases h
  | mlk t n key ok =>
    simp only [applyN] at h
    split at h
    · rename_i g' k' vs ag c e hm
      simp only [Option.some.injEq, Prod.mk.injEq] at h
      obtain ⟨rfl, rfl, rfl⟩ := h
      exact ⟨(mapAt_spec hm).2.2.2.1, fun hg => mlk_sound hB hR hm hg⟩
    · cases h
  | mup t n key val =>
    simp only [applyN] at h
    split at h
    · rename_i g' k' vs ag c e hm
      split at h
      · rename_i es hs
        split at h
        · rename_i ha
          simp only [Option.some.injEq, Prod.mk.injEq] at h
          obtain ⟨rfl, rfl, rfl⟩ := h
          exact ⟨(mapAt_spec hm).2.2.2.1, fun hg => mup_sound hB hR hm hs ha hg⟩
        · cases h
      · cases h
    · cases h
  | mdl t kt ty n key =>
    simp only [applyN] at h
    split at h
    · rename_i g' k' vs ag c e hm
      simp only [Option.some.injEq, Prod.mk.injEq] at h
      obtain ⟨rfl, rfl, rfl⟩ := h
      exact ⟨(mapAt_spec hm).2.2.2.1, fun hg => mdl_sound hB hR hm hg⟩
    · cases h
  | mln t ty n =>
    simp only [applyN] at h
    split at h
    · rename_i g' ks vs kag vag c hn
      split at h
      · rename_i hc
        simp only [Option.some.injEq, Prod.mk.injEq] at h
        obtain ⟨rfl, rfl, rfl⟩ := h
        exact mln_sound hB hR hn hc.1 hc.2
      · cases h
    · cases h
  | vix t n str l0 lo hi i =>
    simp only [applyN] at h
    split at h
    · split at h
      · rename_i V hV
        split at h
        · rename_i hc
          simp only [Option.some.injEq, Prod.mk.injEq] at h
          obtain ⟨rfl, rfl, rfl⟩ := h
          exact vix_sound hB hR hV hc.1 hc.2.1 hc.2.2.1 hc.2.2.2 hx
        · cases h
      · cases h
    · cases h
  | clr t ty e n le =>
    simp only [applyN] at h
    split at h
    · rename_i g' e' row le' c hn
      split at h
      · rename_i ks hr
        split at h
        · rename_i hc
          obtain ⟨c1, rfl, c3, c4, c5⟩ := hc
          simp only [Option.some.injEq, Prod.mk.injEq] at h
          obtain ⟨rfl, rfl, rfl⟩ := h
          have hle := E.same_eq _ _ c3
          subst hle
          exact ⟨c1, fun hg => clr_sound hR hn hr c4 c5 hg⟩
        · cases h
      · cases h
    · cases h
  | lds n off str e sz ag => exact segLd_sound (P := P) hB hR h
  | sts n off str e vs => exact segSt_sound (P := P) hB hR hx.2.2 h
  | _ => simp [applyN] at h
end
end Go.Proofs.Ytmolkkphnehgcaa.Ew

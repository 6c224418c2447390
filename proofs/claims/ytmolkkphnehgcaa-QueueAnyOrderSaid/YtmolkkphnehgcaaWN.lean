/- That the described operations on lists tell what the operations do to the world: cuts, new lists; all of them together. -/
import Derived.Test.YtmolkkphnehgcaaWM
set_option linter.unusedVariables false
set_option linter.unusedSimpArgs false
namespace Go.Proofs.Ytmolkkphnehgcaa.Ew
open Go Go.RowKit

section
variable {P : Program} {F : Fam} {ρ : Nat → Int} {G : Glob} {w0 w w' : World} {M0 Im0 Im Im' T : Nat → Prop} {ad ad' : Nat → Hd} {m m' : Mem} {q : Row} {ks : List K}

theorem RowsV_any : ∀ {l : RL} {xs : List Value}, RowsV w Im (Row.ofKs ks) l xs → RowsV w Im' (Row.ofKs ks) l xs
  | [], xs, h => h
  | r :: l, xs, h => by
    obtain ⟨us, ys, h1, h2, h3⟩ := h
    exact ⟨us, ys, h1, RowV_ks.2 (RowV_ks.1 h2), RowsV_any h3⟩

/-- The bounds of a cut. -/
theorem run_sliceAt_list (w : World) {t e sz : Nat} (ht : P.underlying t = some (.slice e)) (hs : szOf P e = some sz) (hd : Hd) (n : Nat) (hcap : n ≤ hd.cap) (lo hi : Option E) {l u : Int}
    (hlo : lo.map (E.val F ρ) = (lo.map fun _ => Value.int .i64 l)) (hlo0 : lo = none → l = 0) (hhi : hi.map (E.val F ρ) = (hi.map fun _ => Value.int .i64 u)) (hhi0 : hi = none → u = n)
    (h1 : 0 ≤ l) (h2 : l ≤ u) (h3 : u ≤ n) :
    ∃ hd' : Hd, (Instr.sliceAt t (hd.sl n) (lo.map (E.val F ρ)) (hi.map (E.val F ρ)) none).run P w = .ok (hd'.sl (u.toNat - l.toNat)) w ∧ u.toNat - l.toNat ≤ hd'.cap ∧ (0 < u.toNat - l.toNat → hd'.blk = hd.blk ∧ hd'.off = hd.off + l.toNat * sz) := by
  have hlu : l.toNat ≤ u.toNat := by omega
  have hun : u.toNat ≤ n := by omega
  have run : ∀ (a : Option Addr) (cap : Nat), n ≤ cap → (Instr.sliceAt t (.slice a n cap) (lo.map (E.val F ρ)) (hi.map (E.val F ρ)) none).run P w =
      .ok (.slice (if cap = l.toNat then a else a.map (·.add (l.toNat * sz))) (u.toNat - l.toNat) (cap - l.toNat)) w := fun a cap hc => by
    rw [hlo, hhi]
    have b1 : u ≤ (cap : Int) := by omega
    have b0 : 0 ≤ u := by omega
    have b2 : l ≤ (u.toNat : Int) := by omega
    cases lo with
    | none =>
      have hl := hlo0 rfl
      subst hl
      cases hi with
      | none =>
        have hu := hhi0 rfl
        subst hu
        simp [Instr.sliceAt, Instr.slice, Instr.sliceBounds, run_underlying ht, run_sizeOf' w hs]
      | some q =>
        simp [Instr.sliceAt, Instr.slice, Instr.sliceBounds, Instr.sliceBound, asIntOf, run_underlying ht, run_sizeOf' w hs, b1, b0]
    | some p =>
      cases hi with
      | none =>
        have hu := hhi0 rfl
        subst hu
        have b3 : l ≤ (n : Int) := by omega
        simp [Instr.sliceAt, Instr.slice, Instr.sliceBounds, Instr.sliceBound, asIntOf, run_underlying ht, run_sizeOf' w hs, h1, b3]
      | some q =>
        have b3 : l ≤ max u 0 := by omega
        simp [Instr.sliceAt, Instr.slice, Instr.sliceBounds, Instr.sliceBound, asIntOf, run_underlying ht, run_sizeOf' w hs, h1, b0, b1, b2, b3]
  rcases sl_form hd n with ⟨e, h0⟩ | e
  · subst h0
    rw [e, run none 0 (Nat.le_refl _)]
    have hz : u.toNat - l.toNat = 0 := by omega
    refine ⟨⟨0, 0, 0, true, undef⟩, ?_, by omega, fun hp => by omega⟩
    rw [hz]
    simp [Hd.sl]
  · rw [e, run (some ⟨hd.blk, hd.off, none⟩) hd.cap hcap]
    by_cases hc : hd.cap = l.toNat
    · refine ⟨⟨hd.blk, hd.off, hd.cap - l.toNat, false, undef⟩, ?_, ?_, fun hp => ?_⟩
      · rw [if_pos hc]; simp [Hd.sl]
      · simp only; omega
      · omega
    · refine ⟨⟨hd.blk, hd.off + l.toNat * sz, hd.cap - l.toNat, false, undef⟩, ?_, ?_, fun _ => ⟨rfl, rfl⟩⟩
      · rw [if_neg hc]; simp [Hd.sl, Addr.add_none]
      · simp only; omega

theorem sub_sound (hB : BI F) (hR : Rel F ρ w0 M0 Im0 ad m w) {t e : Nat} {row : Row} {x : SV} {lo hi : Option E} {V0 V : LV} (h0 : viewL m e row x = some V0) (hV : viewL (shareL m V0.ns) e row x = some V)
    (hs : V.sh = true) (ht : elemOf P t = some e) (hz : szOf P e = some row.size) {nm : Nat} (hn1 : nm < m.length) (hn2 : ((shareL m V0.ns).at nm).isNone = true)
    (hlo : ∀ q, lo = some q → q.kind = .i .i64) (hhi : ∀ q, hi = some q → q.kind = .i .i64) :
    let l := lo.getD (.lit (.i .i64) 0)
    let h := hi.getD V.le
    let c' := E.app .x 0 5 [V.c, l, h]
    let g := mkAnd V.g (mkAnd (mkCmp .geq l (.lit (.i .i64) 0)) (mkAnd (mkCmp .leq l h) (mkCmp .leq h V.le)))
    g.kind = .b ∧ (g.tt F ρ = true → Done F ρ w0 M0 Im0 ad m ((shareL m V0.ns).set nm (some (mkB true, .lst e row false (LEN c') c')))
      (valN ((Instr.sliceAt t (x.conc F ρ ad) (lo.map (E.val F ρ)) (hi.map (E.val F ρ)) none).run P w)) (.ls nm (LEN c'))) := by
  intro l h c' g
  obtain ⟨k1, k2, k3⟩ := viewL_kind hV
  have p1 := mkCmp_spec .geq l (.lit (.i .i64) 0) F ρ
  have p2 := mkCmp_spec .leq l h F ρ
  have p3 := mkCmp_spec .leq h V.le F ρ
  have p4 := mkAnd_spec _ _ p2.2 p3.2 F ρ
  have p5 := mkAnd_spec _ _ p1.2 p4.2 F ρ
  have p6 := mkAnd_spec _ _ k3 p5.2 F ρ
  refine ⟨p6.2, fun hg => ?_⟩
  have hg' : V.g.tt F ρ = true ∧ 0 ≤ l.den F ρ ∧ l.den F ρ ≤ h.den F ρ ∧ h.den F ρ ≤ V.le.den F ρ := by
    have := hg
    rw [show g = mkAnd V.g (mkAnd (mkCmp .geq l (.lit (.i .i64) 0)) (mkAnd (mkCmp .leq l h) (mkCmp .leq h V.le))) from rfl, p6.1, p5.1, p4.1, p1.1, p2.1, p3.1] at this
    simp only [Bool.and_eq_true, cmpB, decide_eq_true_eq] at this
    exact ⟨this.1, this.2.1, this.2.2.1, this.2.2.2⟩
  obtain ⟨hvg, hl0, hlh, hhn⟩ := hg'
  have hR1 := hR.shareL V0.ns
  have hlen1 : nm < (shareL m V0.ns).length := by
    have : ∀ (ns : List Nat) (m : Mem), (shareL m ns).length = m.length := by
      intro ns
      induction ns with
      | nil => intro m; rfl
      | cons n r ih =>
        intro m
        simp only [shareL, ih]
        unfold shareN
        split <;> simp
    rw [this]; exact hn1
  obtain ⟨hM, Im, h1, h2, hI⟩ := hR1
  obtain ⟨hd, o1, o2, o3, o4, o5, o6, o7⟩ := viewL_spec hB hI hV hvg
  have o6 := o6 hs
  have htt := elemOf_spec ht
  have elo : lo.map (E.val F ρ) = lo.map fun _ => Value.int .i64 (l.den F ρ) := by
    cases lo with
    | none => rfl
    | some q => simp only [Option.map_some, E.val_i (hlo q rfl)]; rfl
  have ehi : hi.map (E.val F ρ) = hi.map fun _ => Value.int .i64 (h.den F ρ) := by
    cases hi with
    | none => rfl
    | some q => simp only [Option.map_some, E.val_i (hhi q rfl)]; rfl
  obtain ⟨hd', r1, r2, r3⟩ := run_sliceAt_list (P := P) (F := F) (ρ := ρ) w htt hz hd (dc (V.c.den F ρ)).length o6.2.1 lo hi elo (fun e => by show (lo.getD _).den F ρ = 0; rw [e]; rfl) ehi (fun e => by show (hi.getD _).den F ρ = _; rw [e]; exact o3) hl0 hlh (by rw [← o3]; exact hhn)
  have hden : c'.den F ρ = cd (((dc (V.c.den F ρ)).take (h.den F ρ).toNat).drop (l.den F ρ).toNat) := by
    show (E.app .x 0 5 [V.c, l, h]).den F ρ = _
    rw [den_app0 hB]; rfl
  have hlen : (((dc (V.c.den F ρ)).take (h.den F ρ).toNat).drop (l.den F ρ).toNat).length = (h.den F ρ).toNat - (l.den F ρ).toNat := by
    simp; omega
  have hmx : (((dc (V.c.den F ρ)).take (h.den F ρ).toNat).drop (l.den F ρ).toNat).length ≤ maxLen := by have := o6.1; rw [hlen]; omega
  have hLEN : (LEN c').den F ρ = ((((dc (V.c.den F ρ)).take (h.den F ρ).toNat).drop (l.den F ρ).toNat).length : Int) := by rw [hB.len, hden, dc_cd, wrap_len hmx]
  refine ⟨upd ad nm hd', w, Or.inl ?_, ⟨hM, Im, h1, h2, ?_⟩, ⟨fun k hk => upd_al hn2 hd' k ((shareL_al V0.ns m k).2 hk), fun k hk => al_set_new hlen1 k ((shareL_al V0.ns m k).2 hk)⟩, by simp [al, SV.ok, Mem.at_set_same hlen1]⟩
  · rw [o1, r1]
    simp only [valN, Result.andThen_ok, SV.conc, upd_same, hLEN, Int.toNat_natCast, hlen]
  · have := hI.put (ns := []) (T := fun _ => False) (hd := hd') (g := mkB true) (y := .lst e row false (LEN c') c') (Fr.refl _ _) (fun b hb => hb.elim) hlen1 hn2 ?_ (fun b hb => by simp [mutB] at hb) trivial
    · exact this
    · refine ⟨by rw [hden]; exact isCd_cd _, by rw [hLEN, hden, dc_cd], ?_⟩
      simp only [cond_false, hden, dc_cd, upd_same]
      refine ⟨hmx, by rw [hlen]; exact r2, fun hne => ?_, fun i r' hi => ?_⟩
      · have hp : 0 < (h.den F ρ).toNat - (l.den F ρ).toNat := by rw [← hlen]; exact List.length_pos_iff.2 hne
        rw [(r3 hp).1]
        exact o6.2.2.1 fun e => by rw [e] at hlen; simp at hlen; omega
      · have hlt := (List.getElem?_eq_some_iff.1 hi).1
        rw [hlen] at hlt
        rw [List.getElem?_drop, List.getElem?_take, if_pos (by omega)] at hi
        obtain ⟨us, u1, u2⟩ := o6.2.2.2 _ r' hi
        refine ⟨us, u1, fun j u hu => ?_⟩
        obtain ⟨e1, e2⟩ := r3 (by omega)
        have := u2 j u hu
        rw [e1, e2]
        rw [Nat.add_mul] at this
        rwa [show hd.off + (l.den F ρ).toNat * row.size + i * row.size + j = hd.off + ((l.den F ρ).toNat * row.size + i * row.size) + j by omega]

theorem zeroK_spec {e : Nat} (h : zeroK P e ks = true) : ∃ i z, P.info? e = some i ∧ i.zero = some z ∧ z.cells.toList = numV ks (ks.map fun _ => 0) ∧ fits ks (ks.map fun _ => 0) := by
  unfold zeroK at h
  split at h
  · rename_i i hi
    split at h
    · rename_i z hz
      simp only [Bool.and_eq_true, beq_iff_eq, List.all_eq_true, List.mem_range] at h
      obtain ⟨h1, h2⟩ := h
      refine ⟨i, z, hi, hz, ?_, ?_⟩
      · apply List.ext_getElem?
        intro j
        by_cases hj : j < ks.length
        · have hx := h2 j hj
          have hc : z.cells[j]? = some z.cells[j] := Array.getElem?_eq_getElem (by omega)
          have hkk : ks[j]? = some ks[j] := List.getElem?_eq_getElem hj
          simp only [numV, List.getElem?_zipWith, List.getElem?_map, hkk, Option.map_some, Array.getElem?_toList]
          rw [hc] at hx ⊢
          rw [hkk] at hx
          generalize z.cells[j] = v at hx ⊢
          generalize ks[j] = k at hx ⊢
          cases v <;> cases k <;> simp at hx ⊢
          · subst hx; rfl
          · obtain ⟨rfl, rfl⟩ := hx; rfl
        · rw [List.getElem?_eq_none (by simp; omega), List.getElem?_eq_none (by simp [numV]; omega)]
      · clear h1 h2
        induction ks with
        | nil => trivial
        | cons k ks ih => exact ⟨by cases k with | b => rfl | i k => exact wrap_zero k | x => rfl, ih⟩
    · cases h
  · cases h

theorem RowsV_rep {r : List Int} (hf : fits ks r) : ∀ n : Nat, RowsV w Im (Row.ofKs ks) (List.replicate n r) ((List.replicate n (numV ks r)).flatten)
  | 0 => rfl
  | n + 1 => by
    rw [List.replicate_succ, List.replicate_succ, List.flatten_cons]
    exact ⟨numV ks r, _, rfl, RowV_ks.2 ⟨hf, rfl⟩, RowsV_rep hf n⟩

theorem madeCells_rep (z : Array Value) (n : Nat) (hz : 0 < z.size) : (madeCells z (n * z.size)).toList = (List.replicate n z.toList).flatten := by
  induction n with
  | zero => simp [madeCells]
  | succ n ih =>
    rw [List.replicate_succ', List.flatten_append, ← ih]
    apply List.ext_getElem?
    intro j
    simp only [madeCells, List.flatten_cons, List.flatten_nil, List.append_nil]
    rw [Nat.succ_mul]
    by_cases h1 : j < n * z.size
    · rw [List.getElem?_append_left (by simpa using h1)]
      simp [h1, show j < n * z.size + z.size by omega]
    · rw [List.getElem?_append_right (by simpa using h1)]
      by_cases h2 : j < n * z.size + z.size
      · have hm : j % z.size = j - n * z.size := by
          have : j = (j - n * z.size) + z.size * n := by rw [Nat.mul_comm z.size n]; omega
          rw [this, Nat.add_mul_mod_self_left, Nat.mod_eq_of_lt (by omega)]
          rw [Nat.mul_comm z.size n]; omega
        have hlt : j - n * z.size < z.size := by omega
        simp [h2, hm, hlt]
      · rw [List.getElem?_eq_none (by simp; omega), List.getElem?_eq_none (by simp; omega)]

theorem mk_sound (hB : BI F) (hR : Rel F ρ w0 M0 Im0 ad m w) {t e bytes : Nat} {n c : E} (hnc : n.same c = true) (hk : n.kind = .i .i64) (ht : elemOf P t = some e) (hi : infoOf P e = some (ks.length, bytes)) (hz : zeroK P e ks = true)
    {nm : Nat} (hn1 : nm < m.length) (hn2 : (m.at nm).isNone = true) :
    let c' := E.app .x 0 7 (n :: ks.map fun k => .lit k 0)
    let g := mkAnd (mkCmp .geq n (.lit (.i .i64) 0)) (mkCmp .leq n (.lit .x (capOf bytes)))
    g.kind = .b ∧ (g.tt F ρ = true → Done F ρ w0 M0 Im0 ad m (m.set nm (some (mkB true, .lst e (Row.ofKs ks) true (LEN c') c'))) (valN ((Instr.makeSlice t (n.val F ρ) (c.val F ρ)).run P w)) (.ls nm (LEN c'))) := by
  intro c' g
  have p1 := mkCmp_spec .geq n (.lit (.i .i64) 0) F ρ
  have p2 := mkCmp_spec .leq n (.lit .x (capOf bytes)) F ρ
  have p3 := mkAnd_spec _ _ p1.2 p2.2 F ρ
  refine ⟨p3.2, fun hg => ?_⟩
  have hg' : 0 ≤ n.den F ρ ∧ n.den F ρ ≤ capOf bytes := by
    have := hg
    rw [show g = mkAnd (mkCmp .geq n (.lit (.i .i64) 0)) (mkCmp .leq n (.lit .x (capOf bytes))) from rfl, p3.1, p1.1, p2.1] at this
    simp only [Bool.and_eq_true, cmpB, decide_eq_true_eq] at this
    exact this
  have hcn := E.same_eq _ _ hnc
  subst hcn
  obtain ⟨N, hN⟩ := Int.eq_ofNat_of_zero_le hg'.1
  rw [hN] at hg'
  obtain ⟨hb, hmx⟩ := capOf_spec hg'.2
  obtain ⟨i, z, hi1, hi2, hi3, hi4, hi5, hi6⟩ := infoOf_spec hi
  obtain ⟨i', z', j1, j2, j3, j4⟩ := zeroK_spec hz
  rw [hi1] at j1
  simp only [Option.some.injEq] at j1
  subst j1
  rw [hi2] at j2
  simp only [Option.some.injEq] at j2
  subst j2
  have htt := elemOf_spec ht
  obtain ⟨w', r1, r2, r3⟩ := run_make_full (P := P) w 0 t e i z ks.length htt hi1 hi2 hi3 .i64 .i64 N (by rw [hi4, Nat.mul_comm]; omega) hmx (Nat.zero_le _)
  have hden : c'.den F ρ = cd (List.replicate N (ks.map fun _ => 0)) := by
    show (E.app .x 0 7 (n :: ks.map fun k => .lit k 0)).den F ρ = _
    rw [den_app0 hB]
    simp only [List.map_cons, bi, hN, K.norm, Int.toNat_natCast, List.map_map]
    congr 2
    apply List.map_congr_left
    intro k _
    simp only [Function.comp, E.den]
    cases k with
    | b => rfl
    | i k => exact wrap_zero k
    | x => rfl
  have hLEN : (LEN c').den F ρ = (N : Int) := by rw [hB.len, hden, dc_cd, List.length_replicate, wrap_len hmx]
  obtain ⟨hM, Im, h1, h2, hI⟩ := hR
  refine ⟨upd ad nm ⟨w.heap.size, 0, N, false, undef⟩, w', Or.inl ?_, ⟨hM, Im, h1, h2, ?_⟩, Ext.put (ns := []) _ hn1 hn2, al_put (ns := []) hn1⟩
  · rw [E.val_i hk, hN, r1]
    simp [valN, SV.conc, upd_same, hLEN, Hd.sl]
  · refine hI.put (ns := []) (T := fun _ => False) ((Fr.grown r3).mono fun b hb => by cases hb) (fun b hb => hb.elim) hn1 hn2 ?_ (fun b hb => ?_) trivial
    · refine ⟨by rw [hden]; exact isCd_cd _, by rw [hLEN, hden, dc_cd, List.length_replicate], ?_⟩
      simp only [cond_true, hden, dc_cd, upd_same]
      refine ⟨by rw [List.length_replicate]; exact hmx, _, ?_, RowsV_rep j4 N⟩
      rw [List.length_replicate, ofKs_size, ← j3, ← madeCells_rep z.cells N (by omega), hi5]
      exact r2
    · simp only [mutB, upd_same, hLEN, Int.toNat_natCast] at hb
      have hlt := (r2.lt b (by simpa [Hd.sl] using hb)).2
      refine ⟨hlt, Or.inl ?_⟩
      simp [Hd.sl, Value.ownBlock] at hb
      omega

theorem bl_sound (hB : BI F) (hR : Rel F ρ w0 M0 Im0 ad m w) {e bytes len : Nat} {cs : List SV} {c' : E} (hs : snocs ks len cs NILL = some c') (hi : infoOf P e = some (ks.length, bytes)) (hcap : (len : Int) ≤ capOf bytes)
    {nm : Nat} (hn1 : nm < m.length) (hn2 : (m.at nm).isNone = true) :
    Done F ρ w0 M0 Im0 ad m (m.set nm (some (mkB true, .lst e (Row.ofKs ks) true (.lit (.i .i64) len) c'))) ((D.new e cs (some len)).run P F ρ ad w) (.ls nm (.lit (.i .i64) len)) := by
  obtain ⟨hb, hmx⟩ := capOf_spec hcap
  obtain ⟨rows, r1, r2, r3, r4⟩ := snocs_spec (w := w) (ad := ad) (ρ := ρ) (Im := fun _ => False) hB hs (by rw [hB.nil (ρ := ρ)]; exact isCd_cd _) rfl
  have hden : c'.den F ρ = cd rows := by rw [r1, hB.nil (ρ := ρ), dc_cd, List.nil_append]
  have hLEN : (E.lit (.i .i64) (len : Int)).den F ρ = (len : Int) := wrap_len hmx
  obtain ⟨hM, Im, h1, h2, hI⟩ := hR
  have hnew : (w.alloc (.cells (SV.concL F ρ ad cs).toArray e)).heap[w.heap.size]? = some (.cells (SV.concL F ρ ad cs).toArray e (0, 0)) := (MapKept.heap_alloc w _).1
  have hlen := r4.len
  rw [r3, ofKs_size] at hlen
  have r4' : RowsV (w.alloc (.cells (SV.concL F ρ ad cs).toArray e)) Im (Row.ofKs ks) rows (SV.concL F ρ ad cs) := r4.fr fun b hb => hb.elim
  refine ⟨upd ad nm ⟨w.heap.size, 0, len, false, undef⟩, w.alloc (.cells (SV.concL F ρ ad cs).toArray e), Or.inl ?_, ⟨hM, Im, h1, h2, ?_⟩, Ext.put (ns := []) _ hn1 hn2, al_put (ns := []) hn1⟩
  · simp [D.run, SV.conc, upd_same, hLEN, Hd.sl]
  · refine hI.put (ns := []) (T := fun _ => False) (Fr.alloc _ _ _) (fun b hb => hb.elim) hn1 hn2 ?_ (fun b hb => ?_) trivial
    · refine ⟨by rw [hden]; exact isCd_cd _, by rw [hLEN, hden, dc_cd, r3], ?_⟩
      simp only [cond_true, hden, dc_cd, upd_same]
      refine ⟨by rw [r3]; exact hmx, _, ⟨by rw [r3, ofKs_size]; exact hlen, Or.inr ⟨w.heap.size, len, _, ?_, Nat.zero_le _, hnew, by rw [r3]; exact Nat.le_refl _, hmx, by simp [hlen, ofKs_size], ?_⟩⟩, r4'⟩
      · simp [Hd.sl, r3]
      · rw [r3, ofKs_size, ← hlen]; simp
    · simp only [mutB, upd_same, hLEN, Int.toNat_natCast] at hb
      simp [Hd.sl, Value.ownBlock] at hb
      subst hb
      exact ⟨by simp, Or.inl (Nat.le_refl _)⟩
end
end Go.Proofs.Ytmolkkphnehgcaa.Ew

/- That the described operations on lists tell what the operations do to the world. -/
import Derived.Test.YtmolkkphnehgcaaWL
set_option linter.unusedVariables false
set_option linter.unusedSimpArgs false
namespace Go.Proofs.Ytmolkkphnehgcaa.Ew
open Go Go.RowKit

section
variable {P : Program} {F : Fam} {ρ : Nat → Int} {G : Glob} {w0 w w' : World} {M0 Im0 Im Im' T : Nat → Prop} {ad ad' : Nat → Hd} {m m' : Mem} {q : Row} {ks : List K}

theorem goInt_i64 (n : Nat) : goInt n = .int .i64 (n : Int) := rfl

theorem len_sound (hB : BI F) (hR : Rel F ρ w0 M0 Im0 ad m w) {ty : Nat} {row : Row} {x : SV} {V : LV} (h : viewL m ty row x = some V) :
    V.g.kind = .b ∧ (V.g.tt F ρ = true → Done F ρ w0 M0 Im0 ad m m (lenR (x.conc F ρ ad) w) (.sc V.le)) := by
  obtain ⟨k1, k2, k3⟩ := viewL_kind h
  refine ⟨k3, fun hg => ?_⟩
  have hR' := hR
  obtain ⟨hM, Im, h1, h2, hI⟩ := hR
  obtain ⟨hd, o1, o2, o3, o4, o5, o6, o7⟩ := viewL_spec hB hI h hg
  refine ⟨ad, w, Or.inl ?_, hR', Ext.refl _ _, trivial⟩
  rw [o1]
  simp only [SV.conc, E.val_i k1, o3]
  rcases sl_form hd (dc (V.c.den F ρ)).length with ⟨e, h0⟩ | e
  · rw [e, h0]; rfl
  · rw [e]; rfl

theorem inB_lt {i le : E} {n : Nat} (hle : le.den F ρ = (n : Int)) (h : (inB i le).tt F ρ = true) : (i.den F ρ).toNat < n ∧ ((i.den F ρ).toNat : Int) = i.den F ρ := by
  obtain ⟨a, b⟩ := (inB_spec (F := F) (ρ := ρ)).2 h
  omega

theorem lde_sound (hB : BI F) (hR : Rel F ρ w0 M0 Im0 ad m w) {n : Nat} {g : E} {ty : Nat} {row : Row} {own : Bool} {le c i : E} (hn : m.at n = some (g, .lst ty row own le c)) (hk : g.kind = .b) (hr : rowKs row = some ks)
    {o sz : Nat} {ag : Bool} {v : SV} (hv : rdC (celS c i ks 0) o sz ag = some v) :
    (mkAnd g (inB i le)).kind = .b ∧ ((mkAnd g (inB i le)).tt F ρ = true → Done F ρ w0 M0 Im0 ad m m (ldSem P w (ad n).blk ((ad n).off + (i.den F ρ).toNat * ks.length + o) sz ag) v) := by
  have hm := mkAnd_spec g (inB i le) hk (inB_spec (F := F) (ρ := ρ)).1 F ρ
  refine ⟨hm.2, fun hg => ?_⟩
  rw [hm.1, Bool.and_eq_true] at hg
  have hR' := hR
  obtain ⟨hM, Im, h1, h2, hI⟩ := hR
  obtain ⟨⟨i1, i2, i3⟩, _⟩ := hI.ent n g _ hn hg.1
  obtain ⟨b1, b2⟩ := inB_lt i2 hg.2
  have hrd : RdL w Im row (ad n) (dc (c.den F ρ)) := by
    cases own
    · exact ShL.rd i3
    · exact OwL.rd i3
  have hq := rowKs_eq hr
  subst hq
  obtain ⟨us, u1, u2⟩ := hrd.2.2 (i.den F ρ).toNat _ (List.getElem?_eq_getElem b1)
  obtain ⟨f1, f2⟩ := RowV_ks.1 u1
  have hget : (dc (c.den F ρ)).getD (i.den F ρ).toNat [] = (dc (c.den F ρ))[(i.den F ρ).toNat] := by simp [List.getD, b1]
  have hconc := celS_conc (ad := ad) hB hget ks 0 _ f1 (fun t => by rw [Nat.zero_add])
  rw [ofKs_size] at u2
  obtain ⟨r1, r2⟩ := rdC_run (P := P) (F := F) (ρ := ρ) (ad := ad) (b := (ad n).blk) (base := (ad n).off + (i.den F ρ).toNat * ks.length) (fun j u hu => by
    rw [hconc, ← f2] at hu
    exact u2 j u hu) hv
  exact ⟨ad, w, Or.inl r1, hR', Ext.refl _ _, r2 _ (celS_ok c i _ ks 0)⟩

theorem ste_sound (hB : BI F) (hR : Rel F ρ w0 M0 Im0 ad m w) {n : Nat} {g : E} {ty : Nat} {row : Row} {le c i : E} (hn : m.at n = some (g, .lst ty row true le c)) (hk : g.kind = .b) (hr : rowKs row = some ks)
    {o : Nat} {cs : List SV} {es : List E} (he : scs ((ks.drop o).take cs.length) cs = some es) (hl : o + cs.length ≤ ks.length) :
    (mkAnd g (inB i le)).kind = .b ∧ ((mkAnd g (inB i le)).tt F ρ = true → Done F ρ w0 M0 Im0 ad m (m.set n (some (g, .lst ty row true le (.app .x 0 6 (c :: i :: .lit .x o :: es)))))
      (stSem P w (ad n).blk ((ad n).off + (i.den F ρ).toNat * ks.length + o) (SV.concL F ρ ad cs)) .und) := by
  have hm := mkAnd_spec g (inB i le) hk (inB_spec (F := F) (ρ := ρ)).1 F ρ
  refine ⟨hm.2, fun hg => ?_⟩
  rw [hm.1, Bool.and_eq_true] at hg
  have hR' := hR
  obtain ⟨hM, Im, h1, h2, hI⟩ := hR
  obtain ⟨⟨i1, i2, i3⟩, i4⟩ := hI.ent n g _ hn hg.1
  obtain ⟨b1, b2⟩ := inB_lt i2 hg.2
  have hq := rowKs_eq hr
  subst hq
  simp only [cond_true] at i3
  obtain ⟨s1, s2, s3⟩ := scs_spec F ρ ad he
  have hesl : (es.map (E.den F ρ)).length = cs.length := by simp [s3]
  have hlen : (le.den F ρ).toNat = (dc (c.den F ρ)).length := by rw [i2]; simp
  obtain ⟨w', r1, r2, r3⟩ := i3.set (P := P) (es := es.map (E.den F ρ)) (o := o) (List.getElem?_eq_getElem b1) (by rw [hesl]; exact s1) (by rw [hesl]; exact hl)
  rw [hesl, ← s2] at r1
  have hden : (E.app .x 0 6 (c :: i :: .lit .x o :: es)).den F ρ = cd ((dc (c.den F ρ)).set (i.den F ρ).toNat (splR (dc (c.den F ρ))[(i.den F ρ).toNat] o (es.map (E.den F ρ)))) := by
    rw [den_app0 hB]
    simp [bi, K.norm, E.den, List.getD, b1]
  refine ⟨ad, w', Or.inr ⟨r1, rfl⟩, ?_, Ext.set ad hn, trivial⟩
  refine hR'.turn hn r2 (fun b hb => ⟨by simp only [mutB, hlen]; exact hb, hg.1⟩) (fun Im' hI' _ => ?_) (fun b hb => hb) trivial
  obtain ⟨⟨_, _, j3⟩, j4⟩ := hI'.ent n g _ hn hg.1
  simp only [cond_true] at j3
  refine ⟨by rw [hden]; exact isCd_cd _, by rw [hden, dc_cd, List.length_set]; exact i2, ?_⟩
  simp only [cond_true, hden, dc_cd]
  obtain ⟨w1, t1, t2, t3⟩ := j3.set (P := P) (es := es.map (E.den F ρ)) (o := o) (List.getElem?_eq_getElem b1) (by rw [hesl]; exact s1) (by rw [hesl]; exact hl)
  have hww : w' = w1 := by
    rw [hesl, ← s2, r1] at t1
    simp only [Result.ok.injEq, true_and] at t1
    exact t1
  exact t3 w' r2 hww fun b hb => r2.block b (hI'.im b hb) fun e => ((j4 b (by simp only [mutB, hlen]; exact e)).2.1) hb

theorem leq_spec {a : E} {n : Int} (h : (mkCmp .leq a (.lit .x n)).tt F ρ = true) : a.den F ρ ≤ n := by
  rw [(mkCmp_spec .leq a (.lit .x n) F ρ).1] at h
  have h' : a.den F ρ ≤ (E.lit .x n).den F ρ := by simpa only [cmpB, decide_eq_true_eq] using h
  exact h'

/-- append, of whatever rows. -/
theorem app_core (hB : BI F) (hR : Rel F ρ w0 M0 Im0 ad m w) {t e rt : Nat} {x : SV} {V : LV} (hV : viewL m e (Row.ofKs ks) x = some V) (hg : V.g.tt F ρ = true) (ho : V.own = true) (ht : elemOf P t = some e)
    {bytes : Nat} (hi : infoOf P e = some (ks.length, bytes)) {nm : Nat} (hn1 : nm < m.length) (hn2 : (m.at nm).isNone = true) {y : Value} {rows : RL} {c' : E} (hc' : c'.den F ρ = cd (dc (V.c.den F ρ) ++ rows))
    (hy : (y = .slice none 0 0 ∧ rows = []) ∨ ∃ a cp news, y = .slice (some a) rows.length cp ∧ (∀ Im, RowsV w Im (Row.ofKs ks) rows news) ∧ ∀ j u, news[j]? = some u → w.cell? (a.add j) = some u)
    (hcap : (((dc (V.c.den F ρ)) ++ rows).length : Int) ≤ capOf bytes) :
    Done F ρ w0 M0 Im0 ad m ((killL m V.ns).set nm (some (mkB true, .lst e (Row.ofKs ks) true (LEN c') c'))) (valN ((Builtin.append_ #[t, t] rt #[x.conc F ρ ad, y]).run P w)) (.ls nm (LEN c')) := by
  obtain ⟨hM, Im, h1, h2, hI⟩ := hR
  obtain ⟨hd, o1, o2, o3, o4, o5, o6, o7⟩ := viewL_spec hB hI hV hg
  have o5 := o5 ho
  have o7 := o7 ho
  obtain ⟨hlen0, xs, hown, hrows⟩ := o5
  rw [ofKs_size] at hown
  obtain ⟨hcb, hcm⟩ := capOf_spec hcap
  obtain ⟨i, z, hi1, hi2, hi3, hi4, hi5, hi6⟩ := infoOf_spec hi
  have htt := elemOf_spec ht
  have hlen' : (LEN c').den F ρ = (((dc (V.c.den F ρ)) ++ rows).length : Int) := by rw [hB.len, hc', dc_cd, wrap_len hcm]
  have key : ∃ v' w' news, (Builtin.append_ #[t, t] rt #[x.conc F ρ ad, y]).run P w = .ok v' w' ∧ w'.ownsRow 0 e ks.length v' ((dc (V.c.den F ρ)) ++ rows).length (xs ++ news) ∧ w.grownBy w' (hd.sl (dc (V.c.den F ρ)).length).ownBlock ∧
      (v'.ownBlock = (hd.sl (dc (V.c.den F ρ)).length).ownBlock ∨ v'.ownBlock = some w.heap.size) ∧ RowsV w Im (Row.ofKs ks) rows news := by
    rw [o1]
    rcases hy with ⟨rfl, rfl⟩ | ⟨a, cp, news, rfl, hn, hc⟩
    · have hr := run_append_owned_none (P := P) w 0 t rt e i ks.length htt hi1 _ _ _ hown
      refine ⟨_, w, [], hr, ?_, ⟨rfl, rfl, rfl, Nat.le_refl _, fun _ _ _ => rfl⟩, Or.inl rfl, rfl⟩
      rw [List.append_nil, List.append_nil]; exact hown
    · have hnl := (hn Im).len
      rw [ofKs_size] at hnl
      obtain ⟨v', w', r1, r2, r3, r4⟩ := append_own2 (P := P) w t rt e i z ks.length bytes htt hi1 hi2 hi3 hi4 hi5 hi6 _ _ xs hown a rows.length cp news hnl hc (hn Im).one (by rw [← List.length_append]; exact hcm) (by rw [← List.length_append]; exact hcb)
      exact ⟨v', w', news, r1, by rw [List.length_append]; exact r2, r3, r4, hn Im⟩
  obtain ⟨v', w', news, r1, r2, r3, r4, r5⟩ := key
  obtain ⟨hd', hv'⟩ := ownsRow_hd r2
  have hcond : SV.conc F ρ (upd ad nm hd') (.ls nm (LEN c')) = v' := by
    simp only [SV.conc, upd_same, hlen', Int.toNat_natCast]
    exact hv'.symm
  refine ⟨upd ad nm hd', w', Or.inl ?_, ⟨hM, Im, h1, h2, ?_⟩, Ext.put _ hn1 hn2, al_put hn1⟩
  · rw [r1, hcond]; rfl
  · have hTs : ∀ b, (hd.sl (dc (V.c.den F ρ)).length).ownBlock = some b → ∃ n ∈ V.ns, ∃ g' x, m.at n = some (g', x) ∧ g'.tt F ρ = true ∧ mutB F ρ ad n x = some b := fun b hb => o7 b hb
    refine hI.put (ns := V.ns) (T := fun b => (hd.sl (dc (V.c.den F ρ)).length).ownBlock = some b) (Fr.grown r3) (fun b hb _ => hTs b hb) hn1 hn2 ?_ (fun b hb => ?_) trivial
    · refine ⟨by rw [hc']; exact isCd_cd _, by rw [hlen', hc', dc_cd], ?_⟩
      simp only [cond_true, hc', dc_cd, upd_same]
      refine ⟨hcm, xs ++ news, ?_, ?_⟩
      · rw [← hv', ofKs_size]; exact r2
      · refine (hrows.append r5).fr fun b hb => ⟨hb, r3.block b (hI.im b hb) fun e => ?_⟩
        obtain ⟨n, _, g', x', e1, e2, e3⟩ := hTs b e.symm
        exact ((hI.ent n g' x' e1 e2).2 b e3).2.1 hb
    · simp only [mutB, upd_same, hlen', Int.toNat_natCast, ← hv'] at hb
      have hlt := (r2.lt b hb).2
      refine ⟨hlt, ?_⟩
      rcases r4 with r4 | r4
      · exact Or.inr (hTs b (r4 ▸ hb))
      · rw [r4] at hb
        simp only [Option.some.injEq] at hb
        exact Or.inl (by omega)
end
end Go.Proofs.Ytmolkkphnehgcaa.Ew

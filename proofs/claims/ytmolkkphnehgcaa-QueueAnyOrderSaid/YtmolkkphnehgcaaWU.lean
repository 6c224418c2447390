/- That a call may be taken by its summary. -/
import Derived.Test.YtmolkkphnehgcaaWT
set_option linter.unusedVariables false
set_option linter.unusedSimpArgs false
namespace Go.Proofs.Ytmolkkphnehgcaa.Ew
open Go Go.RowKit

section
variable {P : Program} {ρ ρ' : Nat → Int} {G : Glob} {w0 w w' : World} {M0 Im0 Im Im' T : Nat → Prop} {ad ad' hs hs' : Nat → Hd} {m m' : Mem}

theorem viewL_sel {F : Fam} {ρ : Nat → Int} {m : Mem} {ad : Nat → Hd} {ty : Nat} {q : Row} : ∀ {v : SV} {V : LV}, viewL m ty q v = some V → V.own = true → V.g.tt F ρ = true → ∀ b, (v.conc F ρ ad).ownBlock = some b →
    ∃ n ∈ V.ns, ∃ g le c, m.at n = some (g, .lst ty q true le c) ∧ g.tt F ρ = true ∧ c.den F ρ = V.c.den F ρ ∧ v.conc F ρ ad = (ad n).sl (le.den F ρ).toNat
  | .ls n le, V, h, ho, hg, b, hb => by
    simp only [viewL] at h
    split at h
    · rename_i g ty' row' own le' c hn
      split at h
      · rename_i hc
        obtain ⟨rfl, rfl, h3, h4, h5, h6⟩ := hc
        simp only [Option.some.injEq] at h; subst h
        simp only at ho hg
        subst ho
        have hle := E.same_eq _ _ h3
        subst hle
        exact ⟨n, by simp, g, _, c, hn, hg, rfl, rfl⟩
      · cases h
    · cases h
  | .sv n str l0 lo hi, V, h, ho, hg, b, hb => by
    simp only [viewL] at h
    split at h
    · split at h
      · simp only [Option.some.injEq] at h; subst h
        simp at ho
      · cases h
    · cases h
  | .nilp c, V, h, ho, hg, b, hb => by
    cases c <;> simp only [viewL, Option.some.injEq, reduceCtorEq] at h
    simp [SV.conc, CV.val, Value.ownBlock] at hb
  | .ite p x y, V, h, ho, hg, b, hb => by
    simp only [viewL] at h
    split at h
    · rename_i X Y hx hy
      split at h
      · rename_i hp
        simp only [Option.some.injEq] at h; subst h
        simp only [Bool.and_eq_true] at ho
        obtain ⟨i1, i2, i3⟩ := viewL_kind hx
        obtain ⟨j1, j2, j3⟩ := viewL_kind hy
        simp only at hg
        rw [(mkIte_b hp i3 j3).2] at hg
        have hd := (mkIte_x (F := F) (ρ := ρ) hp i2 j2).2
        cases hpt : p.tt F ρ
        · simp only [SV.conc, hpt, cond_false] at hb hg hd ⊢
          obtain ⟨n, hn, g, le, c, q1, q2, q3, q4⟩ := viewL_sel hy ho.2 hg b hb
          exact ⟨n, List.mem_append_right _ hn, g, le, c, q1, q2, q3.trans hd.symm, q4⟩
        · simp only [SV.conc, hpt, cond_true] at hb hg hd ⊢
          obtain ⟨n, hn, g, le, c, q1, q2, q3, q4⟩ := viewL_sel hx ho.1 hg b hb
          exact ⟨n, List.mem_append_left _ hn, g, le, c, q1, q2, q3.trans hd.symm, q4⟩
      · cases h
    · cases h
  | .sc _, V, h, _, _, _, _ | .ptr .., V, h, _, _, _, _ | .pi .., V, h, _, _, _, _ | .sl .., V, h, _, _, _, _ | .pe .., V, h, _, _, _, _ | .mp .., V, h, _, _, _, _ | .oq .., V, h, _, _, _, _ | .fn .., V, h, _, _, _, _ | .agg .., V, h, _, _, _, _ | .tup .., V, h, _, _, _, _ | .gd .., V, h, _, _, _, _ | .und, V, h, _, _, _, _ | .gl .., V, h, _, _, _, _ => by simp [viewL] at h

theorem OwL.hd {w : World} {Im : Nat → Prop} {ty : Nat} {q : Row} {h h' : Hd} {l : RL} (ho : OwL w Im ty q h l) (e : h.sl l.length = h'.sl l.length) : OwL w Im ty q h' l := by
  obtain ⟨h1, xs, h2, h3⟩ := ho
  exact ⟨h1, xs, by rw [← e]; exact h2, h3⟩

mutual
theorem get_nm : ∀ (s : Sh) (acc : List Src) (v : SV) (r : List E × List Src × E), s.get m acc v = some r → ∀ n, Src.nm n ∈ r.2.1 → al m n
  | .sc k, acc, v, r, h, n, hn => by
    cases v <;> simp only [Sh.get, reduceCtorEq] at h
    split at h <;> simp only [Option.some.injEq, reduceCtorEq] at h
    subst h; cases hn
  | .lt k z, acc, v, r, h, n, hn => by
    cases v with
    | sc x =>
      cases x <;> simp only [Sh.get, reduceCtorEq] at h
      split at h <;> simp only [Option.some.injEq, reduceCtorEq] at h
      subst h; cases hn
    | _ => simp [Sh.get] at h
  | .agg L, acc, v, r, h, n, hn => by
    cases v <;> simp only [Sh.get, reduceCtorEq] at h
    exact getL_nm L acc _ r h n hn
  | .lst ty row own, acc, v, r, h, n, hn => by
    have h' : getLst m ty row own v = some r := by cases v <;> simpa only [Sh.get] using h
    unfold getLst at h'
    split at h'
    · split at h' <;> simp only [Option.some.injEq, reduceCtorEq] at h'
      subst h'
      simp at hn
    · cases h'
  | .obj ty cs, acc, v, r, h, n, hn => by
    cases v with
    | ptr k o =>
      cases o with
      | zero =>
        simp only [Sh.get] at h
        split at h
        · rename_i g' ty' vs hb
          split at h
          · obtain ⟨q, hq, rfl⟩ := Option.map_eq_some_iff.1 h
            simp only [List.mem_cons, Src.nm.injEq] at hn
            rcases hn with rfl | hn
            · exact Mem.at_al (blkC_spec hb).1
            · exact getL_nm cs _ vs q hq n hn
          · cases h
        · cases h
      | succ o => simp [Sh.get] at h
    | _ => simp [Sh.get] at h
  | .mp ks vs kag vag, acc, v, r, h, n, hn => by
    cases v <;> simp only [Sh.get, reduceCtorEq] at h
    case mp k =>
      obtain ⟨g, c, h1, rfl, h3, h4⟩ := getMp_spec h
      simp at hn
    case ite p a b =>
      obtain ⟨q, h1, rfl⟩ := Option.map_eq_some_iff.1 h
      simp at hn
  | .seg ty ks cs, acc, v, r, h, n, hn => by
    cases v with
    | ptr k o =>
      cases o with
      | zero =>
        simp only [Sh.get] at h
        split at h
        · rename_i g' ty' vs ks' c hb
          split at h
          · obtain ⟨q, hq, rfl⟩ := Option.map_eq_some_iff.1 h
            simp only [List.mem_cons, Src.nm.injEq] at hn
            rcases hn with rfl | hn
            · exact Mem.at_al (blkS_spec hb).1
            · exact getL_nm cs _ vs q hq n hn
          · cases h
        · cases h
      | succ o => simp [Sh.get] at h
    | _ => simp [Sh.get] at h
  | .ref j, acc, v, r, h, n, hn => by
    cases v with
    | ptr k o =>
      cases o with
      | zero =>
        simp only [Sh.get] at h
        split at h <;> simp only [Option.some.injEq, reduceCtorEq] at h
        subst h; cases hn
      | succ o => simp [Sh.get] at h
    | _ => simp [Sh.get] at h
  | .fnc f L, acc, v, r, h, n, hn => by
    cases v <;> simp only [Sh.get, reduceCtorEq] at h
    split at h
    · exact getL_nm L acc _ r h n hn
    · cases h
  | .nul c, acc, v, r, h, n, hn => by
    cases v <;> simp only [Sh.get, reduceCtorEq] at h
    split at h <;> simp only [Option.some.injEq, reduceCtorEq] at h
    subst h; cases hn
  | .tup L, acc, v, r, h, n, hn => by
    cases v <;> simp only [Sh.get, reduceCtorEq] at h
    exact getL_nm L acc _ r h n hn
  | .opt s, acc, v, r, h, n, hn => by
    have h' : getOpt (mkB true :: s.ks.map fun k => E.lit k 0, List.replicate s.nn Src.dm, mkB true) v (fun u => s.get m acc u) = some r := by cases v <;> simpa only [Sh.get] using h
    unfold getOpt at h'
    split at h'
    · simp only [Option.some.injEq] at h'; subst h'
      simp only [List.mem_replicate] at hn
      cases hn.2
    · split at h'
      · obtain ⟨q, hq, rfl⟩ := Option.map_eq_some_iff.1 h'
        exact get_nm s acc _ q hq n hn
      · cases h'
    · cases h'
  | .und, acc, v, r, h, n, hn => by
    cases v <;> simp only [Sh.get, reduceCtorEq] at h
    simp only [Option.some.injEq] at h; subst h; cases hn
theorem getL_nm : ∀ (L : List Sh) (acc : List Src) (vs : List SV) (r : List E × List Src × E), Sh.getL m L acc vs = some r → ∀ n, Src.nm n ∈ r.2.1 → al m n
  | [], acc, [], r, h, n, hn => by simp only [Sh.getL, Option.some.injEq] at h; subst h; cases hn
  | [], acc, _ :: _, r, h, n, hn => by simp [Sh.getL] at h
  | _ :: _, acc, [], r, h, n, hn => by simp [Sh.getL] at h
  | s :: L, acc, v :: vs, r, h, n, hn => by
    simp only [Sh.getL] at h
    split at h
    · rename_i es' ns' g' hs0
      obtain ⟨q, hq, rfl⟩ := Option.map_eq_some_iff.1 h
      rcases List.mem_append.1 hn with hn | hn
      · exact get_nm s acc v _ hs0 n hn
      · exact getL_nm L _ vs q hq n hn
    · cases h
end
theorem SameL.self {F1 F2 : Fam} {ρ1 ρ2 : Nat → Int} {ad1 ad2 : Nat → Hd} {nv1 nv2 : Nat → Nat} : ∀ {a : Ents}, SameL F1 F2 ρ1 ρ2 ad1 ad2 nv1 nv2 a a → ∀ x ∈ a, SameE F1 F2 ρ1 ρ2 ad1 ad2 nv1 nv2 x x
  | [], _, x, hx => by cases hx
  | a :: l, h, x, hx => by
    rcases List.mem_cons.1 hx with rfl | hx
    · exact h.1
    · exact SameL.self h.2 x hx

theorem callE_core {l : Tabs} {e : Ent} (he : l.get e.key = some e) (hG : GOK G Im0 w0) (hR : Rel l.F ρ w0 M0 Im0 ad m w) {nm : Nat} {args : List SV} {g : E} {v : SV}
    (h : callE e m nm args = some (g, v, m')) : g.kind = .b ∧ (g.tt l.F ρ = true → ∃ (xs : List Int) (hs : Nat → Hd) (M1 Im : Nat → Prop), fits e.pks xs ∧ e.pre xs ∧ SV.concL l.F ρ ad args = SV.concL F0 (env xs) hs e.pgen.1 ∧
      (∀ b, M1 b → ¬ Im b ∧ b < w.heap.size) ∧ GOK G Im w ∧ RelE F0 (env xs) w M1 Im hs e.pgen.2 w ∧
      ∀ (w' : World) (hs' : Nat → Hd) (Im' : Nat → Prop), (∀ j, j < e.nn → hs' j = hs j) → (∀ b, Im b → Im' b) → (∀ b, Im' b → Im b ∨ M1 b ∨ w.heap.size ≤ b) → RelE F0 (env (xs ++ outsE e.fn xs 0 e.oks)) w M1 Im' hs' e.oents w' →
        ∃ ad', v.conc l.F ρ ad' = (lastV e.ogen.1).conc F0 (env (xs ++ outsE e.fn xs 0 e.oks)) hs' ∧ Rel l.F ρ w0 M0 Im0 ad' m' w' ∧ Ext ad ad' m m' ∧ v.ok (al m')) := by
  have hB := l.BI
  unfold callE at h
  split at h
  · rename_i es srcs g0 hget
    simp only at h
    split at h
    · rename_i sets hsets
      split at h
      · rename_i hc
        obtain ⟨c1, c2, c3, c4, c5, c6, c7, c8, c9, c10⟩ := hc
        simp only [Option.some.injEq, Prod.mk.injEq] at h
        obtain ⟨rfl, rfl, rfl⟩ := h
        obtain ⟨k1, k2, k3, k4⟩ := getL_kinds e.ps [] args _ hget
        simp only at k1 k2 k3 k4
        have hpk : (E.app .b e.key preC es).kind = .b := rfl
        have hm := mkAnd_spec g0 (.app .b e.key preC es) k3 hpk l.F ρ
        have hmd := mkAnd_spec (mkAnd g0 (.app .b e.key preC es)) (defG e.key nm es e.oks) hm.2 (defG_kind _ _ _ _) l.F ρ
        refine ⟨hmd.2, fun hg => ?_⟩
        rw [hmd.1, Bool.and_eq_true] at hg
        obtain ⟨hg, hgd⟩ := hg
        rw [hm.1, Bool.and_eq_true] at hg
        have hG' := hG.now hR
        have hR0 := hR
        obtain ⟨hM, Im, h1, h2, hI⟩ := hR
        -- the parameters
        have hxs : ∃ xs, xs = es.map (E.den l.F ρ) := ⟨_, rfl⟩
        obtain ⟨xs, hxs⟩ := hxs
        have hfit : fits e.pks xs := by rw [hxs]; exact fits_of k1 k4
        have hxl : xs.length = e.np := fits_length hfit
        have hel : es.length = e.np := by rw [← hxl, hxs]; simp
        have hpre : e.pre xs := by
          have := hg.2
          unfold E.tt at this
          simp only [E.den, denL_eq, ← hxs] at this
          exact (Tabs.F_pre he c7 rfl).1 this
        have hSrc : SrcAt srcs 0 srcs := fun j s hj => by simpa using hj
        have hev : EvOK l.F ρ (env xs) (varE e.pks) 0 es := fun i x hi => by
          have hil := (List.getElem?_eq_some_iff.1 hi).1
          rw [Nat.zero_add]
          refine ⟨?_, ?_⟩
          · rw [varE_den hfit, if_pos (by rw [show e.pks.length = e.np from rfl]; omega), hxs]
            simp [List.getD, hi]
          · refine varE_kind _ _ _ ?_
            have : (es.map E.kind)[i]? = some x.kind := by simp [hi]
            rw [k1] at this; exact this
        obtain ⟨p1, p2⟩ := shgetL_spec (F := l.F) (ρ := ρ) (ρ' := env xs) (w0 := w0) (w := w) (M0 := M0) (Im := Im) (ad := ad) (m := m) (ev := varE e.pks) (S := srcs) (hs := fun j => match srcs[j]? with | some s => srcHd l.F ρ w Im ad m s | none => default)
          hB hI (fun j s hj => by simp only [hj]) e.ps [] args _ (mkB true) 0 hget (mkB_kind _) (fun j s hj => by simp at hj) hSrc hev hg.1
        generalize hhs : (fun j => match srcs[j]? with | some s => srcHd l.F ρ w Im ad m s | none => default : Nat → Hd) = hs at p1 p2
        change SV.concL l.F ρ ad args = SV.concL F0 (env xs) hs e.pgen.1 at p1
        change ∀ x ∈ e.pgen.2, _ at p2
        -- what may be written
        have hM1 : ∃ M1 : Nat → Prop, M1 = fun b => ∃ x ∈ e.pgen.2, x.2.1.tt F0 (env xs) = true ∧ mutB F0 (env xs) hs x.1 x.2.2 = some b := ⟨_, rfl⟩
        obtain ⟨M1, hM1⟩ := hM1
        have hM1b : ∀ b, M1 b → (M0 b ∨ w0.heap.size ≤ b) ∧ ¬ Im b ∧ b < w.heap.size := fun b hb => by
          rw [hM1] at hb
          obtain ⟨x, hx, hxg, hxb⟩ := hb
          obtain ⟨n, _, g', y, a1, a2, a3⟩ := (p2 x hx hxg).mu b hxb
          exact (hI.ent n g' y a1 a2).2 b a3
        have hrel : RelE F0 (env xs) w M1 Im hs e.pgen.2 w := by
          refine ⟨fun x hx hxg => ⟨(p2 x hx hxg).ok, fun b hb => ?_⟩, fun x hx y hy hxg hyg b hbx hby => ?_, hI.im, Fr.refl _ _⟩
          · have hb1 : M1 b := by rw [hM1]; exact ⟨x, hx, hxg, hb⟩
            exact ⟨Or.inl hb1, (hM1b b hb1).2⟩
          · obtain ⟨n, n1, g1, y1, a1, a2, a3⟩ := (p2 x hx hxg).mu b hbx
            obtain ⟨n', n1', g1', y1', a1', a2', a3'⟩ := (p2 y hy hyg).mu b hby
            have := hI.inj n n' g1 y1 g1' y1' b a1 a2 a1' a2' a3 a3'
            subst this
            exact nodup_flat c1 x.1 (mutJ_mem hx hbx) y.1 (mutJ_mem hy hby) n n1 n1'
        refine ⟨xs, hs, M1, Im, hfit, hpre, p1, fun b hb => ⟨(hM1b b hb).2.1, (hM1b b hb).2.2⟩, hG.fr hM hI.fr h1, hrel, fun w' hs' Im' q1 q2 q3 q5 => ?_⟩
        -- names behind the call
        have hys : ∃ ys, ys = outsE e.fn xs 0 e.oks := ⟨_, rfl⟩
        obtain ⟨ys, hys⟩ := hys
        rw [← hys] at q5 ⊢
        have hyfit : fits e.oks ys := by rw [hys]; exact outsE_fits _ _ _ _
        have hyl : ys.length = e.oks.length := fits_length hyfit
        have hod : (outV e.key nm es e.oks).map (E.den l.F ρ) = ys := by rw [outV_den hgd, appsE_den he c7 es e.oks 0 (by have := c8; omega), ← hxs, hys]
        have hall : fits (e.pks ++ e.oks) (xs ++ ys) := fits_append hfit hyfit
        let nw := Sh.nnL e.outL
        let ad' : Nat → Hd := fun k => if nm ≤ k ∧ k < nm + nw then hs' (e.nn + (k - nm)) else if 1000000000 ≤ k then hs' (k - 1000000000) else ad k
        have hfree : ∀ k, al m k → ¬ (nm ≤ k ∧ k < nm + nw) ∧ k < m.length := fun k hk => by
          obtain ⟨x, hx⟩ := Option.isSome_iff_exists.1 hk
          refine ⟨fun ⟨a, b⟩ => ?_, Mem.at_lt hx⟩
          have := (freeB_spec c3 (i := k - nm) (by show k - nm < nw; omega)).2
          rw [show nm + (k - nm) = k by omega, hx] at this
          cases this
        have hadal : ∀ k, al m k → ad k = ad' k := fun k hk => by
          obtain ⟨a, b⟩ := hfree k hk
          have c4' := c4
          simp only [ad', if_neg a, if_neg (show ¬ 1000000000 ≤ k by omega)]
        have hnmal : ∀ j n, srcs[j]? = some (Src.nm n) → hs j = ad n := fun j n hj => by rw [← hhs]; simp only [hj]; rfl
        have newlt : ∀ t, t < nw → nm + t < m.length := fun t ht => (freeB_spec c3 ht).1
        have nmal : ∀ j n, srcs[j]? = some (Src.nm n) → al m n := fun j n hj => getL_nm e.ps [] args _ hget n (List.mem_of_getElem? hj)
        have hadnv : ∀ j, ad' (nvC srcs e.nn nm nw j) = hs' j := fun j => by
          unfold nvC
          by_cases hj : j < e.nn
          · rw [if_pos hj]
            split
            · rename_i n hn
              rw [← hadal n (nmal j n hn), ← hnmal j n hn, q1 j hj]
            · have hnl : nm + nw ≤ m.length ∨ nw = 0 := by
                by_cases hz : nw = 0
                · exact Or.inr hz
                · exact Or.inl (by have := newlt (nw - 1) (by omega); omega)
              simp only [ad']
              rw [if_neg (by omega), if_pos (by omega), show 1000000000 + j - 1000000000 = j by omega]
          · rw [if_neg hj]
            by_cases hw : j - e.nn < nw
            · rw [if_pos hw]
              simp only [ad']
              rw [if_pos (by omega)]
              congr 1; omega
            · rw [if_neg hw]
              have hnl : nm + nw ≤ m.length ∨ nw = 0 := by
                by_cases hz : nw = 0
                · exact Or.inr hz
                · exact Or.inl (by have := newlt (nw - 1) (by omega); omega)
              simp only [ad']
              rw [if_neg (by omega), if_pos (by omega), show 1000000000 + j - 1000000000 = j by omega]
        have htr : ∀ B, Tr B l.F F0 ρ (env (xs ++ ys)) ad' hs' (evC es (outV e.key nm es e.oks)) (varE (e.pks ++ e.oks)) (nvC srcs e.nn nm nw) id := fun B => by
          have hkk : (outV e.key nm es e.oks).map E.kind = e.oks := outV_kind _ _ _ _
          have hol := outV_len e.key nm es e.oks
          refine ⟨hB, BI_F0, fun i => ?_, fun i => ?_, fun j _ => hadnv j⟩
          · rw [varE_den hall, List.length_append, getD_app, hxl]
            unfold evC
            rw [hel, show e.pks.length = e.np from rfl]
            by_cases hi : i < e.np
            · rw [if_pos hi, if_pos (by omega), if_pos hi, hxs]
              simp [List.getD, show i < es.length by omega]
            · rw [if_neg hi, if_neg hi]
              by_cases hi2 : i - e.np < e.oks.length
              · rw [if_pos (by omega), ← hod]
                simp [List.getD, show i - e.np < (outV e.key nm es e.oks).length by omega]
              · rw [if_neg (by omega)]
                simp [List.getD, List.getElem?_eq_none (show (outV e.key nm es e.oks).length ≤ i - e.np by omega), b2i]
          · unfold evC varE
            rw [hel]
            by_cases hi : i < e.np
            · rw [if_pos hi, List.getElem?_append_left (by exact hi)]
              have : (es.map E.kind)[i]? = e.pks[i]? := by rw [k1]; rfl
              rw [List.getElem?_map, List.getElem?_eq_getElem (show i < es.length by omega)] at this
              simp only [Option.map_some] at this
              rw [← this]
              simp [List.getD, show i < es.length by omega, E.kind]
            · rw [if_neg hi, List.getElem?_append_right (by rw [show e.pks.length = e.np from rfl]; omega), show e.pks.length = e.np from rfl]
              by_cases hi2 : i - e.np < e.oks.length
              · have : ((outV e.key nm es e.oks).map E.kind)[i - e.np]? = e.oks[i - e.np]? := by rw [hkk]
                rw [List.getElem?_map, List.getElem?_eq_getElem (show i - e.np < (outV e.key nm es e.oks).length by omega)] at this
                simp only [Option.map_some] at this
                rw [← this]
                simp [List.getD, show i - e.np < (outV e.key nm es e.oks).length by omega, E.kind]
              · rw [List.getElem?_eq_none (by omega)]
                simp [List.getD, List.getElem?_eq_none (show (outV e.key nm es e.oks).length ≤ i - e.np by omega)]
        have hkev : ∀ i k, (Sh.ksL e.outL)[i]? = some k → (evC es (outV e.key nm es e.oks) (e.np + i)).kind = k := fun i k hi => by
          have hkk : (outV e.key nm es e.oks).map E.kind = e.oks := outV_kind _ _ _ _
          have hil : i < e.oks.length := (List.getElem?_eq_some_iff.1 hi).1
          have hol := outV_len e.key nm es e.oks
          unfold evC
          rw [hel, if_neg (by omega), show e.np + i - e.np = i by omega]
          have : ((outV e.key nm es e.oks).map E.kind)[i]? = some k := by rw [hkk]; exact hi
          rw [List.getElem?_map, List.getElem?_eq_getElem (show i < (outV e.key nm es e.oks).length by omega)] at this
          simp only [Option.map_some, Option.some.injEq] at this
          simp [List.getD, show i < (outV e.key nm es e.oks).length by omega, this]
        have hrefs : ∀ j ∈ Sh.refsL e.outL, isRef srcs j = true ∧ j < e.nn := fun j hj => by
          have := List.all_eq_true.1 c9 j hj
          simpa using this
        obtain ⟨t1, t2⟩ := genL_tr (htr (e.nn + nw)) e.outL (mkB true) (mkB true) e.np e.nn (mkB_kind _) (mkB_kind _) (by simp) hkev (Nat.le_refl _) (fun j hj => by have := (hrefs j hj).2; omega)
        change SV.concL l.F ρ ad' _ = SV.concL F0 (env (xs ++ ys)) hs' e.ogen.1 at t1
        change SameL l.F F0 ρ (env (xs ++ ys)) ad' hs' (nvC srcs e.nn nm nw) id _ e.ogen.2 at t2
        have hisx : (Sh.genL (evC es (outV e.key nm es e.oks)) (nvC srcs e.nn nm nw) e.outL (mkB true) e.np e.nn).1.map isXv = e.ogen.1.map isXv := isXv_gen (htr 0).kd e.outL _ _ _ _
        generalize hgen : Sh.genL (evC es (outV e.key nm es e.oks)) (nvC srcs e.nn nm (Sh.nnL e.outL)) e.outL (mkB true) e.np e.nn = gen at hsets t1 t2 hisx ⊢
        have hgo : ∀ p : Nat → Prop, (∀ j, e.nn ≤ j → j < e.nn + nw → p (nvC srcs e.nn nm nw j)) → (∀ j ∈ Sh.refsL e.outL, p (nvC srcs e.nn nm nw j)) → SV.okL p gen.1 ∧ ∀ x ∈ gen.2, (e.nn ≤ x.1 ∧ x.1 < e.nn + nw) ∧ SV.okL p x.2.2.cs := fun p a b => by
          rw [← hgen]; exact genL_ok _ _ _ _ a b
        have hgh : ∀ j, e.nn ≤ j → j < e.nn + nw → ∃ x ∈ gen.2, x.1 = j := fun j a b => by rw [← hgen]; exact genL_has _ _ _ _ j a b
        have hnew : ∀ j, e.nn ≤ j → j < e.nn + nw → nvC srcs e.nn nm nw j = nm + (j - e.nn) ∧ nm + (j - e.nn) < m.length := fun j a b => by
          refine ⟨?_, newlt _ (by omega)⟩
          unfold nvC
          rw [if_neg (by omega), if_pos (by omega)]
        have hself := (genL_tr (Tr.params (ys := ys) e.nn hfit q1) e.ps (mkB true) (mkB true) 0 0 (mkB_kind _) (mkB_kind _) (by simp) (fun i k hi => by rw [Nat.zero_add]; exact varE_kind _ _ _ hi) (by rw [Nat.zero_add]; exact Nat.le_refl _) (fun j hj => by have := List.all_eq_true.1 c10 j hj; simpa using this)).2.self
        change ∀ x ∈ e.pgen.2, _ at hself
        have hsrclen : ∀ j s, srcs[j]? = some s → j < e.nn := fun j s hj => by have := (List.getElem?_eq_some_iff.1 hj).1; rw [k2] at this; exact this
        -- what the memory behind the call holds
        let dead := ((mutJ e.pgen.2).filter fun j => !e.kp.contains j && !(e.os.any fun o => o.j == j)).flatMap (srcOf srcs)
        have hkeep : ∀ k, al m k → al (setEs (setEs (killL m dead) sets) (gen.2.map fun x => (nvC srcs e.nn nm nw x.1, x.2.1, x.2.2))) k := fun k hk => setEs_al (setEs_al ((killL_al dead m k).2 hk))
        have hnews : ∀ j, e.nn ≤ j → j < e.nn + nw → al (setEs (setEs (killL m dead) sets) (gen.2.map fun x => (nvC srcs e.nn nm nw x.1, x.2.1, x.2.2))) (nvC srcs e.nn nm nw j) := fun j a b => by
          obtain ⟨x, x1, x2⟩ := hgh j a b
          obtain ⟨r1, r2⟩ := hnew j a b
          have := setEs_new (l := gen.2.map fun x => (nvC srcs e.nn nm nw x.1, x.2.1, x.2.2)) (m := setEs (killL m dead) sets) (y := (nvC srcs e.nn nm nw x.1, x.2.1, x.2.2)) (List.mem_map.2 ⟨x, x1, rfl⟩) (by rw [setEs_len, killL_len, x2]; show nvC srcs e.nn nm nw j < _; rw [r1]; exact r2)
          rwa [x2] at this
        obtain ⟨gok1, gok2⟩ := hgo (al (setEs (setEs (killL m dead) sets) (gen.2.map fun x => (nvC srcs e.nn nm nw x.1, x.2.1, x.2.2)))) hnews fun j hj => by
          obtain ⟨r1, r2⟩ := hrefs j hj
          unfold isRef at r1
          split at r1
          · rename_i n hn
            have : nvC srcs e.nn nm nw j = n := by unfold nvC; rw [if_pos r2]; simp only [hn]
            rw [this]
            exact hkeep n (nmal j n hn)
          · cases r1
        let NameIs : Nat → Nat → Blk → Prop := fun j n x => (srcOf srcs j = [n] ∧ j < e.nn) ∨ (e.nn ≤ j ∧ n = nvC srcs e.nn nm nw j) ∨ (n ∈ srcOf srcs j ∧ j < e.nn ∧ ∃ g, m.at n = some (g, x) ∧ g.tt l.F ρ = true)
        have hIm : ∀ b, Im b → Im' b ∧ w'.heap[b]? = w.heap[b]? := fun b hb => ⟨q2 b hb, q5.fr.block b (hI.im b hb) fun t => (hM1b b t).2.1 hb⟩
        have cls : ∀ n g x, (setEs (setEs (killL m dead) sets) (gen.2.map fun x => (nvC srcs e.nn nm nw x.1, x.2.1, x.2.2))).at n = some (g, x) → g.tt l.F ρ = true →
            ((∃ g', m.at n = some (g', x) ∧ g'.tt l.F ρ = true) ∧ ∀ b, mutB l.F ρ ad n x = some b → ¬ M1 b ∧ ¬ Im' b) ∨
            (∃ z ∈ e.oents, z.2.1.tt F0 (env (xs ++ ys)) = true ∧ NameIs z.1 n x ∧ mutB l.F ρ ad' n x = mutB F0 (env (xs ++ ys)) hs' z.1 z.2.2 ∧ BlkOK l.F ρ Im' ad' n w' x) ∨ x = .dead := by
          intro n g x hn hg'
          rcases mem_setEs hn with hn | ⟨hn1, hn⟩ | ⟨y, hy, hy1, hy2⟩
          · obtain ⟨y, hy, he'⟩ := List.mem_map.1 hn
            simp only [Prod.mk.injEq] at he'
            obtain ⟨rfl, rfl, rfl⟩ := he'
            obtain ⟨z, hz, hs⟩ := t2.mem y hy
            right; left
            have hzo : z ∈ e.oents := by unfold Ent.oents; exact List.mem_append_right _ (List.mem_append_right _ hz)
            have hzg : z.2.1.tt F0 (env (xs ++ ys)) = true := by rw [← hs.gd]; exact hg'
            have hb1 := (q5.ent z hzo hzg).1
            exact ⟨z, hzo, hzg, Or.inr (Or.inl ⟨by rw [← hs.nm]; exact (gok2 y hy).1.1, by rw [← hs.nm]⟩), hs.mu, (hs.ok Im' w').2 hb1⟩
          · rcases mem_setEs hn with hn | ⟨hn2, hn⟩ | ⟨y, hy, hy1, hy2⟩
            · obtain ⟨j, b0, s1, s2, s4, s5⟩ := objSet_spec hsets _ hn
              simp only at s1 s4 s5
              obtain ⟨ty, tl, vs', us', rfl, u1, u2, u3⟩ := objE_same (F1 := l.F) (F2 := F0) (ρ1 := ρ) (ρ2 := env (xs ++ ys)) (ad1 := ad') (ad2 := hs') t1 hisx j x s4
              right; left
              have hzo : (j, mkB true, mkO ty tl us') ∈ e.oents := by unfold Ent.oents; exact List.mem_append_left _ u1
              have hjn := hsrclen j _ s1
              have hadn : ad' n = hs' j := by rw [← hadal n (Mem.at_al s5), ← hnmal j n s1, q1 j hjn]
              have hb1 := (q5.ent _ hzo (by simp)).1
              obtain ⟨v1, v2⟩ := mkO_same (n := n) (j := j) (ty := ty) (tl := tl) u2 u3 hadn
              exact ⟨_, hzo, by simp, Or.inl ⟨by simp [srcOf, s1, Src.ns], hjn⟩, v1, (v2 Im' w').2 hb1⟩
            · rcases killL_at hn with hd | ⟨hn3, hn4⟩
              · exact Or.inr (Or.inr hd)
              · cases hmb : mutB l.F ρ ad n x with
                | none => exact Or.inl ⟨⟨g, hn3, hg'⟩, fun b hb => by cases hb⟩
                | some b =>
                  obtain ⟨hx1, hx2⟩ := hI.ent n g x hn3 hg'
                  by_cases hb1 : M1 b
                  · have hb1' := hb1
                    rw [hM1] at hb1'
                    obtain ⟨y, hy, hyg, hyb⟩ := hb1'
                    have hEnt := p2 y hy hyg
                    obtain ⟨n', n1, g1, y1, a1, a2, a3⟩ := hEnt.mu b hyb
                    have hnn := hI.inj n' n g1 y1 g x b a1 a2 hn3 hg' a3 hmb
                    subst hnn
                    have hyj := mutJ_mem hy hyb
                    have hkp : e.kp.contains y.1 = true := by
                      cases hkc : e.kp.contains y.1 with
                      | true => rfl
                      | false =>
                        exfalso
                        by_cases hos : (e.os.any fun o => o.j == y.1) = true
                        · obtain ⟨o, ho1, ho2⟩ := List.any_eq_true.1 hos
                          have hoj : o.j = y.1 := by simpa using ho2
                          obtain ⟨n'', b1, yy, b2, b3⟩ := objSet_has hsets y.1 (List.mem_map.2 ⟨o, ho1, hoj⟩)
                          have : srcOf srcs y.1 = [n''] := by simp [srcOf, b1, Src.ns]
                          rw [this] at n1
                          simp only [List.mem_singleton] at n1
                          subst n1
                          exact hn2 yy b2 b3
                        · refine hn4 (List.mem_flatMap.2 ⟨y.1, List.mem_filter.2 ⟨hyj, ?_⟩, n1⟩)
                          rw [hkc]
                          simp only [Bool.not_false, Bool.true_and, Bool.not_eq_true', Bool.not_eq_true] at hos ⊢
                          exact hos
                    have hyo : y ∈ e.oents := by unfold Ent.oents keptE; exact List.mem_append_right _ (List.mem_append_left _ (List.mem_filter.2 ⟨hy, hkp⟩))
                    have hse := hself y hy
                    have hyg' : y.2.1.tt F0 (env (xs ++ ys)) = true := by rw [← hse.gd]; exact hyg
                    obtain ⟨r1, r2⟩ := q5.ent y hyo hyg'
                    have r1' := (hse.ok Im' w').2 r1
                    have hk1 := List.all_eq_true.1 c2 y.1 (by simpa using hkp)
                    have hadn : ad' n' = ad n' := (hadal n' (Mem.at_al hn3)).symm
                    right; left
                    have hmu : mutB l.F ρ ad' n' x = mutB F0 (env (xs ++ ys)) hs' y.1 y.2.2 := by
                      rw [mutB_congr hadn, hmb]
                      have := hse.mu
                      simp only [id] at this
                      rw [← this, hyb]
                    split at hk1
                    · rename_i n0 hn0
                      have hso : srcOf srcs y.1 = [n0] := by simp [srcOf, hn0, Src.ns, dd]
                      rw [hso] at n1
                      simp only [List.mem_singleton] at n1
                      subst n1
                      refine ⟨y, hyo, hyg', Or.inl ⟨hso, hsrclen _ _ hn0⟩, hmu, ?_⟩
                      have e1 := hEnt.ok
                      have hsame : w'.heap[b]? = w.heap[b]? := by
                        rcases hEnt.nm n' hn0 with ⟨ty, cs, hc⟩ | ⟨ty, cs, ks, c, hc⟩
                        · rw [hc] at e1 r1' hyb
                          simp only [BlkOK, id] at e1 r1'
                          simp only [mutB, Option.some.injEq] at hyb
                          rw [hyb] at e1 r1'
                          rw [e1, r1']
                        · rw [hc] at e1 r1' hyb
                          simp only [BlkOK, id] at e1 r1'
                          simp only [mutB, Option.some.injEq] at hyb
                          rw [hyb] at e1 r1'
                          rw [e1.2.2, r1'.2.2]
                      refine hx1.fr hIm (fun b' hb' => ?_) hadn ?_
                      · rw [hmb] at hb'
                        simp only [Option.some.injEq] at hb'
                        subst hb'
                        exact hsame
                      · exact (SV.concL_congr hadal x.cs (hI.ok n' g x hn3)).symm
                    · rename_i ty row v0 V hn0
                      obtain ⟨own, le, c, v1, v2, v3, v4, v5, v6⟩ := hEnt.vw ty row v0 V hn0
                      cases own with
                      | false => rw [v1] at hyb; simp [mutB] at hyb
                      | true =>
                        have e1 := hEnt.ok
                        rw [v1] at hyb r1' e1
                        obtain ⟨k1, k2, k3⟩ := e1
                        have hvb : (v0.conc l.F ρ ad).ownBlock = some b := by
                          rw [v4, ← v3]
                          simp only [mutB, k2, Int.toNat_natCast, id] at hyb
                          exact hyb
                        obtain ⟨n0, z0, g0, le0, c0, z1, z2, z3, z4⟩ := viewL_sel v2 (v6 rfl) v5 b hvb
                        have hnn0 := hI.inj n0 n' g0 _ g x b z1 z2 hn3 hg' (by simp only [mutB]; rw [← z4]; exact hvb) hmb
                        subst hnn0
                        rw [hn3] at z1
                        simp only [Option.some.injEq, Prod.mk.injEq] at z1
                        obtain ⟨rfl, rfl⟩ := z1
                        refine ⟨y, hyo, hyg', Or.inr (Or.inr ⟨n1, hsrclen _ _ hn0, g, hn3, hg'⟩), hmu, ?_⟩
                        obtain ⟨u1, u2, u3⟩ := r1'
                        simp only [cond_true, id] at u3
                        obtain ⟨x1, x2, x3⟩ := hx1
                        refine ⟨x1, x2, ?_⟩
                        simp only [cond_true]
                        rw [v3, ← z3] at u3
                        refine u3.hd ?_
                        have hle0 : (le0.den l.F ρ).toNat = (dc (c0.den l.F ρ)).length := by rw [x2]; simp
                        rw [hadn, ← hle0, ← z4, v4, hle0, z3]
                    · rename_i n0 hn0
                      have hso : srcOf srcs y.1 = [n0] := by simp [srcOf, hn0, Src.ns, dd]
                      rw [hso] at n1
                      simp only [List.mem_singleton] at n1
                      subst n1
                      obtain ⟨ks, vs, kag, vag, c, g2, c', m1, m2, m3⟩ := hEnt.mp _ hn0
                      rw [hn3] at m2
                      simp only [Option.some.injEq, Prod.mk.injEq] at m2
                      obtain ⟨rfl, rfl⟩ := m2
                      refine ⟨y, hyo, hyg', Or.inl ⟨hso, hsrclen _ _ hn0⟩, hmu, ?_⟩
                      have e1 := hEnt.mu
                      rw [m1] at r1' hyb
                      simp only [BlkOK, id, m3] at r1'
                      simp only [mutB, Option.some.injEq] at hyb hmb
                      rw [hyb, ← hmb] at r1'
                      simp only [BlkOK, hadn]
                      exact r1'
                    · rename_i v0 ns0 hn0
                      obtain ⟨ks, vs, kag, vag, c, n0, g0, c', m1, m2, m3, m4, m5⟩ := hEnt.mv _ _ hn0
                      rw [m1] at r1' hyb
                      simp only [mutB, Option.some.injEq, id] at hyb
                      have hnn0 := hI.inj n0 n' g0 _ g x b m2 m3 hn3 hg' (by simp only [mutB]; rw [← m5, hyb]) hmb
                      subst hnn0
                      rw [hn3] at m2
                      simp only [Option.some.injEq, Prod.mk.injEq] at m2
                      obtain ⟨rfl, rfl⟩ := m2
                      refine ⟨y, hyo, hyg', Or.inr (Or.inr ⟨n1, hsrclen _ _ hn0, g, hn3, hg'⟩), hmu, ?_⟩
                      simp only [BlkOK, id, m4] at r1'
                      simp only [mutB, Option.some.injEq] at hmb
                      rw [hyb, ← hmb] at r1'
                      simp only [BlkOK, hadn]
                      exact r1'
                    · cases hk1
                  · refine Or.inl ⟨⟨g, hn3, hg'⟩, fun b' hb' => ?_⟩
                    simp only [Option.some.injEq] at hb'
                    subst hb'
                    refine ⟨hb1, fun hi => ?_⟩
                    obtain ⟨_, f2, f3⟩ := hx2 b hmb
                    rcases q3 b hi with h | h | h
                    · exact f2 h
                    · exact hb1 h
                    · omega
            · exfalso
              obtain ⟨j, b0, s1, s2, s4, s5⟩ := objSet_spec hsets y hy
              have := Mem.at_lt s5
              rw [killL_len] at hy2
              omega
          · exfalso
            obtain ⟨z, hz, he'⟩ := List.mem_map.1 hy
            obtain ⟨⟨a, b⟩, _⟩ := gok2 z hz
            obtain ⟨r1, r2⟩ := hnew z.1 a b
            rw [setEs_len, killL_len] at hy2
            rw [← he'] at hy1
            simp only at hy1
            omega
        have hmz : ∀ z ∈ e.oents, z.2.1.tt F0 (env (xs ++ ys)) = true → ∀ b, mutB F0 (env (xs ++ ys)) hs' z.1 z.2.2 = some b → ((M0 b ∨ w0.heap.size ≤ b) ∧ ¬ Im' b ∧ b < w'.heap.size) ∧ (M1 b ∨ w.heap.size ≤ b) := fun z hz hzg b hb => by
          obtain ⟨r1, r2, r3⟩ := (q5.ent z hz hzg).2 b hb
          refine ⟨⟨?_, r2, r3⟩, r1⟩
          rcases r1 with r1 | r1
          · exact (hM1b b r1).1
          · have := hI.fr.size; exact Or.inr (by omega)
        refine ⟨ad', ?_, ⟨hM, Im', fun b hb => q2 b (h1 b hb), fun b hb => ?_, ?_⟩, ⟨hadal, hkeep⟩, lastV_ok gok1⟩
        · exact lastV_conc t1
        · rcases q3 b hb with h | h | h
          · exact h2 b h
          · rcases (hM1b b h).1 with h | h
            · exact Or.inr (Or.inl h)
            · exact Or.inr (Or.inr h)
          · have := hI.fr.size; exact Or.inr (Or.inr (by omega))
        · refine hI.step q5.fr (fun b _ hb => ⟨(hM1b b hb).1, (hM1b b hb).2.1⟩) q2 q5.im hadal hkeep (fun n g x hn hg' => ?_) (fun n g x hn => ?_) (fun n k g x g' y b a1 a2 a3 a4 a5 a6 a7 => ?_)
          · rcases cls n g x hn hg' with h | ⟨z, z1, z2, z3, z4, z5⟩ | rfl
            · exact Or.inl h
            · exact Or.inr ⟨z5, fun b hb => hmz z z1 z2 b (by rw [← z4]; exact hb)⟩
            · exact Or.inr ⟨trivial, fun b hb => by simp [mutB] at hb⟩
          · rcases mem_setEs hn with hn | ⟨_, hn⟩ | ⟨y, hy, hy1, hy2⟩
            · obtain ⟨y, hy, he'⟩ := List.mem_map.1 hn
              simp only [Prod.mk.injEq] at he'
              rw [← he'.2.2]; exact (gok2 y hy).2
            · rcases mem_setEs hn with hn | ⟨_, hn⟩ | ⟨y, hy, hy1, hy2⟩
              · obtain ⟨j, b0, s1, s2, s4, s5⟩ := objSet_spec hsets _ hn
                exact objE_ok gok1 _ s4
              · rcases killL_at hn with hd | ⟨hn3, _⟩
                · rw [hd]; trivial
                · exact SV.okL_mono hkeep _ (hI.ok n g x hn3)
              · exfalso
                obtain ⟨j, b0, s1, s2, s4, s5⟩ := objSet_spec hsets y hy
                have := Mem.at_lt s5
                rw [killL_len] at hy2
                omega
            · exfalso
              obtain ⟨z, hz, he'⟩ := List.mem_map.1 hy
              obtain ⟨⟨a, b⟩, _⟩ := gok2 z hz
              obtain ⟨r1, r2⟩ := hnew z.1 a b
              rw [setEs_len, killL_len] at hy2
              rw [← he'] at hy1
              simp only at hy1
              have r1' : nvC srcs e.nn nm (Sh.nnL e.outL) z.1 = nm + (z.1 - e.nn) := r1
              omega
          · have up : ∀ n g x, (setEs (setEs (killL m dead) sets) (gen.2.map fun x => (nvC srcs e.nn nm nw x.1, x.2.1, x.2.2))).at n = some (g, x) → g.tt l.F ρ = true → mutB l.F ρ ad' n x = some b → ∃ z ∈ e.oents, z.2.1.tt F0 (env (xs ++ ys)) = true ∧ NameIs z.1 n x ∧ mutB F0 (env (xs ++ ys)) hs' z.1 z.2.2 = some b := fun n g x hn hg' hb => by
              rcases cls n g x hn hg' with ⟨⟨g', o1, o2⟩, o3⟩ | ⟨z, z1, z2, z3, z4, z5⟩ | rfl
              · exfalso
                rw [mutB_congr (hadal n (Mem.at_al o1)).symm] at hb
                rcases a7 with a7 | a7
                · exact (o3 b hb).1 a7
                · have := ((hI.ent n g' x o1 o2).2 b hb).2.2; omega
              · exact ⟨z, z1, z2, z3, by rw [← z4]; exact hb⟩
              · simp [mutB] at hb
            obtain ⟨z, z1, z2, z3, z4⟩ := up n g x a1 a2 a5
            obtain ⟨z', z1', z2', z3', z4'⟩ := up k g' y a3 a4 a6
            have := q5.inj z z1 z' z1' z2 z2' b z4 z4'
            rw [← this] at z3'
            rcases z3 with ⟨e1, e2⟩ | ⟨e1, e2⟩ | ⟨e1, e2, e3⟩ <;> rcases z3' with ⟨f1, f2⟩ | ⟨f1, f2⟩ | ⟨f1, f2, f3⟩
            · rw [e1] at f1; simpa using f1
            · omega
            · rw [e1] at f1; simp only [List.mem_singleton] at f1; exact f1.symm
            · omega
            · rw [e2, f2]
            · omega
            · rw [f1] at e1; simpa using e1
            · omega
            · obtain ⟨gn, n1, n2⟩ := e3
              obtain ⟨gk, k1, k2⟩ := f3
              exact hI.inj n k gn x gk y b n1 n2 k1 k2 (by rw [← mutB_congr (hadal n (Mem.at_al n1)).symm]; exact a5) (by rw [← mutB_congr (hadal k (Mem.at_al k1)).symm]; exact a6)
      · cases h
    · cases h
  · cases h

theorem callE_sound {l : Tabs} {e : Ent} (he : l.get e.key = some e) (hE : EntryOK P G e) (hG : GOK G Im0 w0) (hR : Rel l.F ρ w0 M0 Im0 ad m w) {nm : Nat} {args : List SV} {g : E} {v : SV}
    (h : callE e m nm args = some (g, v, m')) : g.kind = .b ∧ (g.tt l.F ρ = true → Calls P e.f (SV.concL l.F ρ ad args).toArray w fun en w' => ∃ ad', en = .returned (v.conc l.F ρ ad') ∧ Rel l.F ρ w0 M0 Im0 ad' m' w' ∧ Ext ad ad' m m' ∧ v.ok (al m')) := by
  obtain ⟨h1, h2⟩ := callE_core he hG hR h
  refine ⟨h1, fun ht => ?_⟩
  obtain ⟨xs, hs, M1, Im, a1, a2, a3, a4, a5, a6, a7⟩ := h2 ht
  rw [a3]
  refine (hE xs a1 a2 w M1 Im hs a4 a5 a6).mono ?_
  rintro en w' ⟨hs', Im', q1, q2, q3, rfl, q5⟩
  obtain ⟨ad', r1, r2, r3, r4⟩ := a7 w' hs' Im' q1 q2 q3 q5
  exact ⟨ad', by rw [r1], r2, r3, r4⟩
end
end Go.Proofs.Ytmolkkphnehgcaa.Ew

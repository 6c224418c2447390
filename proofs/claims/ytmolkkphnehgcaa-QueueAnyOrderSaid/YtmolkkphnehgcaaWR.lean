/- That what has a shape reads as the shape's generic value. -/
import Derived.Test.YtmolkkphnehgcaaWQ
set_option linter.unusedVariables false
set_option linter.unusedSimpArgs false
namespace Go.Proofs.Ytmolkkphnehgcaa.Ew
open Go Go.RowKit

def srcOf (S : List Src) (j : Nat) : List Nat := match S[j]? with | some s => s.ns | none => []

section
variable {F : Fam} {ρ ρ' : Nat → Int} {w0 w : World} {M0 Im : Nat → Prop} {ad hs : Nat → Hd} {m : Mem} {ev : Nat → E} {S : List Src}

mutual
theorem gen_guard {nv : Nat → Nat} : ∀ (s : Sh) (g : E) (vi ni : Nat), g.kind = .b → (∀ i k, s.ks[i]? = some k → (ev (vi + i)).kind = k) → ∀ x ∈ (s.gen ev nv g vi ni).2, x.2.1.kind = .b ∧ (x.2.1.tt F ρ = true → g.tt F ρ = true)
  | .sc k, g, vi, ni, hg, hk, x, hx => by cases hx
  | .lt k n, g, vi, ni, hg, hk, x, hx => by cases hx
  | .agg l, g, vi, ni, hg, hk, x, hx => genL_guard l g vi ni hg hk x hx
  | .lst ty row own, g, vi, ni, hg, hk, x, hx => by simp only [Sh.gen, List.mem_singleton] at hx; subst hx; exact ⟨hg, fun h => h⟩
  | .obj ty cs, g, vi, ni, hg, hk, x, hx => by
    simp only [Sh.gen, List.mem_cons] at hx
    rcases hx with rfl | hx
    · exact ⟨hg, fun h => h⟩
    · exact genL_guard cs g vi (ni + 1) hg hk x hx
  | .ref j, g, vi, ni, hg, hk, x, hx => by cases hx
  | .fnc f cs, g, vi, ni, hg, hk, x, hx => genL_guard cs g vi ni hg hk x hx
  | .nul c, g, vi, ni, hg, hk, x, hx => by cases hx
  | .tup l, g, vi, ni, hg, hk, x, hx => genL_guard l g vi ni hg hk x hx
  | .opt s, g, vi, ni, hg, hk, x, hx => by
    have a := mkAnd_spec g (mkNot (ev vi)) hg (mkNot_spec (ev vi) F ρ).2 F ρ
    obtain ⟨i1, i2⟩ := gen_guard s (mkAnd g (mkNot (ev vi))) (vi + 1) ni a.2 (fun i k hi => by
      have := hk (i + 1) k (by simpa [Sh.ks] using hi)
      rwa [show vi + (i + 1) = vi + 1 + i by omega] at this) x hx
    refine ⟨i1, fun h => ?_⟩
    have := i2 h
    rw [a.1, Bool.and_eq_true] at this
    exact this.1
  | .und, g, vi, ni, hg, hk, x, hx => by cases hx
  | .mp ks vs kag vag, g, vi, ni, hg, hk, x, hx => by simp only [Sh.gen, List.mem_singleton] at hx; subst hx; exact ⟨hg, fun h => h⟩
  | .seg ty ks cs, g, vi, ni, hg, hk, x, hx => by
    simp only [Sh.gen, List.mem_cons] at hx
    rcases hx with rfl | hx
    · exact ⟨hg, fun h => h⟩
    · exact genL_guard cs g (vi + 1) (ni + 1) hg (fun i k hi => by
        have := hk (i + 1) k (by simpa [Sh.ks] using hi)
        rwa [show vi + (i + 1) = vi + 1 + i by omega] at this) x hx
theorem genL_guard {nv : Nat → Nat} : ∀ (l : List Sh) (g : E) (vi ni : Nat), g.kind = .b → (∀ i k, (Sh.ksL l)[i]? = some k → (ev (vi + i)).kind = k) → ∀ x ∈ (Sh.genL ev nv l g vi ni).2, x.2.1.kind = .b ∧ (x.2.1.tt F ρ = true → g.tt F ρ = true)
  | [], g, vi, ni, hg, hk, x, hx => by cases hx
  | s :: r, g, vi, ni, hg, hk, x, hx => by
    simp only [Sh.genL, List.mem_append] at hx
    rcases hx with hx | hx
    · exact gen_guard s g vi ni hg (fun i k hi => hk i k (by simp only [Sh.ksL]; rw [List.getElem?_append_left (List.getElem?_eq_some_iff.1 hi).1]; exact hi)) x hx
    · exact genL_guard r g (vi + s.ks.length) (ni + s.nn) hg (fun i k hi => by
        have := hk (s.ks.length + i) k (by simp only [Sh.ksL]; rw [List.getElem?_append_right (by omega)]; simpa using hi)
        rwa [← Nat.add_assoc] at this) x hx
end

theorem EvOK.kinds {vi : Nat} {es : List E} {ks : List K} (h : EvOK F ρ ρ' ev vi es) (hk : es.map E.kind = ks) : ∀ i k, ks[i]? = some k → (ev (vi + i)).kind = k := fun i k hi => by
  subst hk
  rw [List.getElem?_map] at hi
  obtain ⟨e, h1, h2⟩ := Option.map_eq_some_iff.1 hi
  rw [(h i e h1).2, h2]

/-- A list of sources lies at a place. -/
def SrcAt (S : List Src) (ni : Nat) (ns : List Src) : Prop := ∀ j s, ns[j]? = some s → S[ni + j]? = some s
theorem SrcAt.left {ni : Nat} {a b : List Src} (h : SrcAt S ni (a ++ b)) : SrcAt S ni a := fun j s hj => h j s (by rw [List.getElem?_append_left (List.getElem?_eq_some_iff.1 hj).1]; exact hj)
theorem SrcAt.right {ni : Nat} {a b : List Src} (h : SrcAt S ni (a ++ b)) : SrcAt S (ni + a.length) b := fun j s hj => by
  have := h (a.length + j) s (by rw [List.getElem?_append_right (by omega)]; simpa using hj)
  rwa [← Nat.add_assoc] at this
theorem SrcAt.both {a b : List Src} (h : SrcAt S 0 a) (h' : SrcAt S a.length b) : SrcAt S 0 (a ++ b) := fun j s hj => by
  by_cases hl : j < a.length
  · rw [List.getElem?_append_left hl] at hj; exact h j s hj
  · rw [List.getElem?_append_right (by omega)] at hj
    have := h' _ s hj
    rwa [show a.length + (j - a.length) = 0 + j by omega] at this

mutual
theorem shget_spec (hB : BI F) (hI : RelI F ρ w0 M0 Im ad m w) (hS : ∀ j s, S[j]? = some s → hs j = srcHd F ρ w Im ad m s) : ∀ (s : Sh) (acc : List Src) (v : SV) (r : List E × List Src × E) (gd : E) (vi : Nat), s.get m acc v = some r → gd.kind = .b →
    SrcAt S 0 acc → SrcAt S acc.length r.2.1 → EvOK F ρ ρ' ev vi r.1 → r.2.2.tt F ρ = true →
    v.conc F ρ ad = (s.gen ev id gd vi acc.length).1.conc F0 ρ' hs ∧ ∀ x ∈ (s.gen ev id gd vi acc.length).2, x.2.1.tt F0 ρ' = true → EntOK F ρ ρ' w Im ad hs m S (srcOf S) x
  | .sc k, acc, v, r, gd, vi, h, hgd, hA, hs1, hev, hg => by
    cases v <;> simp only [Sh.get, reduceCtorEq] at h
    split at h
    · simp only [Option.some.injEq] at h; subst h
      exact ⟨by simp only [SV.conc, Sh.gen]; exact hev.val.symm, fun x hx => by cases hx⟩
    · cases h
  | .lt k n, acc, v, r, gd, vi, h, hgd, hA, hs1, hev, hg => by
    cases v with
    | sc e =>
      cases e <;> simp only [Sh.get, reduceCtorEq] at h
      split at h
      · rename_i hc
        obtain ⟨rfl, rfl⟩ := hc
        refine ⟨?_, fun x hx => by cases hx⟩
        simp [SV.conc, Sh.gen, E.val, E.kind, E.tt, E.den]
      · cases h
    | _ => simp [Sh.get] at h
  | .agg l, acc, v, r, gd, vi, h, hgd, hA, hs1, hev, hg => by
    cases v <;> simp only [Sh.get, reduceCtorEq] at h
    obtain ⟨i1, i2⟩ := shgetL_spec hB hI hS l acc _ r gd vi h hgd hA hs1 hev hg
    exact ⟨by simp only [SV.conc, Sh.gen, i1], i2⟩
  | .lst ty row own, acc, v, r, gd, vi, h, hgd, hA, hs1, hev, hg => by
    have h' : getLst m ty row own v = some r := by cases v <;> simpa only [Sh.get] using h
    unfold getLst at h'
    split at h'
    · rename_i V hV
      split at h'
      · rename_i ho
        simp only [Option.some.injEq] at h'; subst h'
        simp only at hg hev hs1
        have hex := viewL_spec hB hI hV hg
        have hhd : hs acc.length = hex.choose := by
          have := hS _ _ (hs1 0 _ rfl)
          simp only [Nat.add_zero] at this
          rw [this]
          simp only [srcHd, dif_pos hex]
        obtain ⟨o1, o2, o3, o4, o5, o6, o7⟩ := hex.choose_spec
        rw [← hhd] at o1 o4 o5 o6 o7
        have hden := hev.head.1
        have hlen : (LEN (ev vi)).den F0 ρ' = ((dc (V.c.den F ρ)).length : Int) := by rw [BI_F0.len, hden, wrap_len o4.1]
        refine ⟨by simp only [Sh.gen, SV.conc, hlen, Int.toNat_natCast, id]; exact o1, fun x hx _ => ?_⟩
        simp only [Sh.gen, List.mem_singleton] at hx
        subst hx
        have hS0 : S[acc.length]? = some (Src.vw ty row v V) := by
          have := hs1 0 _ rfl
          simpa only [Nat.add_zero] using this
        refine ⟨⟨by rw [hden]; exact o2, by rw [hlen, hden], ?_⟩, fun b hb => ?_, fun n hn => (by rw [hS0] at hn; cases hn), fun n hn => (by rw [hS0] at hn; cases hn), fun v' ns' hn => (by rw [hS0] at hn; cases hn), fun ty' row' v' V' hv' => by
          rw [hS0] at hv'
          simp only [Option.some.injEq, Src.vw.injEq] at hv'
          obtain ⟨rfl, rfl, rfl, rfl⟩ := hv'
          exact ⟨own, _, _, rfl, hV, hden, o1, hg, fun hb => by rw [hb] at ho; exact ho⟩⟩
        · simp only [hden]
          cases own
          · exact o6 ho
          · exact o5 ho
        · cases own
          · simp [mutB] at hb
          · simp only [mutB, hlen, Int.toNat_natCast] at hb
            have hsrc : srcOf S acc.length = dd V.ns := by
              have := hs1 0 _ rfl
              simp only [Nat.add_zero] at this
              simp only [srcOf, this, Src.ns]
            rw [hsrc]
            obtain ⟨n, hn, hr⟩ := o7 ho b hb
            exact ⟨n, mem_dd.2 hn, hr⟩
      · cases h'
    · cases h'
  | .obj ty cs, acc, v, r, gd, vi, h, hgd, hA, hs1, hev, hg => by
    cases v with
    | ptr n o =>
      cases o with
      | zero =>
        simp only [Sh.get] at h
        split at h
        · rename_i g ty' vs hb
          split at h
          · rename_i hty
            obtain ⟨q, hq, rfl⟩ := Option.map_eq_some_iff.1 h
            obtain ⟨b1, b2⟩ := blkC_spec hb
            subst hty
            obtain ⟨_, _, k3, _⟩ := getL_kinds cs _ _ q hq
            rw [(mkAnd_spec g q.2.2 b2 k3 F ρ).1, Bool.and_eq_true] at hg
            have hlen : (acc ++ [Src.nm n]).length = acc.length + 1 := by simp
            have hs1' : SrcAt S acc.length ([Src.nm n] ++ q.2.1) := hs1
            have hA' : SrcAt S 0 (acc ++ [Src.nm n]) := hA.both hs1'.left
            have hs2 : SrcAt S (acc ++ [Src.nm n]).length q.2.1 := by rw [hlen]; exact hs1'.right
            obtain ⟨i1, i2⟩ := shgetL_spec hB hI hS cs (acc ++ [.nm n]) vs q gd vi hq hgd hA' hs2 hev hg.2
            rw [hlen] at i1 i2
            have hn : hs acc.length = ad n := by
              have := hS _ _ (hs1 0 _ rfl)
              simp only [Nat.add_zero] at this
              rw [this]; rfl
            have hent := (hI.ent n g _ b1 hg.1).1
            refine ⟨by simp only [Sh.gen, SV.conc, id, hn], fun x hx hxg => ?_⟩
            simp only [Sh.gen, List.mem_cons] at hx
            rcases hx with rfl | hx
            · have hS0 : S[acc.length]? = some (Src.nm n) := by
                have := hs1 0 _ rfl
                simpa only [Nat.add_zero] using this
              refine ⟨?_, fun b hb => ?_, fun _ _ => Or.inl ⟨_, _, rfl⟩, fun n' hn' => (by rw [hS0] at hn'; cases hn'), fun v' ns' hn' => (by rw [hS0] at hn'; cases hn'), fun ty' row' v' V' hv' => (by rw [hS0] at hv'; cases hv')⟩
              · simp only [BlkOK, hn, ← i1]; exact hent
              · simp only [mutB, hn, Option.some.injEq] at hb
                have hsrc : srcOf S acc.length = [n] := by
                  have := hs1 0 _ rfl
                  simp only [Nat.add_zero] at this
                  simp only [srcOf, this, Src.ns]
                refine ⟨n, by rw [hsrc]; simp, g, _, b1, hg.1, by simp only [mutB, hb]⟩
            · exact i2 x hx hxg
          · cases h
        · cases h
      | succ o => simp [Sh.get] at h
    | _ => simp [Sh.get] at h
  | .ref j, acc, v, r, gd, vi, h, hgd, hA, hs1, hev, hg => by
    cases v with
    | ptr n o =>
      cases o with
      | zero =>
        simp only [Sh.get] at h
        split at h
        · rename_i hn
          simp only [Option.some.injEq] at h; subst h
          refine ⟨?_, fun x hx => by cases hx⟩
          unfold isNm at hn
          split at hn
          · rename_i k hk
            have hkn : k = n := by simpa using hn
            subst hkn
            have := hS _ _ (hA j _ hk)
            rw [Nat.zero_add] at this
            simp only [Sh.gen, SV.conc, id, this]
            rfl
          · cases hn
        · cases h
      | succ o => simp [Sh.get] at h
    | _ => simp [Sh.get] at h
  | .fnc f l, acc, v, r, gd, vi, h, hgd, hA, hs1, hev, hg => by
    cases v <;> simp only [Sh.get, reduceCtorEq] at h
    split at h
    · rename_i hf
      subst hf
      obtain ⟨i1, i2⟩ := shgetL_spec hB hI hS l acc _ r gd vi h hgd hA hs1 hev hg
      exact ⟨by simp only [SV.conc, Sh.gen, i1], i2⟩
    · cases h
  | .nul c, acc, v, r, gd, vi, h, hgd, hA, hs1, hev, hg => by
    cases v <;> simp only [Sh.get, reduceCtorEq] at h
    split at h
    · rename_i hc
      simp only [Option.some.injEq] at h; subst h
      subst hc
      exact ⟨rfl, fun x hx => by cases hx⟩
    · cases h
  | .tup l, acc, v, r, gd, vi, h, hgd, hA, hs1, hev, hg => by
    cases v <;> simp only [Sh.get, reduceCtorEq] at h
    obtain ⟨i1, i2⟩ := shgetL_spec hB hI hS l acc _ r gd vi h hgd hA hs1 hev hg
    exact ⟨by simp only [SV.conc, Sh.gen, i1], i2⟩
  | .opt s, acc, v, r, gd, vi, h, hgd, hA, hs1, hev, hg => by
    have h' : getOpt (mkB true :: s.ks.map fun k => E.lit k 0, List.replicate s.nn Src.dm, mkB true) v (fun u => s.get m acc u) = some r := by cases v <;> simpa only [Sh.get] using h
    unfold getOpt at h'
    split at h'
    · rename_i c ho
      simp only [Option.some.injEq] at h'; subst h'
      simp only at hev
      obtain ⟨e1, e2⟩ := (optV_spec (F := F) (ρ := ρ) (ad := ad) ho).1 rfl
      have hall : (ev vi).tt F0 ρ' = true := by rw [hev.tt]; simp
      have hkk : (ev vi).kind = .b := by rw [hev.head.2]; rfl
      refine ⟨?_, fun x hx hxg => ?_⟩
      · rw [e1]
        simp only [Sh.gen, SV.conc, hall, cond_true]
      · have a := mkAnd_spec gd (mkNot (ev vi)) hgd (mkNot_spec (ev vi) F0 ρ').2 F0 ρ'
        have hk : ∀ i k, s.ks[i]? = some k → (ev (vi + 1 + i)).kind = k := fun i k hi => by
          have := (hev (i + 1) (.lit k 0) (by simp [hi])).2
          rwa [show vi + (i + 1) = vi + 1 + i by omega] at this
        have := (gen_guard (F := F0) (ρ := ρ') s (mkAnd gd (mkNot (ev vi))) (vi + 1) acc.length a.2 hk x hx).2 hxg
        rw [a.1, (mkNot_spec (ev vi) F0 ρ').1, hall] at this
        simp at this
    · rename_i c u ho
      split at h'
      · rename_i hc
        obtain ⟨q, hq, rfl⟩ := Option.map_eq_some_iff.1 h'
        simp only at hev hs1 hg
        obtain ⟨k1, k2, k3, _⟩ := get_kinds s acc u q hq
        have hv := (optV_spec (F := F) (ρ := ρ) (ad := ad) ho).2 u rfl
        have a := mkAnd_spec gd (mkNot (ev vi)) hgd (mkNot_spec (ev vi) F0 ρ').2 F0 ρ'
        have htt : (ev vi).tt F0 ρ' = c.tt F ρ := hev.tt
        rw [(mkOr_spec c q.2.2 hc.1 k3 F ρ).1, Bool.or_eq_true] at hg
        by_cases hct : c.tt F ρ = true
        · refine ⟨?_, fun x hx hxg => ?_⟩
          · rw [hv, hct]
            simp only [Sh.gen, SV.conc, htt, hct, cond_true, CV.val]
          · have := (gen_guard (F := F0) (ρ := ρ') s (mkAnd gd (mkNot (ev vi))) (vi + 1) acc.length a.2 (hev.tail.kinds k1) x hx).2 hxg
            rw [a.1, (mkNot_spec (ev vi) F0 ρ').1, htt, hct] at this
            simp at this
        · have hcf : c.tt F ρ = false := by simpa using hct
          obtain ⟨i1, i2⟩ := shget_spec hB hI hS s acc u q (mkAnd gd (mkNot (ev vi))) (vi + 1) hq a.2 hA hs1 hev.tail (hg.resolve_left hct)
          refine ⟨?_, i2⟩
          rw [hv, hcf]
          simp only [Sh.gen, SV.conc, htt, hcf, cond_false]
          exact i1
      · cases h'
    · cases h'
  | .und, acc, v, r, gd, vi, h, hgd, hA, hs1, hev, hg => by
    cases v <;> simp only [Sh.get, reduceCtorEq] at h
    simp only [Option.some.injEq] at h; subst h
    exact ⟨rfl, fun x hx => by cases hx⟩
  | .mp ks vs kag vag, acc, v, r, gd, vi, h, hgd, hA, hs1, hev, hg => by
    cases v <;> simp only [Sh.get, reduceCtorEq] at h
    case mp n =>
      obtain ⟨g, c, b1, rfl, h3, h4⟩ := getMp_spec h
      have hS0 : S[acc.length]? = some (Src.mpn n) := by
        have := hs1 0 _ rfl
        simpa only [Nat.add_zero] using this
      have hn : hs acc.length = ad n := by rw [hS _ _ hS0]; rfl
      have hent := (hI.ent n g _ b1 hg).1
      have hden := hev.head.1
      refine ⟨by simp only [Sh.gen, SV.conc, id, hn], fun x hx hxg => ?_⟩
      simp only [Sh.gen, List.mem_singleton] at hx
      subst hx
      refine ⟨?_, fun b hb => ?_, fun n' hn' => (by rw [hS0] at hn'; cases hn'), fun n' hn' => ?_, fun v' ns' hn' => (by rw [hS0] at hn'; cases hn'), fun ty' row' v' V' hv' => (by rw [hS0] at hv'; cases hv')⟩
      · simp only [BlkOK, hn, hden]; exact hent
      · simp only [mutB, hn, Option.some.injEq] at hb
        have hsrc : srcOf S acc.length = [n] := by simp only [srcOf, hS0, Src.ns]
        exact ⟨n, by rw [hsrc]; simp, g, _, b1, hg, by simp only [mutB, hb]⟩
      · rw [hS0] at hn'
        simp only [Option.some.injEq, Src.mpn.injEq] at hn'
        subst hn'
        exact ⟨ks, vs, kag, vag, _, g, c, rfl, b1, hden⟩
    case ite p a b =>
      obtain ⟨⟨c, ns, g⟩, h1, rfl⟩ := Option.map_eq_some_iff.1 h
      obtain ⟨h3, h4, h5⟩ := getMpV_spec h1
      obtain ⟨n, hn, g', c', q1, q2, q3, q4, q5⟩ := h5 F ρ ad hg
      have hS0 : S[acc.length]? = some (Src.mpv (.ite p a b) ns) := by
        have := hs1 0 _ rfl
        simpa only [Nat.add_zero] using this
      have hn' : hs acc.length = ad n := by rw [hS _ _ hS0]; exact q4
      have hent := (hI.ent n g' _ q1 q2).1
      have hden := hev.head.1
      refine ⟨by rw [q5]; simp only [Sh.gen, SV.conc, id, hn'], fun x hx hxg => ?_⟩
      simp only [Sh.gen, List.mem_singleton] at hx
      subst hx
      refine ⟨?_, fun b hb => ?_, fun n' hn'' => (by rw [hS0] at hn''; cases hn''), fun n' hn'' => (by rw [hS0] at hn''; cases hn''), fun v' ns' hn'' => ?_, fun ty' row' v' V' hv' => (by rw [hS0] at hv'; cases hv')⟩
      · simp only [BlkOK, hn', hden, q3] at hent ⊢; exact hent
      · simp only [mutB, hn', Option.some.injEq] at hb
        have hsrc : srcOf S acc.length = dd ns := by simp only [srcOf, hS0, Src.ns]
        exact ⟨n, by rw [hsrc]; exact mem_dd.2 hn, g', _, q1, q2, by simp only [mutB, hb]⟩
      · exact ⟨ks, vs, kag, vag, _, n, g', c', rfl, q1, q2, by rw [hden, q3], hn'⟩
  | .seg ty ks cs, acc, v, r, gd, vi, h, hgd, hA, hs1, hev, hg => by
    cases v with
    | ptr n o =>
      cases o with
      | zero =>
        simp only [Sh.get] at h
        split at h
        · rename_i g ty' vs ks' c hb
          split at h
          · rename_i hty
            obtain ⟨q, hq, rfl⟩ := Option.map_eq_some_iff.1 h
            obtain ⟨b1, b2, b3⟩ := blkS_spec hb
            obtain ⟨rfl, rfl⟩ := hty
            obtain ⟨_, _, k3, _⟩ := getL_kinds cs _ _ q hq
            simp only at hev
            rw [(mkAnd_spec g q.2.2 b2 k3 F ρ).1, Bool.and_eq_true] at hg
            have hlen : (acc ++ [Src.nm n]).length = acc.length + 1 := by simp
            have hs1' : SrcAt S acc.length ([Src.nm n] ++ q.2.1) := hs1
            have hA' : SrcAt S 0 (acc ++ [Src.nm n]) := hA.both hs1'.left
            have hs2 : SrcAt S (acc ++ [Src.nm n]).length q.2.1 := by rw [hlen]; exact hs1'.right
            obtain ⟨i1, i2⟩ := shgetL_spec hB hI hS cs (acc ++ [.nm n]) vs q gd (vi + 1) hq hgd hA' hs2 hev.tail hg.2
            rw [hlen] at i1 i2
            have hS0 : S[acc.length]? = some (Src.nm n) := by
              have := hs1 0 _ rfl
              simpa only [Nat.add_zero] using this
            have hn : hs acc.length = ad n := by rw [hS _ _ hS0]; rfl
            have hent := (hI.ent n g _ b1 hg.1).1
            have hden := hev.head.1
            refine ⟨by simp only [Sh.gen, SV.conc, id, hn], fun x hx hxg => ?_⟩
            simp only [Sh.gen, List.mem_cons] at hx
            rcases hx with rfl | hx
            · refine ⟨?_, fun b hb => ?_, fun _ _ => Or.inr ⟨_, _, _, _, rfl⟩, fun n' hn' => (by rw [hS0] at hn'; cases hn'), fun v' ns' hn' => (by rw [hS0] at hn'; cases hn'), fun ty'' row' v' V' hv' => (by rw [hS0] at hv'; cases hv')⟩
              · simp only [BlkOK, hn, ← i1, hden]; exact hent
              · simp only [mutB, hn, Option.some.injEq] at hb
                have hsrc : srcOf S acc.length = [n] := by simp only [srcOf, hS0, Src.ns]
                exact ⟨n, by rw [hsrc]; simp, g, _, b1, hg.1, by simp only [mutB, hb]⟩
            · exact i2 x hx hxg
          · cases h
        · cases h
      | succ o => simp [Sh.get] at h
    | _ => simp [Sh.get] at h
theorem shgetL_spec (hB : BI F) (hI : RelI F ρ w0 M0 Im ad m w) (hS : ∀ j s, S[j]? = some s → hs j = srcHd F ρ w Im ad m s) : ∀ (l : List Sh) (acc : List Src) (vs : List SV) (r : List E × List Src × E) (gd : E) (vi : Nat), Sh.getL m l acc vs = some r → gd.kind = .b →
    SrcAt S 0 acc → SrcAt S acc.length r.2.1 → EvOK F ρ ρ' ev vi r.1 → r.2.2.tt F ρ = true →
    SV.concL F ρ ad vs = SV.concL F0 ρ' hs (Sh.genL ev id l gd vi acc.length).1 ∧ ∀ x ∈ (Sh.genL ev id l gd vi acc.length).2, x.2.1.tt F0 ρ' = true → EntOK F ρ ρ' w Im ad hs m S (srcOf S) x
  | [], acc, [], r, gd, vi, h, hgd, hA, hs1, hev, hg => ⟨rfl, fun x hx => by cases hx⟩
  | [], acc, _ :: _, r, gd, vi, h, hgd, hA, hs1, hev, hg => by simp [Sh.getL] at h
  | _ :: _, acc, [], r, gd, vi, h, hgd, hA, hs1, hev, hg => by simp [Sh.getL] at h
  | s :: l, acc, v :: vs, r, gd, vi, h, hgd, hA, hs1, hev, hg => by
    simp only [Sh.getL] at h
    split at h
    · rename_i es ns g hs0
      obtain ⟨q, hq, rfl⟩ := Option.map_eq_some_iff.1 h
      obtain ⟨k1, k2, k3, _⟩ := get_kinds s acc v _ hs0
      obtain ⟨l1, l2, l3, _⟩ := getL_kinds l _ vs q hq
      simp only at k1 k2 k3 hev hs1 hg
      rw [(mkAnd_spec g q.2.2 k3 l3 F ρ).1, Bool.and_eq_true] at hg
      have hel : es.length = s.ks.length := by rw [← k1]; simp
      obtain ⟨i1, i2⟩ := shget_spec hB hI hS s acc v (es, ns, g) gd vi hs0 hgd hA hs1.left hev.left hg.1
      have hlen : (acc ++ ns).length = acc.length + s.nn := by rw [List.length_append, k2]
      have hA' : SrcAt S 0 (acc ++ ns) := hA.both hs1.left
      have hs2 : SrcAt S (acc ++ ns).length q.2.1 := by rw [List.length_append]; exact hs1.right
      have hev2 := hev.right
      rw [hel] at hev2
      obtain ⟨j1, j2⟩ := shgetL_spec hB hI hS l (acc ++ ns) vs q gd (vi + s.ks.length) hq hgd hA' hs2 hev2 hg.2
      rw [hlen] at j1 j2
      refine ⟨by simp only [SV.concL, Sh.genL, i1, j1], fun x hx hxg => ?_⟩
      simp only [Sh.genL, List.mem_append] at hx
      rcases hx with hx | hx
      · exact i2 x hx hxg
      · exact j2 x hx hxg
    · cases h
end
end
end Go.Proofs.Ytmolkkphnehgcaa.Ew

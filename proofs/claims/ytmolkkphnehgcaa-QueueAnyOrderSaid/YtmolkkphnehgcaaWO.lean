/- All described operations together: what they do to the memory tells what they do to the world. -/
import Derived.Test.YtmolkkphnehgcaaWMb
set_option linter.unusedVariables false
set_option linter.unusedSimpArgs false
namespace Go.Proofs.Ytmolkkphnehgcaa.Ew
open Go Go.RowKit

section
variable {P : Program} {F : Fam} {ρ : Nat → Int} {G : Glob} {w0 w w' : World} {M0 Im0 Im Im' T : Nat → Prop} {ad ad' : Nat → Hd} {m m' : Mem} {q : Row} {ks : List K}

theorem applyX_sound (hB : BI F) (hG : GOK G Im0 w0) (hR : Rel F ρ w0 M0 Im0 ad m w) {x : X} {nm : Nat} {g : E} {v : SV} {m' : Mem} (hx : x.good F ρ (al m)) (h : applyX P G m nm x = some (g, v, m')) :
    g.kind = .b ∧ (g.tt F ρ = true → Done F ρ w0 M0 Im0 ad m m' (x.run P F ρ ad w) v) := by
  cases x with
  | old d =>
    simp only [applyX] at h
    split at h
    · rename_i r hr
      simp only [Option.some.injEq] at h; subst h
      exact apply_sound (P := P) hG hR hx hr
    · exact applyG_sound (P := P) hB hR hx h
  | len x =>
    simp only [applyX] at h
    split at h
    · obtain ⟨V, hV, he⟩ := Option.map_eq_some_iff.1 h
      simp only [Prod.mk.injEq] at he
      obtain ⟨rfl, rfl, rfl⟩ := he
      exact len_sound hB hR hV
    · obtain ⟨V, hV, he⟩ := Option.map_eq_some_iff.1 h
      simp only [Prod.mk.injEq] at he
      obtain ⟨rfl, rfl, rfl⟩ := he
      exact len_sound hB hR hV
  | lde n str i o sz ag =>
    simp only [applyX] at h
    split at h
    · rename_i g' ty row own le c hn
      split at h
      · rename_i ks hr
        split at h
        · rename_i hc
          obtain ⟨u, hv, he⟩ := Option.map_eq_some_iff.1 h
          simp only [Prod.mk.injEq] at he
          obtain ⟨rfl, rfl, rfl⟩ := he
          obtain ⟨hk, rfl⟩ := hc
          exact lde_sound hB hR hn hk hr hv
        · cases h
      · cases h
    · cases h
  | ste n str i o cs =>
    simp only [applyX] at h
    split at h
    · rename_i g' ty row le c hn
      split at h
      · rename_i ks hr
        split at h
        · rename_i es he
          split at h
          · rename_i hc
            simp only [Option.some.injEq, Prod.mk.injEq] at h
            obtain ⟨rfl, rfl, rfl⟩ := h
            obtain ⟨hk, rfl, hl⟩ := hc
            exact ste_sound hB hR hn hk hr he hl
          · cases h
        · cases h
      · cases h
    · cases h
  | app t e rt x y =>
    simp only [applyX] at h
    split at h
    · rename_i ks hks
      split at h
      · rename_i V size bytes hV hi
        split at h
        · rename_i hc
          obtain ⟨rfl, ho, ht, hn1, hn2⟩ := hc
          obtain ⟨k1, k2, k3⟩ := viewL_kind hV
          split at h
          · rename_i m2 len cp
            split at h
            · rename_i g2 ty2 cs hb
              split at h
              · rename_i hl
                obtain ⟨c', hs, he⟩ := Option.map_eq_some_iff.1 h
                simp only [Prod.mk.injEq] at he
                obtain ⟨rfl, rfl, rfl⟩ := he
                obtain ⟨b1, b2⟩ := blkC_spec hb
                have p1 := mkAnd_spec V.g g2 k3 b2 F ρ
                have p2 := mkCmp_spec .leq (.app .x 0 0 [c']) (.lit .x (capOf bytes)) F ρ
                have p3 := mkAnd_spec _ _ p1.2 p2.2 F ρ
                refine ⟨p3.2, fun hg => ?_⟩
                rw [p3.1, p1.1, Bool.and_eq_true, Bool.and_eq_true] at hg
                have hcap := leq_spec hg.2
                have hR' := hR
                obtain ⟨hM, Im, h1, h2, hI⟩ := hR'
                obtain ⟨hd, o1, o2, o3, o4, o5, o6, o7⟩ := viewL_spec hB hI hV hg.1.1
                obtain ⟨rows, r1, r2, r3, r4⟩ := snocs_spec (w := w) (Im := Im) (ad := ad) hB hs o2 k2
                rw [den_app0 hB] at hcap
                simp only [List.map_cons, List.map_nil, bi, K.norm, r1, dc_cd] at hcap
                refine app_core hB hR hV hg.1.1 ho ht hi hn1 hn2 r1 (Or.inr ⟨⟨(ad m2).blk, 0, none⟩, cp, SV.concL F ρ ad cs, by simp only [SV.conc, r3], fun Im' => RowsV_any r4, fun j u hu => ?_⟩) hcap
                have hh := (hI.ent m2 g2 _ b1 hg.1.2).1
                rw [Addr.add_none, Nat.zero_add, cell_of_heap hh]
                simpa using hu
              · cases h
            · cases h
          · rename_i y hy
            split at h
            · rename_i V2 hV2
              simp only [Option.some.injEq, Prod.mk.injEq] at h
              obtain ⟨rfl, rfl, rfl⟩ := h
              obtain ⟨l1, l2, l3⟩ := viewL_kind hV2
              have p1 := mkAnd_spec V.g V2.g k3 l3 F ρ
              have p2 := mkCmp_spec .leq (.app .x 0 0 [.app .x 0 4 [V.c, V2.c]]) (.lit .x (capOf bytes)) F ρ
              have p3 := mkAnd_spec _ _ p1.2 p2.2 F ρ
              refine ⟨p3.2, fun hg => ?_⟩
              rw [p3.1, p1.1, Bool.and_eq_true, Bool.and_eq_true] at hg
              have hcap := leq_spec hg.2
              have hR' := hR
              obtain ⟨hM, Im, h1, h2, hI⟩ := hR'
              obtain ⟨hd, o1, o2, o3, o4, o5, o6, o7⟩ := viewL_spec hB hI hV2 hg.1.2
              have hden : (E.app .x 0 4 [V.c, V2.c]).den F ρ = cd (dc (V.c.den F ρ) ++ dc (V2.c.den F ρ)) := by rw [den_app0 hB]; rfl
              rw [den_app0 hB] at hcap
              simp only [List.map_cons, List.map_nil, bi, K.norm, hden, dc_cd] at hcap
              refine app_core hB hR hV hg.1.1 ho ht hi hn1 hn2 hden ?_ hcap
              rcases sl_form hd (dc (V2.c.den F ρ)).length with ⟨e0, hz⟩ | e0
              · exact Or.inl ⟨o1.trans e0, List.eq_nil_of_length_eq_zero hz⟩
              · right
                obtain ⟨xs, x1, x2⟩ := flatL (w := w) (Im := Im) (b := hd.blk) (o := hd.off) o4.2.2
                exact ⟨_, _, xs, o1.trans e0, fun Im' => RowsV_any x1, fun j u hu => by rw [Addr.add_none]; exact x2 j u hu⟩
            · cases h
        · cases h
      · cases h
    · cases h
  | sub t e x lo hi =>
    simp only [applyX] at h
    split at h
    · rename_i r hr
      simp only [Option.some.injEq] at h; subst h
      exact subV_sound hB hR hr
    split at h
    · rename_i ty row hrow
      split at h
      · rename_i V0 hV0
        split at h
        · rename_i V hV
          split at h
          · rename_i hc
            simp only [Option.some.injEq, Prod.mk.injEq] at h
            obtain ⟨rfl, rfl, rfl⟩ := h
            exact sub_sound hB hR hV0 hV hc.1 hc.2.1 hc.2.2.1 hc.2.2.2.1 hc.2.2.2.2.1 hc.2.2.2.2.2.1 hc.2.2.2.2.2.2
          · cases h
        · cases h
      · cases h
    · cases h
  | mk t e n c =>
    simp only [applyX] at h
    split at h
    · rename_i ks size bytes hks hi
      split at h
      · rename_i hc
        simp only [Option.some.injEq, Prod.mk.injEq] at h
        obtain ⟨rfl, rfl, rfl⟩ := h
        obtain ⟨c1, c2, c3, rfl, c5, c6, c7⟩ := hc
        exact mk_sound hB hR c1 c2 c3 hi c5 c6 c7
      · cases h
    · cases h
  | bl e ks cs len =>
    simp only [applyX] at h
    split at h
    · rename_i c' size bytes hs hi
      split at h
      · rename_i hc
        simp only [Option.some.injEq, Prod.mk.injEq] at h
        obtain ⟨rfl, rfl, rfl⟩ := h
        obtain ⟨rfl, c2, c3, c4⟩ := hc
        exact ⟨mkB_kind _, fun _ => bl_sound hB hR hs hi c2 c3 c4⟩
      · cases h
    · cases h
  | _ => exact applyN_sound (nm := nm) hB hR hx h
end
end Go.Proofs.Ytmolkkphnehgcaa.Ew

/- Calls under a condition that are walked into: the condition becomes an obligation. A piece of code that is one region and a return. -/
import Derived.Test.YtmolkkphnehgcaaWr
set_option linter.unusedVariables false
set_option linter.unusedSimpArgs false
namespace Go.Proofs.Ytmolkkphnehgcaa.Ew
open Go Go.RowKit

def evOperG (P : Program) (G : Glob) (T : Tab) (call : Into) (ops : Array Oper) (o : Oper) (s : St) : Option (E × St) :=
  match evOper P G T call ops o s with
  | some r => some r
  | none => match planE P ops o s.1.at with
    | some (.run (some cs) (.call g f args)) => if bAll cs = true then match intoF call f args s.2 with
        | some (g2, v, m') => some (andB (conjE cs) (andB g g2), setT s.1 o.dst v, m')
        | none => none
      else none
    | _ => none
def evSeqG (P : Program) (G : Glob) (T : Tab) (call : Into) (ops : Array Oper) : List Oper → St → Option (E × St)
  | [], s => some (mkB true, s)
  | o :: r, s => match evOperG P G T call ops o s with
    | some (g, s1) => match evSeqG P G T call ops r s1 with
      | some (g2, s2) => some (andB g g2, s2)
      | none => none
    | none => none
/-- One region, then the function's end. -/
def evPG (P : Program) (G : Glob) (T : Tab) (call : Into) (le : LEnt) (c : Code) : Option (E × List E) :=
  match c with
  | .seq (.region _ ops false) .ret => match evSeqG P G T call ops ops.toList (tmL le, start le.ent le.nt) with
    | some (g, s) => match endsM le (.leaf .ret) [(.ret, s)] with
      | (g2, some es) => some (andB g g2, es)
      | _ => none
    | none => none
  | _ => none

section
variable {P : Program} {ρ : Nat → Int} {G : Glob} {T : Tab} {l : Tabs} {w0 w w' : World} {M0 Im0 Im : Nat → Prop} {ad ad' hs : Nat → Hd} {m m2 m' : Mem} {tm : Tm} {en : Env} {a : Act}

theorem planE_callG {s : St} (hE : RelV l.F ρ ad s.2 en a) {ops : Array Oper} {o : Oper} {cs : List E} {g : E} {f : Nat} {args : List SV} (hp : planE P ops o en = some (.run (some cs) (.call g f args))) (hb : bAll cs = true) (hc : (conjE cs).tt l.F ρ = true) (hg : g.tt l.F ρ = true) :
    Region.wanted o (yielded ops a.tmps) = true ∧ (execOp a.eval o).run P w = .ok (.enter f (SV.concL l.F ρ ad args).toArray) w ∧ SV.okL (al s.2) args := by
  have hh : holds l.F ρ cs = true := by rw [← (conjE_spec hb).2]; exact hc
  unfold planE at hp
  split at hp
  · simp at hp
  · obtain ⟨W, hW, he⟩ := Option.map_eq_some_iff.1 hp
    simp at he
  · rename_i cs' hgd
    obtain ⟨W, hW, he⟩ := Option.map_eq_some_iff.1 hp
    simp only [PL.run.injEq, Option.some.injEq] at he
    obtain ⟨rfl, rfl⟩ := he
    refine ⟨by rw [guardE_spec hE hgd]; exact hh, ?_⟩
    unfold opPlan at hW
    split at hW
    · obtain ⟨u, h1, h2⟩ := Option.map_eq_some_iff.1 hW; cases h2
    · split at hW
      · rename_i g0 f' args' hds
        simp only [Option.some.injEq, W.call.injEq] at hW
        obtain ⟨rfl, rfl, rfl⟩ := hW
        obtain ⟨j1, j2⟩ := descX_run l.BI (P := P) (w := w) (F := l.F) (ρ := ρ) (ad := ad) (p := al s.2) (ev := a.eval) (fun x s hx => getC_spec hE (cs := cs') hh hx) hds
        obtain ⟨d1, d2⟩ := j2 hg
        exact ⟨by rw [d1]; rfl, d2⟩
      · simp at hW
      · cases hW
  · cases hp

theorem evOperG_sound (hS : SumOK P G l T) (hG : GOK G Im0 w0) {call : Into} (hI : IntoOK P l ρ w0 M0 Im0 call) {ops : Array Oper} {o : Oper} {s s' : St} {g : E} (h : evOperG P G T call ops o s = some (g, s')) (ht : g.tt l.F ρ = true)
    (hR : RelS l.F ρ w0 M0 Im0 ad s a w) {K : Act → World → Prop} {Q : Exit → Act → World → Prop} (hK : ∀ ad' a' w', RelS l.F ρ w0 M0 Im0 ad' s' a' w' → Ext ad ad' s.2 s'.2 → K a' w') :
    if Region.wanted o (yielded ops a.tmps) = true then o.wp P a w K Q else K (a.put o.dst undef) w := by
  unfold evOperG at h
  split at h
  · rename_i r hr
    simp only [Option.some.injEq] at h; subst h
    exact evOper_sound hS hG hI hr ht hR hK
  · split at h
    · rename_i cs g1 f args hp
      split at h
      · rename_i hb
        split at h
        · rename_i g2 v m' hc
          simp only [Option.some.injEq, Prod.mk.injEq] at h
          obtain ⟨rfl, rfl⟩ := h
          obtain ⟨t0, t⟩ := andB_tt ht
          obtain ⟨t1, t2⟩ := andB_tt t
          obtain ⟨p1, p2, p3⟩ := planE_callG (w := w) hR.1.envV hp hb t0 t1
          rw [if_pos p1]
          unfold Oper.wp
          rw [p2]
          simp only [Oper.upon]
          refine (intoF_ok hI f args s.2 _ _ _ hc t2 ad w hR.2 p3).mono ?_
          rintro e w' ⟨ad', rfl, r2, r3, r4⟩
          exact hK ad' _ w' ⟨(hR.1.ext r3).put o.dst r4, r2⟩ r3
        · cases h
      · cases h
    · cases h

theorem evSeqG_sound (hS : SumOK P G l T) (hG : GOK G Im0 w0) {call : Into} (hI : IntoOK P l ρ w0 M0 Im0 call) {ops : Array Oper} {Q : Exit → Act → World → Prop} : ∀ (os : List Oper) (s s' : St) (g : E) (ad : Nat → Hd) (a : Act) (w : World),
    evSeqG P G T call ops os s = some (g, s') → g.tt l.F ρ = true → RelS l.F ρ w0 M0 Im0 ad s a w → (∀ ad' a' w', RelS l.F ρ w0 M0 Im0 ad' s' a' w' → Ext ad ad' s.2 s'.2 → Q .normal a' w') → wpList P ops Q os a w
  | [], s, s', g, ad, a, w, h, ht, hR, hQ => by
    simp only [evSeqG, Option.some.injEq, Prod.mk.injEq] at h
    obtain ⟨rfl, rfl⟩ := h
    exact hQ ad a w hR (Ext.refl _ _)
  | o :: r, s, s', g, ad, a, w, h, ht, hR, hQ => by
    simp only [evSeqG] at h
    split at h
    · rename_i g1 s1 h1
      split at h
      · rename_i g2 s2 h2
        simp only [Option.some.injEq, Prod.mk.injEq] at h
        obtain ⟨rfl, rfl⟩ := h
        obtain ⟨t1, t2⟩ := andB_tt ht
        have := evOperG_sound (K := wpList P ops Q r) (Q := Q) hS hG hI h1 t1 hR fun ad' a' w' hR' hx => evSeqG_sound hS hG hI r s1 _ g2 ad' a' w' h2 t2 hR' fun ad'' a'' w'' hR'' hx' => hQ ad'' a'' w'' hR'' (hx.trans hx')
        unfold wpList
        by_cases hw : Region.wanted o (yielded ops a.tmps) = true
        · rw [if_pos hw] at this ⊢; exact .inl this
        · rw [if_neg hw] at this ⊢; exact this
      · cases h
    · cases h

theorem piece_core {c : Code} {le : LEnt} {r : E × Out} {g : E} {es' : List E} (hw : ∀ (ρ : Nat → Int) (w0 : World) (M0 Im0 : Nat → Prop), GOK G Im0 w0 → ∀ (ad : Nat → Hd) (a : Act) (w : World) (Q : Exit → Act → World → Prop), r.1.tt l.F ρ = true → RelS l.F ρ w0 M0 Im0 ad (tmL le, start le.ent le.nt) a w → After l.F ρ w0 M0 Im0 ad (start le.ent le.nt) r.2 Q → c.wp P Q a w)
    (hends : endsM le r.2.1 r.2.2 = (g, some es'))
    (hu : ∀ xs, fits le.ent.pks xs → le.ent.pre xs → ∃ ρ : Nat → Int, (∀ i, i < le.ent.np → ρ i = env xs i) ∧ (andB r.1 g).tt l.F ρ = true ∧ ∀ (i : Nat) (k : K), le.ent.oks[i]? = some k → k.norm (le.ent.fn i xs) = (es'.getD i (mkB false)).den l.F ρ) :
    CodeOK P G c le := by
  intro xs hfit hpre w M0 Im hs hM hG hE a hdef hsz hsl Q hQ
  obtain ⟨ρ, hρ, u1, u2⟩ := hu xs hfit hpre
  · skip
    · skip
      obtain ⟨t1, t2⟩ := andB_tt u1
      obtain ⟨elen0, espec0, hst0⟩ := endsM_spec (F := l.F) (ρ := ρ) (le := le) (d := r.2.1) (ss := r.2.2)
      rw [hends] at elen0 espec0 hst0
      have elen := elen0 es' rfl
      have espec : g.tt l.F ρ = true → ∀ s, lk (r.2.1.eval l.F ρ) r.2.2 = some s → ∃ g1 es1, matchL le s (r.2.1.eval l.F ρ) = some (g1, es1) ∧ g1.tt l.F ρ = true ∧ es'.map (E.den l.F ρ) = es1.map (E.den l.F ρ) := fun ht s hs => by
        obtain ⟨es, g1, es1, h1, h2, h3, h4⟩ := espec0 ht s hs
        simp only [Option.some.injEq] at h1
        subst h1
        exact ⟨g1, es1, h2, h3, h4⟩
      have hst : startOK le.ent = true := hst0 (by simp)
      let ad0 : Nat → Hd := fun j => if j < le.ent.nn then hs j else { blk := 0, v := a.tmps.getD (j - le.ent.nn) undef }
      obtain ⟨r1, r2, r3⟩ := start_rel (ad := ad0) l le.nt hst hρ hfit hM hE fun j hj => if_pos hj
      have hT0 : RelT l.F ρ ad0 (start le.ent le.nt) (tmL le) a := by
        refine ⟨hdef, by simp [tmL]; exact hsz, fun i v hv => ?_⟩
        simp only [Tm.at, tmL, List.getD, List.getElem?_map] at hv
        by_cases hi : i < le.nt
        · rw [List.getElem?_range hi] at hv
          simp only [Option.map_some, Option.getD_some] at hv
          split at hv
          · rename_i k hk
            have hk2 := List.findIdx?_eq_some_iff_getElem.1 hk
            obtain ⟨hk3, hk4, _⟩ := hk2
            have hski : le.sl[k]? = some i := by rw [List.getElem?_eq_getElem hk3]; simpa using hk4
            have h1 := hsl k i hski
            change a.tmps[i]? = (SV.concL F0 (env xs) hs le.ent.pgen.1)[k]? at h1
            rw [← r2, concL_eq, List.getElem?_map, hv, Option.map_some] at h1
            exact ⟨h1, okL_get r3 hv⟩
          · simp only [Option.some.injEq] at hv
            subst hv
            have hsz' : a.tmps.size = le.nt := hsz
            have hia : i < a.tmps.size := by rw [hsz']; exact hi
            refine ⟨?_, (start_al le.ent le.nt _).2 (by omega)⟩
            simp only [SV.conc, ad0]
            rw [if_neg (by omega), show le.ent.nn + i - le.ent.nn = i by omega]
            simp [Array.getD, hia]
        · rw [List.getElem?_eq_none (by simpa using hi)] at hv
          simp at hv
      have hA : After l.F ρ w M0 Im ad0 (start le.ent le.nt) r.2 Q := by
        intro s ad' a' w' hlk hRs hx
        obtain ⟨g1, es1, m1, m2, m3⟩ := espec t2 s hlk
        have m1' := m1
        unfold matchL at m1'
        split at m1'
        · rename_i bs us hbs hus
          split at m1'
          · rename_i hkeep
            obtain ⟨hlen, hkeep⟩ := hkeep
            obtain ⟨b1, b2, b3⟩ := matchO_spec (l := l) m1'
            have hys : outsE le.ent.fn xs 0 le.ent.oks = es1.map (E.den l.F ρ) := by
              rw [← m3]
              refine outsE_eq _ _ _ (by simp [elen]) fun i k y h1 h2 => ?_
              rw [Nat.zero_add, u2 i k h1]
              rw [List.getElem?_map] at h2
              obtain ⟨x, hx, rfl⟩ := Option.map_eq_some_iff.1 h2
              simp [List.getD, hx]
            obtain ⟨hs', Im', q1, q2, q3, q4, q5⟩ := b3 (hs := hs) hρ hfit hys m2 (hRs.2.shareL _) fun j hj => by
              rw [← hx.same j ((start_al le.ent le.nt j).2 (by omega))]
              exact if_pos hj
            obtain ⟨g1', g2'⟩ := getSl_spec hus
            have hbits := bitsL_spec (F := l.F) (ρ := ρ) (ad := ad') (SV.concL l.F ρ ad' us) hbs
            refine hQ a' w' hs' Im' (SV.concL l.F ρ ad' (bs ++ us)) (r.2.1.eval l.F ρ) (SV.concL l.F ρ ad' us) q1 q2 q3 q5 ?_ ?_ ?_ ?_ ?_ hRs.1.defers
            · show (lastV le.ent.ogen.1).conc _ _ _ = _
              rw [show outsE (le.ent).fn xs 0 (le.ent).oks = es1.map (E.den l.F ρ) from hys]
              rw [hys] at q4
              rw [← q4]
              simp only [SV.conc]
            · rw [show SV.concL l.F ρ ad' (bs ++ us) = SV.concL l.F ρ ad' bs ++ SV.concL l.F ρ ad' us by rw [concL_eq, concL_eq, concL_eq, List.map_append]]
              exact hbits.1
            · intro i t hi
              have hv := g2' i t hi
              have hil : i < us.length := by have := (List.getElem?_eq_some_iff.1 hi).1; change i < le.so.length at this; omega
              rw [List.getElem?_eq_getElem hil] at hv
              rw [(hRs.1.slot t _ hv).1, concL_eq, List.getElem?_map, List.getElem?_eq_getElem hil, Option.map_some]
            · intro k hk1 hk2
              have hsz' : a.tmps.size = le.nt := hsz
              by_cases hkn : k < le.nt
              · have hkk := List.all_eq_true.1 hkeep k (List.mem_range.2 (by simp [tmL]; exact hkn))
                have c1 : le.so.contains k = false := by simpa using hk1
                have c2 : le.wr.contains k = false := by simpa using hk2
                rw [c1, c2, Bool.false_or, Bool.false_or] at hkk
                split at hkk
                · rename_i v u hv0 hv1
                  have := SV.same_eq _ _ hkk
                  subst this
                  obtain ⟨e1, e2⟩ := hT0.slot k v hv0
                  rw [(hRs.1.slot k v hv1).1, e1, SV.conc_congr hx.same v e2]
                · cases hkk
              · have h1 : a'.tmps.size = le.nt := by rw [← hlen]; exact hRs.1.size
                rw [Array.getElem?_eq_none (by omega), Array.getElem?_eq_none (by omega)]
            · have h1 : a'.tmps.size = le.nt := by rw [← hlen]; exact hRs.1.size
              have hsz' : a.tmps.size = le.nt := hsz
              omega
          · cases m1'
        · cases m1'
      exact hw ρ w M0 Im hG ad0 a w Q t1 ⟨hT0, r1⟩ hA

theorem Ctx.OK.pieceGH {c : Ctx} (hc : c.OK P G) (hm : P.follows .mixedOrders = true) {N n : Nat} {f : Nat} {p : List Bool} {le : LEnt} {ob : E} {es : List E} {Q : Post}
    (h : evPG P G (tabOf c.fs) (evFn P G (tabOf c.fs) (ltOf c.ls) N n) (le.fw (fnR c.l.F le.ent.np ob es Q)) (codeAtF P f p) = some (ob, es)) (hb : esB le.ent.oks es = true) (ks : List K) (hks : le.ent.pks = ks)
    (hu : ∀ xs, fits ks xs → le.ent.pre xs → ∃ ρ : Nat → Int, (∀ i, i < ks.length → ρ i = env xs i) ∧ ob.tt c.l.F ρ = true ∧ Q xs (es.map (E.den c.l.F ρ))) :
    ItemOK P G f p (le.fw (fnR c.l.F le.ent.np ob es Q)) ∧ PostOK (le.fw (fnR c.l.F le.ent.np ob es Q)).ent Q := by
  subst hks
  have key : ∀ xs, fits le.ent.pks xs → le.ent.pre xs → ∃ ρ, Fnd c.l.F le.ent.np ob es Q xs ρ ∧ ∀ j, fnR c.l.F le.ent.np ob es Q j xs = (es.getD j (mkB false)).den c.l.F ρ := fun xs hf hp => fnR_eq (hu xs hf hp)
  refine ⟨?_, fun xs hf hp => ?_⟩
  · unfold ItemOK
    have hsum := tabOf_sum hc.fs hc.getF
    have hlt : LTOK P G c.l (ltOf c.ls) := ltOf_ok hc.ls hc.getL
    have hfin : ∀ xs, fits le.ent.pks xs → le.ent.pre xs → ∃ ρ : Nat → Int, (∀ i, i < le.ent.np → ρ i = env xs i) ∧ ob.tt c.l.F ρ = true ∧ ∀ (i : Nat) (k : K), le.ent.oks[i]? = some k → k.norm (fnR c.l.F le.ent.np ob es Q i xs) = (es.getD i (mkB false)).den c.l.F ρ := fun xs hf hp => by
      obtain ⟨ρ, ⟨f1, f2, _⟩, f4⟩ := key xs hf hp
      refine ⟨ρ, f1, f2, fun i k hi => ?_⟩
      rw [f4 i]; exact (esB_get hb).2 _ _ i k hi
    unfold evPG at h
    split at h
    · rename_i id ops hcode
      rw [hcode]
      split at h
      · rename_i g s hs
        split at h
        · rename_i g2 es2 hends
          simp only [Option.some.injEq, Prod.mk.injEq] at h
          obtain ⟨rfl, rfl⟩ := h
          refine piece_core (l := c.l) (r := (g, .leaf .ret, [(.ret, s)])) (fun ρ w0 M0 Im0 hG ad a w Q' ht hR hA => ?_) hends hfin
          refine wp_seq (wp_region_list (evSeqG_sound hsum hG (evFn_sound hm hsum hG hlt n) ops.toList _ s g ad a w hs ht hR fun ad' a' w' hR' hx => ?_))
          exact wp_ret (hA s ad' a' w' (by simp [lk, DT.eval]) hR' hx)
        · cases h
      · cases h
    · cases h
  · obtain ⟨ρ, ⟨_, _, f3⟩, f4⟩ := key xs hf hp
    show Q xs (outsE (fnR c.l.F le.ent.np ob es Q) xs 0 le.ent.oks)
    rw [outs_map hb f4]; exact f3
end
end Go.Proofs.Ytmolkkphnehgcaa.Ew

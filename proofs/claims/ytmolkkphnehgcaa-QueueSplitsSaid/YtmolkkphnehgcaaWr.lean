/- Summaries with what is known of their results: a function's, a loop's, a piece's results are what the evaluator found; what is known of them is proved along with the obligations. -/
import Derived.Test.YtmolkkphnehgcaaWp
set_option linter.unusedVariables false
set_option linter.unusedSimpArgs false
namespace Go.Proofs.Ytmolkkphnehgcaa.Ew
open Go Go.RowKit

/-- The loop's own summary, with these results, for so many rounds. -/
def enH (le : LEnt) (φ : Nat → List Int → Int) (mu : List Int → Nat) (n : Nat) : Ent := { le.ent with fn := φ, pre := fun xs => le.ent.pre xs ∧ mu xs < n }
theorem outsE_congr {f g : Nat → List Int → Int} {xs : List Int} (h : ∀ j, f j xs = g j xs) : ∀ {ks : List K} {j : Nat}, outsE f xs j ks = outsE g xs j ks
  | [], _ => rfl
  | k :: ks, j => by simp only [outsE, h j, outsE_congr h (ks := ks) (j := j + 1)]

section
variable {P : Program} {ρ : Nat → Int} {G : Glob} {T : Tab} {l : Tabs} {w0 w w' : World} {M0 Im0 Im : Nat → Prop} {ad ad' hs : Nat → Hd} {m m2 m' : Mem} {tm : Tm} {en : Env} {a : Act}

theorem loop_okW (hm : P.follows .mixedOrders = true) {body : Code} {le : LEnt} {l0 : Tabs} {call : Into} {N : Nat} {L : Loops} (mu : List Int → Nat) (ψ : Nat → Nat → List Int → Int) (hψ : ∀ n j xs, mu xs < n → ψ n j xs = le.ent.fn j xs)
    (hS : ∀ φ n, SumOK P G (enH le φ mu n :: l0) T) (hI : ∀ φ n ρ w0 M0 Im0, GOK G Im0 w0 → IntoOK P (enH le φ mu n :: l0) ρ w0 M0 Im0 call) (hL : ∀ φ n, LoopsOK P G (enH le φ mu n :: l0) L body)
    {ob : E} {es : List E} (h : evL P G T call N L le body = some (ob, es))
    (hu : ∀ xs, fits le.ent.pks xs → le.ent.pre xs → ∃ ρ : Nat → Int, (∀ i, i < le.ent.np → ρ i = env xs i) ∧ ob.tt (Tabs.F (enH le (ψ (mu xs)) mu (mu xs) :: l0)) ρ = true ∧ ∀ (i : Nat) (k : K), le.ent.oks[i]? = some k → k.norm (le.ent.fn i xs) = (es.getD i (mkB false)).den (Tabs.F (enH le (ψ (mu xs)) mu (mu xs) :: l0)) ρ) :
    LoopOK P G body le := by
  have main : ∀ n, LoopC G { le with ent := enL le mu n } fun Q => Code.rounds P body Q n := by
    intro n
    induction n with
    | zero => intro xs hfit hpre; exact absurd hpre.2 (Nat.not_lt_zero _)
    | succ n ih =>
      intro xs hfit hpre w M0 Im hs hM hG hE a hdef hsz hsl Q hQ
      obtain ⟨hpre1, hpre2⟩ := hpre
      obtain ⟨ρ, hρ, u1, u2⟩ := hu xs hfit hpre1
      obtain ⟨m, hm0⟩ : ∃ m, m = mu xs := ⟨_, rfl⟩
      rw [← hm0] at u1 u2
      have hmn : m ≤ n := by omega
      obtain ⟨l, hl⟩ : ∃ l : Tabs, l = enH le (ψ m) mu m :: l0 := ⟨_, rfl⟩
      have hS' := hS (ψ m) m
      have hI' := hI (ψ m) m
      have hL' := hL (ψ m) m
      have ih' : LoopC G { le with ent := enH le (ψ m) mu m } fun Q => Code.rounds P body Q n := by
        intro xs hfit hpre w M0 Im hs hM hG hE a hdef hsz hsl Q hQ
        have hp2 : le.ent.pre xs ∧ mu xs < m := hpre
        refine ih xs hfit ⟨hp2.1, by have := hp2.2; omega⟩ w M0 Im hs hM hG hE a hdef hsz hsl Q ?_
        have eo : outsE (ψ m) xs 0 le.ent.oks = outsE le.ent.fn xs 0 le.ent.oks := outsE_congr fun j => hψ m j xs hp2.2
        intro a' w' hs' Im' Vs lab us q1 q2 q3 q4 q5
        refine hQ a' w' hs' Im' Vs lab us q1 q2 q3 ?_ ?_
        · show RelE F0 (env (xs ++ outsE (ψ m) xs 0 le.ent.oks)) w M0 Im' hs' le.ent.oents w'
          rw [eo]; exact q4
        · show (lastV le.ent.ogen.1).conc F0 (env (xs ++ outsE (ψ m) xs 0 le.ent.oks)) hs' = .tuple Vs.toArray
          rw [eo]; exact q5
      rw [← hl] at u1 u2 hS' hI' hL'
      unfold evL at h
      split at h
      · rename_i r hr
        split at h
        · rename_i q hq
          split at h
          · rename_i g es' hends
            simp only [Option.some.injEq, Prod.mk.injEq] at h
            obtain ⟨rfl, rfl⟩ := h
            obtain ⟨t1, t2⟩ := andB_tt u1
            obtain ⟨elen0, espec0, hst0⟩ := endsM_spec (F := l.F) (ρ := ρ) (le := le) (d := q.2.1) (ss := q.2.2)
            rw [hends] at elen0 espec0 hst0
            have elen := elen0 es' rfl
            have espec : g.tt l.F ρ = true → ∀ s, lk (q.2.1.eval l.F ρ) q.2.2 = some s → ∃ g1 es1, matchL le s (q.2.1.eval l.F ρ) = some (g1, es1) ∧ g1.tt l.F ρ = true ∧ es'.map (E.den l.F ρ) = es1.map (E.den l.F ρ) := fun ht s hs => by
              obtain ⟨es, g1, es1, h1, h2, h3, h4⟩ := espec0 ht s hs
              simp only [Option.some.injEq] at h1
              subst h1
              exact ⟨g1, es1, h2, h3, h4⟩
            have hst : startOK le.ent = true := hst0 (by simp)
            let ad0 : Nat → Hd := fun j => if j < le.ent.nn then hs j else { blk := 0, v := a.tmps.getD (j - le.ent.nn) undef }
            obtain ⟨r1, r2, r3⟩ := start_rel (ad := ad0) l le.nt hst hρ hfit hM hE fun j hj => if_pos hj
            have hT0 : RelT l.F ρ ad0 (start le.ent le.nt) (tmL le) a := by
              refine ⟨hdef, by simp [tmL]; exact hsz, fun i v hv => ?_⟩
              simp only [Tm.at, tmL, List.getD, List.getElem?_map] at hv
              by_cases hi : i < le.nt
              · rw [List.getElem?_range hi] at hv
                simp only [Option.map_some, Option.getD_some] at hv
                split at hv
                · rename_i k hk
                  have hk2 := List.findIdx?_eq_some_iff_getElem.1 hk
                  obtain ⟨hk3, hk4, _⟩ := hk2
                  have hski : le.sl[k]? = some i := by rw [List.getElem?_eq_getElem hk3]; simpa using hk4
                  have h1 := hsl k i hski
                  change a.tmps[i]? = (SV.concL F0 (env xs) hs le.ent.pgen.1)[k]? at h1
                  rw [← r2, concL_eq, List.getElem?_map, hv, Option.map_some] at h1
                  exact ⟨h1, okL_get r3 hv⟩
                · simp only [Option.some.injEq] at hv
                  subst hv
                  have hsz' : a.tmps.size = le.nt := hsz
                  have hia : i < a.tmps.size := by rw [hsz']; exact hi
                  refine ⟨?_, (start_al le.ent le.nt _).2 (by omega)⟩
                  simp only [SV.conc, ad0]
                  rw [if_neg (by omega), show le.ent.nn + i - le.ent.nn = i by omega]
                  simp [Array.getD, hia]
              · rw [List.getElem?_eq_none (by simpa using hi)] at hv
                simp at hv
            have hget : l.get (enH le (ψ m) mu m).key = some (enH le (ψ m) mu m) := by
              rw [hl]; simp [Tabs.get]
            have hA : After l.F ρ w M0 Im ad0 (start le.ent le.nt) q.2 Q := by
              intro s ad' a' w' hlk hRs hx
              obtain ⟨g1, es1, m1, m2, m3⟩ := espec t2 s hlk
              have m1' := m1
              unfold matchL at m1'
              split at m1'
              · rename_i bs us hbs hus
                split at m1'
                · rename_i hkeep
                  obtain ⟨hlen, hkeep⟩ := hkeep
                  obtain ⟨b1, b2, b3⟩ := matchO_spec (l := l) m1'
                  have hys : outsE le.ent.fn xs 0 le.ent.oks = es1.map (E.den l.F ρ) := by
                    rw [← m3]
                    refine outsE_eq _ _ _ (by simp [elen]) fun i k y h1 h2 => ?_
                    rw [Nat.zero_add, u2 i k h1]
                    rw [List.getElem?_map] at h2
                    obtain ⟨x, hx, rfl⟩ := Option.map_eq_some_iff.1 h2
                    simp [List.getD, hx]
                  obtain ⟨hs', Im', q1, q2, q3, q4, q5⟩ := b3 (hs := hs) hρ hfit hys m2 (hRs.2.shareL _) fun j hj => by
                    rw [← hx.same j ((start_al le.ent le.nt j).2 (by omega))]
                    exact if_pos hj
                  obtain ⟨g1', g2'⟩ := getSl_spec hus
                  have hbits := bitsL_spec (F := l.F) (ρ := ρ) (ad := ad') (SV.concL l.F ρ ad' us) hbs
                  refine hQ a' w' hs' Im' (SV.concL l.F ρ ad' (bs ++ us)) (q.2.1.eval l.F ρ) (SV.concL l.F ρ ad' us) q1 q2 q3 q5 ?_ ?_ ?_ ?_ ?_ hRs.1.defers
                  · show (lastV le.ent.ogen.1).conc _ _ _ = _
                    rw [show outsE (enL le mu (n+1)).fn xs 0 (enL le mu (n+1)).oks = es1.map (E.den l.F ρ) from hys]
                    rw [hys] at q4
                    rw [← q4]
                    simp only [SV.conc]
                  · rw [show SV.concL l.F ρ ad' (bs ++ us) = SV.concL l.F ρ ad' bs ++ SV.concL l.F ρ ad' us by rw [concL_eq, concL_eq, concL_eq, List.map_append]]
                    exact hbits.1
                  · intro i t hi
                    have hv := g2' i t hi
                    have hil : i < us.length := by have := (List.getElem?_eq_some_iff.1 hi).1; change i < le.so.length at this; omega
                    rw [List.getElem?_eq_getElem hil] at hv
                    rw [(hRs.1.slot t _ hv).1, concL_eq, List.getElem?_map, List.getElem?_eq_getElem hil, Option.map_some]
                  · intro k hk1 hk2
                    have hsz' : a.tmps.size = le.nt := hsz
                    by_cases hkn : k < le.nt
                    · have hkk := List.all_eq_true.1 hkeep k (List.mem_range.2 (by simp [tmL]; exact hkn))
                      have c1 : le.so.contains k = false := by simpa using hk1
                      have c2 : le.wr.contains k = false := by simpa using hk2
                      rw [c1, c2, Bool.false_or, Bool.false_or] at hkk
                      split at hkk
                      · rename_i v u hv0 hv1
                        have := SV.same_eq _ _ hkk
                        subst this
                        obtain ⟨e1, e2⟩ := hT0.slot k v hv0
                        rw [(hRs.1.slot k v hv1).1, e1, SV.conc_congr hx.same v e2]
                      · cases hkk
                    · have h1 : a'.tmps.size = le.nt := by rw [← hlen]; exact hRs.1.size
                      rw [Array.getElem?_eq_none (by omega), Array.getElem?_eq_none (by omega)]
                  · have h1 : a'.tmps.size = le.nt := by rw [← hlen]; exact hRs.1.size
                    have hsz' : a.tmps.size = le.nt := hsz
                    omega
                · cases m1'
              · cases m1'
            show Code.rounds P body Q (n + 1) a w
            rw [rounds_succ]
            obtain ⟨v1, v2⟩ := seqOut_sound (l := l) (ρ := ρ) (w0 := w) (M0 := M0) (Im0 := Im) (ad := ad0) (K := Code.rounds P body Q n) (g := q.1) (o := q.2) (f := callL le) hq t1 hA fun s1 g2 o2 ad' a' w' h2 ht2 hR' hA' =>
              callL_sound (le := { le with ent := enH le (ψ m) mu m }) (C := fun Q => Code.rounds P body Q n) hget ih' hG (g := g2) (o := o2) h2 ht2 hR' hA'
            exact evCode_sound hm hS' hG (hI' ρ w M0 Im hG) body L _ r.1 r.2 ad0 a w _ hL' hr v1 ⟨hT0, r1⟩ v2
          · cases h
        · cases h
      · cases h
  intro xs hfit hpre w M0 Im hs hM hG hE a hdef hsz hsl Q hQ
  exact wp_loop_rounds (mu xs + 1) (main (mu xs + 1) xs hfit ⟨hpre, Nat.lt_succ_self _⟩ w M0 Im hs hM hG hE a hdef hsz hsl Q hQ)
end

/-- Names and what they name: that they are so. -/
def dEl : List (Nat × E) → E
  | [] => mkB true
  | x :: r => .and (.cmp .eql (.var x.2.kind x.1) x.2) (dEl r)
def dE (d : List (Nat × E)) (i n : Nat) : E := dEl ((d.drop i).take n)
def isApp : E → Bool
  | .app .. => true
  | _ => false
theorem dEl_tt {F : Fam} {ρ : Nat → Int} : ∀ {d : List (Nat × E)}, (d.all fun x => isApp x.2) = true → (∀ x ∈ d, ρ x.1 = x.2.den F ρ) → (dEl d).tt F ρ = true
  | [], _, _ => rfl
  | x :: r, ha, h => by
    simp only [List.all_cons, Bool.and_eq_true] at ha
    rw [dEl, tt_and, dEl_tt ha.2 fun y hy => h y (List.mem_cons_of_mem _ hy), Bool.and_true, tt_cmp, den_var, h x (List.mem_cons_self ..)]
    obtain ⟨i, e⟩ := x
    cases e with
    | app k f j as =>
      simp only [E.kind, den_app, K.norm_norm, cmpB, beq_self_eq_true]
    | _ => cases ha.1
theorem dE_tt {F : Fam} {ρ : Nat → Int} {d : List (Nat × E)} (ha : (d.all fun x => isApp x.2) = true) (h : ∀ x ∈ d, ρ x.1 = x.2.den F ρ) (i n : Nat) : (dE d i n).tt F ρ = true := by
  refine dEl_tt ?_ fun x hx => h x (List.mem_of_mem_drop (List.mem_of_mem_take hx))
  rw [List.all_eq_true] at ha ⊢
  exact fun x hx => ha x (List.mem_of_mem_drop (List.mem_of_mem_take hx))
/-- What the family says of one key, its components one by one. -/
theorem FC {l : Tabs} {k0 k : Nat} {f : Nat → List Int → Int} {p : List Int → Prop} (hk : k0 = k) (h : (∀ j, (j == preC) = false → ∀ xs, l.F k0 j xs = f j xs) ∧ (∀ xs, (i2b (K.b.norm (l.F k0 1000000 xs)) = true) = p xs)) :
    (∀ xs, l.F k 0 xs = f 0 xs) ∧ (∀ xs, l.F k 1 xs = f 1 xs) ∧ (∀ xs, l.F k 2 xs = f 2 xs) ∧ (∀ xs, l.F k 3 xs = f 3 xs) ∧ (∀ xs, l.F k 4 xs = f 4 xs) ∧ (∀ xs, l.F k 5 xs = f 5 xs) ∧ (∀ xs, l.F k 6 xs = f 6 xs) ∧ (∀ xs, l.F k 7 xs = f 7 xs) ∧ (∀ xs, l.F k 8 xs = f 8 xs) ∧ (∀ xs, l.F k 9 xs = f 9 xs) ∧ (∀ xs, l.F k 10 xs = f 10 xs) ∧ (∀ xs, l.F k 11 xs = f 11 xs) ∧ (∀ xs, l.F k 12 xs = f 12 xs) ∧ (∀ xs, l.F k 13 xs = f 13 xs) ∧ (∀ xs, l.F k 14 xs = f 14 xs) ∧ (∀ xs, l.F k 15 xs = f 15 xs) ∧ (∀ xs, (i2b (K.b.norm (l.F k 1000000 xs)) = true) = p xs) := by
  subst hk
  exact ⟨h.1 0 rfl, h.1 1 rfl, h.1 2 rfl, h.1 3 rfl, h.1 4 rfl, h.1 5 rfl, h.1 6 rfl, h.1 7 rfl, h.1 8 rfl, h.1 9 rfl, h.1 10 rfl, h.1 11 rfl, h.1 12 rfl, h.1 13 rfl, h.1 14 rfl, h.1 15 rfl, h.2⟩
/-- A named result. -/
theorem nmd {F : Fam} {ρ : Nat → Int} {d : List (Nat × E)} (h : ∀ x ∈ d, ρ x.1 = x.2.den F ρ) (n : Nat) {i : Nat} {k : K} {f j : Nat} {as : List E} (hn : d[n]? = some (i, .app k f j as)) : ∃ v, ρ i = v ∧ v = k.norm (F f j (as.map (E.den F ρ))) ∧ k.norm v = v := by
  have e := h _ (List.mem_of_getElem? hn)
  simp only [den_app] at e
  exact ⟨_, rfl, e, by rw [e]; exact K.norm_norm _ _⟩
theorem fits_cons {k : K} {ks : List K} {xs : List Int} (h : fits (k :: ks) xs) : ∃ x r, xs = x :: r ∧ k.norm x = x ∧ fits ks r := by
  cases xs with
  | nil => exact h.elim
  | cons x r => exact ⟨x, r, rfl, h.1, h.2⟩
theorem fits_nil {xs : List Int} (h : fits [] xs) : xs = [] := by
  cases xs with
  | nil => rfl
  | cons x r => exact h.elim
/-! ### results -/
/-- The results' kinds. -/
def esB : List K → List E → Bool
  | [], [] => true
  | k :: ks, e :: es => decide (e.kind = k) && e.sound && esB ks es
  | _, _ => false
theorem esB_get : ∀ {ks : List K} {es : List E}, esB ks es = true → es.length = ks.length ∧ ∀ (F : Fam) (ρ : Nat → Int) (i : Nat) (k : K), ks[i]? = some k → k.norm ((es.getD i (mkB false)).den F ρ) = (es.getD i (mkB false)).den F ρ
  | [], [], _ => ⟨rfl, fun _ _ i k h => by simp at h⟩
  | [], _ :: _, h => by simp [esB] at h
  | _ :: _, [], h => by simp [esB] at h
  | k :: ks, e :: es, h => by
    simp only [esB, Bool.and_eq_true, decide_eq_true_eq] at h
    obtain ⟨⟨rfl, h2⟩, h3⟩ := h
    obtain ⟨i1, i2⟩ := esB_get h3
    refine ⟨by simp [i1], fun F ρ i k hi => ?_⟩
    cases i with
    | zero =>
      simp only [List.getElem?_cons_zero, Option.some.injEq] at hi
      subst hi
      simpa using E.den_norm F ρ e h2
    | succ i => simpa using i2 F ρ i k (by simpa using hi)

abbrev Post := List Int → List Int → Prop
/-- What is found, under a reading of the names. -/
def Fnd (F : Fam) (np : Nat) (ob : E) (es : List E) (Q : Post) (xs : List Int) (ρ : Nat → Int) : Prop :=
  (∀ i, i < np → ρ i = env xs i) ∧ ob.tt F ρ = true ∧ Q xs (es.map (E.den F ρ))
open Classical in
noncomputable def fnR (F : Fam) (np : Nat) (ob : E) (es : List E) (Q : Post) (j : Nat) (xs : List Int) : Int :=
  if h : ∃ ρ : Nat → Int, Fnd F np ob es Q xs ρ then (es.getD j (mkB false)).den F h.choose else 0
theorem fnR_eq {F : Fam} {np : Nat} {ob : E} {es : List E} {Q : Post} {xs : List Int} (h : ∃ ρ : Nat → Int, Fnd F np ob es Q xs ρ) : ∃ ρ, Fnd F np ob es Q xs ρ ∧ ∀ j, fnR F np ob es Q j xs = (es.getD j (mkB false)).den F ρ :=
  ⟨h.choose, h.choose_spec, fun j => dif_pos h⟩
/-- What is known of a summary's results. -/
def PostOK (e : Ent) (Q : Post) : Prop := ∀ xs, fits e.pks xs → e.pre xs → Q xs (outsE e.fn xs 0 e.oks)
/-- A number is what another one comes to. -/
def outEq : K → Int → Int → Prop
  | .b, v, z => v = K.b.norm z
  | .i k, v, z => v = k.wrap z
  | .x, v, z => v = z
theorem outEq_norm {k : K} {v z : Int} (h : outEq k v z) : v = k.norm z := by cases k <;> exact h
/-- These are a summary's results. -/
def isOut (fn : Nat → List Int → Int) (xs : List Int) : Nat → List K → List Int → Prop
  | _, [], [] => True
  | j, k :: ks, v :: vs => outEq k v (fn j xs) ∧ isOut fn xs (j + 1) ks vs
  | _, _, _ => False
theorem isOut_eq {fn : Nat → List Int → Int} {xs : List Int} : ∀ {ks : List K} {vs : List Int} {j : Nat}, isOut fn xs j ks vs → vs = outsE fn xs j ks
  | [], [], _, _ => rfl
  | [], _ :: _, _, h => h.elim
  | _ :: _, [], _, h => h.elim
  | k :: ks, v :: vs, j, h => by
    rw [outsE, ← outEq_norm h.1, ← isOut_eq h.2]
theorem PostOK.use {e : Ent} {Q : Post} (h : PostOK e Q) {xs vs : List Int} {ks os : List K} (hks : e.pks = ks) (hos : e.oks = os) (ho : isOut e.fn xs 0 os vs) (hf : fits ks xs) (hp : e.pre xs) : Q xs vs := by
  subst hks; subst hos
  rw [isOut_eq ho]; exact h xs hf hp
theorem PostOK.nm {e : Ent} {Q : Post} (h : PostOK e Q) : PostOK e.nm Q := h
theorem outs_map {F : Fam} {ρ : Nat → Int} {fn : Nat → List Int → Int} {xs : List Int} {ks : List K} {es : List E} (hb : esB ks es = true) (h : ∀ j, fn j xs = (es.getD j (mkB false)).den F ρ) : outsE fn xs 0 ks = es.map (E.den F ρ) := by
  obtain ⟨b1, b2⟩ := esB_get hb
  refine outsE_eq _ _ _ (by simp [b1]) fun i k y h1 h2 => ?_
  rw [Nat.zero_add, h i, b2 F ρ i k h1]
  rw [List.getElem?_map] at h2
  obtain ⟨x, hx, rfl⟩ := Option.map_eq_some_iff.1 h2
  simp [List.getD, hx]
/-- A summary whose results are these. -/
def Ent.fw (e : Ent) (f : Nat → List Int → Int) : Ent := { e with fn := f }
def LEnt.fw (le : LEnt) (f : Nat → List Int → Int) : LEnt := { le with ent := le.ent.fw f }
theorem ewR : (∀ le : LEnt, le.nm.ent.fn = le.ent.fn) ∧ (∀ le : LEnt, le.nm.ent.pre = le.ent.pre) ∧ (∀ (e : Ent) (f : Nat → List Int → Int), (e.fw f).pre = e.pre) ∧ (∀ (e : LEnt) (f : Nat → List Int → Int), (e.fw f).ent.pre = e.ent.pre) := ⟨fun _ => rfl, fun _ => rfl, fun _ _ => rfl, fun _ _ => rfl⟩

section
variable {P : Program} {G : Glob} {c : Ctx}
theorem Ctx.OK.entryH (hc : c.OK P G) (hm : P.follows .mixedOrders = true) {N n : Nat} {e : Ent} {ob : E} {es : List E} {Q : Post} (h : evE P G (tabOf c.fs) (ltOf c.ls) N n (e.fw (fnR c.l.F e.np ob es Q)) = some (ob, es)) (hb : esB e.oks es = true) (ks : List K) (hks : e.pks = ks)
    (hu : ∀ xs, fits ks xs → e.pre xs → ∃ ρ : Nat → Int, (∀ i, i < ks.length → ρ i = env xs i) ∧ ob.tt c.l.F ρ = true ∧ Q xs (es.map (E.den c.l.F ρ))) : EntryOK P G (e.fw (fnR c.l.F e.np ob es Q)) ∧ PostOK (e.fw (fnR c.l.F e.np ob es Q)) Q := by
  subst hks
  have key : ∀ xs, fits e.pks xs → e.pre xs → ∃ ρ, Fnd c.l.F e.np ob es Q xs ρ ∧ ∀ j, fnR c.l.F e.np ob es Q j xs = (es.getD j (mkB false)).den c.l.F ρ := fun xs hf hp => fnR_eq (hu xs hf hp)
  refine ⟨entry_okR hm (tabOf_sum hc.fs hc.getF) (ltOf_ok hc.ls hc.getL) h fun xs hf hp => ?_, fun xs hf hp => ?_⟩
  · obtain ⟨ρ, ⟨f1, f2, _⟩, f4⟩ := key xs hf hp
    refine ⟨ρ, f1, f2, fun i k hi => ?_⟩
    show k.norm (fnR c.l.F e.np ob es Q i xs) = _
    rw [f4 i]; exact (esB_get hb).2 _ _ i k hi
  · obtain ⟨ρ, ⟨_, _, f3⟩, f4⟩ := key xs hf hp
    show Q xs (outsE (fnR c.l.F e.np ob es Q) xs 0 e.oks)
    rw [outs_map hb f4]; exact f3
theorem Ctx.OK.pieceH (hc : c.OK P G) (hm : P.follows .mixedOrders = true) {N n : Nat} {f : Nat} {p : List Bool} {le : LEnt} {ob : E} {es : List E} {Q : Post}
    (hp : ∃ fn cd b, P.funcs[f]? = some fn ∧ fn.body = some cd ∧ codeAt cd p = some b)
    (h : evP P G (tabOf c.fs) (evFn P G (tabOf c.fs) (ltOf c.ls) N n) N (subP c.ls f p) (le.fw (fnR c.l.F le.ent.np ob es Q)) (codeAtF P f p) = some (ob, es)) (hb : esB le.ent.oks es = true) (ks : List K) (hks : le.ent.pks = ks)
    (hu : ∀ xs, fits ks xs → le.ent.pre xs → ∃ ρ : Nat → Int, (∀ i, i < ks.length → ρ i = env xs i) ∧ ob.tt c.l.F ρ = true ∧ Q xs (es.map (E.den c.l.F ρ))) :
    ItemOK P G f p (le.fw (fnR c.l.F le.ent.np ob es Q)) ∧ PostOK (le.fw (fnR c.l.F le.ent.np ob es Q)).ent Q := by
  subst hks
  have key : ∀ xs, fits le.ent.pks xs → le.ent.pre xs → ∃ ρ, Fnd c.l.F le.ent.np ob es Q xs ρ ∧ ∀ j, fnR c.l.F le.ent.np ob es Q j xs = (es.getD j (mkB false)).den c.l.F ρ := fun xs hf hp => fnR_eq (hu xs hf hp)
  refine ⟨hc.piece hm hp h fun xs hf hp => ?_, fun xs hf hp => ?_⟩
  · obtain ⟨ρ, ⟨f1, f2, _⟩, f4⟩ := key xs hf hp
    refine ⟨ρ, f1, f2, fun i k hi => ?_⟩
    show k.norm (fnR c.l.F le.ent.np ob es Q i xs) = _
    rw [f4 i]; exact (esB_get hb).2 _ _ i k hi
  · obtain ⟨ρ, ⟨_, _, f3⟩, f4⟩ := key xs hf hp
    show Q xs (outsE (fnR c.l.F le.ent.np ob es Q) xs 0 le.ent.oks)
    rw [outs_map hb f4]; exact f3

/-- A loop's results, round by round. -/
noncomputable def psiL (le : LEnt) (l0 : Tabs) (ob : E) (es : List E) (Q : Post) (mu : List Int → Nat) : Nat → Nat → List Int → Int
  | 0, _, _ => 0
  | n + 1, j, xs => if mu xs < n then psiL le l0 ob es Q mu n j xs else fnR (Tabs.F (enH le (psiL le l0 ob es Q mu n) mu n :: l0)) le.ent.np ob es Q j xs
noncomputable def fnL (le : LEnt) (l0 : Tabs) (ob : E) (es : List E) (Q : Post) (mu : List Int → Nat) (j : Nat) (xs : List Int) : Int := psiL le l0 ob es Q mu (mu xs + 1) j xs
theorem psiL_eq {le : LEnt} {l0 : Tabs} {ob : E} {es : List E} {Q : Post} {mu : List Int → Nat} : ∀ (n j : Nat) (xs : List Int), mu xs < n → psiL le l0 ob es Q mu n j xs = fnL le l0 ob es Q mu j xs
  | 0, _, _, h => absurd h (Nat.not_lt_zero _)
  | n + 1, j, xs, h => by
    by_cases hc : mu xs < n
    · rw [psiL, if_pos hc]; exact psiL_eq n j xs hc
    · have e : n = mu xs := by omega
      rw [e]; rfl
theorem fnL_eq {le : LEnt} {l0 : Tabs} {ob : E} {es : List E} {Q : Post} {mu : List Int → Nat} (j : Nat) (xs : List Int) : fnL le l0 ob es Q mu j xs = fnR (Tabs.F (enH le (psiL le l0 ob es Q mu (mu xs)) mu (mu xs) :: l0)) le.ent.np ob es Q j xs := by
  rw [fnL, psiL, if_neg (Nat.lt_irrefl _)]
theorem Ctx.OK.loopH (hc : c.OK P G) (hm : P.follows .mixedOrders = true) {N n : Nat} {f : Nat} {p : List Bool} {le : LEnt} {ob : E} {es : List E} {Q : Post} {mu : List Int → Nat}
    (hk : (c.l.any fun y => y.key == le.ent.key) = false) (hp : ∃ fn cd b, P.funcs[f]? = some fn ∧ fn.body = some cd ∧ codeAt cd p = some (.loop b))
    (h : evL P G (tabOf c.fs) (evFn P G (tabOf c.fs) (ltOf c.ls) N n) N (subL c.ls f p) (le.fw (fnL le c.l ob es Q mu)) (bodyAt P f p) = some (ob, es)) (hb : esB le.ent.oks es = true) (ks : List K) (hks : le.ent.pks = ks)
    (hu : ∀ xs, fits ks xs → le.ent.pre xs → ∀ φ : Nat → List Int → Int, (∀ ys, fits ks ys → le.ent.pre ys → mu ys < mu xs → Q ys (outsE φ ys 0 le.ent.oks)) →
      ∃ ρ : Nat → Int, (∀ i, i < ks.length → ρ i = env xs i) ∧ ob.tt (Tabs.F (enH le φ mu (mu xs) :: c.l)) ρ = true ∧ Q xs (es.map (E.den (Tabs.F (enH le φ mu (mu xs) :: c.l)) ρ))) :
    ItemOK P G f p (le.fw (fnL le c.l ob es Q mu)) ∧ PostOK (le.fw (fnL le c.l ob es Q mu)).ent Q := by
  subst hks
  have hpost : ∀ m xs, mu xs = m → fits le.ent.pks xs → le.ent.pre xs → Q xs (outsE (fnL le c.l ob es Q mu) xs 0 le.ent.oks) ∧ ∃ ρ, Fnd (Tabs.F (enH le (psiL le c.l ob es Q mu (mu xs)) mu (mu xs) :: c.l)) le.ent.np ob es Q xs ρ ∧
      ∀ j, fnL le c.l ob es Q mu j xs = (es.getD j (mkB false)).den (Tabs.F (enH le (psiL le c.l ob es Q mu (mu xs)) mu (mu xs) :: c.l)) ρ := by
    intro m
    induction m using Nat.strongRecOn with
    | _ m ih =>
      intro xs hm' hf hp'
      obtain ⟨ρ, ⟨f1, f2, f3⟩, f4⟩ := fnR_eq (hu xs hf hp' (psiL le c.l ob es Q mu (mu xs)) fun ys hy1 hy2 hy3 => by
        rw [outsE_congr fun j => psiL_eq (mu xs) j ys hy3]
        exact (ih (mu ys) (by omega) ys rfl hy1 hy2).1)
      have f5 : ∀ j, fnL le c.l ob es Q mu j xs = (es.getD j (mkB false)).den (Tabs.F (enH le (psiL le c.l ob es Q mu (mu xs)) mu (mu xs) :: c.l)) ρ := fun j => (fnL_eq j xs).trans (f4 j)
      refine ⟨?_, ρ, ⟨f1, f2, f3⟩, f5⟩
      rw [outs_map hb f5]; exact f3
  refine ⟨?_, fun xs hf hp' => (hpost _ xs rfl hf hp').1⟩
  obtain ⟨fn, cd, b, b1, b2, b3⟩ := hp
  have hcf : codeAtF P f p = .loop b := by unfold codeAtF; simp only [b1, b2, b3, Option.getD_some]
  unfold ItemOK
  rw [hcf]
  show LoopOK P G b (le.fw (fnL le c.l ob es Q mu))
  have hbd : bodyAt P f p = b := by unfold bodyAt; simp only [b1, b2, b3]
  rw [hbd] at h
  have g1 : ∀ φ n, ∀ e ∈ c.fs, Tabs.get (enH (le.fw (fnL le c.l ob es Q mu)) φ mu n :: c.l) e.key = some e := fun φ n e he => get_fresh (e := enH (le.fw (fnL le c.l ob es Q mu)) φ mu n) (hc.getF e he) hk
  have g2 : ∀ φ n, ∀ x ∈ c.ls, Tabs.get (enH (le.fw (fnL le c.l ob es Q mu)) φ mu n :: c.l) x.2.2.ent.key = some x.2.2.ent := fun φ n x hx => get_fresh (e := enH (le.fw (fnL le c.l ob es Q mu)) φ mu n) (hc.getL x hx) hk
  have g3 : ∀ φ n, LTOK P G (enH (le.fw (fnL le c.l ob es Q mu)) φ mu n :: c.l) (ltOf c.ls) := fun φ n => ltOf_ok hc.ls (g2 φ n)
  refine loop_okW hm mu (psiL le c.l ob es Q mu) (fun n j xs h => psiL_eq n j xs h) (fun φ n => tabOf_sum hc.fs (g1 φ n)) (fun φ n ρ w0 M0 Im0 hG => evFn_sound hm (tabOf_sum hc.fs (g1 φ n)) hG (g3 φ n) _) (fun φ n => ?_) h fun xs hf hp' => ?_
  · intro q le' hq body hbody
    exact g3 φ n f fn cd b1 b2 (p ++ false :: q) le' hq body (by rw [codeAt_app b3]; exact hbody)
  · obtain ⟨_, ρ, ⟨f1, f2, _⟩, f5⟩ := hpost _ xs rfl hf hp'
    refine ⟨ρ, f1, f2, fun i k hi => ?_⟩
    show k.norm (fnL le c.l ob es Q mu i xs) = _
    rw [f5 i]; exact (esB_get hb).2 _ _ i k hi
/-- What the family says of a loop's own next round. -/
theorem self_H (le : LEnt) (φ : Nat → List Int → Int) (mu : List Int → Nat) (n : Nat) (l0 : Tabs) (hk : le.ent.key ≠ 0) : ∃ l : Tabs, enH le φ mu n :: l0 = l ∧ ((∀ j, (j == preC) = false → ∀ xs, l.F le.ent.key j xs = φ j xs) ∧
    (∀ xs, (i2b (K.b.norm (l.F le.ent.key 1000000 xs)) = true) = (le.ent.pre xs ∧ mu xs < n))) ∧
    ∀ e : Ent, l0.get e.key = some e → e.key ≠ le.ent.key → e.key ≠ 0 → (∀ j, (j == preC) = false → ∀ xs, l.F e.key j xs = e.fn j xs) ∧ ∀ xs, (i2b (K.b.norm (l.F e.key 1000000 xs)) = true) = e.pre xs := by
  have g : Tabs.get (enH le φ mu n :: l0) le.ent.key = some (enH le φ mu n) := by simp [Tabs.get, enH]
  refine ⟨_, rfl, ⟨fun j hj xs => F_fn (enH le φ mu n) rfl g hk hj xs, fun xs => propext (Tabs.F_pre (e := enH le φ mu n) g hk rfl)⟩, fun e he h1 h2 => ?_⟩
  have ge : Tabs.get (enH le φ mu n :: l0) e.key = some e := by
    have : (le.ent.key == e.key) = false := by simpa using fun e' => h1 e'.symm
    simp only [Tabs.get, enH, List.find?_cons, this]
    exact he
  exact ⟨fun j hj xs => F_fn e rfl ge h2 hj xs, fun xs => propext (Tabs.F_pre ge h2 rfl)⟩
end
end Go.Proofs.Ytmolkkphnehgcaa.Ew


/- Layer 17: what compares and finds timers. -/
import Derived.Test.YtmolkkphnehgcaaQd
import Derived.Test.YtmolkkphnehgcaaW9
set_option linter.unusedVariables false
set_option linter.unusedSimpArgs false
namespace Go.Proofs.Ytmolkkphnehgcaa.Ew
open Go Go.RowKit
--P Try.prog G0

def G0 : Glob := fun _ _ => none
def i64 : Sh := .sc (.i .i64)
def tm : Sh := .agg [i64, i64]
def cmpI (a b : Int) : Int := if a < b then -1 else if b < a then 1 else 0
noncomputable def e44 : Ent := ⟨44, 44, [i64, i64], [], [], i64, fun _ xs => cmpI (env xs 0) (env xs 1), fun _ => True⟩
def c0 : Ctx := ⟨[], []⟩

theorem mixed : Try.prog.follows Departure.mixedOrders = true := by kernel_rfl
theorem c0ok : c0.OK Try.prog G0 := Ctx.OK.nil

def ob_44 : E := (.lit .b 1)
def es_44 : List E := [(.ite (.cmp .lss (.var (.i .i64) 0) (.var (.i .i64) 1)) (.lit (.i .i64) (-1)) (.ite (.cmp .gtr (.var (.i .i64) 0) (.var (.i .i64) 1)) (.lit (.i .i64) 1) (.lit (.i .i64) 0)))]
theorem ev_44 : evE Try.prog G0 (tabOf c0.fs) (ltOf c0.ls) 40 10 e44 = some (ob_44, es_44) := by kernel_rfl

theorem ok44 : EntryOK Try.prog G0 e44 := c0ok.entryP mixed ev_44 _ rfl _ rfl fun xs hf _ => by
  match xs, hf with
  | [a, b], hf =>
    obtain ⟨h0, h1, _⟩ := hf
    simp only [norm_i, norm_x] at h0 h1
    refine ⟨by simp only [ob_44, tt_and, tt_or, tt_not, tt_cmp, tt_lit, tt_ite, tt_var, tt_app, den_cmp, den_not, den_and, den_or, den_ite, den_lit, den_var, den_bin, den_dv, den_sh, den_conv, den_app, norm_i, norm_x, norm_b2i, nb1, nb0, i2b1, i2b0, preC, binI, dvI, shI, cmpB, env, List.map_cons, List.map_nil, List.getD_cons_succ, List.getD_cons_zero, List.getElem?_cons_zero, List.getElem?_cons_succ, i2b_b2i, F_bi, bi, List.headD, List.tail, List.map, dc_cd, List.nil_append, List.cons_append, Int.toNat_zero]; simp, ?_, trivial⟩
    simp only [es_44, e44, cmpI, tt_and, tt_or, tt_not, tt_cmp, tt_lit, tt_ite, tt_var, tt_app, den_cmp, den_not, den_and, den_or, den_ite, den_lit, den_var, den_bin, den_dv, den_sh, den_conv, den_app, norm_i, norm_x, norm_b2i, nb1, nb0, i2b1, i2b0, preC, binI, dvI, shI, cmpB, env, List.map_cons, List.map_nil, List.getD_cons_succ, List.getD_cons_zero, List.getElem?_cons_zero, List.getElem?_cons_succ, i2b_b2i, F_bi, bi, List.headD, List.tail, List.map, dc_cd, List.nil_append, List.cons_append, Int.toNat_zero, h0, h1]
    have w1 : IntKind.i64.wrap (-1) = -1 := i64w (by decide) (by decide)
    have w2 : IntKind.i64.wrap 1 = 1 := i64w (by decide) (by decide)
    have w3 : IntKind.i64.wrap 0 = 0 := i64w (by decide) (by decide)
    by_cases l1 : a < b
    · simp [l1, w1, w2, w3]
    · by_cases l2 : b < a <;> simp [l1, l2, w1, w2, w3]

noncomputable def orF (l : RL) : Int := match l with
  | [] => 0
  | r :: l => if r.getD 0 0 ≠ 0 then r.getD 0 0 else orF l
/-- Rows of the kinds. -/
def rowsOK (ks : List K) (l : RL) : Prop := ∀ r ∈ l, fits ks r
def pre43 (xs : List Int) : Prop := env xs 0 = 0 ∧ env xs 1 = 0 ∧ env xs 3 = ((dc (env xs 2)).length : Int) ∧ 0 ≤ env xs 4 ∧ env xs 4 ≤ env xs 3 ∧ env xs 3 ≤ 100 ∧ rowsOK [.i .i64] (dc (env xs 2))
noncomputable def fn43 (j : Nat) (xs : List Int) : Int := let o := orF ((dc (env xs 2)).drop (env xs 4).toNat); if j = 0 then b2i (o == 0) else o
noncomputable def le43 : LEnt := ⟨⟨9043, 999999, [i64, i64, .lst 3 (Row.ofKs [.i .i64]) false, i64, i64], [], [0], .tup [.sc .b, i64], fn43, pre43⟩, [2, 3, 6, 7, 8], [2], [5, 8] ++ (List.range 8).map (· + 9), [.ex 0, .ret], 18, [6]⟩

def ob_L43 : E := (.and (.or (.not (.cmp .lss (.var (.i .i64) 4) (.var (.i .i64) 3))) (.and (.cmp .geq (.var (.i .i64) 4) (.lit (.i .i64) 0)) (.cmp .lss (.var (.i .i64) 4) (.app (.i .i64) 0 0 [(.var .x 2)])))) (.or (.not (.and (.cmp .lss (.var (.i .i64) 4) (.var (.i .i64) 3)) (.not (.cmp .neq (.app (.i .i64) 0 1 [(.var .x 2), (.var (.i .i64) 4), (.lit .x 0)]) (.var (.i .i64) 1))))) (.app .b 9043 1000000 [(.var (.i .i64) 0), (.var (.i .i64) 1), (.var .x 2), (.var (.i .i64) 3), (.bin .add .i64 (.var (.i .i64) 4) (.lit (.i .i64) 1))])))
def es_L43 : List E := [(.ite (.or (.not (.cmp .lss (.var (.i .i64) 4) (.var (.i .i64) 3))) (.and (.and (.cmp .lss (.var (.i .i64) 4) (.var (.i .i64) 3)) (.not (.cmp .neq (.app (.i .i64) 0 1 [(.var .x 2), (.var (.i .i64) 4), (.lit .x 0)]) (.var (.i .i64) 1)))) (.app .b 9043 0 [(.var (.i .i64) 0), (.var (.i .i64) 1), (.var .x 2), (.var (.i .i64) 3), (.bin .add .i64 (.var (.i .i64) 4) (.lit (.i .i64) 1))]))) (.lit .b 1) (.lit .b 0)), (.ite (.or (.not (.cmp .lss (.var (.i .i64) 4) (.var (.i .i64) 3))) (.and (.and (.cmp .lss (.var (.i .i64) 4) (.var (.i .i64) 3)) (.not (.cmp .neq (.app (.i .i64) 0 1 [(.var .x 2), (.var (.i .i64) 4), (.lit .x 0)]) (.var (.i .i64) 1)))) (.app .b 9043 0 [(.var (.i .i64) 0), (.var (.i .i64) 1), (.var .x 2), (.var (.i .i64) 3), (.bin .add .i64 (.var (.i .i64) 4) (.lit (.i .i64) 1))]))) (.ite (.not (.cmp .lss (.var (.i .i64) 4) (.var (.i .i64) 3))) (.var (.i .i64) 0) (.app (.i .i64) 9043 1 [(.var (.i .i64) 0), (.var (.i .i64) 1), (.var .x 2), (.var (.i .i64) 3), (.bin .add .i64 (.var (.i .i64) 4) (.lit (.i .i64) 1))])) (.ite (.and (.cmp .lss (.var (.i .i64) 4) (.var (.i .i64) 3)) (.cmp .neq (.app (.i .i64) 0 1 [(.var .x 2), (.var (.i .i64) 4), (.lit .x 0)]) (.var (.i .i64) 1))) (.app (.i .i64) 0 1 [(.var .x 2), (.var (.i .i64) 4), (.lit .x 0)]) (.app (.i .i64) 9043 1 [(.var (.i .i64) 0), (.var (.i .i64) 1), (.var .x 2), (.var (.i .i64) 3), (.bin .add .i64 (.var (.i .i64) 4) (.lit (.i .i64) 1))])))]
theorem ev_L43 : evL Try.prog G0 (tabOf c0.fs) (evFn Try.prog G0 (tabOf c0.fs) (ltOf c0.ls) 40 10) 40 (subL c0.ls 43 [true,true,false,true,false]) le43 (bodyAt Try.prog 43 [true,true,false,true,false]) = some (ob_L43, es_L43) := by kernel_rfl

def mu43 (xs : List Int) : Nat := (env xs 3 - env xs 4).toNat
theorem lo43 : ItemOK Try.prog G0 43 [true,true,false,true,false] le43 := by
  refine c0ok.loopP mixed mu43 rfl ?_ ev_L43 _ rfl _ rfl ?_
  · exact ⟨_, _, _, Try.func43, rfl, rfl⟩
  intro n xs hf hp hmu
  obtain ⟨l, hl, S, Sp, -⟩ := self_F le43 mu43 n c0.l (by decide)
  rw [hl]
  match xs, hf with
  | [v, z, c, m, i], hf =>
    obtain ⟨h0, h1, h2, h3, h4, _⟩ := hf
    simp only [norm_i, norm_x] at h0 h1 h2 h3 h4
    obtain ⟨p1, p2, p3, p4, p5, p6, p7⟩ := hp
    simp only [tt_and, tt_or, tt_not, tt_cmp, tt_lit, tt_ite, tt_var, tt_app, den_cmp, den_not, den_and, den_or, den_ite, den_lit, den_var, den_bin, den_dv, den_sh, den_conv, den_app, norm_i, norm_x, norm_b2i, nb1, nb0, i2b1, i2b0, preC, binI, dvI, shI, cmpB, env, List.map_cons, List.map_nil, List.getD_cons_succ, List.getD_cons_zero, List.getElem?_cons_zero, List.getElem?_cons_succ, i2b_b2i, F_bi, bi, List.headD, List.tail, List.map, dc_cd, List.nil_append, List.cons_append, Int.toNat_zero] at p1 p2 p3 p4 p5 p6 p7
    unfold mu43 at hmu
    simp only [tt_and, tt_or, tt_not, tt_cmp, tt_lit, tt_ite, tt_var, tt_app, den_cmp, den_not, den_and, den_or, den_ite, den_lit, den_var, den_bin, den_dv, den_sh, den_conv, den_app, norm_i, norm_x, norm_b2i, nb1, nb0, i2b1, i2b0, preC, binI, dvI, shI, cmpB, env, List.map_cons, List.map_nil, List.getD_cons_succ, List.getD_cons_zero, List.getElem?_cons_zero, List.getElem?_cons_succ, i2b_b2i, F_bi, bi, List.headD, List.tail, List.map, dc_cd, List.nil_append, List.cons_append, Int.toNat_zero] at hmu
    subst p1; subst p2
    have w0 : IntKind.i64.wrap 0 = 0 := i64w (by decide) (by decide)
    have w1 : IntKind.i64.wrap 1 = 1 := i64w (by decide) (by decide)
    have hw : IntKind.i64.wrap (dc c).length = (dc c).length := i64w (by omega) (by omega)
    by_cases hlt : i < m
    · have hs : IntKind.i64.wrap (i + 1) = i + 1 := i64w (by omega) (by omega)
      obtain ⟨r, hr, hm, hd⟩ : ∃ r, (dc c).getD i.toNat [] = r ∧ r ∈ dc c ∧ (dc c).drop i.toNat = r :: (dc c).drop (i + 1).toNat := by
        have hl : i.toNat < (dc c).length := by omega
        refine ⟨(dc c)[i.toNat], by simp [List.getD, hl], List.getElem_mem hl, ?_⟩
        rw [List.drop_eq_getElem_cons hl, show (i + 1).toNat = i.toNat + 1 by omega]
      have hrw : IntKind.i64.wrap (r.getD 0 0) = r.getD 0 0 := fits_get (p7 r hm) 0 (.i .i64) rfl
      have hS : i2b (K.b.norm (l.F 9043 1000000 [0, 0, c, m, i + 1])) = true := Sp _ ⟨⟨rfl, rfl, p3, by show 0 ≤ i + 1; omega, by show i + 1 ≤ m; omega, p6, p7⟩, by show (m - (i + 1)).toNat < n; omega⟩
      have hf : ∀ j x, fn43 j [0, 0, c, m, x] = if j = 0 then b2i (orF ((dc c).drop x.toNat) == 0) else orF ((dc c).drop x.toNat) := fun j x => rfl
      have hp1 : l.F 9043 0 [0, 0, c, m, i + 1] = fn43 0 [0, 0, c, m, i + 1] := S 0 rfl _
      have hp2 : l.F 9043 1 [0, 0, c, m, i + 1] = fn43 1 [0, 0, c, m, i + 1] := S 1 rfl _
      have e1 : le43.ent.fn = fn43 := rfl
      refine ⟨?_, ?_, ?_, trivial⟩
      · simp only [ob_L43, tt_and, tt_or, tt_not, tt_cmp, tt_lit, tt_ite, tt_var, tt_app, den_cmp, den_not, den_and, den_or, den_ite, den_lit, den_var, den_bin, den_dv, den_sh, den_conv, den_app, norm_i, norm_x, norm_b2i, nb1, nb0, i2b1, i2b0, preC, binI, dvI, shI, cmpB, env, List.map_cons, List.map_nil, List.getD_cons_succ, List.getD_cons_zero, List.getElem?_cons_zero, List.getElem?_cons_succ, i2b_b2i, F_bi, bi, List.headD, List.tail, List.map, dc_cd, List.nil_append, List.cons_append, Int.toNat_zero, h3, h4, w0, w1, hs, hr, hS, hw, hrw]
        simp [hlt, p4]; omega
      · simp only [es_L43, tt_and, tt_or, tt_not, tt_cmp, tt_lit, tt_ite, tt_var, tt_app, den_cmp, den_not, den_and, den_or, den_ite, den_lit, den_var, den_bin, den_dv, den_sh, den_conv, den_app, norm_i, norm_x, norm_b2i, nb1, nb0, i2b1, i2b0, preC, binI, dvI, shI, cmpB, env, List.map_cons, List.map_nil, List.getD_cons_succ, List.getD_cons_zero, List.getElem?_cons_zero, List.getElem?_cons_succ, i2b_b2i, F_bi, bi, List.headD, List.tail, List.map, dc_cd, List.nil_append, List.cons_append, Int.toNat_zero, h3, h4, w0, w1, hs, hr, hrw, hp1, hp2, hf, e1, hd, orF, Nat.zero_add]
        generalize r.getD 0 0 = a
        generalize orF (List.drop (i + 1).toNat (dc c)) = o
        by_cases hz : a = 0
        · subst hz
          by_cases ho : o = 0
          · subst ho; simp [hlt, bt, nb1, i2b1]
          · have e1 : (o == 0) = false := by simpa using ho
            simp [hlt, e1, bf, nb0, i2b0]
        · have e1 : (a == 0) = false := by simpa using hz
          have e2 : (a != 0) = true := by simpa using hz
          simp [hlt, hz, e1, e2, bf, nb0]
      · simp only [es_L43, tt_and, tt_or, tt_not, tt_cmp, tt_lit, tt_ite, tt_var, tt_app, den_cmp, den_not, den_and, den_or, den_ite, den_lit, den_var, den_bin, den_dv, den_sh, den_conv, den_app, norm_i, norm_x, norm_b2i, nb1, nb0, i2b1, i2b0, preC, binI, dvI, shI, cmpB, env, List.map_cons, List.map_nil, List.getD_cons_succ, List.getD_cons_zero, List.getElem?_cons_zero, List.getElem?_cons_succ, i2b_b2i, F_bi, bi, List.headD, List.tail, List.map, dc_cd, List.nil_append, List.cons_append, Int.toNat_zero, h3, h4, w0, w1, hs, hr, hrw, hp1, hp2, hf, e1, hd, orF, Nat.zero_add]
        generalize r.getD 0 0 = a at hrw ⊢
        generalize orF (List.drop (i + 1).toNat (dc c)) = o
        by_cases hz : a = 0
        · subst hz
          by_cases ho : o = 0
          · subst ho; simp [hlt, bt, nb1, i2b1, w0]
          · have e1 : (o == 0) = false := by simpa using ho
            simp [hlt, e1, bf, nb0, i2b0]
        · have e1 : (a == 0) = false := by simpa using hz
          have e2 : (a != 0) = true := by simpa using hz
          simp [hlt, hz, e1, e2, bf, nb0, hrw]
    · have hd : (dc c).drop i.toNat = [] := List.drop_of_length_le (by omega)
      refine ⟨?_, ?_, ?_, trivial⟩
      · simp only [ob_L43, tt_and, tt_or, tt_not, tt_cmp, tt_lit, tt_ite, tt_var, tt_app, den_cmp, den_not, den_and, den_or, den_ite, den_lit, den_var, den_bin, den_dv, den_sh, den_conv, den_app, norm_i, norm_x, norm_b2i, nb1, nb0, i2b1, i2b0, preC, binI, dvI, shI, cmpB, env, List.map_cons, List.map_nil, List.getD_cons_succ, List.getD_cons_zero, List.getElem?_cons_zero, List.getElem?_cons_succ, i2b_b2i, F_bi, bi, List.headD, List.tail, List.map, dc_cd, List.nil_append, List.cons_append, Int.toNat_zero, h3, h4]
        simp [hlt, b2i, nb1]
      · simp only [es_L43, le43, fn43, orF, hd, tt_and, tt_or, tt_not, tt_cmp, tt_lit, tt_ite, tt_var, tt_app, den_cmp, den_not, den_and, den_or, den_ite, den_lit, den_var, den_bin, den_dv, den_sh, den_conv, den_app, norm_i, norm_x, norm_b2i, nb1, nb0, i2b1, i2b0, preC, binI, dvI, shI, cmpB, env, List.map_cons, List.map_nil, List.getD_cons_succ, List.getD_cons_zero, List.getElem?_cons_zero, List.getElem?_cons_succ, i2b_b2i, F_bi, bi, List.headD, List.tail, List.map, dc_cd, List.nil_append, List.cons_append, Int.toNat_zero, h3, h4]
        simp [hlt, b2i, nb1]
      · simp only [es_L43, le43, fn43, orF, hd, tt_and, tt_or, tt_not, tt_cmp, tt_lit, tt_ite, tt_var, tt_app, den_cmp, den_not, den_and, den_or, den_ite, den_lit, den_var, den_bin, den_dv, den_sh, den_conv, den_app, norm_i, norm_x, norm_b2i, nb1, nb0, i2b1, i2b0, preC, binI, dvI, shI, cmpB, env, List.map_cons, List.map_nil, List.getD_cons_succ, List.getD_cons_zero, List.getElem?_cons_zero, List.getElem?_cons_succ, i2b_b2i, F_bi, bi, List.headD, List.tail, List.map, dc_cd, List.nil_append, List.cons_append, Int.toNat_zero, h3, h4]
        simp [hlt, b2i, nb1]

noncomputable def e43 : Ent := ⟨43, 43, [.lst 3 (Row.ofKs [.i .i64]) true], [], [], i64, fun _ xs => orF (dc (env xs 0)), fun xs => (dc (env xs 0)).length ≤ 100 ∧ rowsOK [.i .i64] (dc (env xs 0))⟩
noncomputable def c1 : Ctx := ⟨[e44], [(43, [true,true,false,true,false], le43)]⟩
noncomputable def e42 : Ent := ⟨42, 42, [tm, tm], [], [], i64, fun _ xs => orF [[cmpI (env xs 1) (env xs 3)], [cmpI (env xs 0) (env xs 2)]], fun _ => True⟩
noncomputable def c2 : Ctx := ⟨[e43, e44], [(43, [true,true,false,true,false], le43)]⟩

theorem c1ok : c1.OK Try.prog G0 := (c0ok.addL lo43 rfl).addF ok44 rfl

def ob_43 : E := (.app .b 9043 1000000 [(.lit (.i .i64) 0), (.lit (.i .i64) 0), (.var .x 0), (.app (.i .i64) 0 0 [(.var .x 0)]), (.lit (.i .i64) 0)])
def es_43 : List E := [(.ite (.not (.app .b 9043 0 [(.lit (.i .i64) 0), (.lit (.i .i64) 0), (.var .x 0), (.app (.i .i64) 0 0 [(.var .x 0)]), (.lit (.i .i64) 0)])) (.app (.i .i64) 9043 1 [(.lit (.i .i64) 0), (.lit (.i .i64) 0), (.var .x 0), (.app (.i .i64) 0 0 [(.var .x 0)]), (.lit (.i .i64) 0)]) (.lit (.i .i64) 0))]
theorem ev_43 : evE Try.prog G0 (tabOf c1.fs) (ltOf c1.ls) 40 10 e43 = some (ob_43, es_43) := by kernel_rfl

def ob_42 : E := (.and (.app .b 44 1000000 [(.var (.i .i64) 1), (.var (.i .i64) 3)]) (.and (.app .b 44 1000000 [(.var (.i .i64) 0), (.var (.i .i64) 2)]) (.app .b 43 1000000 [(.app .x 0 3 [(.app .x 0 3 [(.app .x 0 2 []), (.app (.i .i64) 44 0 [(.var (.i .i64) 1), (.var (.i .i64) 3)])]), (.app (.i .i64) 44 0 [(.var (.i .i64) 0), (.var (.i .i64) 2)])])])))
def es_42 : List E := [(.app (.i .i64) 43 0 [(.app .x 0 3 [(.app .x 0 3 [(.app .x 0 2 []), (.app (.i .i64) 44 0 [(.var (.i .i64) 1), (.var (.i .i64) 3)])]), (.app (.i .i64) 44 0 [(.var (.i .i64) 0), (.var (.i .i64) 2)])])])]
theorem ev_42 : evE Try.prog G0 (tabOf c2.fs) (ltOf c2.ls) 40 10 e42 = some (ob_42, es_42) := by kernel_rfl

theorem ok43 : EntryOK Try.prog G0 e43 := c1ok.entryP mixed ev_43 _ rfl _ rfl fun xs hf hp => by
  obtain ⟨l, hl, hF⟩ := ctx_F (l0 := c1.l)
  obtain ⟨S, Sp⟩ := hF le43.ent (by rfl) (by decide)
  rw [hl]
  match xs, hf with
  | [c], hf =>
    obtain ⟨p1, p2⟩ := hp
    simp only [tt_and, tt_or, tt_not, tt_cmp, tt_lit, tt_ite, tt_var, tt_app, den_cmp, den_not, den_and, den_or, den_ite, den_lit, den_var, den_bin, den_dv, den_sh, den_conv, den_app, norm_i, norm_x, norm_b2i, nb1, nb0, i2b1, i2b0, preC, binI, dvI, shI, cmpB, env, List.map_cons, List.map_nil, List.getD_cons_succ, List.getD_cons_zero, List.getElem?_cons_zero, List.getElem?_cons_succ, i2b_b2i, F_bi, bi, List.headD, List.tail, List.map, dc_cd, List.nil_append, List.cons_append, Int.toNat_zero] at p1 p2
    have w0 : IntKind.i64.wrap 0 = 0 := i64w (by decide) (by decide)
    have hw : IntKind.i64.wrap (dc c).length = (dc c).length := i64w (by omega) (by omega)
    have hp : i2b (K.b.norm (l.F 9043 1000000 [0, 0, c, ((dc c).length : Int), 0])) = true := Sp _ ⟨rfl, rfl, rfl, by show (0 : Int) ≤ 0; omega, by show (0 : Int) ≤ ((dc c).length : Int); omega, by show ((dc c).length : Int) ≤ 100; omega, p2⟩
    have f0 : l.F 9043 0 [0, 0, c, ((dc c).length : Int), 0] = b2i (orF (dc c) == 0) := S 0 rfl _
    have f1 : l.F 9043 1 [0, 0, c, ((dc c).length : Int), 0] = orF (dc c) := S 1 rfl _
    refine ⟨?_, ?_, trivial⟩
    · simp only [ob_43, tt_and, tt_or, tt_not, tt_cmp, tt_lit, tt_ite, tt_var, tt_app, den_cmp, den_not, den_and, den_or, den_ite, den_lit, den_var, den_bin, den_dv, den_sh, den_conv, den_app, norm_i, norm_x, norm_b2i, nb1, nb0, i2b1, i2b0, preC, binI, dvI, shI, cmpB, env, List.map_cons, List.map_nil, List.getD_cons_succ, List.getD_cons_zero, List.getElem?_cons_zero, List.getElem?_cons_succ, i2b_b2i, F_bi, bi, List.headD, List.tail, List.map, dc_cd, List.nil_append, List.cons_append, Int.toNat_zero, w0, hw, hp]
    · simp only [es_43, e43, tt_and, tt_or, tt_not, tt_cmp, tt_lit, tt_ite, tt_var, tt_app, den_cmp, den_not, den_and, den_or, den_ite, den_lit, den_var, den_bin, den_dv, den_sh, den_conv, den_app, norm_i, norm_x, norm_b2i, nb1, nb0, i2b1, i2b0, preC, binI, dvI, shI, cmpB, env, List.map_cons, List.map_nil, List.getD_cons_succ, List.getD_cons_zero, List.getElem?_cons_zero, List.getElem?_cons_succ, i2b_b2i, F_bi, bi, List.headD, List.tail, List.map, dc_cd, List.nil_append, List.cons_append, Int.toNat_zero, w0, hw, f0, f1]
      by_cases ho : orF (dc c) = 0
      · simp [ho, w0]
      · have e1 : (orF (dc c) == 0) = false := by simpa using ho
        simp [e1]

theorem ok42 : EntryOK Try.prog G0 e42 := (c1ok.addF ok43 rfl).entryP mixed ev_42 _ rfl _ rfl fun xs hf hp => by
  obtain ⟨l, hl, hF⟩ := ctx_F (l0 := c2.l)
  obtain ⟨S, Sp⟩ := hF e43 (by rfl) (by decide)
  obtain ⟨R, Rp⟩ := hF e44 (by rfl) (by decide)
  show ob_42.tt c2.l.F _ = true ∧ outsP _ _ c2.l.F _ _ _ _
  rw [hl]
  match xs, hf with
  | [a, b, c, d], hf =>
    obtain ⟨h0, h1, h2, h3, _⟩ := hf
    simp only [norm_i] at h0 h1 h2 h3
    refine ⟨?_, ?_, trivial⟩
    · have g1 : ∀ xs, i2b (K.b.norm (l.F 44 1000000 xs)) = true := fun xs => Rp xs trivial
      have w : ∀ x y, IntKind.i64.wrap (cmpI x y) = cmpI x y := fun x y => by
        unfold cmpI; split
        · exact i64w (by decide) (by decide)
        · split <;> exact i64w (by decide) (by decide)
      have g2 : ∀ xs, l.F 44 0 xs = cmpI (env xs 0) (env xs 1) := fun xs => R 0 rfl xs
      have g3 : ∀ x y, i2b (K.b.norm (l.F 43 1000000 [cd [[cmpI a b], [cmpI x y]]])) = true := fun x y => Sp _ ⟨by simp [env], by simp [env, rowsOK, fits, K.norm, w]⟩
      simp only [ob_42, tt_and, tt_or, tt_not, tt_cmp, tt_lit, tt_ite, tt_var, tt_app, den_cmp, den_not, den_and, den_or, den_ite, den_lit, den_var, den_bin, den_dv, den_sh, den_conv, den_app, norm_i, norm_x, norm_b2i, nb1, nb0, i2b1, i2b0, preC, binI, dvI, shI, cmpB, env, List.map_cons, List.map_nil, List.getD_cons_succ, List.getD_cons_zero, List.getElem?_cons_zero, List.getElem?_cons_succ, i2b_b2i, F_bi, bi, List.headD, List.tail, List.map, dc_cd, List.nil_append, List.cons_append, Int.toNat_zero, g1, g2, g3, w, h0, h1, h2, h3, Bool.and_self]
      exact Sp _ ⟨by simp [env], by simp [env, rowsOK, fits, K.norm, w]⟩
    · have w : ∀ x y, IntKind.i64.wrap (cmpI x y) = cmpI x y := fun x y => by
        unfold cmpI; split
        · exact i64w (by decide) (by decide)
        · split <;> exact i64w (by decide) (by decide)
      have g2 : ∀ xs, l.F 44 0 xs = cmpI (env xs 0) (env xs 1) := fun xs => R 0 rfl xs
      have g3 : ∀ xs, l.F 43 0 xs = orF (dc (env xs 0)) := fun xs => S 0 rfl xs
      simp only [es_42, e42, tt_and, tt_or, tt_not, tt_cmp, tt_lit, tt_ite, tt_var, tt_app, den_cmp, den_not, den_and, den_or, den_ite, den_lit, den_var, den_bin, den_dv, den_sh, den_conv, den_app, norm_i, norm_x, norm_b2i, nb1, nb0, i2b1, i2b0, preC, binI, dvI, shI, cmpB, env, List.map_cons, List.map_nil, List.getD_cons_succ, List.getD_cons_zero, List.getElem?_cons_zero, List.getElem?_cons_succ, i2b_b2i, F_bi, bi, List.headD, List.tail, List.map, dc_cd, List.nil_append, List.cons_append, Int.toNat_zero, g2, g3, w, h0, h1, h2, h3]

end Go.Proofs.Ytmolkkphnehgcaa.Ew

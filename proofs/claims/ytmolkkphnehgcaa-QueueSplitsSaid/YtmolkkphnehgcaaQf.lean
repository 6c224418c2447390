/- Layer 17: the search. -/
import Derived.Test.YtmolkkphnehgcaaQe
set_option linter.unusedVariables false
set_option linter.unusedSimpArgs false
namespace Go.Proofs.Ytmolkkphnehgcaa.Ew
open Go Go.RowKit
--P Try.prog G0

noncomputable section
def cmpT (a b : List Int) : Int := orF [[cmpI (a.getD 1 0) (b.getD 1 0)], [cmpI (a.getD 0 0) (b.getD 0 0)]]
def ltT (a b : List Int) : Bool := decide (a.getD 1 0 < b.getD 1 0) || (decide (a.getD 1 0 = b.getD 1 0) && decide (a.getD 0 0 < b.getD 0 0))
def srtT (l : RL) : Prop := l.Pairwise fun a b => ltT a b = true
def cnt (l : RL) (t : List Int) : Nat := (l.filter fun r => ltT r t).length
def tgt (xs : List Int) (i : Nat) : List Int := [env xs i, env xs (i + 1)]
def pre41 (xs : List Int) : Prop := srtT (dc (env xs 0)) ∧ rowsOK tmK (dc (env xs 0)) ∧ ((dc (env xs 0)).length : Int) < cap8
def preL41 (xs : List Int) : Prop := pre41 xs ∧ 0 ≤ env xs 3 ∧ env xs 3 ≤ cnt (dc (env xs 0)) (tgt xs 1) ∧ (cnt (dc (env xs 0)) (tgt xs 1) : Int) ≤ env xs 4 ∧ env xs 4 ≤ ((dc (env xs 0)).length : Int)
noncomputable def fnL41 (_ : Nat) (xs : List Int) : Int := (cnt (dc (env xs 0)) (tgt xs 1) : Int)
noncomputable def le41 : LEnt := ⟨⟨9041, 999999, [.lst 34 tmR false, .fnc 42 [], .obj 34 [i64, i64], i64, i64], [], [0, 1], .tup [i64], fnL41, preL41⟩, [0, 2, 4, 9, 10], [9], [10, 11] ++ (List.range 20).map (· + 15), [.ex 0], 49, [0]⟩
noncomputable def fn41 (j : Nat) (xs : List Int) : Int := let l := dc (env xs 0); let k := cnt l (tgt xs 1); if j = 0 then (k : Int) else b2i (decide (k < l.length) && decide (cmpT (l.getD k []) (tgt xs 1) = 0))
noncomputable def e41 : Ent := ⟨41, 41, [.lst 34 tmR false, tm, .fnc 42 []], [], [0], .tup [i64, .sc .b], fn41, pre41⟩
noncomputable def c3 : Ctx := ⟨[e42], []⟩
noncomputable def c4 : Ctx := ⟨[e42], [(41, [true,true,true,false,false], le41)]⟩
def qo : Sh := .obj 55 [.lt .b 1, i64, .lst 34 tmR true, .mp [.i .i64] [.i .i64] false false]
noncomputable def c5 : Ctx := ⟨[e41], []⟩
noncomputable def e33 : Ent := ⟨33, 33, [qo, tm], [], [0, 1, 2], i64, fun j xs => fn41 0 [env xs 1, env xs 3, env xs 4], fun xs => pre41 [env xs 1, env xs 3, env xs 4]⟩

theorem ltT_trans {a b c : List Int} (h1 : ltT a b = true) (h2 : ltT b c = true) : ltT a c = true := by
  simp only [ltT, Bool.or_eq_true, Bool.and_eq_true, decide_eq_true_eq] at *
  omega
theorem cnt_cons (r : List Int) (l : RL) (t : List Int) : cnt (r :: l) t = (if ltT r t then 1 else 0) + cnt l t := by
  unfold cnt
  rw [List.filter_cons]
  split
  · simp; omega
  · simp
theorem cnt_le (l : RL) (t : List Int) : cnt l t ≤ l.length := List.length_filter_le _ _
theorem cnt_spec {t : List Int} : ∀ {l : RL}, srtT l → ∀ h, h < l.length → (ltT (l.getD h []) t = true ↔ h < cnt l t)
  | [], _, h, hh => by simp at hh
  | r :: l, hs, h, hh => by
    obtain ⟨s1, s2⟩ := List.pairwise_cons.1 hs
    rw [cnt_cons]
    by_cases hr : ltT r t = true
    · cases h with
      | zero => exact ⟨fun _ => by rw [if_pos hr]; omega, fun _ => by simpa using hr⟩
      | succ h =>
        have := cnt_spec (t := t) s2 h (by simpa using hh)
        simp only [List.getD_cons_succ, hr, if_true]
        rw [this]; omega
    · have hz : ∀ x ∈ l, ¬ ltT x t = true := fun x hx h' => hr (ltT_trans (s1 x hx) h')
      have h0 : cnt l t = 0 := by
        unfold cnt
        rw [List.filter_eq_nil_iff.2 hz]; rfl
      rw [h0]
      cases h with
      | zero => simp [hr]
      | succ h =>
        have hl : h < l.length := by simpa using hh
        have := hz (l.getD h []) (by simp [List.getD, hl])
        exact ⟨fun h' => absurd (by simpa using h') this, fun h' => by rw [if_neg hr] at h'; omega⟩
theorem cmpI_neg (a b : Int) : cmpI a b < 0 ↔ a < b := by unfold cmpI; split <;> (try split) <;> omega
theorem cmpI_zero (a b : Int) : cmpI a b = 0 ↔ a = b := by unfold cmpI; split <;> (try split) <;> omega
theorem orF2 (x y : Int) : orF [[x], [y]] = if x ≠ 0 then x else y := by
  simp only [orF, List.getD_cons_zero]
  by_cases h : x = 0
  · by_cases g : y = 0 <;> simp [h, g]
  · simp [h]
theorem cmpT_neg (a b : List Int) : cmpT a b < 0 ↔ ltT a b = true := by
  unfold cmpT ltT
  rw [orF2]
  simp only [Bool.or_eq_true, Bool.and_eq_true, decide_eq_true_eq]
  have h1 := cmpI_zero (a.getD 1 0) (b.getD 1 0)
  have h2 := cmpI_neg (a.getD 1 0) (b.getD 1 0)
  have h3 := cmpI_neg (a.getD 0 0) (b.getD 0 0)
  split
  · rename_i h
    rw [h2]
    have : ¬ (a.getD 1 0 = b.getD 1 0) := fun e => h (h1.2 e)
    omega
  · rename_i h
    have := h1.1 (by simpa using h)
    rw [h3]; omega
theorem cmpT_w (a b : List Int) : IntKind.i64.wrap (cmpT a b) = cmpT a b := by
  have w : ∀ x y, -1 ≤ cmpI x y ∧ cmpI x y ≤ 1 := fun x y => by unfold cmpI; split <;> (try split) <;> omega
  unfold cmpT; rw [orF2]
  have := w (a.getD 1 0) (b.getD 1 0)
  have := w (a.getD 0 0) (b.getD 0 0)
  split <;> exact i64w (by omega) (by omega)
/-- The middle of a search. -/
theorem half_w {i j : Int} (h1 : 0 ≤ i) (h2 : i ≤ j) (h3 : j < 4000000000000000000) : IntKind.i64.wrap (shI .shr .u64 (IntKind.u64.wrap (IntKind.i64.wrap (i + j))) (IntKind.u64.wrap 1)) = (i + j) / 2 := by
  rw [i64w (z := i + j) (by omega) (by omega)]
  have e1 : IntKind.u64.wrap (i + j) = i + j := by
    simp only [IntKind.wrap, IntKind.signed, IntKind.bits]; simp; omega
  have e2 : IntKind.u64.wrap 1 = 1 := by decide
  rw [e1, e2]
  show IntKind.i64.wrap ((i + j).fdiv (2 ^ 1)) = _
  rw [Int.fdiv_eq_ediv_of_nonneg _ (by decide)]
  exact i64w (by simp; omega) (by simp; omega)

def ob_L41 : E := (.and (.or (.not (.cmp .lss (.var (.i .i64) 3) (.var (.i .i64) 4))) (.and (.and (.cmp .geq (.conv .i64 (.sh .shr .u64 (.conv .u64 (.bin .add .i64 (.var (.i .i64) 3) (.var (.i .i64) 4))) (.lit (.i .u64) 1))) (.lit (.i .i64) 0)) (.cmp .lss (.conv .i64 (.sh .shr .u64 (.conv .u64 (.bin .add .i64 (.var (.i .i64) 3) (.var (.i .i64) 4))) (.lit (.i .u64) 1))) (.app (.i .i64) 0 0 [(.var .x 0)]))) (.and (.and (.cmp .geq (.conv .i64 (.sh .shr .u64 (.conv .u64 (.bin .add .i64 (.var (.i .i64) 3) (.var (.i .i64) 4))) (.lit (.i .u64) 1))) (.lit (.i .i64) 0)) (.cmp .lss (.conv .i64 (.sh .shr .u64 (.conv .u64 (.bin .add .i64 (.var (.i .i64) 3) (.var (.i .i64) 4))) (.lit (.i .u64) 1))) (.app (.i .i64) 0 0 [(.var .x 0)]))) (.app .b 42 1000000 [(.app (.i .i64) 0 1 [(.var .x 0), (.conv .i64 (.sh .shr .u64 (.conv .u64 (.bin .add .i64 (.var (.i .i64) 3) (.var (.i .i64) 4))) (.lit (.i .u64) 1))), (.lit .x 0)]), (.app (.i .i64) 0 1 [(.var .x 0), (.conv .i64 (.sh .shr .u64 (.conv .u64 (.bin .add .i64 (.var (.i .i64) 3) (.var (.i .i64) 4))) (.lit (.i .u64) 1))), (.lit .x 1)]), (.var (.i .i64) 1), (.var (.i .i64) 2)])))) (.or (.not (.cmp .lss (.var (.i .i64) 3) (.var (.i .i64) 4))) (.app .b 9041 1000000 [(.var .x 0), (.var (.i .i64) 1), (.var (.i .i64) 2), (.ite (.cmp .lss (.app (.i .i64) 42 0 [(.app (.i .i64) 0 1 [(.var .x 0), (.conv .i64 (.sh .shr .u64 (.conv .u64 (.bin .add .i64 (.var (.i .i64) 3) (.var (.i .i64) 4))) (.lit (.i .u64) 1))), (.lit .x 0)]), (.app (.i .i64) 0 1 [(.var .x 0), (.conv .i64 (.sh .shr .u64 (.conv .u64 (.bin .add .i64 (.var (.i .i64) 3) (.var (.i .i64) 4))) (.lit (.i .u64) 1))), (.lit .x 1)]), (.var (.i .i64) 1), (.var (.i .i64) 2)]) (.lit (.i .i64) 0)) (.bin .add .i64 (.conv .i64 (.sh .shr .u64 (.conv .u64 (.bin .add .i64 (.var (.i .i64) 3) (.var (.i .i64) 4))) (.lit (.i .u64) 1))) (.lit (.i .i64) 1)) (.var (.i .i64) 3)), (.ite (.cmp .lss (.app (.i .i64) 42 0 [(.app (.i .i64) 0 1 [(.var .x 0), (.conv .i64 (.sh .shr .u64 (.conv .u64 (.bin .add .i64 (.var (.i .i64) 3) (.var (.i .i64) 4))) (.lit (.i .u64) 1))), (.lit .x 0)]), (.app (.i .i64) 0 1 [(.var .x 0), (.conv .i64 (.sh .shr .u64 (.conv .u64 (.bin .add .i64 (.var (.i .i64) 3) (.var (.i .i64) 4))) (.lit (.i .u64) 1))), (.lit .x 1)]), (.var (.i .i64) 1), (.var (.i .i64) 2)]) (.lit (.i .i64) 0)) (.var (.i .i64) 4) (.conv .i64 (.sh .shr .u64 (.conv .u64 (.bin .add .i64 (.var (.i .i64) 3) (.var (.i .i64) 4))) (.lit (.i .u64) 1))))])))
def es_L41 : List E := [(.ite (.not (.cmp .lss (.var (.i .i64) 3) (.var (.i .i64) 4))) (.var (.i .i64) 3) (.app (.i .i64) 9041 0 [(.var .x 0), (.var (.i .i64) 1), (.var (.i .i64) 2), (.ite (.cmp .lss (.app (.i .i64) 42 0 [(.app (.i .i64) 0 1 [(.var .x 0), (.conv .i64 (.sh .shr .u64 (.conv .u64 (.bin .add .i64 (.var (.i .i64) 3) (.var (.i .i64) 4))) (.lit (.i .u64) 1))), (.lit .x 0)]), (.app (.i .i64) 0 1 [(.var .x 0), (.conv .i64 (.sh .shr .u64 (.conv .u64 (.bin .add .i64 (.var (.i .i64) 3) (.var (.i .i64) 4))) (.lit (.i .u64) 1))), (.lit .x 1)]), (.var (.i .i64) 1), (.var (.i .i64) 2)]) (.lit (.i .i64) 0)) (.bin .add .i64 (.conv .i64 (.sh .shr .u64 (.conv .u64 (.bin .add .i64 (.var (.i .i64) 3) (.var (.i .i64) 4))) (.lit (.i .u64) 1))) (.lit (.i .i64) 1)) (.var (.i .i64) 3)), (.ite (.cmp .lss (.app (.i .i64) 42 0 [(.app (.i .i64) 0 1 [(.var .x 0), (.conv .i64 (.sh .shr .u64 (.conv .u64 (.bin .add .i64 (.var (.i .i64) 3) (.var (.i .i64) 4))) (.lit (.i .u64) 1))), (.lit .x 0)]), (.app (.i .i64) 0 1 [(.var .x 0), (.conv .i64 (.sh .shr .u64 (.conv .u64 (.bin .add .i64 (.var (.i .i64) 3) (.var (.i .i64) 4))) (.lit (.i .u64) 1))), (.lit .x 1)]), (.var (.i .i64) 1), (.var (.i .i64) 2)]) (.lit (.i .i64) 0)) (.var (.i .i64) 4) (.conv .i64 (.sh .shr .u64 (.conv .u64 (.bin .add .i64 (.var (.i .i64) 3) (.var (.i .i64) 4))) (.lit (.i .u64) 1))))]))]
theorem ev_L41 : evL Try.prog G0 (tabOf c3.fs) (evFn Try.prog G0 (tabOf c3.fs) (ltOf c3.ls) 40 10) 40 (subL c3.ls 41 [true,true,true,false,false]) le41 (bodyAt Try.prog 41 [true,true,true,false,false]) = some (ob_L41, es_L41) := by kernel_rfl

def ob_41 : E := (.and (.app .b 9041 1000000 [(.var .x 0), (.var (.i .i64) 1), (.var (.i .i64) 2), (.lit (.i .i64) 0), (.app (.i .i64) 0 0 [(.var .x 0)])]) (.and (.or (.not (.cmp .lss (.app (.i .i64) 9041 0 [(.var .x 0), (.var (.i .i64) 1), (.var (.i .i64) 2), (.lit (.i .i64) 0), (.app (.i .i64) 0 0 [(.var .x 0)])]) (.app (.i .i64) 0 0 [(.var .x 0)]))) (.and (.cmp .geq (.app (.i .i64) 9041 0 [(.var .x 0), (.var (.i .i64) 1), (.var (.i .i64) 2), (.lit (.i .i64) 0), (.app (.i .i64) 0 0 [(.var .x 0)])]) (.lit (.i .i64) 0)) (.cmp .lss (.app (.i .i64) 9041 0 [(.var .x 0), (.var (.i .i64) 1), (.var (.i .i64) 2), (.lit (.i .i64) 0), (.app (.i .i64) 0 0 [(.var .x 0)])]) (.app (.i .i64) 0 0 [(.var .x 0)])))) (.and (.or (.not (.cmp .lss (.app (.i .i64) 9041 0 [(.var .x 0), (.var (.i .i64) 1), (.var (.i .i64) 2), (.lit (.i .i64) 0), (.app (.i .i64) 0 0 [(.var .x 0)])]) (.app (.i .i64) 0 0 [(.var .x 0)]))) (.and (.cmp .geq (.app (.i .i64) 9041 0 [(.var .x 0), (.var (.i .i64) 1), (.var (.i .i64) 2), (.lit (.i .i64) 0), (.app (.i .i64) 0 0 [(.var .x 0)])]) (.lit (.i .i64) 0)) (.cmp .lss (.app (.i .i64) 9041 0 [(.var .x 0), (.var (.i .i64) 1), (.var (.i .i64) 2), (.lit (.i .i64) 0), (.app (.i .i64) 0 0 [(.var .x 0)])]) (.app (.i .i64) 0 0 [(.var .x 0)])))) (.or (.not (.cmp .lss (.app (.i .i64) 9041 0 [(.var .x 0), (.var (.i .i64) 1), (.var (.i .i64) 2), (.lit (.i .i64) 0), (.app (.i .i64) 0 0 [(.var .x 0)])]) (.app (.i .i64) 0 0 [(.var .x 0)]))) (.app .b 42 1000000 [(.app (.i .i64) 0 1 [(.var .x 0), (.app (.i .i64) 9041 0 [(.var .x 0), (.var (.i .i64) 1), (.var (.i .i64) 2), (.lit (.i .i64) 0), (.app (.i .i64) 0 0 [(.var .x 0)])]), (.lit .x 0)]), (.app (.i .i64) 0 1 [(.var .x 0), (.app (.i .i64) 9041 0 [(.var .x 0), (.var (.i .i64) 1), (.var (.i .i64) 2), (.lit (.i .i64) 0), (.app (.i .i64) 0 0 [(.var .x 0)])]), (.lit .x 1)]), (.var (.i .i64) 1), (.var (.i .i64) 2)])))))
def es_41 : List E := [(.app (.i .i64) 9041 0 [(.var .x 0), (.var (.i .i64) 1), (.var (.i .i64) 2), (.lit (.i .i64) 0), (.app (.i .i64) 0 0 [(.var .x 0)])]), (.and (.cmp .lss (.app (.i .i64) 9041 0 [(.var .x 0), (.var (.i .i64) 1), (.var (.i .i64) 2), (.lit (.i .i64) 0), (.app (.i .i64) 0 0 [(.var .x 0)])]) (.app (.i .i64) 0 0 [(.var .x 0)])) (.cmp .eql (.app (.i .i64) 42 0 [(.app (.i .i64) 0 1 [(.var .x 0), (.app (.i .i64) 9041 0 [(.var .x 0), (.var (.i .i64) 1), (.var (.i .i64) 2), (.lit (.i .i64) 0), (.app (.i .i64) 0 0 [(.var .x 0)])]), (.lit .x 0)]), (.app (.i .i64) 0 1 [(.var .x 0), (.app (.i .i64) 9041 0 [(.var .x 0), (.var (.i .i64) 1), (.var (.i .i64) 2), (.lit (.i .i64) 0), (.app (.i .i64) 0 0 [(.var .x 0)])]), (.lit .x 1)]), (.var (.i .i64) 1), (.var (.i .i64) 2)]) (.lit (.i .i64) 0)))]
theorem ev_41 : evE Try.prog G0 (tabOf c4.fs) (ltOf c4.ls) 40 10 e41 = some (ob_41, es_41) := by kernel_rfl

def ob_33 : E := (.app .b 41 1000000 [(.var .x 1), (.var (.i .i64) 3), (.var (.i .i64) 4)])
def es_33 : List E := [(.app (.i .i64) 41 0 [(.var .x 1), (.var (.i .i64) 3), (.var (.i .i64) 4)])]
theorem ev_33 : evE Try.prog G0 (tabOf c5.fs) (ltOf c5.ls) 40 10 e33 = some (ob_33, es_33) := by kernel_rfl

theorem c2ok : c2.OK Try.prog G0 := c1ok.addF ok43 rfl
theorem c3ok : c3.OK Try.prog G0 := (c2ok.addF ok42 rfl).sub rfl (by simp [c3]) (by simp [c3])

theorem lo41 : ItemOK Try.prog G0 41 [true,true,true,false,false] le41 := by
  refine c3ok.loopP mixed (fun xs => (env xs 4 - env xs 3).toNat) rfl ?_ ev_L41 _ rfl _ rfl ?_
  · exact ⟨_, _, _, Try.func41, rfl, rfl⟩
  intro n xs hf hp hmu
  obtain ⟨l, hl, S, Sp, hF⟩ := self_F le41 (fun xs => (env xs 4 - env xs 3).toNat) n c3.l (by decide)
  obtain ⟨R, Rp⟩ := hF e42 (by rfl) (by decide) (by decide)
  rw [hl]
  match xs, hf with
  | [c, a, b, i, j], hf =>
    obtain ⟨h0, h1, h2, h3, h4, _⟩ := hf
    simp only [norm_i, norm_x] at h0 h1 h2 h3 h4
    obtain ⟨⟨p1, p2, p3⟩, p4, p5, p6, p7⟩ := hp
    simp only [tt_and, tt_or, tt_not, tt_cmp, tt_lit, tt_ite, tt_var, tt_app, den_cmp, den_not, den_and, den_or, den_ite, den_lit, den_var, den_bin, den_dv, den_sh, den_conv, den_app, norm_i, norm_x, norm_b2i, nb1, nb0, i2b1, i2b0, preC, binI, dvI, shI, cmpB, env, List.map_cons, List.map_nil, List.getD_cons_succ, List.getD_cons_zero, List.getElem?_cons_zero, List.getElem?_cons_succ, i2b_b2i, F_bi, bi, List.headD, List.tail, List.map, dc_cd, List.nil_append, List.cons_append, Int.toNat_zero, Int.toNat_one, Int.toNat_natCast, tgt] at p1 p2 p3 p4 p5 p6 p7 hmu
    unfold cap8 at p3
    have w0 : IntKind.i64.wrap 0 = 0 := i64w (by decide) (by decide)
    have w1 : IntKind.i64.wrap 1 = 1 := i64w (by decide) (by decide)
    have hw : IntKind.i64.wrap (dc c).length = (dc c).length := i64w (by omega) (by omega)
    have f9 : ∀ xs, l.F 9041 0 xs = (cnt (dc (env xs 0)) (tgt xs 1) : Int) := fun xs => S 0 rfl xs
    have f42 : ∀ xs, l.F 42 0 xs = orF [[cmpI (env xs 1) (env xs 3)], [cmpI (env xs 0) (env xs 2)]] := fun xs => R 0 rfl xs
    have e1 : le41.ent.fn = fnL41 := rfl
    by_cases hlt : i < j
    · obtain ⟨h, hh⟩ : ∃ h, h = (i + j) / 2 := ⟨_, rfl⟩
      have hm := half_w p4 (by omega : i ≤ j) (by omega)
      have hs : IntKind.i64.wrap (h + 1) = h + 1 := i64w (by omega) (by omega)
      have hsh : IntKind.i64.wrap h = h := i64w (by omega) (by omega)
      obtain ⟨r, hr, hrm⟩ : ∃ r, (dc c).getD h.toNat [] = r ∧ r ∈ dc c := by
        have hl : h.toNat < (dc c).length := by omega
        exact ⟨(dc c)[h.toNat], by simp [List.getD, hl], List.getElem_mem hl⟩
      have hr0 : IntKind.i64.wrap (r.getD 0 0) = r.getD 0 0 := fits_get (p2 r hrm) 0 (.i .i64) rfl
      have hr1 : IntKind.i64.wrap (r.getD 1 0) = r.getD 1 0 := fits_get (p2 r hrm) 1 (.i .i64) rfl
      have hspec := cnt_spec (t := [a, b]) p1 h.toNat (by omega)
      rw [hr, ← cmpT_neg] at hspec
      have hc : orF [[cmpI (r.getD 1 0) b], [cmpI (r.getD 0 0) a]] = cmpT r [a, b] := rfl
      simp only [shI] at hm
      refine ⟨?_, ?_, trivial⟩
      · simp only [ob_L41, tt_and, tt_or, tt_not, tt_cmp, tt_lit, tt_ite, tt_var, tt_app, den_cmp, den_not, den_and, den_or, den_ite, den_lit, den_var, den_bin, den_dv, den_sh, den_conv, den_app, norm_i, norm_x, norm_b2i, nb1, nb0, i2b1, i2b0, preC, binI, dvI, shI, cmpB, env, List.map_cons, List.map_nil, List.getD_cons_succ, List.getD_cons_zero, List.getElem?_cons_zero, List.getElem?_cons_succ, i2b_b2i, F_bi, bi, List.headD, List.tail, List.map, dc_cd, List.nil_append, List.cons_append, Int.toNat_zero, Int.toNat_one, Int.toNat_natCast, h0, h1, h2, h3, h4, w0, w1, hw, hm, ← hh, hs, hr, hr0, hr1, f9, f42, tgt, Int.toNat_natCast, hsh, hc, cmpT_w]
        have h42 : i2b (K.b.norm (l.F 42 1000000 [r.getD 0 0, r.getD 1 0, a, b])) = true := Rp _ trivial
        have hx : ∀ x y, 0 ≤ x → x ≤ (cnt (dc c) [a, b] : Int) → (cnt (dc c) [a, b] : Int) ≤ y → y ≤ ((dc c).length : Int) → (y - x).toNat < n → i2b (K.b.norm (l.F 9041 1000000 [c, a, b, x, y])) = true := fun x y g1 g2 g3 g4 g5 =>
          Sp _ ⟨⟨⟨p1, p2, by show ((dc c).length : Int) < cap8; unfold cap8; omega⟩, g1, g2, g3, g4⟩, g5⟩
        have hb1 : decide (h ≥ 0) = true := by simp; omega
        have hb2 : decide (h < ((dc c).length : Int)) = true := by simp; omega
        simp only [h42, hb1, hb2, Bool.and_self, Bool.or_true, Bool.true_and, Bool.or_eq_true]
        right
        by_cases hq : cmpT r [a, b] < 0
        · have := hspec.1 hq
          simp only [hq, decide_true, cond_true]
          exact hx _ _ (by omega) (by omega) p6 p7 (by omega)
        · have : ¬ h.toNat < cnt (dc c) [a, b] := fun e => hq (hspec.2 e)
          simp only [hq, decide_false, cond_false]
          exact hx _ _ p4 p5 (by omega) (by omega) (by omega)
      · simp only [es_L41, e1, fnL41, tt_and, tt_or, tt_not, tt_cmp, tt_lit, tt_ite, tt_var, tt_app, den_cmp, den_not, den_and, den_or, den_ite, den_lit, den_var, den_bin, den_dv, den_sh, den_conv, den_app, norm_i, norm_x, norm_b2i, nb1, nb0, i2b1, i2b0, preC, binI, dvI, shI, cmpB, env, List.map_cons, List.map_nil, List.getD_cons_succ, List.getD_cons_zero, List.getElem?_cons_zero, List.getElem?_cons_succ, i2b_b2i, F_bi, bi, List.headD, List.tail, List.map, dc_cd, List.nil_append, List.cons_append, Int.toNat_zero, Int.toNat_one, Int.toNat_natCast, h0, h1, h2, h3, h4, w0, w1, hw, hm, ← hh, hs, hr, hr0, hr1, f9, f42, tgt, Int.toNat_natCast, hsh, hc, cmpT_w]
        simp [hlt]
    · refine ⟨?_, ?_, trivial⟩
      · simp only [ob_L41, tt_and, tt_or, tt_not, tt_cmp, tt_lit, tt_ite, tt_var, tt_app, den_cmp, den_not, den_and, den_or, den_ite, den_lit, den_var, den_bin, den_dv, den_sh, den_conv, den_app, norm_i, norm_x, norm_b2i, nb1, nb0, i2b1, i2b0, preC, binI, dvI, shI, cmpB, env, List.map_cons, List.map_nil, List.getD_cons_succ, List.getD_cons_zero, List.getElem?_cons_zero, List.getElem?_cons_succ, i2b_b2i, F_bi, bi, List.headD, List.tail, List.map, dc_cd, List.nil_append, List.cons_append, Int.toNat_zero, Int.toNat_one, Int.toNat_natCast, h3, h4]
        simp [hlt]
      · simp only [es_L41, e1, fnL41, tt_and, tt_or, tt_not, tt_cmp, tt_lit, tt_ite, tt_var, tt_app, den_cmp, den_not, den_and, den_or, den_ite, den_lit, den_var, den_bin, den_dv, den_sh, den_conv, den_app, norm_i, norm_x, norm_b2i, nb1, nb0, i2b1, i2b0, preC, binI, dvI, shI, cmpB, env, List.map_cons, List.map_nil, List.getD_cons_succ, List.getD_cons_zero, List.getElem?_cons_zero, List.getElem?_cons_succ, i2b_b2i, F_bi, bi, List.headD, List.tail, List.map, dc_cd, List.nil_append, List.cons_append, Int.toNat_zero, Int.toNat_one, Int.toNat_natCast, h3, h4, tgt]
        have : (cnt (dc c) [a, b] : Int) = i := by omega
        simp [hlt, this, h3]

theorem ok41 : EntryOK Try.prog G0 e41 := (c3ok.addL lo41 rfl).entryP mixed ev_41 _ rfl _ rfl fun xs hf hp => by
  obtain ⟨l, hl, hF⟩ := ctx_F (l0 := c4.l)
  obtain ⟨S, Sp⟩ := hF le41.ent (by rfl) (by decide)
  obtain ⟨R, Rp⟩ := hF e42 (by rfl) (by decide)
  show ob_41.tt c4.l.F _ = true ∧ outsP _ _ c4.l.F _ _ _ _
  rw [hl]
  match xs, hf with
  | [c, a, b], hf =>
    obtain ⟨h0, h1, h2, _⟩ := hf
    simp only [norm_i] at h0 h1 h2
    obtain ⟨p1, p2, p3⟩ := hp
    simp only [tt_and, tt_or, tt_not, tt_cmp, tt_lit, tt_ite, tt_var, tt_app, den_cmp, den_not, den_and, den_or, den_ite, den_lit, den_var, den_bin, den_dv, den_sh, den_conv, den_app, norm_i, norm_x, norm_b2i, nb1, nb0, i2b1, i2b0, preC, binI, dvI, shI, cmpB, env, List.map_cons, List.map_nil, List.getD_cons_succ, List.getD_cons_zero, List.getElem?_cons_zero, List.getElem?_cons_succ, i2b_b2i, F_bi, bi, List.headD, List.tail, List.map, dc_cd, List.nil_append, List.cons_append, Int.toNat_zero, Int.toNat_one, Int.toNat_natCast] at p1 p2 p3
    unfold cap8 at p3
    have w0 : IntKind.i64.wrap 0 = 0 := i64w (by decide) (by decide)
    have hw : IntKind.i64.wrap (dc c).length = (dc c).length := i64w (by omega) (by omega)
    obtain ⟨k, hkk⟩ : ∃ k, cnt (dc c) [a, b] = k := ⟨_, rfl⟩
    have hkl : k ≤ (dc c).length := hkk ▸ cnt_le _ _
    have hkt : IntKind.i64.wrap (k : Int) = (k : Int) := i64w (by omega) (by omega)
    have f9 : l.F 9041 0 [c, a, b, 0, ((dc c).length : Int)] = (k : Int) := by rw [← hkk]; exact S 0 rfl _
    have hp9 : i2b (K.b.norm (l.F 9041 1000000 [c, a, b, 0, ((dc c).length : Int)])) = true := Sp _ ⟨⟨p1, p2, by show ((dc c).length : Int) < cap8; unfold cap8; omega⟩, by show (0 : Int) ≤ 0; omega, by show (0 : Int) ≤ (cnt (dc c) [a, b] : Int); omega, by show (cnt (dc c) [a, b] : Int) ≤ ((dc c).length : Int); omega, by show ((dc c).length : Int) ≤ ((dc c).length : Int); omega⟩
    have f42 : ∀ xs, l.F 42 0 xs = orF [[cmpI (env xs 1) (env xs 3)], [cmpI (env xs 0) (env xs 2)]] := fun xs => R 0 rfl xs
    have hge : decide ((k : Int) ≥ 0) = true := by simp
    refine ⟨?_, ?_, ?_, trivial⟩
    · simp only [ob_41, tt_and, tt_or, tt_not, tt_cmp, tt_lit, tt_ite, tt_var, tt_app, den_cmp, den_not, den_and, den_or, den_ite, den_lit, den_var, den_bin, den_dv, den_sh, den_conv, den_app, norm_i, norm_x, norm_b2i, nb1, nb0, i2b1, i2b0, preC, binI, dvI, shI, cmpB, env, List.map_cons, List.map_nil, List.getD_cons_succ, List.getD_cons_zero, List.getElem?_cons_zero, List.getElem?_cons_succ, i2b_b2i, F_bi, bi, List.headD, List.tail, List.map, dc_cd, List.nil_append, List.cons_append, Int.toNat_zero, Int.toNat_one, Int.toNat_natCast, h0, h1, h2, w0, hw, f9, hkt, hp9, hge, f42]
      by_cases hlt : (k : Int) < ((dc c).length : Int)
      · have h42 : ∀ xs, i2b (K.b.norm (l.F 42 1000000 xs)) = true := fun xs => Rp xs trivial
        simp [hlt, h42]
      · simp [hlt]
    · simp only [es_41, e41, tt_and, tt_or, tt_not, tt_cmp, tt_lit, tt_ite, tt_var, tt_app, den_cmp, den_not, den_and, den_or, den_ite, den_lit, den_var, den_bin, den_dv, den_sh, den_conv, den_app, norm_i, norm_x, norm_b2i, nb1, nb0, i2b1, i2b0, preC, binI, dvI, shI, cmpB, env, List.map_cons, List.map_nil, List.getD_cons_succ, List.getD_cons_zero, List.getElem?_cons_zero, List.getElem?_cons_succ, i2b_b2i, F_bi, bi, List.headD, List.tail, List.map, dc_cd, List.nil_append, List.cons_append, Int.toNat_zero, Int.toNat_one, Int.toNat_natCast, h0, h1, h2, w0, hw, f9, hkt, fn41, tgt, hkk]
      simp [hkt]
    · simp only [es_41, e41, tt_and, tt_or, tt_not, tt_cmp, tt_lit, tt_ite, tt_var, tt_app, den_cmp, den_not, den_and, den_or, den_ite, den_lit, den_var, den_bin, den_dv, den_sh, den_conv, den_app, norm_i, norm_x, norm_b2i, nb1, nb0, i2b1, i2b0, preC, binI, dvI, shI, cmpB, env, List.map_cons, List.map_nil, List.getD_cons_succ, List.getD_cons_zero, List.getElem?_cons_zero, List.getElem?_cons_succ, i2b_b2i, F_bi, bi, List.headD, List.tail, List.map, dc_cd, List.nil_append, List.cons_append, Int.toNat_zero, Int.toNat_one, Int.toNat_natCast, h0, h1, h2, w0, hw, f9, hkt, fn41, tgt, f42, hkk]
      by_cases hlt : k < (dc c).length
      · obtain ⟨r, hr, hrm⟩ : ∃ r, (dc c).getD k [] = r ∧ r ∈ dc c := ⟨(dc c)[k], by simp [List.getD, hlt], List.getElem_mem hlt⟩
        have hr0 : IntKind.i64.wrap (r.getD 0 0) = r.getD 0 0 := fits_get (p2 r hrm) 0 (.i .i64) rfl
        have hr1 : IntKind.i64.wrap (r.getD 1 0) = r.getD 1 0 := fits_get (p2 r hrm) 1 (.i .i64) rfl
        have hc : orF [[cmpI (r.getD 1 0) b], [cmpI (r.getD 0 0) a]] = cmpT r [a, b] := rfl
        simp only [hr, hr0, hr1, hc, cmpT_w, hkt, Nat.zero_add, if_neg (show ¬ (1 : Nat) = 0 by decide)]
        simp only [norm_b2i, hlt, decide_true, Bool.true_and, Int.ofNat_lt]
        by_cases hz : cmpT r [a, b] = 0
        · simp [hz]
        · have e : (cmpT r [a, b] == 0) = false := by simpa using hz
          simp [hz, e]
      · simp [hlt, bf, nb0]

theorem c5ok : c5.OK Try.prog G0 := (c3ok.addF ok41 rfl).sub rfl (by simp [c5]) (by simp [c5])

theorem ok33 : EntryOK Try.prog G0 e33 := c5ok.entryP mixed ev_33 _ rfl _ rfl fun xs hf hp => by
  obtain ⟨l, hl, hF⟩ := ctx_F (l0 := c5.l)
  obtain ⟨S, Sp⟩ := hF e41 (by rfl) (by decide)
  rw [hl]
  match xs, hf with
  | [now, tc, mc, a, b], hf =>
    obtain ⟨h0, h1, h2, h3, h4, _⟩ := hf
    simp only [norm_i] at h0 h1 h2 h3 h4
    refine ⟨?_, ?_, trivial⟩
    · simp only [ob_33, tt_and, tt_or, tt_not, tt_cmp, tt_lit, tt_ite, tt_var, tt_app, den_cmp, den_not, den_and, den_or, den_ite, den_lit, den_var, den_bin, den_dv, den_sh, den_conv, den_app, norm_i, norm_x, norm_b2i, nb1, nb0, i2b1, i2b0, preC, binI, dvI, shI, cmpB, env, List.map_cons, List.map_nil, List.getD_cons_succ, List.getD_cons_zero, List.getElem?_cons_zero, List.getElem?_cons_succ, i2b_b2i, F_bi, bi, List.headD, List.tail, List.map, dc_cd, List.nil_append, List.cons_append, Int.toNat_zero, Int.toNat_one, Int.toNat_natCast, h3, h4]
      exact Sp _ hp
    · have f0 : ∀ xs, l.F 41 0 xs = fn41 0 xs := fun xs => S 0 rfl xs
      simp only [es_33, e33, tt_and, tt_or, tt_not, tt_cmp, tt_lit, tt_ite, tt_var, tt_app, den_cmp, den_not, den_and, den_or, den_ite, den_lit, den_var, den_bin, den_dv, den_sh, den_conv, den_app, norm_i, norm_x, norm_b2i, nb1, nb0, i2b1, i2b0, preC, binI, dvI, shI, cmpB, env, List.map_cons, List.map_nil, List.getD_cons_succ, List.getD_cons_zero, List.getElem?_cons_zero, List.getElem?_cons_succ, i2b_b2i, F_bi, bi, List.headD, List.tail, List.map, dc_cd, List.nil_append, List.cons_append, Int.toNat_zero, Int.toNat_one, Int.toNat_natCast, h3, h4, f0]

end
end Go.Proofs.Ytmolkkphnehgcaa.Ew

/- Layer 18: lists that are the same. -/
import Derived.Test.YtfhheeoejncfgaaHk
set_option linter.unusedVariables false
set_option linter.unusedSimpArgs false
namespace Go.Proofs.Ytfhheeoejncfgaa.Ew
open Go Go.RowKit
noncomputable section
--P Try.prog G0

def cap8 : Int := 1099511627776
def lsI : Sh := .lst 3 (Row.ofKs intK) false
def fnL19 : Nat → List Int → Int
  | 0, xs => b2i ((dc (env xs 0)).drop (env xs 3).toNat == (dc (env xs 1)).drop (env xs 3).toNat)
  | _, _ => 0
def preL19 (xs : List Int) : Prop := env xs 2 = ((dc (env xs 0)).length : Int) ∧ (dc (env xs 0)).length = (dc (env xs 1)).length ∧ 0 ≤ env xs 3 ∧ env xs 3 ≤ env xs 2 ∧ env xs 2 < cap8 ∧ rowsOK intK (dc (env xs 0)) ∧ rowsOK intK (dc (env xs 1))
def le19 : LEnt := ⟨⟨9019, 999999, [lsI, lsI, .lt .b 0, i64, i64], [], [0, 1], .tup [.sc .b, .sc .b], fnL19, preL19⟩, [0, 1, 4, 12, 13], [4], [5] ++ (List.range 13).map (· + 13), [.ex 0, .ret], 26, [0, 1]⟩
def pre19 (xs : List Int) : Prop := ((dc (env xs 0)).length : Int) < cap8 ∧ ((dc (env xs 1)).length : Int) < cap8 ∧ rowsOK intK (dc (env xs 0)) ∧ rowsOK intK (dc (env xs 1))
def e19 : Ent := ⟨19, 19, [lsI, lsI], [], [0, 1], .sc .b, fun _ xs => b2i (dc (env xs 0) == dc (env xs 1)), pre19⟩
def cL : Ctx := ⟨[], [(19, [true,true,false,true,false], le19)]⟩

def q_L19_0 : E := (.and (.cmp .geq (.var (.i .i64) 3) (.lit (.i .i64) 0)) (.cmp .lss (.var (.i .i64) 3) (.app (.i .i64) 0 0 [(.var .x 0)])))
def q_L19_1 : E := (.cmp .neq (.app (.i .i64) 0 1 [(.var .x 0), (.var (.i .i64) 3), (.lit .x 0)]) (.app (.i .i64) 0 1 [(.var .x 1), (.var (.i .i64) 3), (.lit .x 0)]))
def q_L19_2 : E := (.and (.cmp .lss (.var (.i .i64) 3) (.var (.i .i64) 2)) (.not q_L19_1))
def q_L19_3 : E := (.or (.not (.cmp .lss (.var (.i .i64) 3) (.var (.i .i64) 2))) (.and q_L19_2 (.app .b 9019 0 [(.var .x 0), (.var .x 1), (.var (.i .i64) 2), (.bin .add .i64 (.var (.i .i64) 3) (.lit (.i .i64) 1))])))
def q_L19_4 : E := (.app .b 9019 1 [(.var .x 0), (.var .x 1), (.var (.i .i64) 2), (.bin .add .i64 (.var (.i .i64) 3) (.lit (.i .i64) 1))])
def ob_L19 : E := (.and (.or (.not (.cmp .lss (.var (.i .i64) 3) (.var (.i .i64) 2))) (.and q_L19_0 (.and q_L19_0 (.and (.cmp .geq (.var (.i .i64) 3) (.lit (.i .i64) 0)) (.cmp .lss (.var (.i .i64) 3) (.app (.i .i64) 0 0 [(.var .x 1)])))))) (.or (.not q_L19_2) (.app .b 9019 1000000 [(.var .x 0), (.var .x 1), (.var (.i .i64) 2), (.bin .add .i64 (.var (.i .i64) 3) (.lit (.i .i64) 1))])))
def es_L19 : List E := [(.ite q_L19_3 (.lit .b 1) (.lit .b 0)), (.ite q_L19_3 (.and (.cmp .lss (.var (.i .i64) 3) (.var (.i .i64) 2)) q_L19_4) (.and (.not (.and (.cmp .lss (.var (.i .i64) 3) (.var (.i .i64) 2)) q_L19_1)) q_L19_4))]
theorem ev_L19 : evL Try.prog G0 (tabOf cI.fs) (evFn Try.prog G0 (tabOf cI.fs) (ltOf cI.ls) 40 10) 40 (subL cI.ls 19 [true,true,false,true,false]) le19 (bodyAt Try.prog 19 [true,true,false,true,false]) = some (ob_L19, es_L19) := by kernel_rfl

def q_19_0 : E := (.cmp .neq (.app (.i .i64) 0 0 [(.var .x 0)]) (.app (.i .i64) 0 0 [(.var .x 1)]))
def ob_19 : E := (.or q_19_0 (.app .b 9019 1000000 [(.var .x 0), (.var .x 1), (.app (.i .i64) 0 0 [(.var .x 0)]), (.lit (.i .i64) 0)]))
def es_19 : List E := [(.and (.not q_19_0) (.or (.app .b 9019 0 [(.var .x 0), (.var .x 1), (.app (.i .i64) 0 0 [(.var .x 0)]), (.lit (.i .i64) 0)]) (.app .b 9019 1 [(.var .x 0), (.var .x 1), (.app (.i .i64) 0 0 [(.var .x 0)]), (.lit (.i .i64) 0)])))]
theorem ev_19 : evE Try.prog G0 (tabOf cL.fs) (ltOf cL.ls) 40 10 e19 = some (ob_19, es_19) := by kernel_rfl

theorem row_1 {r : List Int} (h : fits intK r) : ∃ a, r = [a] ∧ IntKind.i64.wrap a = a := by
  have := fits_length h
  match r, this, h with
  | [a], _, h => exact ⟨a, rfl, h.1⟩
theorem lo19 : ItemOK Try.prog G0 19 [true,true,false,true,false] le19 := by
  refine cIok.loopP mixed (fun xs => (env xs 2 - env xs 3).toNat) rfl ?_ ev_L19 _ rfl _ rfl ?_
  · exact ⟨_, _, _, Try.func19, rfl, rfl⟩
  intro n xs hf hp hmu
  obtain ⟨l, hl, S, Sp, -⟩ := self_F le19 (fun xs => (env xs 2 - env xs 3).toNat) n cI.l (by decide)
  rw [hl]
  obtain ⟨c, d, m, i, rfl⟩ : ∃ c d m i, xs = [c, d, m, i] := by
    have := fits_length hf
    match xs, this with
    | [c, d, m, i], _ => exact ⟨_, _, _, _, rfl⟩
  · skip
    obtain ⟨h0, h1, h2, h3, _⟩ := hf
    simp only [norm_i, norm_x] at h2 h3
    obtain ⟨p1, p2, p3, p4, p5, p6, p7⟩ := hp
    simp only [ewA, ewL, preC, binI, dvI, shI, cmpB, env, bi, List.headD, List.tail, List.map, Nat.reduceAdd] at p1 p2 p3 p4 p5 p6 p7 hmu
    unfold cap8 at p5
    have w0 : IntKind.i64.wrap 0 = 0 := i64w (by decide) (by decide)
    have w1 : IntKind.i64.wrap 1 = 1 := i64w (by decide) (by decide)
    have wc : IntKind.i64.wrap ((dc c).length : Int) = ((dc c).length : Int) := i64w (by omega) (by omega)
    have wd : IntKind.i64.wrap ((dc d).length : Int) = ((dc d).length : Int) := i64w (by omega) (by omega)
    have e1 : le19.ent.fn = fnL19 := rfl
    by_cases hlt : i < m
    · have hs : IntKind.i64.wrap (i + 1) = i + 1 := i64w (by omega) (by omega)
      have row : ∀ x, rowsOK intK (dc x) → (dc x).length = (dc c).length → ∃ a, (dc x).getD i.toNat [] = [a] ∧ IntKind.i64.wrap a = a ∧ (dc x).drop i.toNat = [a] :: (dc x).drop (i + 1).toNat := fun x hx hlx => by
        have hl : i.toNat < (dc x).length := by omega
        obtain ⟨a, hab, ha⟩ := row_1 (hx _ (List.getElem_mem hl))
        refine ⟨a, by simp [List.getD, hl, hab], ha, ?_⟩
        rw [List.drop_eq_getElem_cons hl, show (i + 1).toNat = i.toNat + 1 by omega, hab]
      obtain ⟨a, r1, a1, d1⟩ := row c p6 rfl
      obtain ⟨x, r2, x1, d2⟩ := row d p7 p2.symm
      have nS : i2b (K.b.norm (l.F 9019 1000000 [c, d, m, i + 1])) = true :=
        Sp _ ⟨⟨p1, p2, by show 0 ≤ i + 1; omega, by show i + 1 ≤ m; omega, by show m < cap8; unfold cap8; omega, p6, p7⟩, by show (m - (i + 1)).toNat < n; omega⟩
      have f0 : l.F 9019 0 [c, d, m, i + 1] = b2i ((dc c).drop (i + 1).toNat == (dc d).drop (i + 1).toNat) := S 0 rfl _
      have f1 : l.F 9019 1 [c, d, m, i + 1] = 0 := S 1 rfl _
      have b1' : decide (i ≥ 0) = true := by simp; omega
      have b2' : decide (i < ((dc c).length : Int)) = true := by simp; omega
      have b3' : decide (i < ((dc d).length : Int)) = true := by simp; omega
      refine ⟨?_, ?_, ?_, trivial⟩
      · simp only [ob_L19, q_L19_0, q_L19_1, q_L19_2, q_L19_3, q_L19_4, ewA, ewL, preC, binI, dvI, shI, cmpB, env, bi, List.headD, List.tail, List.map, Nat.reduceAdd, h2, h3, w0, w1, wc, wd, hs, r1, r2, a1, x1, nS, b1', b2', b3', hlt, decide_true]
        simp
      · simp only [es_L19, q_L19_0, q_L19_1, q_L19_2, q_L19_3, q_L19_4, ewA, ewL, preC, binI, dvI, shI, cmpB, env, bi, List.headD, List.tail, List.map, Nat.reduceAdd, h2, h3, w0, w1, wc, wd, hs, r1, r2, a1, x1, f0, hlt, decide_true, e1, fnL19, d1, d2]
        have hc : ([a] :: List.drop (i + 1).toNat (dc c) == [x] :: List.drop (i + 1).toNat (dc d)) = ((a == x) && List.drop (i + 1).toNat (dc c) == List.drop (i + 1).toNat (dc d)) := by
          simp [List.cons_beq_cons]
        rw [hc]
        simp only [bne]
        generalize (a == x) = p
        generalize (List.drop (i + 1).toNat (dc c) == List.drop (i + 1).toNat (dc d)) = q
        cases p <;> cases q <;> rfl
      · simp only [es_L19, q_L19_0, q_L19_1, q_L19_2, q_L19_3, q_L19_4, ewA, ewL, preC, binI, dvI, shI, cmpB, env, bi, List.headD, List.tail, List.map, Nat.reduceAdd, h2, h3, w0, w1, wc, wd, hs, r1, r2, a1, x1, f0, f1, hlt, decide_true, e1, fnL19]
        simp only [bne]
        generalize (a == x) = p
        generalize (List.drop (i + 1).toNat (dc c) == List.drop (i + 1).toNat (dc d)) = q
        cases p <;> cases q <;> rfl
    · have hd1 : (dc c).drop i.toNat = [] := List.drop_of_length_le (by omega)
      have hd2 : (dc d).drop i.toNat = [] := List.drop_of_length_le (by omega)
      refine ⟨?_, ?_, ?_, trivial⟩
      · simp only [ob_L19, q_L19_0, q_L19_1, q_L19_2, q_L19_3, q_L19_4, ewA, ewL, preC, binI, dvI, shI, cmpB, env, bi, List.headD, List.tail, List.map, Nat.reduceAdd, h2, h3, hlt, decide_false]; simp
      · simp only [es_L19, q_L19_0, q_L19_1, q_L19_2, q_L19_3, q_L19_4, ewA, ewL, preC, binI, dvI, shI, cmpB, env, bi, List.headD, List.tail, List.map, Nat.reduceAdd, h2, h3, hlt, decide_false, e1, fnL19, hd1, hd2]; rfl
      · simp only [es_L19, q_L19_0, q_L19_1, q_L19_2, q_L19_3, q_L19_4, ewA, ewL, preC, binI, dvI, shI, cmpB, env, bi, List.headD, List.tail, List.map, Nat.reduceAdd, h2, h3, hlt, decide_false, e1, fnL19]; rfl

theorem ok19 : EntryOK Try.prog G0 e19 := (cIok.addL lo19 rfl).entryP mixed ev_19 _ rfl _ rfl fun xs hf hp => by
  obtain ⟨l, hl, hF⟩ := ctx_F (l0 := cL.l)
  obtain ⟨S, Sp⟩ := hF le19.ent (by rfl) (by decide)
  show ob_19.tt cL.l.F _ = true ∧ outsP _ _ cL.l.F _ _ _ _
  rw [hl]
  obtain ⟨c, d, rfl⟩ := two_of (fits_length hf)
  · obtain ⟨p1, p2, p3, p4⟩ := hp
    simp only [ewA, ewL, preC, binI, dvI, shI, cmpB, env, bi, List.headD, List.tail, List.map, Nat.reduceAdd] at p1 p2 p3 p4
    unfold cap8 at p1 p2
    have w0 : IntKind.i64.wrap 0 = 0 := i64w (by decide) (by decide)
    have wc : IntKind.i64.wrap ((dc c).length : Int) = ((dc c).length : Int) := i64w (by omega) (by omega)
    have wd : IntKind.i64.wrap ((dc d).length : Int) = ((dc d).length : Int) := i64w (by omega) (by omega)
    by_cases hl2 : (dc c).length = (dc d).length
    · have nS : i2b (K.b.norm (l.F 9019 1000000 [c, d, ((dc c).length : Int), 0])) = true :=
        Sp _ ⟨rfl, hl2, by show (0 : Int) ≤ 0; omega, by show (0 : Int) ≤ ((dc c).length : Int); omega, by show ((dc c).length : Int) < cap8; unfold cap8; omega, p3, p4⟩
      have f0 : l.F 9019 0 [c, d, ((dc c).length : Int), 0] = b2i (dc c == dc d) := S 0 rfl _
      have f1 : l.F 9019 1 [c, d, ((dc c).length : Int), 0] = 0 := S 1 rfl _
      have hne : (((dc c).length : Int) != ((dc d).length : Int)) = false := by simp [hl2]
      refine ⟨?_, ?_, trivial⟩
      · simp only [ob_19, q_19_0, ewA, ewL, preC, binI, dvI, shI, cmpB, env, bi, List.headD, List.tail, List.map, Nat.reduceAdd, w0, wc, wd, hne, nS]; rfl
      · simp only [es_19, q_19_0, e19, ewA, ewL, preC, binI, dvI, shI, cmpB, env, bi, List.headD, List.tail, List.map, Nat.reduceAdd, w0, wc, wd, hne, f0, f1]
        cases dc c == dc d <;> rfl
    · have hne : (((dc c).length : Int) != ((dc d).length : Int)) = true := by simp; omega
      have hd : (dc c == dc d) = false := by
        rw [beq_eq_false_iff_ne]
        exact fun e => hl2 (by rw [e])
      refine ⟨?_, ?_, trivial⟩
      · simp only [ob_19, q_19_0, ewA, ewL, preC, binI, dvI, shI, cmpB, env, bi, List.headD, List.tail, List.map, Nat.reduceAdd, w0, wc, wd, hne]; rfl
      · simp only [es_19, q_19_0, e19, ewA, ewL, preC, binI, dvI, shI, cmpB, env, bi, List.headD, List.tail, List.map, Nat.reduceAdd, w0, wc, wd, hne, hd]; rfl

end
end Go.Proofs.Ytfhheeoejncfgaa.Ew

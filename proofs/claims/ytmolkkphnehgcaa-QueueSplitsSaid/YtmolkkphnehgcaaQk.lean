/- Layer 17: remainders, lists that are the same. -/
import Derived.Test.YtmolkkphnehgcaaQj
set_option linter.unusedVariables false
set_option linter.unusedSimpArgs false
namespace Go.Proofs.Ytmolkkphnehgcaa.Ew
open Go Go.RowKit
noncomputable section
--P Try.prog G0

def e15 : Ent := ⟨15, 15, [i64, i64], [], [], i64, fun _ xs => env xs 0 % env xs 1, fun xs => 0 < env xs 1 ∧ env xs 1 ≤ 4611686018427387904⟩

def ob_15 : E := (.cmp .neq (.var (.i .i64) 1) (.lit (.i .i64) 0))
def es_15 : List E := [(.app (.i .i64) 0 21 [(.bin .add .i64 (.app (.i .i64) 0 21 [(.var (.i .i64) 0), (.var (.i .i64) 1)]) (.var (.i .i64) 1)), (.var (.i .i64) 1)])]
theorem ev_15 : evE Try.prog G0 (tabOf c0.fs) (ltOf c0.ls) 40 10 e15 = some (ob_15, es_15) := by kernel_rfl

theorem mod_mod {n b : Int} (h : 0 < b) : (n.tmod b + b).tmod b = n % b ∧ -b < n.tmod b ∧ n.tmod b < b := by
  have h1 := Int.tmod_lt_of_pos n h
  have h2 := Int.lt_tmod_of_pos n h
  refine ⟨?_, h2, h1⟩
  rw [Int.tmod_eq_emod_of_nonneg (by omega), Int.add_emod_right]
  rw [Int.tmod_def, Int.sub_eq_add_neg, ← Int.mul_neg, Int.add_mul_emod_self_left]

theorem ok15 : EntryOK Try.prog G0 e15 := c0ok.entryP mixed ev_15 _ rfl _ rfl fun xs hf hp => by
  match xs, hf with
  | [n, b], hf =>
    obtain ⟨h0, h1, _⟩ := hf
    simp only [norm_i] at h0 h1
    obtain ⟨p1, p2⟩ := hp
    simp only [ewA, ewL, preC, binI, dvI, shI, cmpB, env, bi, List.headD, List.tail, List.map, Nat.reduceAdd] at p1 p2
    obtain ⟨m1, m2, m3⟩ := mod_mod (n := n) p1
    have w1 : IntKind.i64.wrap (n.tmod b) = n.tmod b := i64w (by omega) (by omega)
    have w2 : IntKind.i64.wrap (n.tmod b + b) = n.tmod b + b := i64w (by omega) (by omega)
    have hb : (b != 0) = true := by simp; omega
    have w0 : IntKind.i64.wrap 0 = 0 := i64w (by decide) (by decide)
    refine ⟨?_, ?_, trivial⟩
    · simp only [ob_15, ewA, ewL, preC, binI, dvI, shI, cmpB, env, bi, List.headD, List.tail, List.map, Nat.reduceAdd, h0, h1, w0, hb]
    · simp only [es_15, e15, ewA, ewL, preC, binI, dvI, shI, cmpB, env, bi, List.headD, List.tail, List.map, Nat.reduceAdd, h0, h1, w1, w2, m1]

def ls34 : Sh := .lst 34 tmR false
def fnL18 : Nat → List Int → Int
  | 0, xs => b2i ((dc (env xs 0)).drop (env xs 3).toNat == (dc (env xs 1)).drop (env xs 3).toNat)
  | _, _ => 0
def preL18 (xs : List Int) : Prop := env xs 2 = ((dc (env xs 0)).length : Int) ∧ (dc (env xs 0)).length = (dc (env xs 1)).length ∧ 0 ≤ env xs 3 ∧ env xs 3 ≤ env xs 2 ∧ env xs 2 < cap8 ∧ rowsOK tmK (dc (env xs 0)) ∧ rowsOK tmK (dc (env xs 1))
def le18 : LEnt := ⟨⟨9018, 999999, [ls34, ls34, .lt .b 0, i64, i64], [], [0, 1], .tup [.sc .b, .sc .b], fnL18, preL18⟩, [0, 1, 4, 12, 13], [4], [5] ++ (List.range 13).map (· + 13), [.ex 0, .ret], 26, [0, 1]⟩
def pre18 (xs : List Int) : Prop := ((dc (env xs 0)).length : Int) < cap8 ∧ ((dc (env xs 1)).length : Int) < cap8 ∧ rowsOK tmK (dc (env xs 0)) ∧ rowsOK tmK (dc (env xs 1))
def e18 : Ent := ⟨18, 18, [ls34, ls34], [], [0, 1], .sc .b, fun _ xs => b2i (dc (env xs 0) == dc (env xs 1)), pre18⟩
def cB : Ctx := ⟨[], [(18, [true,true,false,true,false], le18)]⟩

def ob_L18 : E := (.and (.or (.not (.cmp .lss (.var (.i .i64) 3) (.var (.i .i64) 2))) (.and (.and (.cmp .geq (.var (.i .i64) 3) (.lit (.i .i64) 0)) (.cmp .lss (.var (.i .i64) 3) (.app (.i .i64) 0 0 [(.var .x 0)]))) (.and (.and (.cmp .geq (.var (.i .i64) 3) (.lit (.i .i64) 0)) (.cmp .lss (.var (.i .i64) 3) (.app (.i .i64) 0 0 [(.var .x 0)]))) (.and (.cmp .geq (.var (.i .i64) 3) (.lit (.i .i64) 0)) (.cmp .lss (.var (.i .i64) 3) (.app (.i .i64) 0 0 [(.var .x 1)])))))) (.or (.not (.and (.cmp .lss (.var (.i .i64) 3) (.var (.i .i64) 2)) (.and (.cmp .eql (.app (.i .i64) 0 1 [(.var .x 0), (.var (.i .i64) 3), (.lit .x 0)]) (.app (.i .i64) 0 1 [(.var .x 1), (.var (.i .i64) 3), (.lit .x 0)])) (.cmp .eql (.app (.i .i64) 0 1 [(.var .x 0), (.var (.i .i64) 3), (.lit .x 1)]) (.app (.i .i64) 0 1 [(.var .x 1), (.var (.i .i64) 3), (.lit .x 1)]))))) (.app .b 9018 1000000 [(.var .x 0), (.var .x 1), (.var (.i .i64) 2), (.bin .add .i64 (.var (.i .i64) 3) (.lit (.i .i64) 1))])))
def es_L18 : List E := [(.ite (.or (.not (.cmp .lss (.var (.i .i64) 3) (.var (.i .i64) 2))) (.and (.and (.cmp .lss (.var (.i .i64) 3) (.var (.i .i64) 2)) (.and (.cmp .eql (.app (.i .i64) 0 1 [(.var .x 0), (.var (.i .i64) 3), (.lit .x 0)]) (.app (.i .i64) 0 1 [(.var .x 1), (.var (.i .i64) 3), (.lit .x 0)])) (.cmp .eql (.app (.i .i64) 0 1 [(.var .x 0), (.var (.i .i64) 3), (.lit .x 1)]) (.app (.i .i64) 0 1 [(.var .x 1), (.var (.i .i64) 3), (.lit .x 1)])))) (.app .b 9018 0 [(.var .x 0), (.var .x 1), (.var (.i .i64) 2), (.bin .add .i64 (.var (.i .i64) 3) (.lit (.i .i64) 1))]))) (.lit .b 1) (.lit .b 0)), (.ite (.or (.not (.cmp .lss (.var (.i .i64) 3) (.var (.i .i64) 2))) (.and (.and (.cmp .lss (.var (.i .i64) 3) (.var (.i .i64) 2)) (.and (.cmp .eql (.app (.i .i64) 0 1 [(.var .x 0), (.var (.i .i64) 3), (.lit .x 0)]) (.app (.i .i64) 0 1 [(.var .x 1), (.var (.i .i64) 3), (.lit .x 0)])) (.cmp .eql (.app (.i .i64) 0 1 [(.var .x 0), (.var (.i .i64) 3), (.lit .x 1)]) (.app (.i .i64) 0 1 [(.var .x 1), (.var (.i .i64) 3), (.lit .x 1)])))) (.app .b 9018 0 [(.var .x 0), (.var .x 1), (.var (.i .i64) 2), (.bin .add .i64 (.var (.i .i64) 3) (.lit (.i .i64) 1))]))) (.and (.cmp .lss (.var (.i .i64) 3) (.var (.i .i64) 2)) (.app .b 9018 1 [(.var .x 0), (.var .x 1), (.var (.i .i64) 2), (.bin .add .i64 (.var (.i .i64) 3) (.lit (.i .i64) 1))])) (.and (.not (.and (.cmp .lss (.var (.i .i64) 3) (.var (.i .i64) 2)) (.not (.and (.cmp .eql (.app (.i .i64) 0 1 [(.var .x 0), (.var (.i .i64) 3), (.lit .x 0)]) (.app (.i .i64) 0 1 [(.var .x 1), (.var (.i .i64) 3), (.lit .x 0)])) (.cmp .eql (.app (.i .i64) 0 1 [(.var .x 0), (.var (.i .i64) 3), (.lit .x 1)]) (.app (.i .i64) 0 1 [(.var .x 1), (.var (.i .i64) 3), (.lit .x 1)])))))) (.app .b 9018 1 [(.var .x 0), (.var .x 1), (.var (.i .i64) 2), (.bin .add .i64 (.var (.i .i64) 3) (.lit (.i .i64) 1))])))]
theorem ev_L18 : evL Try.prog G0 (tabOf c0.fs) (evFn Try.prog G0 (tabOf c0.fs) (ltOf c0.ls) 40 10) 40 (subL c0.ls 18 [true,true,false,true,false]) le18 (bodyAt Try.prog 18 [true,true,false,true,false]) = some (ob_L18, es_L18) := by kernel_rfl

def ob_18 : E := (.or (.cmp .neq (.app (.i .i64) 0 0 [(.var .x 0)]) (.app (.i .i64) 0 0 [(.var .x 1)])) (.app .b 9018 1000000 [(.var .x 0), (.var .x 1), (.app (.i .i64) 0 0 [(.var .x 0)]), (.lit (.i .i64) 0)]))
def es_18 : List E := [(.and (.not (.cmp .neq (.app (.i .i64) 0 0 [(.var .x 0)]) (.app (.i .i64) 0 0 [(.var .x 1)]))) (.or (.app .b 9018 0 [(.var .x 0), (.var .x 1), (.app (.i .i64) 0 0 [(.var .x 0)]), (.lit (.i .i64) 0)]) (.app .b 9018 1 [(.var .x 0), (.var .x 1), (.app (.i .i64) 0 0 [(.var .x 0)]), (.lit (.i .i64) 0)])))]
theorem ev_18 : evE Try.prog G0 (tabOf cB.fs) (ltOf cB.ls) 40 10 e18 = some (ob_18, es_18) := by kernel_rfl

theorem lo18 : ItemOK Try.prog G0 18 [true,true,false,true,false] le18 := by
  refine c0ok.loopP mixed (fun xs => (env xs 2 - env xs 3).toNat) rfl ?_ ev_L18 _ rfl _ rfl ?_
  · exact ⟨_, _, _, Try.func18, rfl, rfl⟩
  intro n xs hf hp hmu
  obtain ⟨l, hl, S, Sp, -⟩ := self_F le18 (fun xs => (env xs 2 - env xs 3).toNat) n c0.l (by decide)
  rw [hl]
  match xs, hf with
  | [c, d, m, i], hf =>
    obtain ⟨h0, h1, h2, h3, _⟩ := hf
    simp only [norm_i, norm_x] at h2 h3
    obtain ⟨p1, p2, p3, p4, p5, p6, p7⟩ := hp
    simp only [ewA, ewL, preC, binI, dvI, shI, cmpB, env, bi, List.headD, List.tail, List.map, Nat.reduceAdd] at p1 p2 p3 p4 p5 p6 p7 hmu
    unfold cap8 at p5
    have w0 : IntKind.i64.wrap 0 = 0 := i64w (by decide) (by decide)
    have w1 : IntKind.i64.wrap 1 = 1 := i64w (by decide) (by decide)
    have wc : IntKind.i64.wrap ((dc c).length : Int) = ((dc c).length : Int) := i64w (by omega) (by omega)
    have wd : IntKind.i64.wrap ((dc d).length : Int) = ((dc d).length : Int) := i64w (by omega) (by omega)
    have e1 : le18.ent.fn = fnL18 := rfl
    by_cases hlt : i < m
    · have hs : IntKind.i64.wrap (i + 1) = i + 1 := i64w (by omega) (by omega)
      have row : ∀ x, rowsOK tmK (dc x) → (dc x).length = (dc c).length → ∃ a b, (dc x).getD i.toNat [] = [a, b] ∧ IntKind.i64.wrap a = a ∧ IntKind.i64.wrap b = b ∧ (dc x).drop i.toNat = [a, b] :: (dc x).drop (i + 1).toNat := fun x hx hlx => by
        have hl : i.toNat < (dc x).length := by omega
        obtain ⟨a, b, hab, ha, hb⟩ := row_eq (hx _ (List.getElem_mem hl))
        refine ⟨a, b, by simp [List.getD, hl, hab], ha, hb, ?_⟩
        rw [List.drop_eq_getElem_cons hl, show (i + 1).toNat = i.toNat + 1 by omega, hab]
      obtain ⟨a, b, r1, a1, b1, d1⟩ := row c p6 rfl
      obtain ⟨x, y, r2, x1, y1, d2⟩ := row d p7 p2.symm
      have nS : i2b (K.b.norm (l.F 9018 1000000 [c, d, m, i + 1])) = true :=
        Sp _ ⟨⟨p1, p2, by show 0 ≤ i + 1; omega, by show i + 1 ≤ m; omega, by show m < cap8; unfold cap8; omega, p6, p7⟩, by show (m - (i + 1)).toNat < n; omega⟩
      have f0 : l.F 9018 0 [c, d, m, i + 1] = b2i ((dc c).drop (i + 1).toNat == (dc d).drop (i + 1).toNat) := S 0 rfl _
      have f1 : l.F 9018 1 [c, d, m, i + 1] = 0 := S 1 rfl _
      have b1' : decide (i ≥ 0) = true := by simp; omega
      have b2' : decide (i < ((dc c).length : Int)) = true := by simp; omega
      have b3' : decide (i < ((dc d).length : Int)) = true := by simp; omega
      refine ⟨?_, ?_, ?_, trivial⟩
      · simp only [ob_L18, ewA, ewL, preC, binI, dvI, shI, cmpB, env, bi, List.headD, List.tail, List.map, Nat.reduceAdd, h2, h3, w0, w1, wc, wd, hs, r1, r2, a1, b1, x1, y1, nS, b1', b2', b3', hlt, decide_true]
        simp
      · simp only [es_L18, ewA, ewL, preC, binI, dvI, shI, cmpB, env, bi, List.headD, List.tail, List.map, Nat.reduceAdd, h2, h3, w0, w1, wc, wd, hs, r1, r2, a1, b1, x1, y1, f0, hlt, decide_true, e1, fnL18, d1, d2]
        have hc : ([a, b] :: List.drop (i + 1).toNat (dc c) == [x, y] :: List.drop (i + 1).toNat (dc d)) = ((a == x && b == y) && List.drop (i + 1).toNat (dc c) == List.drop (i + 1).toNat (dc d)) := by
          simp [List.cons_beq_cons]
        rw [hc]
        generalize (a == x && b == y) = p
        generalize (List.drop (i + 1).toNat (dc c) == List.drop (i + 1).toNat (dc d)) = q
        cases p <;> cases q <;> rfl
      · simp only [es_L18, ewA, ewL, preC, binI, dvI, shI, cmpB, env, bi, List.headD, List.tail, List.map, Nat.reduceAdd, h2, h3, w0, w1, wc, wd, hs, r1, r2, a1, b1, x1, y1, f0, f1, hlt, decide_true, e1, fnL18]
        generalize (a == x && b == y) = p
        generalize (List.drop (i + 1).toNat (dc c) == List.drop (i + 1).toNat (dc d)) = q
        cases p <;> cases q <;> rfl
    · have hd1 : (dc c).drop i.toNat = [] := List.drop_of_length_le (by omega)
      have hd2 : (dc d).drop i.toNat = [] := List.drop_of_length_le (by omega)
      refine ⟨?_, ?_, ?_, trivial⟩
      · simp only [ob_L18, ewA, ewL, preC, binI, dvI, shI, cmpB, env, bi, List.headD, List.tail, List.map, Nat.reduceAdd, h2, h3, hlt, decide_false]; simp
      · simp only [es_L18, ewA, ewL, preC, binI, dvI, shI, cmpB, env, bi, List.headD, List.tail, List.map, Nat.reduceAdd, h2, h3, hlt, decide_false, e1, fnL18, hd1, hd2]; rfl
      · simp only [es_L18, ewA, ewL, preC, binI, dvI, shI, cmpB, env, bi, List.headD, List.tail, List.map, Nat.reduceAdd, h2, h3, hlt, decide_false, e1, fnL18]; rfl

theorem two_of {xs : List Int} (h : xs.length = 2) : ∃ a b, xs = [a, b] := by
  match xs, h with
  | [a, b], _ => exact ⟨a, b, rfl⟩

theorem ok18 : EntryOK Try.prog G0 e18 := (c0ok.addL lo18 rfl).entryP mixed ev_18 _ rfl _ rfl fun xs hf hp => by
  obtain ⟨l, hl, hF⟩ := ctx_F (l0 := cB.l)
  obtain ⟨S, Sp⟩ := hF le18.ent (by rfl) (by decide)
  show ob_18.tt cB.l.F _ = true ∧ outsP _ _ cB.l.F _ _ _ _
  rw [hl]
  obtain ⟨c, d, rfl⟩ := two_of (fits_length hf)
  · obtain ⟨p1, p2, p3, p4⟩ := hp
    simp only [ewA, ewL, preC, binI, dvI, shI, cmpB, env, bi, List.headD, List.tail, List.map, Nat.reduceAdd] at p1 p2 p3 p4
    unfold cap8 at p1 p2
    have w0 : IntKind.i64.wrap 0 = 0 := i64w (by decide) (by decide)
    have wc : IntKind.i64.wrap ((dc c).length : Int) = ((dc c).length : Int) := i64w (by omega) (by omega)
    have wd : IntKind.i64.wrap ((dc d).length : Int) = ((dc d).length : Int) := i64w (by omega) (by omega)
    by_cases hl2 : (dc c).length = (dc d).length
    · have nS : i2b (K.b.norm (l.F 9018 1000000 [c, d, ((dc c).length : Int), 0])) = true :=
        Sp _ ⟨rfl, hl2, by show (0 : Int) ≤ 0; omega, by show (0 : Int) ≤ ((dc c).length : Int); omega, by show ((dc c).length : Int) < cap8; unfold cap8; omega, p3, p4⟩
      have f0 : l.F 9018 0 [c, d, ((dc c).length : Int), 0] = b2i (dc c == dc d) := S 0 rfl _
      have f1 : l.F 9018 1 [c, d, ((dc c).length : Int), 0] = 0 := S 1 rfl _
      have hne : (((dc c).length : Int) != ((dc d).length : Int)) = false := by simp [hl2]
      refine ⟨?_, ?_, trivial⟩
      · simp only [ob_18, ewA, ewL, preC, binI, dvI, shI, cmpB, env, bi, List.headD, List.tail, List.map, Nat.reduceAdd, w0, wc, wd, hne, nS]; rfl
      · simp only [es_18, e18, ewA, ewL, preC, binI, dvI, shI, cmpB, env, bi, List.headD, List.tail, List.map, Nat.reduceAdd, w0, wc, wd, hne, f0, f1]
        cases dc c == dc d <;> rfl
    · have hne : (((dc c).length : Int) != ((dc d).length : Int)) = true := by simp; omega
      have hd : (dc c == dc d) = false := by
        rw [beq_eq_false_iff_ne]
        exact fun e => hl2 (by rw [e])
      refine ⟨?_, ?_, trivial⟩
      · simp only [ob_18, ewA, ewL, preC, binI, dvI, shI, cmpB, env, bi, List.headD, List.tail, List.map, Nat.reduceAdd, w0, wc, wd, hne]; rfl
      · simp only [es_18, e18, ewA, ewL, preC, binI, dvI, shI, cmpB, env, bi, List.headD, List.tail, List.map, Nat.reduceAdd, w0, wc, wd, hne, hd]; rfl

end
end Go.Proofs.Ytmolkkphnehgcaa.Ew

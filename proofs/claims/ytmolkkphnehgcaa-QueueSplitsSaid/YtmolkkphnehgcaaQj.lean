/- Layer 17: To, Tick. -/
import Derived.Test.YtmolkkphnehgcaaQi
set_option linter.unusedVariables false
set_option linter.unusedSimpArgs false
namespace Go.Proofs.Ytmolkkphnehgcaa.Ew
open Go Go.RowKit
noncomputable section
--P Try.prog G0

def delC (l : RL) (c : Int) : Int := l.foldl (fun m r => cd (delR [idR r] (dc m))) c
def fnTo : Nat → List Int → Int
  | 0, xs => env xs 0
  | 1, xs => env xs 1
  | _, xs => delC ((dc (env xs 3)).drop (env xs 5).toNat) (env xs 2)
def preTo (xs : List Int) : Prop := env xs 4 = ((dc (env xs 3)).length : Int) ∧ 0 ≤ env xs 5 ∧ env xs 5 ≤ env xs 4 ∧ rowsOK tmK (dc (env xs 3)) ∧ env xs 4 < cap8
def leTo : LEnt := ⟨⟨9024, 999999, [qo, ltm, i64, i64], [qob], [3], .tup [], fnTo, preTo⟩, [0, 40, 41, 42], [], [9] ++ (List.range 11).map (· + 42), [.ex 1], 63, []⟩
def toB (now t : Int) : Bool := !decide (t < now) && !decide (t > 1099511627776)
def fn24 : Nat → List Int → Int
  | 0, xs => bif toB (env xs 0) (env xs 3) then env xs 3 else env xs 0
  | 1, xs => bif toB (env xs 0) (env xs 3) then cd (leftT (env xs 3) (dc (env xs 1))) else env xs 1
  | 2, xs => bif toB (env xs 0) (env xs 3) then delC (dueT (env xs 3) (dc (env xs 1))) (env xs 2) else env xs 2
  | 3, xs => bif toB (env xs 0) (env xs 3) then cd (dueT (env xs 3) (dc (env xs 1))) else cd []
  | _, xs => bif toB (env xs 0) (env xs 3) then 0 else 2
def e24 : Ent := ⟨24, 24, [qo, i64], [qob], [], .tup [ltm, i64], fn24, QIx⟩
def tickT (now : Int) : Int := if now + 1 < 1099511627776 then now + 1 else 1099511627776
def fn16 (j : Nat) (xs : List Int) : Int := fn24 j [env xs 0, env xs 1, env xs 2, tickT (env xs 0)]
def e16 : Ent := ⟨16, 16, [qo], [qob], [], .tup [ltm, i64], fn16, QIx⟩
def c9 : Ctx := ⟨c7.fs, [(24, [true,true,true,true,true,false,true,false], leTo)]⟩
def cA : Ctx := ⟨[e24, e28], []⟩

def ob_L24 : E := (.and (.and (.or (.not (.cmp .lss (.var (.i .i64) 5) (.var (.i .i64) 4))) (.and (.cmp .geq (.var (.i .i64) 5) (.lit (.i .i64) 0)) (.cmp .lss (.var (.i .i64) 5) (.app (.i .i64) 0 0 [(.var .x 3)])))) (.or (.not (.cmp .lss (.var (.i .i64) 5) (.var (.i .i64) 4))) (.app .b 9024 1000000 [(.var (.i .i64) 0), (.var .x 1), (.app .x 0 11 [(.var .x 2), (.app (.i .i64) 0 1 [(.var .x 3), (.var (.i .i64) 5), (.lit .x 0)])]), (.var .x 3), (.var (.i .i64) 4), (.bin .add .i64 (.var (.i .i64) 5) (.lit (.i .i64) 1))]))) (.or (.not (.or (.not (.cmp .lss (.var (.i .i64) 5) (.var (.i .i64) 4))) (.cmp .lss (.var (.i .i64) 5) (.var (.i .i64) 4)))) (.ite (.not (.cmp .lss (.var (.i .i64) 5) (.var (.i .i64) 4))) (.not (.cmp .lss (.var (.i .i64) 5) (.var (.i .i64) 4))) (.cmp .lss (.var (.i .i64) 5) (.var (.i .i64) 4)))))
def es_L24 : List E := [(.ite (.not (.cmp .lss (.var (.i .i64) 5) (.var (.i .i64) 4))) (.var (.i .i64) 0) (.app (.i .i64) 9024 0 [(.var (.i .i64) 0), (.var .x 1), (.app .x 0 11 [(.var .x 2), (.app (.i .i64) 0 1 [(.var .x 3), (.var (.i .i64) 5), (.lit .x 0)])]), (.var .x 3), (.var (.i .i64) 4), (.bin .add .i64 (.var (.i .i64) 5) (.lit (.i .i64) 1))])), (.ite (.not (.cmp .lss (.var (.i .i64) 5) (.var (.i .i64) 4))) (.var .x 1) (.app .x 9024 1 [(.var (.i .i64) 0), (.var .x 1), (.app .x 0 11 [(.var .x 2), (.app (.i .i64) 0 1 [(.var .x 3), (.var (.i .i64) 5), (.lit .x 0)])]), (.var .x 3), (.var (.i .i64) 4), (.bin .add .i64 (.var (.i .i64) 5) (.lit (.i .i64) 1))])), (.ite (.not (.cmp .lss (.var (.i .i64) 5) (.var (.i .i64) 4))) (.var .x 2) (.app .x 9024 2 [(.var (.i .i64) 0), (.var .x 1), (.app .x 0 11 [(.var .x 2), (.app (.i .i64) 0 1 [(.var .x 3), (.var (.i .i64) 5), (.lit .x 0)])]), (.var .x 3), (.var (.i .i64) 4), (.bin .add .i64 (.var (.i .i64) 5) (.lit (.i .i64) 1))]))]
theorem ev_L24 : evL Try.prog G0 (tabOf c7.fs) (evFn Try.prog G0 (tabOf c7.fs) (ltOf c7.ls) 40 10) 40 (subL c7.ls 24 [true,true,true,true,true,false,true,false]) leTo (bodyAt Try.prog 24 [true,true,true,true,true,false,true,false]) = some (ob_L24, es_L24) := by kernel_rfl

def ob_24 : E := (.and (.and (.app .b 28 1000000 [(.var (.i .i64) 0), (.var .x 1), (.var .x 2)]) (.or (.or (.cmp .lss (.var (.i .i64) 3) (.var (.i .i64) 0)) (.cmp .gtr (.var (.i .i64) 3) (.lit (.i .i64) 1099511627776))) (.and (.app .b 33 1000000 [(.var (.i .i64) 3), (.var .x 1), (.var .x 2), (.lit (.i .i64) 0), (.bin .add .i64 (.var (.i .i64) 3) (.lit (.i .i64) 1))]) (.and (.and (.and (.cmp .leq (.lit (.i .i64) 0) (.app (.i .i64) 33 0 [(.var (.i .i64) 3), (.var .x 1), (.var .x 2), (.lit (.i .i64) 0), (.bin .add .i64 (.var (.i .i64) 3) (.lit (.i .i64) 1))])) (.cmp .leq (.app (.i .i64) 33 0 [(.var (.i .i64) 3), (.var .x 1), (.var .x 2), (.lit (.i .i64) 0), (.bin .add .i64 (.var (.i .i64) 3) (.lit (.i .i64) 1))]) (.app (.i .i64) 0 0 [(.var .x 1)]))) (.and (.and (.cmp .leq (.lit (.i .i64) 0) (.app (.i .i64) 33 0 [(.var (.i .i64) 3), (.var .x 1), (.var .x 2), (.lit (.i .i64) 0), (.bin .add .i64 (.var (.i .i64) 3) (.lit (.i .i64) 1))])) (.cmp .leq (.app (.i .i64) 33 0 [(.var (.i .i64) 3), (.var .x 1), (.var .x 2), (.lit (.i .i64) 0), (.bin .add .i64 (.var (.i .i64) 3) (.lit (.i .i64) 1))]) (.app (.i .i64) 0 0 [(.var .x 1)]))) (.app .b 29 1000000 [(.app .x 0 5 [(.var .x 1), (.lit (.i .i64) 0), (.app (.i .i64) 33 0 [(.var (.i .i64) 3), (.var .x 1), (.var .x 2), (.lit (.i .i64) 0), (.bin .add .i64 (.var (.i .i64) 3) (.lit (.i .i64) 1))])])]))) (.and (.app .b 9024 1000000 [(.var (.i .i64) 3), (.var .x 1), (.var .x 2), (.app .x 29 0 [(.app .x 0 5 [(.var .x 1), (.lit (.i .i64) 0), (.app (.i .i64) 33 0 [(.var (.i .i64) 3), (.var .x 1), (.var .x 2), (.lit (.i .i64) 0), (.bin .add .i64 (.var (.i .i64) 3) (.lit (.i .i64) 1))])])]), (.app (.i .i64) 0 0 [(.app .x 29 0 [(.app .x 0 5 [(.var .x 1), (.lit (.i .i64) 0), (.app (.i .i64) 33 0 [(.var (.i .i64) 3), (.var .x 1), (.var .x 2), (.lit (.i .i64) 0), (.bin .add .i64 (.var (.i .i64) 3) (.lit (.i .i64) 1))])])])]), (.lit (.i .i64) 0)]) (.app .b 34 1000000 [(.app .x 9024 1 [(.var (.i .i64) 3), (.var .x 1), (.var .x 2), (.app .x 29 0 [(.app .x 0 5 [(.var .x 1), (.lit (.i .i64) 0), (.app (.i .i64) 33 0 [(.var (.i .i64) 3), (.var .x 1), (.var .x 2), (.lit (.i .i64) 0), (.bin .add .i64 (.var (.i .i64) 3) (.lit (.i .i64) 1))])])]), (.app (.i .i64) 0 0 [(.app .x 29 0 [(.app .x 0 5 [(.var .x 1), (.lit (.i .i64) 0), (.app (.i .i64) 33 0 [(.var (.i .i64) 3), (.var .x 1), (.var .x 2), (.lit (.i .i64) 0), (.bin .add .i64 (.var (.i .i64) 3) (.lit (.i .i64) 1))])])])]), (.lit (.i .i64) 0)]), (.lit (.i .i64) 0), (.app (.i .i64) 33 0 [(.var (.i .i64) 3), (.var .x 1), (.var .x 2), (.lit (.i .i64) 0), (.bin .add .i64 (.var (.i .i64) 3) (.lit (.i .i64) 1))])])))))) (.and (.ite (.or (.cmp .lss (.var (.i .i64) 3) (.var (.i .i64) 0)) (.cmp .gtr (.var (.i .i64) 3) (.lit (.i .i64) 1099511627776))) (.or (.cmp .lss (.var (.i .i64) 3) (.var (.i .i64) 0)) (.cmp .gtr (.var (.i .i64) 3) (.lit (.i .i64) 1099511627776))) (.not (.or (.cmp .lss (.var (.i .i64) 3) (.var (.i .i64) 0)) (.cmp .gtr (.var (.i .i64) 3) (.lit (.i .i64) 1099511627776))))) (.and (.ite (.or (.cmp .lss (.var (.i .i64) 3) (.var (.i .i64) 0)) (.cmp .gtr (.var (.i .i64) 3) (.lit (.i .i64) 1099511627776))) (.or (.cmp .lss (.var (.i .i64) 3) (.var (.i .i64) 0)) (.cmp .gtr (.var (.i .i64) 3) (.lit (.i .i64) 1099511627776))) (.not (.or (.cmp .lss (.var (.i .i64) 3) (.var (.i .i64) 0)) (.cmp .gtr (.var (.i .i64) 3) (.lit (.i .i64) 1099511627776))))) (.or (.or (.cmp .lss (.var (.i .i64) 3) (.var (.i .i64) 0)) (.cmp .gtr (.var (.i .i64) 3) (.lit (.i .i64) 1099511627776))) (.not (.or (.cmp .lss (.var (.i .i64) 3) (.var (.i .i64) 0)) (.cmp .gtr (.var (.i .i64) 3) (.lit (.i .i64) 1099511627776))))))))
def es_24 : List E := [(.ite (.or (.cmp .lss (.var (.i .i64) 3) (.var (.i .i64) 0)) (.cmp .gtr (.var (.i .i64) 3) (.lit (.i .i64) 1099511627776))) (.var (.i .i64) 0) (.app (.i .i64) 9024 0 [(.var (.i .i64) 3), (.var .x 1), (.var .x 2), (.app .x 29 0 [(.app .x 0 5 [(.var .x 1), (.lit (.i .i64) 0), (.app (.i .i64) 33 0 [(.var (.i .i64) 3), (.var .x 1), (.var .x 2), (.lit (.i .i64) 0), (.bin .add .i64 (.var (.i .i64) 3) (.lit (.i .i64) 1))])])]), (.app (.i .i64) 0 0 [(.app .x 29 0 [(.app .x 0 5 [(.var .x 1), (.lit (.i .i64) 0), (.app (.i .i64) 33 0 [(.var (.i .i64) 3), (.var .x 1), (.var .x 2), (.lit (.i .i64) 0), (.bin .add .i64 (.var (.i .i64) 3) (.lit (.i .i64) 1))])])])]), (.lit (.i .i64) 0)])), (.ite (.or (.cmp .lss (.var (.i .i64) 3) (.var (.i .i64) 0)) (.cmp .gtr (.var (.i .i64) 3) (.lit (.i .i64) 1099511627776))) (.var .x 1) (.app .x 34 0 [(.app .x 9024 1 [(.var (.i .i64) 3), (.var .x 1), (.var .x 2), (.app .x 29 0 [(.app .x 0 5 [(.var .x 1), (.lit (.i .i64) 0), (.app (.i .i64) 33 0 [(.var (.i .i64) 3), (.var .x 1), (.var .x 2), (.lit (.i .i64) 0), (.bin .add .i64 (.var (.i .i64) 3) (.lit (.i .i64) 1))])])]), (.app (.i .i64) 0 0 [(.app .x 29 0 [(.app .x 0 5 [(.var .x 1), (.lit (.i .i64) 0), (.app (.i .i64) 33 0 [(.var (.i .i64) 3), (.var .x 1), (.var .x 2), (.lit (.i .i64) 0), (.bin .add .i64 (.var (.i .i64) 3) (.lit (.i .i64) 1))])])])]), (.lit (.i .i64) 0)]), (.lit (.i .i64) 0), (.app (.i .i64) 33 0 [(.var (.i .i64) 3), (.var .x 1), (.var .x 2), (.lit (.i .i64) 0), (.bin .add .i64 (.var (.i .i64) 3) (.lit (.i .i64) 1))])])), (.ite (.or (.cmp .lss (.var (.i .i64) 3) (.var (.i .i64) 0)) (.cmp .gtr (.var (.i .i64) 3) (.lit (.i .i64) 1099511627776))) (.var .x 2) (.app .x 9024 2 [(.var (.i .i64) 3), (.var .x 1), (.var .x 2), (.app .x 29 0 [(.app .x 0 5 [(.var .x 1), (.lit (.i .i64) 0), (.app (.i .i64) 33 0 [(.var (.i .i64) 3), (.var .x 1), (.var .x 2), (.lit (.i .i64) 0), (.bin .add .i64 (.var (.i .i64) 3) (.lit (.i .i64) 1))])])]), (.app (.i .i64) 0 0 [(.app .x 29 0 [(.app .x 0 5 [(.var .x 1), (.lit (.i .i64) 0), (.app (.i .i64) 33 0 [(.var (.i .i64) 3), (.var .x 1), (.var .x 2), (.lit (.i .i64) 0), (.bin .add .i64 (.var (.i .i64) 3) (.lit (.i .i64) 1))])])])]), (.lit (.i .i64) 0)])), (.ite (.or (.cmp .lss (.var (.i .i64) 3) (.var (.i .i64) 0)) (.cmp .gtr (.var (.i .i64) 3) (.lit (.i .i64) 1099511627776))) (.app .x 0 2 []) (.app .x 29 0 [(.app .x 0 5 [(.var .x 1), (.lit (.i .i64) 0), (.app (.i .i64) 33 0 [(.var (.i .i64) 3), (.var .x 1), (.var .x 2), (.lit (.i .i64) 0), (.bin .add .i64 (.var (.i .i64) 3) (.lit (.i .i64) 1))])])])), (.ite (.or (.cmp .lss (.var (.i .i64) 3) (.var (.i .i64) 0)) (.cmp .gtr (.var (.i .i64) 3) (.lit (.i .i64) 1099511627776))) (.lit (.i .i64) 2) (.lit (.i .i64) 0))]
theorem ev_24 : evE Try.prog G0 (tabOf c9.fs) (ltOf c9.ls) 40 10 e24 = some (ob_24, es_24) := by kernel_rfl

def ob_16 : E := (.and (.app .b 28 1000000 [(.var (.i .i64) 0), (.var .x 1), (.var .x 2)]) (.app .b 24 1000000 [(.var (.i .i64) 0), (.var .x 1), (.var .x 2), (.ite (.cmp .lss (.lit (.i .i64) 1099511627776) (.bin .add .i64 (.var (.i .i64) 0) (.lit (.i .i64) 1))) (.lit (.i .i64) 1099511627776) (.bin .add .i64 (.var (.i .i64) 0) (.lit (.i .i64) 1)))]))
def es_16 : List E := [(.app (.i .i64) 24 0 [(.var (.i .i64) 0), (.var .x 1), (.var .x 2), (.ite (.cmp .lss (.lit (.i .i64) 1099511627776) (.bin .add .i64 (.var (.i .i64) 0) (.lit (.i .i64) 1))) (.lit (.i .i64) 1099511627776) (.bin .add .i64 (.var (.i .i64) 0) (.lit (.i .i64) 1)))]), (.app .x 24 1 [(.var (.i .i64) 0), (.var .x 1), (.var .x 2), (.ite (.cmp .lss (.lit (.i .i64) 1099511627776) (.bin .add .i64 (.var (.i .i64) 0) (.lit (.i .i64) 1))) (.lit (.i .i64) 1099511627776) (.bin .add .i64 (.var (.i .i64) 0) (.lit (.i .i64) 1)))]), (.app .x 24 2 [(.var (.i .i64) 0), (.var .x 1), (.var .x 2), (.ite (.cmp .lss (.lit (.i .i64) 1099511627776) (.bin .add .i64 (.var (.i .i64) 0) (.lit (.i .i64) 1))) (.lit (.i .i64) 1099511627776) (.bin .add .i64 (.var (.i .i64) 0) (.lit (.i .i64) 1)))]), (.app .x 24 3 [(.var (.i .i64) 0), (.var .x 1), (.var .x 2), (.ite (.cmp .lss (.lit (.i .i64) 1099511627776) (.bin .add .i64 (.var (.i .i64) 0) (.lit (.i .i64) 1))) (.lit (.i .i64) 1099511627776) (.bin .add .i64 (.var (.i .i64) 0) (.lit (.i .i64) 1)))]), (.app (.i .i64) 24 4 [(.var (.i .i64) 0), (.var .x 1), (.var .x 2), (.ite (.cmp .lss (.lit (.i .i64) 1099511627776) (.bin .add .i64 (.var (.i .i64) 0) (.lit (.i .i64) 1))) (.lit (.i .i64) 1099511627776) (.bin .add .i64 (.var (.i .i64) 0) (.lit (.i .i64) 1)))])]
theorem ev_16 : evE Try.prog G0 (tabOf cA.fs) (ltOf cA.ls) 40 10 e16 = some (ob_16, es_16) := by kernel_rfl

theorem loTo : ItemOK Try.prog G0 24 [true,true,true,true,true,false,true,false] leTo := by
  refine c7ok.loopP mixed (fun xs => (env xs 4 - env xs 5).toNat) rfl ?_ ev_L24 _ rfl _ rfl ?_
  · exact ⟨_, _, _, Try.func24, rfl, rfl⟩
  intro n xs hf hp hmu
  obtain ⟨l, hl, S, Sp, hF⟩ := self_F leTo (fun xs => (env xs 4 - env xs 5).toNat) n c7.l (by decide)
  rw [hl]
  match xs, hf with
  | [now, tc, mc, c, m, i], hf =>
    obtain ⟨h0, h1, h2, h3, h4, h5, _⟩ := hf
    simp only [norm_i, norm_x] at h0 h4 h5
    obtain ⟨p1, p2, p3, p4, p5⟩ := hp
    simp only [ewA, ewL, preC, binI, dvI, shI, cmpB, env, bi, List.headD, List.tail, List.map, Nat.reduceAdd] at p1 p2 p3 p4 p5 hmu
    unfold cap8 at p5
    have w0 : IntKind.i64.wrap 0 = 0 := i64w (by decide) (by decide)
    have w1 : IntKind.i64.wrap 1 = 1 := i64w (by decide) (by decide)
    have wl : IntKind.i64.wrap ((dc c).length : Int) = ((dc c).length : Int) := i64w (by omega) (by omega)
    have e1 : leTo.ent.fn = fnTo := rfl
    by_cases hlt : i < m
    · have hs : IntKind.i64.wrap (i + 1) = i + 1 := i64w (by omega) (by omega)
      obtain ⟨r, hr, hm, hd⟩ : ∃ r, (dc c).getD i.toNat [] = r ∧ r ∈ dc c ∧ (dc c).drop i.toNat = r :: (dc c).drop (i + 1).toNat := by
        have hl : i.toNat < (dc c).length := by omega
        refine ⟨(dc c)[i.toNat], by simp [List.getD, hl], List.getElem_mem hl, ?_⟩
        rw [List.drop_eq_getElem_cons hl, show (i + 1).toNat = i.toNat + 1 by omega]
      have hr0 : IntKind.i64.wrap (r.getD 0 0) = idR r := fits_get (p4 r hm) 0 (.i .i64) rfl
      have nS : i2b (K.b.norm (l.F 9024 1000000 [now, tc, cd (delR [idR r] (dc mc)), c, m, i + 1])) = true :=
        Sp _ ⟨⟨p1, by show 0 ≤ i + 1; omega, by show i + 1 ≤ m; omega, p4, by show m < cap8; unfold cap8; omega⟩, by show (m - (i + 1)).toNat < n; omega⟩
      have f0 : l.F 9024 0 [now, tc, cd (delR [idR r] (dc mc)), c, m, i + 1] = now := S 0 rfl _
      have f1 : l.F 9024 1 [now, tc, cd (delR [idR r] (dc mc)), c, m, i + 1] = tc := S 1 rfl _
      have f2 : l.F 9024 2 [now, tc, cd (delR [idR r] (dc mc)), c, m, i + 1] = delC ((dc c).drop (i + 1).toNat) (cd (delR [idR r] (dc mc))) := S 2 rfl _
      have b1 : decide (i ≥ 0) = true := by simp; omega
      have b2 : decide (i < ((dc c).length : Int)) = true := by simp; omega
      refine ⟨?_, ?_, ?_, ?_, trivial⟩
      · simp only [ob_L24, ewA, ewL, preC, binI, dvI, shI, cmpB, env, bi, List.headD, List.tail, List.map, Nat.reduceAdd, h0, h4, h5, w0, w1, wl, hs, hr, hr0, nS, b1, b2, hlt, decide_true]; rfl
      · simp only [es_L24, ewA, ewL, preC, binI, dvI, shI, cmpB, env, bi, List.headD, List.tail, List.map, Nat.reduceAdd, h0, h4, h5, w1, hs, hr, hr0, f0, hlt, decide_true, e1, fnTo]; rfl
      · simp only [es_L24, ewA, ewL, preC, binI, dvI, shI, cmpB, env, bi, List.headD, List.tail, List.map, Nat.reduceAdd, h0, h4, h5, w1, hs, hr, hr0, f1, hlt, decide_true, e1, fnTo]; rfl
      · simp only [es_L24, ewA, ewL, preC, binI, dvI, shI, cmpB, env, bi, List.headD, List.tail, List.map, Nat.reduceAdd, h0, h4, h5, w1, hs, hr, hr0, f2, hlt, decide_true, e1, fnTo, hd]; rfl
    · have hd : (dc c).drop i.toNat = [] := List.drop_of_length_le (by omega)
      refine ⟨?_, ?_, ?_, ?_, trivial⟩
      · simp only [ob_L24, ewA, ewL, preC, binI, dvI, shI, cmpB, env, bi, List.headD, List.tail, List.map, Nat.reduceAdd, h0, h4, h5, hlt, decide_false]; rfl
      · simp only [es_L24, ewA, ewL, preC, binI, dvI, shI, cmpB, env, bi, List.headD, List.tail, List.map, Nat.reduceAdd, h0, h4, h5, hlt, decide_false, e1, fnTo]; rfl
      · simp only [es_L24, ewA, ewL, preC, binI, dvI, shI, cmpB, env, bi, List.headD, List.tail, List.map, Nat.reduceAdd, h0, h4, h5, hlt, decide_false, e1, fnTo]; rfl
      · simp only [es_L24, ewA, ewL, preC, binI, dvI, shI, cmpB, env, bi, List.headD, List.tail, List.map, Nat.reduceAdd, h0, h4, h5, hlt, decide_false, e1, fnTo, hd]; rfl

theorem dc_delC : ∀ (l : RL) (c : Int), dc (delC l c) = delAll l (dc c)
  | [], _ => rfl
  | r :: l, c => by
    show dc (delC l (cd (delR [idR r] (dc c)))) = delAll l (delR [idR r] (dc c))
    rw [dc_delC l, dc_cd]

theorem ok24 : EntryOK Try.prog G0 e24 := (c7ok.addL loTo rfl).entryP mixed ev_24 _ rfl _ rfl fun xs hf hp => by
  obtain ⟨l, hl, hF⟩ := ctx_F (l0 := c9.l)
  show ob_24.tt c9.l.F _ = true ∧ outsP _ _ c9.l.F _ _ _ _
  rw [hl]
  match xs, hf with
  | [now, tc, mc, t], hf =>
    obtain ⟨h0, h1, h2, h3, _⟩ := hf
    simp only [norm_i] at h0 h3
    have hq : QI now (dc tc) (dc mc) := hp
    obtain ⟨S, Sp⟩ := hF leTo.ent (by rfl) (by decide)
    obtain ⟨_, Np⟩ := hF e28 (by rfl) (by decide)
    obtain ⟨U, Up⟩ := hF e33 (by rfl) (by decide)
    obtain ⟨D, Dp⟩ := hF (deleteE 34) (by rfl) (by decide)
    obtain ⟨C, Cp⟩ := hF (cloneE 29) (by rfl) (by decide)
    have hlen := hq.len
    have htm := hq.tim
    have n28 : ∀ xs, i2b (K.b.norm (l.F 28 1000000 xs)) = true := fun xs => Np xs trivial
    have w0 : IntKind.i64.wrap 0 = 0 := i64w (by decide) (by decide)
    have w1 : IntKind.i64.wrap 1 = 1 := i64w (by decide) (by decide)
    have w2 : IntKind.i64.wrap 2 = 2 := i64w (by decide) (by decide)
    have wM : IntKind.i64.wrap 1099511627776 = 1099511627776 := i64w (by decide) (by decide)
    have wl : IntKind.i64.wrap ((dc tc).length : Int) = ((dc tc).length : Int) := i64w (by omega) (by omega)
    have hc : (decide (t < now) || decide (t > 1099511627776)) = !toB now t := by
      unfold toB; cases decide (t < now) <;> cases decide (t > 1099511627776) <;> rfl
    cases hb : toB now t
    · have hc' : (decide (t < now) || decide (t > 1099511627776)) = true := by rw [hc, hb]; rfl
      refine ⟨?_, ?_, ?_, ?_, ?_, ?_, trivial⟩
      · simp only [ob_24, ewA, ewL, preC, binI, dvI, shI, cmpB, env, bi, List.headD, List.tail, List.map, Nat.reduceAdd, h0, h3, n28, wM, hc']; rfl
      · simp only [es_24, e24, fn24, ewA, ewL, preC, binI, dvI, shI, cmpB, env, bi, List.headD, List.tail, List.map, Nat.reduceAdd, h0, h3, wM, hc', hb, cond_true, cond_false]
      · simp only [es_24, e24, fn24, ewA, ewL, preC, binI, dvI, shI, cmpB, env, bi, List.headD, List.tail, List.map, Nat.reduceAdd, h0, h3, wM, hc', hb, cond_true, cond_false]
      · simp only [es_24, e24, fn24, ewA, ewL, preC, binI, dvI, shI, cmpB, env, bi, List.headD, List.tail, List.map, Nat.reduceAdd, h0, h3, wM, hc', hb, cond_true, cond_false]
      · simp only [es_24, e24, fn24, ewA, ewL, preC, binI, dvI, shI, cmpB, env, bi, List.headD, List.tail, List.map, Nat.reduceAdd, h0, h3, wM, hc', hb, cond_true, cond_false]
      · simp only [es_24, e24, fn24, ewA, ewL, preC, binI, dvI, shI, cmpB, env, bi, List.headD, List.tail, List.map, Nat.reduceAdd, h0, h3, wM, w2, hc', hb, cond_true, cond_false]
    · have hc' : (decide (t < now) || decide (t > 1099511627776)) = false := by rw [hc, hb]; rfl
      have ht : now ≤ t ∧ t ≤ 1099511627776 := by simpa using hc'
      have wt : IntKind.i64.wrap (t + 1) = t + 1 := i64w (by omega) (by omega)
      obtain ⟨k, hk⟩ : ∃ k, k = cnt (dc tc) [0, t + 1] := ⟨_, rfl⟩
      obtain ⟨hs1, hs2⟩ := hq.split t
      rw [← hk] at hs1 hs2
      have hkl : k ≤ (dc tc).length := hk ▸ cnt_le _ _
      have wk : IntKind.i64.wrap (k : Int) = (k : Int) := i64w (by omega) (by omega)
      have n33 : i2b (K.b.norm (l.F 33 1000000 [t, tc, mc, 0, t + 1])) = true := Up _ ⟨hq.srt, hq.row, by show ((dc tc).length : Int) < cap8; unfold cap8; omega⟩
      have f33 : l.F 33 0 [t, tc, mc, 0, t + 1] = (k : Int) := by rw [hk]; exact U 0 rfl _
      have hdl : (dueT t (dc tc)).length ≤ (dc tc).length := List.length_filter_le _ _
      have f29 : l.F 29 0 [cd (dueT t (dc tc))] = cd (dueT t (dc tc)) := C 0 rfl _
      have n29 : i2b (K.b.norm (l.F 29 1000000 [cd (dueT t (dc tc))])) = true := Cp _ (by show ((dc (cd (dueT t (dc tc)))).length : Int) < cap8; rw [dc_cd]; unfold cap8; omega)
      obtain ⟨L, hL⟩ : ∃ L, L = (dueT t (dc tc)).length := ⟨_, rfl⟩
      rw [← hL] at hdl
      have wL : IntKind.i64.wrap (L : Int) = (L : Int) := i64w (by omega) (by omega)
      have nTo : i2b (K.b.norm (l.F 9024 1000000 [t, tc, mc, cd (dueT t (dc tc)), (L : Int), 0])) = true :=
        Sp _ ⟨by show (L : Int) = ((dc (cd (dueT t (dc tc)))).length : Int); rw [dc_cd, hL], by show (0 : Int) ≤ 0; omega, by show (0 : Int) ≤ (L : Int); omega, by show rowsOK tmK (dc (cd (dueT t (dc tc)))); rw [dc_cd]; exact fun r hr => hq.row r (List.mem_filter.1 hr).1, by show (L : Int) < cap8; unfold cap8; omega⟩
      have g0 : l.F 9024 0 [t, tc, mc, cd (dueT t (dc tc)), (L : Int), 0] = t := S 0 rfl _
      have g1 : l.F 9024 1 [t, tc, mc, cd (dueT t (dc tc)), (L : Int), 0] = tc := S 1 rfl _
      have g2 : l.F 9024 2 [t, tc, mc, cd (dueT t (dc tc)), (L : Int), 0] = delC (dueT t (dc tc)) mc := by
        refine (S 2 rfl _).trans ?_
        show delC ((dc (cd (dueT t (dc tc)))).drop (0 : Int).toNat) mc = _
        rw [dc_cd]; rfl
      have n34 : i2b (K.b.norm (l.F 34 1000000 [tc, 0, (k : Int)])) = true := Dp _ ⟨by show (0 : Int) ≤ 0; omega, by show (0 : Int) ≤ (k : Int); omega, by show (k : Int) ≤ ((dc tc).length : Int); omega⟩
      have f34 : l.F 34 0 [tc, 0, (k : Int)] = cd (leftT t (dc tc)) := by
        rw [← hs2]
        refine (D 0 rfl _).trans ?_
        show cd ((dc tc).take (0 : Int).toNat ++ (dc tc).drop ((k : Int)).toNat) = _
        rw [Int.toNat_natCast]; rfl
      have b1 : decide ((0 : Int) ≤ (k : Int)) = true := by simp
      have b2 : decide ((k : Int) ≤ ((dc tc).length : Int)) = true := by simp; omega
      have hlc : ((dc (cd (dueT t (dc tc)))).length : Int) = (L : Int) := by rw [dc_cd, hL]
      refine ⟨?_, ?_, ?_, ?_, ?_, ?_, trivial⟩
      · simp only [ob_24, ewA, ewL, preC, binI, dvI, shI, cmpB, env, bi, List.headD, List.tail, List.map, Nat.reduceAdd, h0, h3, n28, wM, w0, w1, wt, hc', n33, f33, wk, List.drop_zero, hs1, f29, n29, ← hL, wL, nTo, g1, n34, wl, b1, b2]; rfl
      · simp only [es_24, e24, fn24, ewA, ewL, preC, binI, dvI, shI, cmpB, env, bi, List.headD, List.tail, List.map, Nat.reduceAdd, h0, h3, wM, w0, w1, wt, hc', hb, f33, wk, List.drop_zero, hs1, f29, ← hL, wL, g0, cond_true, cond_false]
      · simp only [es_24, e24, fn24, ewA, ewL, preC, binI, dvI, shI, cmpB, env, bi, List.headD, List.tail, List.map, Nat.reduceAdd, h0, h3, wM, w0, w1, wt, hc', hb, f33, wk, List.drop_zero, hs1, f29, ← hL, wL, g1, f34, cond_true, cond_false]
      · simp only [es_24, e24, fn24, ewA, ewL, preC, binI, dvI, shI, cmpB, env, bi, List.headD, List.tail, List.map, Nat.reduceAdd, h0, h3, wM, w0, w1, wt, hc', hb, f33, wk, List.drop_zero, hs1, f29, ← hL, wL, g2, cond_true, cond_false]
      · simp only [es_24, e24, fn24, ewA, ewL, preC, binI, dvI, shI, cmpB, env, bi, List.headD, List.tail, List.map, Nat.reduceAdd, h0, h3, wM, w0, w1, wt, hc', hb, f33, wk, List.drop_zero, hs1, f29, cond_true, cond_false]
      · simp only [es_24, e24, fn24, ewA, ewL, preC, binI, dvI, shI, cmpB, env, bi, List.headD, List.tail, List.map, Nat.reduceAdd, h0, h3, wM, w0, w2, hc', hb, cond_true, cond_false]

theorem cAok : cA.OK Try.prog G0 := (c7ok.addF ok24 rfl).sub rfl (by simp [cA, c7]) (by simp [cA])

theorem ok16 : EntryOK Try.prog G0 e16 := cAok.entryP mixed ev_16 _ rfl _ rfl fun xs hf hp => by
  obtain ⟨l, hl, hF⟩ := ctx_F (l0 := cA.l)
  obtain ⟨S, Sp⟩ := hF e24 (by rfl) (by decide)
  obtain ⟨_, Np⟩ := hF e28 (by rfl) (by decide)
  rw [hl]
  match xs, hf with
  | [now, tc, mc], hf =>
    obtain ⟨h0, h1, h2, _⟩ := hf
    simp only [norm_i] at h0
    have hq : QI now (dc tc) (dc mc) := hp
    have htm := hq.tim
    have n28 : ∀ xs, i2b (K.b.norm (l.F 28 1000000 xs)) = true := fun xs => Np xs trivial
    have w1 : IntKind.i64.wrap 1 = 1 := i64w (by decide) (by decide)
    have wM : IntKind.i64.wrap 1099511627776 = 1099511627776 := i64w (by decide) (by decide)
    have wn : IntKind.i64.wrap (now + 1) = now + 1 := i64w (by omega) (by omega)
    have hn : (bif decide (1099511627776 < now + 1) then 1099511627776 else now + 1) = tickT now := by
      unfold tickT
      by_cases h : 1099511627776 < now + 1
      · rw [if_neg (by omega)]; simp [h]
      · by_cases g : now + 1 < 1099511627776
        · rw [if_pos g]; simp [h]
        · rw [if_neg g]; simp [h]; omega
    have n24 : i2b (K.b.norm (l.F 24 1000000 [now, tc, mc, tickT now])) = true := Sp _ hp
    have f : ∀ j, (j == preC) = false → l.F 24 j [now, tc, mc, tickT now] = fn24 j [now, tc, mc, tickT now] := fun j hj => S j hj _
    have e : ∀ j, fn16 j [now, tc, mc] = fn24 j [now, tc, mc, tickT now] := fun j => rfl
    refine ⟨?_, ?_, ?_, ?_, ?_, ?_, trivial⟩
    · simp only [ob_16, ewA, ewL, preC, binI, dvI, shI, cmpB, env, bi, List.headD, List.tail, List.map, Nat.reduceAdd, h0, w1, wM, wn, hn, n28, n24]; rfl
    · simp only [es_16, e16, e, ewA, ewL, preC, binI, dvI, shI, cmpB, env, bi, List.headD, List.tail, List.map, Nat.reduceAdd, h0, w1, wM, wn, hn, f 0 rfl]
    · simp only [es_16, e16, e, ewA, ewL, preC, binI, dvI, shI, cmpB, env, bi, List.headD, List.tail, List.map, Nat.reduceAdd, h0, w1, wM, wn, hn, f 1 rfl]
    · simp only [es_16, e16, e, ewA, ewL, preC, binI, dvI, shI, cmpB, env, bi, List.headD, List.tail, List.map, Nat.reduceAdd, h0, w1, wM, wn, hn, f 2 rfl]
    · simp only [es_16, e16, e, ewA, ewL, preC, binI, dvI, shI, cmpB, env, bi, List.headD, List.tail, List.map, Nat.reduceAdd, h0, w1, wM, wn, hn, f 3 rfl]
    · simp only [es_16, e16, e, ewA, ewL, preC, binI, dvI, shI, cmpB, env, bi, List.headD, List.tail, List.map, Nat.reduceAdd, h0, w1, wM, wn, hn, f 4 rfl]

end
end Go.Proofs.Ytmolkkphnehgcaa.Ew

/- Layer 18: Tick and Take. -/
import Derived.Test.YtfhheeoejncfgaaHg
set_option linter.unusedVariables false
set_option linter.unusedSimpArgs false
namespace Go.Proofs.Ytfhheeoejncfgaa.Ew
open Go Go.RowKit
noncomputable section
--P Try.prog G0

def jnZ (xs : List Int) : List Int := [env xs 0, env xs 1 + 1, env xs 2, env xs 3, env xs 4, env xs 5, (env xs 1 + 1) % 512]
def jnY (xs : List Int) : List Int := [fn50 0 (jnZ xs), env xs 1 + 1, env xs 2, env xs 3, env xs 4, fn50 5 (jnZ xs), 0]
def fn15 (j : Nat) (xs : List Int) : Int := match j with
  | 0 => if env xs 1 = 1099511627776 then env xs 0 else fnTi 0 (jnY xs)
  | 1 => nowT (env xs 1)
  | 2 => env xs 2
  | 3 => env xs 3
  | 4 => if env xs 1 = 1099511627776 then env xs 4 else env xs 4 + fnTi 6 (jnY xs)
  | 5 => if env xs 1 = 1099511627776 then env xs 5 else fnTi 5 (jnY xs)
  | _ => if env xs 1 = 1099511627776 then 0 else fnTi 6 (jnY xs)
def e15 : Ent := ⟨15, 15, [wsh], [wob], [], .tup [i64, .lt (.i .i64) 0], fn15, WX⟩
def tkY (xs : List Int) : List Int := [env xs 0, env xs 1, env xs 2, env xs 3, env xs 4, env xs 5, env xs 6, cd []]
def fn17 (j : Nat) (xs : List Int) : Int := match j with
  | 0 => if env xs 6 < 0 then env xs 0 else fnTk 0 (tkY xs)
  | 1 => env xs 1
  | 2 => env xs 2
  | 3 => if env xs 6 < 0 then env xs 3 else fnTk 3 (tkY xs)
  | 4 => env xs 4
  | 5 => if env xs 6 < 0 then env xs 5 else fnTk 5 (tkY xs)
  | 6 => if env xs 6 < 0 then cd [] else fnTk 6 (tkY xs)
  | _ => if env xs 6 < 0 then 2 else 0
def e17 : Ent := ⟨17, 17, [wsh, i64], [wob], [], .tup [lio, i64], fn17, WX⟩
def cH : Ctx := ⟨[e46, e50], [(17, pTk, leTk), (15, pTi, leTi)]⟩

def ob_17 : E := (.and (.and (.app .b 46 1000000 [(.var .x 0), (.var (.i .i64) 1), (.var (.i .i64) 2), (.var (.i .i64) 3), (.var (.i .i64) 4), (.var .x 5)]) (.or (.cmp .lss (.var (.i .i64) 6) (.lit (.i .i64) 0)) (.app .b 9017 1000000 [(.var .x 0), (.var (.i .i64) 1), (.var (.i .i64) 2), (.var (.i .i64) 3), (.var (.i .i64) 4), (.var .x 5), (.var (.i .i64) 6), (.app .x 0 2 [])]))) (.and (.ite (.cmp .lss (.var (.i .i64) 6) (.lit (.i .i64) 0)) (.cmp .lss (.var (.i .i64) 6) (.lit (.i .i64) 0)) (.not (.cmp .lss (.var (.i .i64) 6) (.lit (.i .i64) 0)))) (.or (.cmp .lss (.var (.i .i64) 6) (.lit (.i .i64) 0)) (.not (.cmp .lss (.var (.i .i64) 6) (.lit (.i .i64) 0))))))
def es_17 : List E := [(.ite (.cmp .lss (.var (.i .i64) 6) (.lit (.i .i64) 0)) (.var .x 0) (.app .x 9017 0 [(.var .x 0), (.var (.i .i64) 1), (.var (.i .i64) 2), (.var (.i .i64) 3), (.var (.i .i64) 4), (.var .x 5), (.var (.i .i64) 6), (.app .x 0 2 [])])), (.ite (.cmp .lss (.var (.i .i64) 6) (.lit (.i .i64) 0)) (.var (.i .i64) 1) (.app (.i .i64) 9017 1 [(.var .x 0), (.var (.i .i64) 1), (.var (.i .i64) 2), (.var (.i .i64) 3), (.var (.i .i64) 4), (.var .x 5), (.var (.i .i64) 6), (.app .x 0 2 [])])), (.ite (.cmp .lss (.var (.i .i64) 6) (.lit (.i .i64) 0)) (.var (.i .i64) 2) (.app (.i .i64) 9017 2 [(.var .x 0), (.var (.i .i64) 1), (.var (.i .i64) 2), (.var (.i .i64) 3), (.var (.i .i64) 4), (.var .x 5), (.var (.i .i64) 6), (.app .x 0 2 [])])), (.ite (.cmp .lss (.var (.i .i64) 6) (.lit (.i .i64) 0)) (.var (.i .i64) 3) (.app (.i .i64) 9017 3 [(.var .x 0), (.var (.i .i64) 1), (.var (.i .i64) 2), (.var (.i .i64) 3), (.var (.i .i64) 4), (.var .x 5), (.var (.i .i64) 6), (.app .x 0 2 [])])), (.ite (.cmp .lss (.var (.i .i64) 6) (.lit (.i .i64) 0)) (.var (.i .i64) 4) (.app (.i .i64) 9017 4 [(.var .x 0), (.var (.i .i64) 1), (.var (.i .i64) 2), (.var (.i .i64) 3), (.var (.i .i64) 4), (.var .x 5), (.var (.i .i64) 6), (.app .x 0 2 [])])), (.ite (.cmp .lss (.var (.i .i64) 6) (.lit (.i .i64) 0)) (.var .x 5) (.app .x 9017 5 [(.var .x 0), (.var (.i .i64) 1), (.var (.i .i64) 2), (.var (.i .i64) 3), (.var (.i .i64) 4), (.var .x 5), (.var (.i .i64) 6), (.app .x 0 2 [])])), (.ite (.cmp .lss (.var (.i .i64) 6) (.lit (.i .i64) 0)) (.app .x 0 2 []) (.app .x 9017 6 [(.var .x 0), (.var (.i .i64) 1), (.var (.i .i64) 2), (.var (.i .i64) 3), (.var (.i .i64) 4), (.var .x 5), (.var (.i .i64) 6), (.app .x 0 2 [])])), (.ite (.cmp .lss (.var (.i .i64) 6) (.lit (.i .i64) 0)) (.lit (.i .i64) 2) (.lit (.i .i64) 0))]
theorem ev_17 : evE Try.prog G0 (tabOf cH.fs) (ltOf cH.ls) 40 10 e17 = some (ob_17, es_17) := by kernel_rfl

def q_15_0 : E := (.dv .rem .i64 (.bin .add .i64 (.var (.i .i64) 1) (.lit (.i .i64) 1)) 512)
def q_15_1 : E := (.app .x 50 0 [(.var .x 0), (.bin .add .i64 (.var (.i .i64) 1) (.lit (.i .i64) 1)), (.var (.i .i64) 2), (.var (.i .i64) 3), (.var (.i .i64) 4), (.var .x 5), q_15_0])
def q_15_2 : E := (.app (.i .i64) 50 1 [(.var .x 0), (.bin .add .i64 (.var (.i .i64) 1) (.lit (.i .i64) 1)), (.var (.i .i64) 2), (.var (.i .i64) 3), (.var (.i .i64) 4), (.var .x 5), q_15_0])
def q_15_3 : E := (.app (.i .i64) 50 2 [(.var .x 0), (.bin .add .i64 (.var (.i .i64) 1) (.lit (.i .i64) 1)), (.var (.i .i64) 2), (.var (.i .i64) 3), (.var (.i .i64) 4), (.var .x 5), q_15_0])
def q_15_4 : E := (.app (.i .i64) 50 3 [(.var .x 0), (.bin .add .i64 (.var (.i .i64) 1) (.lit (.i .i64) 1)), (.var (.i .i64) 2), (.var (.i .i64) 3), (.var (.i .i64) 4), (.var .x 5), q_15_0])
def q_15_5 : E := (.app (.i .i64) 50 4 [(.var .x 0), (.bin .add .i64 (.var (.i .i64) 1) (.lit (.i .i64) 1)), (.var (.i .i64) 2), (.var (.i .i64) 3), (.var (.i .i64) 4), (.var .x 5), q_15_0])
def q_15_6 : E := (.app .x 50 5 [(.var .x 0), (.bin .add .i64 (.var (.i .i64) 1) (.lit (.i .i64) 1)), (.var (.i .i64) 2), (.var (.i .i64) 3), (.var (.i .i64) 4), (.var .x 5), q_15_0])
def q_15_7 : E := (.app (.i .i64) 9015 6 [q_15_1, q_15_2, q_15_3, q_15_4, q_15_5, q_15_6, (.lit (.i .i64) 0)])
def ob_15 : E := (.and (.and (.app .b 46 1000000 [(.var .x 0), (.var (.i .i64) 1), (.var (.i .i64) 2), (.var (.i .i64) 3), (.var (.i .i64) 4), (.var .x 5)]) (.or (.cmp .eql (.var (.i .i64) 1) (.lit (.i .i64) 1099511627776)) (.and (.and (.and (.cmp .geq q_15_0 (.lit (.i .i64) 0)) (.cmp .lss q_15_0 (.lit (.i .i64) 512))) (.app .b 50 1000000 [(.var .x 0), (.bin .add .i64 (.var (.i .i64) 1) (.lit (.i .i64) 1)), (.var (.i .i64) 2), (.var (.i .i64) 3), (.var (.i .i64) 4), (.var .x 5), q_15_0])) (.app .b 9015 1000000 [q_15_1, q_15_2, q_15_3, q_15_4, q_15_5, q_15_6, (.lit (.i .i64) 0)])))) (.ite (.cmp .eql (.var (.i .i64) 1) (.lit (.i .i64) 1099511627776)) (.cmp .eql (.var (.i .i64) 1) (.lit (.i .i64) 1099511627776)) (.not (.cmp .eql (.var (.i .i64) 1) (.lit (.i .i64) 1099511627776)))))
def es_15 : List E := [(.ite (.cmp .eql (.var (.i .i64) 1) (.lit (.i .i64) 1099511627776)) (.var .x 0) (.app .x 9015 0 [q_15_1, q_15_2, q_15_3, q_15_4, q_15_5, q_15_6, (.lit (.i .i64) 0)])), (.ite (.cmp .eql (.var (.i .i64) 1) (.lit (.i .i64) 1099511627776)) (.var (.i .i64) 1) (.app (.i .i64) 9015 1 [q_15_1, q_15_2, q_15_3, q_15_4, q_15_5, q_15_6, (.lit (.i .i64) 0)])), (.ite (.cmp .eql (.var (.i .i64) 1) (.lit (.i .i64) 1099511627776)) (.var (.i .i64) 2) (.app (.i .i64) 9015 2 [q_15_1, q_15_2, q_15_3, q_15_4, q_15_5, q_15_6, (.lit (.i .i64) 0)])), (.ite (.cmp .eql (.var (.i .i64) 1) (.lit (.i .i64) 1099511627776)) (.var (.i .i64) 3) (.app (.i .i64) 9015 3 [q_15_1, q_15_2, q_15_3, q_15_4, q_15_5, q_15_6, (.lit (.i .i64) 0)])), (.ite (.cmp .eql (.var (.i .i64) 1) (.lit (.i .i64) 1099511627776)) (.var (.i .i64) 4) (.bin .add .i64 (.app (.i .i64) 9015 4 [q_15_1, q_15_2, q_15_3, q_15_4, q_15_5, q_15_6, (.lit (.i .i64) 0)]) q_15_7)), (.ite (.cmp .eql (.var (.i .i64) 1) (.lit (.i .i64) 1099511627776)) (.var .x 5) (.app .x 9015 5 [q_15_1, q_15_2, q_15_3, q_15_4, q_15_5, q_15_6, (.lit (.i .i64) 0)])), (.ite (.cmp .eql (.var (.i .i64) 1) (.lit (.i .i64) 1099511627776)) (.lit (.i .i64) 0) q_15_7)]
theorem ev_15 : evE Try.prog G0 (tabOf cH.fs) (ltOf cH.ls) 40 10 e15 = some (ob_15, es_15) := by kernel_rfl

theorem cHok : cH.OK Try.prog G0 := Ctx.OK.addL (c := ⟨[e46, e50], [(15, pTi, leTi)]⟩) (Ctx.OK.addL (c := ⟨[e46, e50], []⟩) ((Ctx.OK.nil.addF ok50 rfl).addF ok46 rfl) okTi rfl) okTk rfl
theorem e17fn : leTk.ent.fn = fnTk := rfl
theorem e17pre : leTk.ent.pre = preTk := rfl
theorem e15fn : leTi.ent.fn = fnTi := rfl
theorem e50fn : e50.fn = fn50 := rfl

theorem ok17 : EntryOK Try.prog G0 e17 := cHok.entryP mixed ev_17 _ rfl _ rfl fun xs hf hp => by
  obtain ⟨l, hl, hF⟩ := ctx_P (l0 := cH.l)
  show ob_17.tt cH.l.F _ = true ∧ outsP e17.fn _ cH.l.F _ _ _ _
  rw [hl]
  have F46 := FC (k := 46) rfl (hF e46 (by rfl) (by decide))
  have F9017 := FC (k := 9017) rfl (hF leTk.ent (by rfl) (by decide))
  have hSS := And.intro F46 F9017
  obtain ⟨S, now, bu, le, mo, T, n, rfl⟩ := fits7 hf
  obtain ⟨h0, h1, h2, h3, h4, h5, h6, _⟩ := hf
  simp only [norm_i, norm_x] at h1 h2 h3 h4 h6
  obtain ⟨⟨Q, p1⟩, p2, p3⟩ := hp
  replace p1 : WOK now bu le (dc S) (dc T) Q (bu * (255 - now % 256)) := p1
  have q1 : 0 < ((dc T).length : Int) ∧ ((dc T).length : Int) ≤ 4096 := ⟨by have := p1.ct; omega, by have := p1.ct; omega⟩
  have hle := p1.le_rng
  by_cases hn : n < 0
  · refine ⟨?_, ?_, ?_, ?_, ?_, ?_, ?_, ?_, ?_, trivial⟩
    all_goals simp (disch := omega) only [ob_17, es_17, e17, fn17, ewA, ewL, preC, binI, dvI, shI, cmpB, env, bi, List.headD, List.tail, List.map, Nat.reduceAdd, ewB, ewM, if_true, if_false, implies_true, forall_const, ne_eq, reduceCtorEq, Int.reduceEq, Int.reduceLT, Int.reduceLE, Int.reduceToNat, Int.reduceAdd, Int.reduceSub, Int.reduceMul, Int.reduceNeg, Int.reduceBEq, Nat.reduceLT, Nat.reduceEqDiff, hSS, h1, h2, h3, h4, h6, y46 q1, hn]
  · have y : preTk [S, now, bu, le, mo, T, n, cd []] := ⟨⟨Q, _, p1⟩, by show ((dc (cd [])).length : Int) + le ≤ 8192; rw [dc_cd]; show (0 : Int) + le ≤ 8192; omega⟩
    have eY : tkY [S, now, bu, le, mo, T, n] = [S, now, bu, le, mo, T, n, cd []] := rfl
    have q1' : fnTk 1 [S, now, bu, le, mo, T, n, cd []] = now := rfl
    have q2 : fnTk 2 [S, now, bu, le, mo, T, n, cd []] = bu := rfl
    have q4 : fnTk 4 [S, now, bu, le, mo, T, n, cd []] = mo := rfl
    have w3 : IntKind.i64.wrap (fnTk 3 [S, now, bu, le, mo, T, n, cd []]) = fnTk 3 [S, now, bu, le, mo, T, n, cd []] := by
      obtain ⟨_, t1, _⟩ := tkN_ok (nTk [S, now, bu, le, mo, T, n, cd []]) (dc S, dc T) Q le _ p1
      have r := t1.le_rng
      have e : fnTk 3 [S, now, bu, le, mo, T, n, cd []] = le - ((tkN now (nTk [S, now, bu, le, mo, T, n, cd []]) (dc S, dc T)).2.length : Int) := rfl
      rw [e]
      exact i64w (by omega) (by omega)
    refine ⟨?_, ?_, ?_, ?_, ?_, ?_, ?_, ?_, ?_, trivial⟩
    all_goals simp (disch := omega) only [ob_17, es_17, e17, fn17, eY, e17fn, e17pre, ewA, ewL, preC, binI, dvI, shI, cmpB, env, bi, List.headD, List.tail, List.map, Nat.reduceAdd, ewB, ewM, if_true, if_false, implies_true, forall_const, ne_eq, reduceCtorEq, Int.reduceEq, Int.reduceLT, Int.reduceLE, Int.reduceToNat, Int.reduceAdd, Int.reduceSub, Int.reduceMul, Int.reduceNeg, Int.reduceBEq, Nat.reduceLT, Nat.reduceEqDiff, hSS, h1, h2, h3, h4, h6, y46 q1, hn, y, q1', q2, q4, w3]

theorem ok15 : EntryOK Try.prog G0 e15 := cHok.entryP mixed ev_15 _ rfl _ rfl fun xs hf hp => by
  obtain ⟨l, hl, hF⟩ := ctx_P (l0 := cH.l)
  show ob_15.tt cH.l.F _ = true ∧ outsP e15.fn _ cH.l.F _ _ _ _
  rw [hl]
  have F46 := FC (k := 46) rfl (hF e46 (by rfl) (by decide))
  have F50 := FC (k := 50) rfl (hF e50 (by rfl) (by decide))
  have F9015 := FC (k := 9015) rfl (hF leTi.ent (by rfl) (by decide))
  have hSS := And.intro F46 (And.intro F50 F9015)
  obtain ⟨S, now, bu, le, mo, T, rfl⟩ := fits6 hf
  obtain ⟨h0, h1, h2, h3, h4, h5, _⟩ := hf
  simp only [norm_i, norm_x] at h1 h2 h3 h4
  obtain ⟨⟨Q, p1⟩, p2, p3⟩ := hp
  replace p1 : WOK now bu le (dc S) (dc T) Q (bu * (255 - now % 256)) := p1
  have q1 : 0 < ((dc T).length : Int) ∧ ((dc T).length : Int) ≤ 4096 := ⟨by have := p1.ct; omega, by have := p1.ct; omega⟩
  have hle := p1.le_rng
  have htm := p1.tm
  by_cases hM : now = 1099511627776
  · refine ⟨?_, ?_, ?_, ?_, ?_, ?_, ?_, ?_, trivial⟩
    all_goals simp (disch := omega) only [ob_15, q_15_0, q_15_1, q_15_2, q_15_3, q_15_4, q_15_5, q_15_6, q_15_7, es_15, e15, fn15, nowT, ewA, ewL, preC, binI, dvI, shI, cmpB, env, bi, List.headD, List.tail, List.map, Nat.reduceAdd, ewB, ewM, if_true, if_false, implies_true, forall_const, ne_eq, reduceCtorEq, Int.reduceEq, Int.reduceLT, Int.reduceLE, Int.reduceToNat, Int.reduceAdd, Int.reduceSub, Int.reduceMul, Int.reduceNeg, Int.reduceBEq, Nat.reduceLT, Nat.reduceEqDiff, hSS, h1, h2, h3, h4, y46 q1, hM]
  · have w1 : IntKind.i64.wrap (now + 1) = now + 1 := i64w (by omega) (by omega)
    have eZ : jnZ [S, now, bu, le, mo, T] = [S, now + 1, bu, le, mo, T, (now + 1) % 512] := rfl
    obtain ⟨S1, eS⟩ : ∃ S1, S1 = fn50 0 [S, now + 1, bu, le, mo, T, (now + 1) % 512] := ⟨_, rfl⟩
    obtain ⟨T1, eT⟩ : ∃ T1, T1 = fn50 5 [S, now + 1, bu, le, mo, T, (now + 1) % 512] := ⟨_, rfl⟩
    have eY : jnY [S, now, bu, le, mo, T] = [S1, now + 1, bu, le, mo, T1, 0] := by rw [eS, eT]; rfl
    have em : (now + 1).tmod 512 = (now + 1) % 512 := Int.tmod_eq_emod_of_nonneg (by omega)
    obtain ⟨k, hk⟩ : ∃ k, k = ((now + 1) % 512).toNat := ⟨_, rfl⟩
    have dS : dc S1 = (if gC (dc S) k 2 = 0 then dc S else joinS (dc S) k) := by
      rw [eS]
      show dc (if gC (dc S) ((now + 1) % 512).toNat 2 = 0 then S else cd (joinS (dc S) ((now + 1) % 512).toNat)) = _
      rw [← hk]
      split
      · rfl
      · exact dc_cd _
    have dT : dc T1 = (if gC (dc S) k 2 = 0 then dc T else joinT (dc T) (gC (dc S) k 0) (gC (dc S) 2048 1)) := by
      rw [eT]
      show dc (if gC (dc S) ((now + 1) % 512).toNat 2 = 0 then T else cd (joinT (dc T) (gC (dc S) ((now + 1) % 512).toNat 0) (gC (dc S) 2048 1))) = _
      rw [← hk]
      split
      · rfl
      · exact dc_cd _
    have hb := p1.bg
    obtain ⟨j1, _, _⟩ := p1.join (by omega) hk
    rw [← dS, ← dT] at j1
    have y50 : e50.pre [S, now + 1, bu, le, mo, T, (now + 1) % 512] := ⟨Q, wl_of p1, Int.emod_nonneg _ (by decide), by show (now + 1) % 512 < 2048; omega⟩
    have yT : leTi.ent.pre [S1, now + 1, bu, le, mo, T1, 0] := ⟨⟨_, _, j1⟩, Int.le_refl _, by show 0 ≤ bu; omega⟩
    have q1' : fnTi 1 [S1, now + 1, bu, le, mo, T1, 0] = now + 1 := rfl
    have q2 : fnTi 2 [S1, now + 1, bu, le, mo, T1, 0] = bu := rfl
    have q3 : fnTi 3 [S1, now + 1, bu, le, mo, T1, 0] = le := rfl
    have q4 : fnTi 4 [S1, now + 1, bu, le, mo, T1, 0] = mo := rfl
    have r6 : 0 ≤ fnTi 6 [S1, now + 1, bu, le, mo, T1, 0] ∧ fnTi 6 [S1, now + 1, bu, le, mo, T1, 0] ≤ bu := by
      have e : fnTi 6 [S1, now + 1, bu, le, mo, T1, 0] = 0 + (mvN (now + 1) (bu - 0).toNat (dc S1, dc T1)).2 := rfl
      have := mvN_nn (bu - 0).toNat (dc S1, dc T1) (now := now + 1)
      have := mvN_le (bu - 0).toNat (dc S1, dc T1) (now := now + 1)
      rw [e]; omega
    obtain ⟨g, hg⟩ : ∃ g, g = fnTi 6 [S1, now + 1, bu, le, mo, T1, 0] := ⟨_, rfl⟩
    rw [← hg] at r6
    replace p2 : 0 ≤ mo := p2
    replace p3 : mo ≤ 1152921504606846976 := p3
    have w6 : IntKind.i64.wrap g = g := i64w (by omega) (by omega)
    have w7 : IntKind.i64.wrap (mo + g) = mo + g := i64w (by omega) (by omega)
    have k1 : fn50 1 [S, now + 1, bu, le, mo, T, (now + 1) % 512] = now + 1 := rfl
    have k2 : fn50 2 [S, now + 1, bu, le, mo, T, (now + 1) % 512] = bu := rfl
    have k3' : fn50 3 [S, now + 1, bu, le, mo, T, (now + 1) % 512] = le := rfl
    have k4 : fn50 4 [S, now + 1, bu, le, mo, T, (now + 1) % 512] = mo := rfl
    refine ⟨?_, ?_, ?_, ?_, ?_, ?_, ?_, ?_, trivial⟩
    all_goals simp (disch := omega) only [ob_15, q_15_0, q_15_1, q_15_2, q_15_3, q_15_4, q_15_5, q_15_6, q_15_7, es_15, e15, fn15, nowT, eY, e15fn, e50fn, ewA, ewL, preC, binI, dvI, shI, cmpB, env, bi, List.headD, List.tail, List.map, Nat.reduceAdd, ewB, ewM, if_true, if_false, implies_true, forall_const, ne_eq, reduceCtorEq, Int.reduceEq, Int.reduceLT, Int.reduceLE, Int.reduceToNat, Int.reduceAdd, Int.reduceSub, Int.reduceMul, Int.reduceNeg, Int.reduceBEq, Nat.reduceLT, Nat.reduceEqDiff, hSS, h1, h2, h3, h4, y46 q1, hM, w1, em, y50, ← eS, ← eT, k1, k2, k3', k4, yT, q1', q2, q3, q4, ← hg, w6, w7]
    omega

end
end Go.Proofs.Ytfhheeoejncfgaa.Ew

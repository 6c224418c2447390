/- Layer 17: a queue and one of the reference agree. -/
import Derived.Test.YtmolkkphnehgcaaQz
import Derived.Test.YtmolkkphnehgcaaQn
set_option linter.unusedVariables false
set_option linter.unusedSimpArgs false
namespace Go.Proofs.Ytmolkkphnehgcaa.Ew
open Go Go.RowKit
noncomputable section
--P Try.prog G0

def p36 : List Bool := [true,true,true,true,true,true,false]
def o34 : Sh := .obj 34 [i64, i64]
def o78 : Sh := .obj 78 [i64, i64]
/-- The same queue: time, timers, map; time, timers of the reference. -/
def RX (xs : List Int) : Prop := RQ (env xs 0) (dc (env xs 1)) (dc (env xs 2)) (dc (env xs 4)) ∧ env xs 3 = env xs 0
def pre36p (xs : List Int) : Prop := RX xs ∧ dc (env xs 5) = dc (env xs 1) ∧ env xs 6 = env xs 9 ∧ env xs 7 = env xs 10 ∧ env xs 8 = env xs 11 ∧ env xs 12 = env xs 14 ∧ env xs 13 = env xs 15
def le36 : LEnt := ⟨⟨9136, 999999, [qo, o66, ltm, o34, bS, o78, bS, i64, bS, i64, bS], [], [0, 1, 2, 3, 4, 5, 6, 7], .tup [], fun _ _ => 0, pre36p⟩, [0, 4, 7, 8, 9, 10, 11, 12, 13, 14, 15], [], 6 :: (List.range 40).map (· + 40), [.nrm], 81, []⟩
def e36 : Ent := ⟨36, 36, [qo, rq, i64], [], [0, 1, 2, 3], .lt .b 1, fun _ _ => 0, RX⟩
def cT0 : Ctx := ⟨[e48, e47, e17, e19], []⟩
def cT1 : Ctx := ⟨[e14, e23, e45, e25, e46], [(36, p36, le36)]⟩

def ob_C36 : E := (.and (.and (.app .b 48 1000000 [(.var (.i .i64) 3), (.var .x 4)]) (.and (.app .b 47 1000000 [(.var .x 5), (.app .x 48 0 [(.var (.i .i64) 3), (.var .x 4)])]) (.and (.or (.not (.app .b 47 0 [(.var .x 5), (.app .x 48 0 [(.var (.i .i64) 3), (.var .x 4)])])) (.app .b 17 1000000 [(.var (.i .i64) 0), (.var .x 1), (.var .x 2)])) (.or (.or (.not (.app .b 47 0 [(.var .x 5), (.app .x 48 0 [(.var (.i .i64) 3), (.var .x 4)])])) (.cmp .neq (.app (.i .i64) 17 0 [(.var (.i .i64) 0), (.var .x 1), (.var .x 2)]) (.var (.i .i64) 3))) (.app .b 19 1000000 [(.var (.i .i64) 0), (.var .x 1), (.var .x 2)]))))) (.not (.or (.or (.or (.or (.or (.or (.not (.app .b 47 0 [(.var .x 5), (.app .x 48 0 [(.var (.i .i64) 3), (.var .x 4)])])) (.cmp .neq (.app (.i .i64) 17 0 [(.var (.i .i64) 0), (.var .x 1), (.var .x 2)]) (.var (.i .i64) 3))) (.cmp .neq (.app (.i .i64) 19 0 [(.var (.i .i64) 0), (.var .x 1), (.var .x 2)]) (.app (.i .i64) 0 0 [(.var .x 4)]))) (.not (.and (.cmp .eql (.var (.i .i64) 6) (.var (.i .i64) 9)) (.cmp .eql (.var (.i .i64) 7) (.var (.i .i64) 10))))) (.not (.cmp .eql (.var .b 8) (.var .b 11)))) (.cmp .neq (.var (.i .i64) 12) (.var (.i .i64) 14))) (.not (.cmp .eql (.var .b 13) (.var .b 15))))))
def es_C36 : List E := []
theorem ev_C36 : evP Try.prog G0 (tabOf cT0.fs) (evFn Try.prog G0 (tabOf cT0.fs) (ltOf cT0.ls) 40 10) 40 (subP cT0.ls 36 p36) le36 (codeAtF Try.prog 36 p36) = some (ob_C36, es_C36) := by kernel_rfl

def ob_36 : E := (.and (.app .b 14 1000000 [(.var (.i .i64) 0), (.var .x 1), (.var .x 2)]) (.and (.app .b 23 1000000 [(.var (.i .i64) 0), (.var .x 1), (.var .x 2)]) (.and (.app .b 45 1000000 [(.var (.i .i64) 3), (.var .x 4)]) (.and (.app .b 25 1000000 [(.var (.i .i64) 0), (.var .x 1), (.var .x 2), (.var (.i .i64) 5)]) (.and (.app .b 46 1000000 [(.var (.i .i64) 3), (.var .x 4), (.var (.i .i64) 5)]) (.app .b 9136 1000000 [(.var (.i .i64) 0), (.var .x 1), (.var .x 2), (.var (.i .i64) 3), (.var .x 4), (.app .x 14 0 [(.var (.i .i64) 0), (.var .x 1), (.var .x 2)]), (.app (.i .i64) 23 0 [(.var (.i .i64) 0), (.var .x 1), (.var .x 2)]), (.app (.i .i64) 23 1 [(.var (.i .i64) 0), (.var .x 1), (.var .x 2)]), (.app .b 23 2 [(.var (.i .i64) 0), (.var .x 1), (.var .x 2)]), (.app (.i .i64) 45 0 [(.var (.i .i64) 3), (.var .x 4)]), (.app (.i .i64) 45 1 [(.var (.i .i64) 3), (.var .x 4)]), (.app .b 45 2 [(.var (.i .i64) 3), (.var .x 4)]), (.app (.i .i64) 25 0 [(.var (.i .i64) 0), (.var .x 1), (.var .x 2), (.var (.i .i64) 5)]), (.app .b 25 1 [(.var (.i .i64) 0), (.var .x 1), (.var .x 2), (.var (.i .i64) 5)]), (.app (.i .i64) 46 0 [(.var (.i .i64) 3), (.var .x 4), (.var (.i .i64) 5)]), (.app .b 46 1 [(.var (.i .i64) 3), (.var .x 4), (.var (.i .i64) 5)])]))))))
def es_36 : List E := []
theorem ev_36 : evE Try.prog G0 (tabOf cT1.fs) (ltOf cT1.ls) 40 10 e36 = some (ob_36, es_36) := by kernel_rfl


theorem cTok : Ctx.OK Try.prog G0 ⟨[e47, e48, e45, e46, e14, e23, e25, e17, e19], []⟩ := by
  have h1 : Ctx.OK Try.prog G0 ⟨e47 :: e46 :: e45 :: e48 :: e25 :: cE.fs, []⟩ := ((((cEok.addF ok25 rfl).addF ok48 rfl).addF ok45 rfl).addF ok46 rfl).addF ok47 rfl
  exact h1.sub rfl (by simp [cE]) (by simp)

theorem cT0ok : cT0.OK Try.prog G0 := cTok.sub rfl (by simp [cT0]) (by simp [cT0])

theorem RQ.len {n : Int} {T M L : RL} (h : RQ n T M L) : (L.length : Int) ≤ 4096 := by
  rw [h.p.length_eq]; exact h.q.len

theorem dlM_none {M : RL} {i : Int} (h : hasM M i = false) : dlM M i = 0 := by
  unfold dlM
  cases hf : M.find? (fun r => r.take [i].length == [i]) with
  | none => rfl
  | some r =>
    have : hasM M i = true := List.any_eq_true.2 ⟨r, List.mem_of_find?_eq_some hf, by have g := List.find?_some hf; exact g⟩
    rw [h] at this; cases this

theorem RQ.preQ {n : Int} {T M L : RL} {c : Int} (h : RQ n T M L) (e : dc c = L) : preQ [n, c] := by
  have := h.len
  have ht := h.q.tim
  show preR (dc c) ∧ disT (dc c) ∧ timB n
  rw [e]
  exact ⟨⟨h.row, by unfold capR; omega⟩, h.dis, ht⟩

set_option maxHeartbeats 4000000 in
theorem pi36 : ItemOK Try.prog G0 36 p36 le36 := by
  refine cT0ok.pieceP mixed ?_ ev_C36 _ rfl _ rfl ?_
  · exact ⟨_, _, _, Try.func36, rfl, rfl⟩
  intro xs hf hp
  obtain ⟨l, hl, hF⟩ := ctx_P (l0 := cT0.l)
  show ob_C36.tt cT0.l.F _ = true ∧ outsP le36.ent.fn _ cT0.l.F _ _ _ _
  rw [hl]
  have F17_0 : ∀ xs, l.F 17 0 xs = e17.fn 0 xs := (hF e17 (by rfl) (by decide)).1 0 rfl
  have P17 := (hF e17 (by rfl) (by decide)).2
  replace P17 : ∀ xs, (i2b (K.b.norm (l.F 17 1000000 xs)) = true) = _ := P17
  have F19_0 : ∀ xs, l.F 19 0 xs = e19.fn 0 xs := (hF e19 (by rfl) (by decide)).1 0 rfl
  have P19 := (hF e19 (by rfl) (by decide)).2
  replace P19 : ∀ xs, (i2b (K.b.norm (l.F 19 1000000 xs)) = true) = _ := P19
  have F47_0 : ∀ xs, l.F 47 0 xs = e47.fn 0 xs := (hF e47 (by rfl) (by decide)).1 0 rfl
  have P47 := (hF e47 (by rfl) (by decide)).2
  replace P47 : ∀ xs, (i2b (K.b.norm (l.F 47 1000000 xs)) = true) = _ := P47
  have F48_0 : ∀ xs, l.F 48 0 xs = e48.fn 0 xs := (hF e48 (by rfl) (by decide)).1 0 rfl
  have P48 := (hF e48 (by rfl) (by decide)).2
  replace P48 : ∀ xs, (i2b (K.b.norm (l.F 48 1000000 xs)) = true) = _ := P48
  obtain ⟨now, tc, mc, n, L, l, a, b, i, a', b', i', d, k, d', k', rfl⟩ : ∃ x0 x1 x2 x3 x4 x5 x6 x7 x8 x9 x10 x11 x12 x13 x14 x15, xs = [x0, x1, x2, x3, x4, x5, x6, x7, x8, x9, x10, x11, x12, x13, x14, x15] := by
    have := fits_length hf
    match xs, this with
    | [x0, x1, x2, x3, x4, x5, x6, x7, x8, x9, x10, x11, x12, x13, x14, x15], _ => exact ⟨_, _, _, _, _, _, _, _, _, _, _, _, _, _, _, _, rfl⟩
  obtain ⟨h0, h1, h2, h3, h4, h5, h6, h7, h8, h9, h10, h11, h12, h13, h14, h15, _⟩ := hf
  simp only [norm_i, norm_x] at h0 h3 h6 h7 h9 h10 h12 h14
  obtain ⟨⟨p1, p2⟩, p3, p4, p5, p6, p7, p8⟩ := hp
  simp only [ewA, ewL, preC, binI, dvI, shI, cmpB, env, bi, List.headD, List.tail, List.map, Nat.reduceAdd] at p1 p2 p3 p4 p5 p6 p7 p8
  have hlen := p1.len
  have hl2 := p1.q.len
  have hs := p1.sort
  have e48' : e48.fn 0 [now, L] = cd (dc tc) := by show cd (sortT (dc L)) = _; rw [hs]
  subst p2 p4 p5 p6 p7 p8
  have hll : (dc L).length = (dc tc).length := p1.p.length_eq
  refine ⟨?_, trivial⟩
  simp (disch := omega) only [ob_C36, ewA, ewL, preC, binI, dvI, shI, cmpB, env, bi, List.headD, List.tail, List.map, Nat.reduceAdd, ewB, ewM, if_true, if_false, implies_true, forall_const, ne_eq, reduceCtorEq, Int.reduceEq, Int.reduceLT, Int.reduceLE, Int.reduceToNat, Int.reduceAdd, Int.reduceSub, Int.reduceMul, Int.reduceNeg, Int.reduceBEq, Nat.reduceLT, Nat.reduceEqDiff, F17_0, P17, F19_0, P19, F47_0, P47, F48_0, P48, h0, h6, h7, h12, e17, e19, e48', hll]
  have y47 : e47.pre [l, cd (dc tc)] := by
    show ((dc l).length : Int) < cap8 ∧ ((dc (cd (dc tc))).length : Int) < cap8 ∧ rowsOK tmK (dc l) ∧ rowsOK tmK (dc (cd (dc tc)))
    rw [p3, dc_cd]; unfold cap8; exact ⟨by omega, by omega, p1.q.row, p1.q.row⟩
  exact ⟨⟨p1.preQ rfl, y47⟩, by show i2b (K.b.norm (b2i (dc l == dc (cd (dc tc))))) = true; rw [p3, dc_cd, beq_self_eq_true]; rfl⟩

theorem cT1ok : cT1.OK Try.prog G0 := (cTok.addL pi36 rfl).sub rfl (by simp [cT1]) (by simp [cT1])

theorem ok36 : EntryOK Try.prog G0 e36 := cT1ok.entryP mixed ev_36 _ rfl _ rfl fun xs hf hp => by
  obtain ⟨l, hl, hF⟩ := ctx_P (l0 := cT1.l)
  show ob_36.tt cT1.l.F _ = true ∧ outsP e36.fn _ cT1.l.F _ _ _ _
  rw [hl]
  have F14_0 : ∀ xs, l.F 14 0 xs = e14.fn 0 xs := (hF e14 (by rfl) (by decide)).1 0 rfl
  have P14 := (hF e14 (by rfl) (by decide)).2
  replace P14 : ∀ xs, (i2b (K.b.norm (l.F 14 1000000 xs)) = true) = _ := P14
  have F23_0 : ∀ xs, l.F 23 0 xs = e23.fn 0 xs := (hF e23 (by rfl) (by decide)).1 0 rfl
  have F23_1 : ∀ xs, l.F 23 1 xs = e23.fn 1 xs := (hF e23 (by rfl) (by decide)).1 1 rfl
  have F23_2 : ∀ xs, l.F 23 2 xs = e23.fn 2 xs := (hF e23 (by rfl) (by decide)).1 2 rfl
  have P23 := (hF e23 (by rfl) (by decide)).2
  replace P23 : ∀ xs, (i2b (K.b.norm (l.F 23 1000000 xs)) = true) = _ := P23
  have F25_0 : ∀ xs, l.F 25 0 xs = e25.fn 0 xs := (hF e25 (by rfl) (by decide)).1 0 rfl
  have F25_1 : ∀ xs, l.F 25 1 xs = e25.fn 1 xs := (hF e25 (by rfl) (by decide)).1 1 rfl
  have P25 := (hF e25 (by rfl) (by decide)).2
  replace P25 : ∀ xs, (i2b (K.b.norm (l.F 25 1000000 xs)) = true) = _ := P25
  have F45_0 : ∀ xs, l.F 45 0 xs = e45.fn 0 xs := (hF e45 (by rfl) (by decide)).1 0 rfl
  have F45_1 : ∀ xs, l.F 45 1 xs = e45.fn 1 xs := (hF e45 (by rfl) (by decide)).1 1 rfl
  have F45_2 : ∀ xs, l.F 45 2 xs = e45.fn 2 xs := (hF e45 (by rfl) (by decide)).1 2 rfl
  have P45 := (hF e45 (by rfl) (by decide)).2
  replace P45 : ∀ xs, (i2b (K.b.norm (l.F 45 1000000 xs)) = true) = _ := P45
  have F46_0 : ∀ xs, l.F 46 0 xs = e46.fn 0 xs := (hF e46 (by rfl) (by decide)).1 0 rfl
  have F46_1 : ∀ xs, l.F 46 1 xs = e46.fn 1 xs := (hF e46 (by rfl) (by decide)).1 1 rfl
  have P46 := (hF e46 (by rfl) (by decide)).2
  replace P46 : ∀ xs, (i2b (K.b.norm (l.F 46 1000000 xs)) = true) = _ := P46
  have P9136 := (hF le36.ent (by rfl) (by decide)).2
  replace P9136 : ∀ xs, (i2b (K.b.norm (l.F 9136 1000000 xs)) = true) = _ := P9136
  match xs, hf with
  | [now, tc, mc, n, L, id], hf =>
    obtain ⟨h0, h1, h2, h3, h4, h5, _⟩ := hf
    simp only [norm_i, norm_x] at h0 h3 h5
    obtain ⟨p1, p2⟩ := hp
    simp only [ewA, ewL, preC, binI, dvI, shI, cmpB, env, bi, List.headD, List.tail, List.map, Nat.reduceAdd] at p1 p2
    subst p2
    refine ⟨?_, trivial⟩
    simp (disch := omega) only [ob_36, ewA, ewL, preC, binI, dvI, shI, cmpB, env, bi, List.headD, List.tail, List.map, Nat.reduceAdd, ewB, ewM, if_true, if_false, implies_true, forall_const, ne_eq, reduceCtorEq, Int.reduceEq, Int.reduceLT, Int.reduceLE, Int.reduceToNat, Int.reduceAdd, Int.reduceSub, Int.reduceMul, Int.reduceNeg, Int.reduceBEq, Nat.reduceLT, Nat.reduceEqDiff, F14_0, P14, F23_0, F23_1, F23_2, P23, F25_0, F25_1, P25, F45_0, F45_1, F45_2, P45, F46_0, F46_1, P46, P9136, h0, h5]
    have z0 : e45.fn 0 [n, L] = e23.fn 0 [n, tc, mc] := by show ((sortT (dc L)).getD 0 []).getD 0 0 = _; rw [p1.sort]; rfl
    have z1 : e45.fn 1 [n, L] = e23.fn 1 [n, tc, mc] := by show ((sortT (dc L)).getD 0 []).getD 1 0 = _; rw [p1.sort]; rfl
    have z2 : e45.fn 2 [n, L] = e23.fn 2 [n, tc, mc] := by show b2i (decide ((sortT (dc L)).length ≠ 0)) = _; rw [p1.sort]; rfl
    have z3 : e46.fn 0 [n, L, id] = e25.fn 0 [n, tc, mc, id] := by
      show dlL (dc L) id = dlM (dc mc) id
      cases hh : hasM (dc mc) id
      · rw [p1.dl0 hh, dlM_none hh]
      · exact (p1.dl hh).symm
    have z4 : e46.fn 1 [n, L, id] = e25.fn 1 [n, tc, mc, id] := by show b2i (hasL (dc L) id) = b2i (hasM (dc mc) id); rw [p1.has]
    rw [z0, z1, z2, z3, z4]
    exact ⟨p1.q, p1.q, p1.preQ rfl, trivial, (p1.preQ (c := L) rfl).1, ⟨p1, rfl⟩, rfl, rfl, rfl, rfl, rfl, rfl⟩

end
end Go.Proofs.Ytmolkkphnehgcaa.Ew

/- Texts that the claim needs, set narrow. -/
import Derived.Test.Ytnockichpnaoeaat4
set_option linter.unusedVariables false
set_option linter.unusedSimpArgs false
namespace Go.Proofs.Ytnockichpnaoeaa.Ew
open Go Go.RowKit
noncomputable section
def intK : List K := [.i .i64]
def lio : Sh := .lst 3 (Row.ofKs intK) true
def SW (xs : List Int) : RL := dc (env xs 0)
def TW (xs : List Int) : RL := dc (env xs 5)
def WX (xs : List Int) : Prop := (∃ Q, WOK (env xs 1) (env xs 2) (env xs 3) (SW xs) (TW xs) Q (env xs 2 * (255 - env xs 1 % 256))) /\ 0 <= env xs 4 /\ env xs 4 <= 1152921504606846976
def lenOK (xs : List Int) : Prop := 0 < lenT xs /\ lenT xs <= 4096
def e18 : Ent := ⟨18, 35, [wsh], [], [0, 1], i64, fun _ xs => env xs 1, lenOK⟩
def e16 : Ent := ⟨16, 46, [wsh], [], [0, 1], i64, fun _ xs => gC (SW xs) 2048 2, fun xs => lenOK xs /\ rowsOK k3 (SW xs) /\ (SW xs).length = 2049⟩
abbrev riW (xs : List Int) : Prop := 0 <= env xs 6 /\ env xs 6 < lenT xs
def fn29 (j : Nat) (xs : List Int) : Int := match j with
 | 0 => if riW xs then gC (TW xs) (idW xs) 4 else 0
 | _ => b2i (decide (riW xs) && decide (gC (TW xs) (idW xs) 4 ≠ 0))
def preR (xs : List Int) : Prop := lenOK xs /\ rowsOK k5 (TW xs)
def e29 : Ent := ⟨29, 37, [wsh, i64], [], [0, 1], .tup [i64, bS], fn29, preR⟩
def dpW (now : Int) (p : RL × RL) (i : Nat) : RL × RL := (dropS p.1 (locI now p.2 i).toNat (gC p.2 i 2) (gC p.2 i 3), dropT p.2 i)
def ptW (now d : Int) (p : RL × RL) (i : Nat) : RL × RL := (putS p.1 (kW now d).toNat i, putT p.2 i (lvF now d) (blk (lvF now d) d % 512) d (gC p.1 (kW now d).toNat 1))
def clW (now : Int) (p : RL × RL) (i : Nat) : RL × RL := if 0 < gC p.2 i 4 then dpW now p i else p
def armW (now d : Int) (p : RL × RL) (i : Nat) : RL × RL := ptW now d (clW now p i) i
abbrev okA (xs : List Int) : Prop := riW xs /\ env xs 1 < env xs 7 /\ env xs 7 <= env xs 1 + 2147483648
def fn14 (j : Nat) (xs : List Int) : Int := match j with
 | 0 => if okA xs then cd (armW (env xs 1) (env xs 7) (SW xs, TW xs) (idW xs)).1 else env xs 0
 | 1 => env xs 1
 | 2 => env xs 2
 | 3 => if okA xs then (if 0 < gC (TW xs) (idW xs) 4 then env xs 3 else env xs 3 + 1) else env xs 3
 | 4 => env xs 4
 | 5 => if okA xs then cd (armW (env xs 1) (env xs 7) (SW xs, TW xs) (idW xs)).2 else env xs 5
 | _ => if okA xs then 0 else 2
def e14 : Ent := ⟨14, 38, [wsh, i64, i64], [wob], [], i64, fn14, WX⟩
def fn24 (j : Nat) (xs : List Int) : Int := match j with
 | 0 => if riW xs /\ gC (TW xs) (idW xs) 4 ≠ 0 then cd (dpW (env xs 1) (SW xs, TW xs) (idW xs)).1 else env xs 0
 | 1 => env xs 1
 | 2 => env xs 2
 | 3 => if riW xs /\ gC (TW xs) (idW xs) 4 ≠ 0 then env xs 3 - 1 else env xs 3
 | 4 => env xs 4
 | 5 => if riW xs /\ gC (TW xs) (idW xs) 4 ≠ 0 then cd (dpW (env xs 1) (SW xs, TW xs) (idW xs)).2 else env xs 5
 | _ => if riW xs then (if gC (TW xs) (idW xs) 4 = 0 then 6 else 0) else 2
def e24 : Ent := ⟨24, 42, [wsh, i64], [wob], [], i64, fn24, WX⟩
def cF : Ctx := ⟨[e46, e47, e48, e49], []⟩
def Q3 : E := (.app .b 46 1000000 [(vX 0), (vI 1), (vI 2), (vI 3), (vI 4), (vX 5)])
def UR : List E := [(vI 1)]
theorem ev_18 : evE Try.prog G0 (Aj cF.fs) (ltOf cF.ls) 40 10 e18 = some (Q3, UR) := by kernel_rfl
def Q4 : E := (.and (.app .b 46 1000000 [(vX 0), (vI 1), (vI 2), (vI 3), (vI 4), (vX 5)]) (.cmp .lss (lI 2048) (aI 0 0 [(vX 0)])))
def US : List E := [(aI 0 1 [(vX 0), (lI 2048), (.lit .x 2)])]
theorem ev_16 : evE Try.prog G0 (Aj cF.fs) (ltOf cF.ls) 40 10 e16 = some (Q4, US) := by kernel_rfl
def Ld : E := (.not (.app .b 47 0 [(vX 0), (vI 1), (vI 2), (vI 3), (vI 4), (vX 5), (vI 6)]))
def Le : E := (.and (.cmp .geq (vI 6) (lI 0)) (.cmp .lss (vI 6) (aI 0 0 [(vX 5)])))
def IL : E := (.or Ld (.cmp .eql (aI 0 1 [(vX 5), (vI 6), (.lit .x 4)]) (lI 0)))
def MT : E := (.and (.and (.app .b 46 1000000 [(vX 0), (vI 1), (vI 2), (vI 3), (vI 4), (vX 5)]) (.and (.app .b 47 1000000 [(vX 0), (vI 1), (vI 2), (vI 3), (vI 4), (vX 5), (vI 6)]) (.or Ld Le))) (.or IL Le))
def Q5 : List E := [(.ite IL (lI 0) (aI 0 1 [(vX 5), (vI 6), (.lit .x 4)])), (.not IL)]
theorem ev_29 : evE Try.prog G0 (Aj cF.fs) (ltOf cF.ls) 40 10 e29 = some (MT, Q5) := by kernel_rfl
def Bz : E := (.or (.or (.not (.app .b 47 0 [(vX 0), (vI 1), (vI 2), (vI 3), (vI 4), (vX 5), (vI 6)])) (.cmp .leq (vI 7) (vI 1))) (.cmp .gtr (vI 7) (.bin .add .i64 (vI 1) (lI 2147483648))))
def BW : E := (.cmp .gtr (aI 0 1 [(vX 5), (vI 6), (.lit .x 4)]) (lI 0))
def GN : E := (.not BW)
def CO : E := (.ite BW (aX 48 0 [(vX 0), (vI 1), (vI 2), (vI 3), (vI 4), (vX 5), (vI 6)]) (vX 0))
def CP : E := (.ite BW (aI 48 1 [(vX 0), (vI 1), (vI 2), (vI 3), (vI 4), (vX 5), (vI 6)]) (vI 1))
def CQ : E := (.ite BW (aI 48 2 [(vX 0), (vI 1), (vI 2), (vI 3), (vI 4), (vX 5), (vI 6)]) (vI 2))
def CR : E := (.ite BW (aI 48 3 [(vX 0), (vI 1), (vI 2), (vI 3), (vI 4), (vX 5), (vI 6)]) (vI 3))
def CS : E := (.ite BW (aI 48 4 [(vX 0), (vI 1), (vI 2), (vI 3), (vI 4), (vX 5), (vI 6)]) (vI 4))
def CT : E := (.ite BW (aX 48 5 [(vX 0), (vI 1), (vI 2), (vI 3), (vI 4), (vX 5), (vI 6)]) (vX 5))
def Je : E := (.and (.and (.and (.app .b 46 1000000 [(vX 0), (vI 1), (vI 2), (vI 3), (vI 4), (vX 5)]) (.app .b 47 1000000 [(vX 0), (vI 1), (vI 2), (vI 3), (vI 4), (vX 5), (vI 6)])) (.or Bz (.and (.and (.and (.cmp .geq (vI 6) (lI 0)) (.cmp .lss (vI 6) (aI 0 0 [(vX 5)]))) (.or GN (.app .b 48 1000000 [(vX 0), (vI 1), (vI 2), (vI 3), (vI 4), (vX 5), (vI 6)]))) (.and (.ite BW BW GN) (.app .b 49 1000000 [CO, CP, CQ, CR, CS, CT, (vI 6), (vI 7)]))))) (.ite Bz Bz (.not Bz)))
def Lf : List E := [(.ite Bz (vX 0) (aX 49 0 [CO, CP, CQ, CR, CS, CT, (vI 6), (vI 7)])), (.ite Bz (vI 1) (aI 49 1 [CO, CP, CQ, CR, CS, CT, (vI 6), (vI 7)])), (.ite Bz (vI 2) (aI 49 2 [CO, CP, CQ, CR, CS, CT, (vI 6), (vI 7)])), (.ite Bz (vI 3) (aI 49 3 [CO, CP, CQ, CR, CS, CT, (vI 6), (vI 7)])), (.ite Bz (vI 4) (aI 49 4 [CO, CP, CQ, CR, CS, CT, (vI 6), (vI 7)])), (.ite Bz (vX 5) (aX 49 5 [CO, CP, CQ, CR, CS, CT, (vI 6), (vI 7)])), (.ite Bz (lI 2) (lI 0))]
theorem ev_14 : evE Try.prog G0 (Aj cF.fs) (ltOf cF.ls) 40 10 e14 = some (Je, Lf) := by kernel_rfl
def IM : E := (.app .b 47 0 [(vX 0), (vI 1), (vI 2), (vI 3), (vI 4), (vX 5), (vI 6)])
def GO : E := (.not IM)
def IP : E := (.cmp .eql (aI 0 1 [(vX 5), (vI 6), (.lit .x 4)]) (lI 0))
def BX : E := (.or GO IP)
def Lg : E := (.and (.and (.and (.app .b 46 1000000 [(vX 0), (vI 1), (vI 2), (vI 3), (vI 4), (vX 5)]) (.and (.app .b 47 1000000 [(vX 0), (vI 1), (vI 2), (vI 3), (vI 4), (vX 5), (vI 6)]) (.or GO (.and (.cmp .geq (vI 6) (lI 0)) (.cmp .lss (vI 6) (aI 0 0 [(vX 5)])))))) (.or (.not (.and IM (.not IP))) (.app .b 48 1000000 [(vX 0), (vI 1), (vI 2), (vI 3), (vI 4), (vX 5), (vI 6)]))) (.ite BX BX (.not BX)))
def MU : List E := [(.ite BX (vX 0) (aX 48 0 [(vX 0), (vI 1), (vI 2), (vI 3), (vI 4), (vX 5), (vI 6)])), (.ite BX (vI 1) (aI 48 1 [(vX 0), (vI 1), (vI 2), (vI 3), (vI 4), (vX 5), (vI 6)])), (.ite BX (vI 2) (aI 48 2 [(vX 0), (vI 1), (vI 2), (vI 3), (vI 4), (vX 5), (vI 6)])), (.ite BX (vI 3) (aI 48 3 [(vX 0), (vI 1), (vI 2), (vI 3), (vI 4), (vX 5), (vI 6)])), (.ite BX (vI 4) (aI 48 4 [(vX 0), (vI 1), (vI 2), (vI 3), (vI 4), (vX 5), (vI 6)])), (.ite BX (vX 5) (aX 48 5 [(vX 0), (vI 1), (vI 2), (vI 3), (vI 4), (vX 5), (vI 6)])), (.ite BX (.ite GO (lI 2) (lI 6)) (lI 0))]
theorem ev_24 : evE Try.prog G0 (Aj cF.fs) (ltOf cF.ls) 40 10 e24 = some (Lg, MU) := by kernel_rfl
theorem cFok : cF.OK Try.prog G0 := (((Ctx.OK.nil.addF ok49 rfl).addF ok48 rfl).addF ok47 rfl).addF ok46 rfl
theorem y46 {S now bu le mo T : Int} (h : 0 < ((dc T).length : Int) /\ ((dc T).length : Int) <= 4096) : e46.pre [S, now, bu, le, mo, T] := h
theorem y47 {S now bu le mo T i : Int} (h : 0 < ((dc T).length : Int) /\ ((dc T).length : Int) <= 4096) : e47.pre [S, now, bu, le, mo, T, i] := h
theorem ok18 : EntryOK Try.prog G0 e18 := cFok.entryP Az ev_18 _ rfl _ rfl fun xs hf hp => by
 obtain ⟨l, hl, hF⟩ := AK (l0 := cF.l)
 show Q3.tt cF.l.F _ = true /\ Ax e18.fn _ cF.l.F _ _ _ _
 rw [hl]
 have F46 := FC (k := 46) rfl (hF e46 (by rfl) (by decide))
 have hSS := F46
 obtain ⟨S, now, bu, le, mo, T, rfl⟩ := Lc hf
 obtain ⟨h0, h1, h2, h3, h4, h5, _⟩ := hf
 simp only [An, A1] at h1 h2 h3 h4
 refine ⟨?_, ?_, trivial⟩
 ·simp (disch := omega) only [Q3, ewY, ewB, ewM, ewQ, reduceCtorEq, seval, hSS, h1, h2, h3, h4]
  exact y46 hp
 ·simp (disch := omega) only [UR, e18, ewY, ewB, ewM, ewQ, reduceCtorEq, seval, hSS, h1, h2, h3, h4]
theorem ok16 : EntryOK Try.prog G0 e16 := cFok.entryP Az ev_16 _ rfl _ rfl fun xs hf hp => by
 obtain ⟨l, hl, hF⟩ := AK (l0 := cF.l)
 show Q4.tt cF.l.F _ = true /\ Ax e16.fn _ cF.l.F _ _ _ _
 rw [hl]
 have F46 := FC (k := 46) rfl (hF e46 (by rfl) (by decide))
 have hSS := F46
 obtain ⟨S, now, bu, le, mo, T, rfl⟩ := Lc hf
 obtain ⟨h0, h1, h2, h3, h4, h5, _⟩ := hf
 simp only [An, A1] at h1 h2 h3 h4
 obtain ⟨p1, p2, p3⟩ := hp
 simp only [SW, ewA, ewL, preC, binI, dvI, shI, cmpB, env, bi, List.headD, List.tail, List.map, Nat.reduceAdd] at p2 p3
 have c2 := rowsC p2 (i := 2048) (j := 2) (by omega) rfl
 refine ⟨?_, ?_, trivial⟩
 ·simp (disch := omega) only [Q4, ewA, ewL, preC, binI, dvI, shI, cmpB, env, bi, List.headD, List.tail, List.map, Nat.reduceAdd, ewB, ewM, if_true, if_false, implies_true, forall_const, ne_eq, reduceCtorEq, Int.reduceEq, Int.reduceLT, Int.reduceLE, Int.reduceToNat, Int.reduceAdd, Int.reduceSub, Int.reduceMul, Int.reduceNeg, Int.reduceBEq, Nat.reduceLT, Nat.reduceEqDiff, hSS, h1, h2, h3, h4, p3]
  exact ⟨y46 p1, by omega⟩
 ·simp (disch := omega) only [US, e16, SW, ewA, ewL, preC, binI, dvI, shI, cmpB, env, bi, List.headD, List.tail, List.map, Nat.reduceAdd, ewB, ewM, if_true, if_false, implies_true, forall_const, ne_eq, reduceCtorEq, Int.reduceEq, Int.reduceLT, Int.reduceLE, Int.reduceToNat, Int.reduceAdd, Int.reduceSub, Int.reduceMul, Int.reduceNeg, Int.reduceBEq, Nat.reduceLT, Nat.reduceEqDiff, hSS, h1, h2, h3, h4, AF, c2]
theorem ok29 : EntryOK Try.prog G0 e29 := cFok.entryP Az ev_29 _ rfl _ rfl fun xs hf hp => by
 obtain ⟨l, hl, hF⟩ := AK (l0 := cF.l)
 show MT.tt cF.l.F _ = true /\ Ax e29.fn _ cF.l.F _ _ _ _
 rw [hl]
 have F46 := FC (k := 46) rfl (hF e46 (by rfl) (by decide))
 have F47 := FC (k := 47) rfl (hF e47 (by rfl) (by decide))
 have hSS := Jj F46 F47
 obtain ⟨S, now, bu, le, mo, T, i, rfl⟩ := Ex hf
 obtain ⟨h0, h1, h2, h3, h4, h5, h6, _⟩ := hf
 simp only [An, A1] at h1 h2 h3 h4 h6
 obtain ⟨p1, p2⟩ := hp
 have q1 : 0 < ((dc T).length : Int) /\ ((dc T).length : Int) <= 4096 := p1
 replace p2 : rowsOK k5 (dc T) := p2
 have f47 : e47.fn 0 [S, now, bu, le, mo, T, i] = b2i (decide (0 <= i) && decide (i < ((dc T).length : Int))) := rfl
 by_cases hr : 0 <= i /\ i < ((dc T).length : Int)
 ·have c4 := rowsC p2 (i := i.toNat) (j := 4) (by omega) rfl
  refine ⟨?_, ?_, ?_, trivial⟩
  all_goals simp (disch := omega) only [MT, Ld, Le, IL, Q5, e29, fn29, riW, lenT, TW, idW, ewY, ewB, ewM, ewQ, reduceCtorEq, seval, hSS, h1, h2, h3, h4, h6, y46 q1, y47 q1, f47, AF, c4, hr]
  ·by_cases hz : gC (dc T) i.toNat 4 = 0 <;> simp [hz]
  ·cases hz : (gC (dc T) i.toNat 4 == 0) <;> simp [bne, beq_iff_eq] at hz <;> simp [hz]
 ·have hr' : (0 <= i -> ((dc T).length : Int) <= i) := by omega
  refine ⟨?_, ?_, ?_, trivial⟩
  all_goals simp (disch := omega) only [MT, Ld, Le, IL, Q5, e29, fn29, riW, lenT, TW, idW, ewY, ewB, ewM, ewQ, reduceCtorEq, seval, hSS, h1, h2, h3, h4, h6, y46 q1, y47 q1, f47, AF, hr]
  have hb : (decide (0 <= i) && decide (i < ((dc T).length : Int))) = false := by simp; omega
  simp [hb]
theorem Q6 {S now bu le T : Int} {Q : Nat -> List Nat} {w : Int} (h : WOK now bu le (dc S) (dc T) Q w) : WL S T le Q :=
 ⟨h.rS, h.rT, ⟨h.ct.1, h.ct.2.1⟩, h.lk, h.le_rng⟩
theorem y48 {S now bu le mo T i w : Int} {Q : Nat -> List Nat} (h : WOK now bu le (dc S) (dc T) Q w) (hi : 0 <= i /\ i < ((dc T).length : Int)) (hd : 0 < gC (dc T) i.toNat 4) : e48.pre [S, now, bu, le, mo, T, i] :=
 ⟨Q, Q6 h, hi.1, hi.2, h.of (by show i.toNat < _; omega), h.inn i.toNat (by omega) hd⟩
theorem y49 {S now bu le mo T i d w : Int} {Q : Nat -> List Nat} (h : WOK now bu le (dc S) (dc T) Q w) (hi : 0 <= i /\ i < ((dc T).length : Int)) (hz : gC (dc T) i.toNat 4 = 0) (hd : 0 <= d /\ d <= 1101659111424) : e49.pre [S, now, bu, le, mo, T, i, d] :=
 ⟨Q, Q6 h, hi.1, hi.2, fun m hm => by
  have e : 0 < gC (dc T) i.toNat 4 := (h.out m _ hm).1
  omega, h.tm, hd⟩
theorem f47 {S now bu le mo T i : Int} : e47.fn 0 [S, now, bu, le, mo, T, i] = b2i (decide (0 <= i) && decide (i < ((dc T).length : Int))) := rfl
theorem MV {S now bu le mo T i : Int} : e48.fn 0 [S, now, bu, le, mo, T, i] = cd (dpW now (dc S, dc T) i.toNat).1 := rfl
theorem MW {S now bu le mo T i : Int} : e48.fn 1 [S, now, bu, le, mo, T, i] = now := rfl
theorem MX {S now bu le mo T i : Int} : e48.fn 2 [S, now, bu, le, mo, T, i] = bu := rfl
theorem MY {S now bu le mo T i : Int} : e48.fn 3 [S, now, bu, le, mo, T, i] = le - 1 := rfl
theorem MZ {S now bu le mo T i : Int} : e48.fn 4 [S, now, bu, le, mo, T, i] = mo := rfl
theorem M3 {S now bu le mo T i : Int} : e48.fn 5 [S, now, bu, le, mo, T, i] = cd (dpW now (dc S, dc T) i.toNat).2 := rfl
theorem Q7 {S now bu le mo T i d : Int} : e49.fn 0 [S, now, bu, le, mo, T, i, d] = cd (ptW now d (dc S, dc T) i.toNat).1 := rfl
theorem Q8 {S now bu le mo T i d : Int} : e49.fn 1 [S, now, bu, le, mo, T, i, d] = now := rfl
theorem Q9 {S now bu le mo T i d : Int} : e49.fn 2 [S, now, bu, le, mo, T, i, d] = bu := rfl
theorem Ra {S now bu le mo T i d : Int} : e49.fn 3 [S, now, bu, le, mo, T, i, d] = le + 1 := rfl
theorem Rb {S now bu le mo T i d : Int} : e49.fn 4 [S, now, bu, le, mo, T, i, d] = mo := rfl
theorem Rc {S now bu le mo T i d : Int} : e49.fn 5 [S, now, bu, le, mo, T, i, d] = cd (ptW now d (dc S, dc T) i.toNat).2 := rfl
theorem ok24 : EntryOK Try.prog G0 e24 := cFok.entryP Az ev_24 _ rfl _ rfl fun xs hf hp => by
 obtain ⟨l, hl, hF⟩ := AK (l0 := cF.l)
 show Lg.tt cF.l.F _ = true /\ Ax e24.fn _ cF.l.F _ _ _ _
 rw [hl]
 have F46 := FC (k := 46) rfl (hF e46 (by rfl) (by decide))
 have F47 := FC (k := 47) rfl (hF e47 (by rfl) (by decide))
 have F48 := FC (k := 48) rfl (hF e48 (by rfl) (by decide))
 have hSS := Jj F46 (Jj F47 F48)
 obtain ⟨S, now, bu, le, mo, T, i, rfl⟩ := Ex hf
 obtain ⟨h0, h1, h2, h3, h4, h5, h6, _⟩ := hf
 simp only [An, A1] at h1 h2 h3 h4 h6
 obtain ⟨⟨Q, p1⟩, p2, p3⟩ := hp
 replace p1 : WOK now bu le (dc S) (dc T) Q (bu * (255 - now % 256)) := p1
 have q1 : 0 < ((dc T).length : Int) /\ ((dc T).length : Int) <= 4096 := ⟨by have := p1.ct; omega, by have := p1.ct; omega⟩
 have hle := p1.le_rng
 by_cases hr : 0 <= i /\ i < ((dc T).length : Int)
 ·have c4 := rowsC p1.rT (i := i.toNat) (j := 4) (by omega) rfl
  have hdr := p1.dr i.toNat (by omega)
  by_cases hz : gC (dc T) i.toNat 4 = 0
  ·refine ⟨?_, ?_, ?_, ?_, ?_, ?_, ?_, ?_, trivial⟩
   all_goals simp (disch := omega) only [Lg, IM, GO, IP, BX, MU, e24, fn24, riW, lenT, SW, TW, idW, ewY, ewB, ewM, ewQ, reduceCtorEq, seval, hSS, h1, h2, h3, h4, h6, y46 q1, y47 q1, f47, AF, c4, hr, hz]
  ·have w3 : IntKind.i64.wrap (le - 1) = le - 1 := i64w (by omega) (by omega)
   have y := y48 (mo := mo) p1 hr (by omega)
   refine ⟨?_, ?_, ?_, ?_, ?_, ?_, ?_, ?_, trivial⟩
   all_goals simp (disch := omega) only [Lg, IM, GO, IP, BX, MU, e24, fn24, riW, lenT, SW, TW, idW, ewY, ewB, ewM, ewQ, reduceCtorEq, seval, hSS, h1, h2, h3, h4, h6, y46 q1, y47 q1, f47, AF, c4, hr, hz, y, w3, MV, MW, MX, MY, MZ, M3]
 ·refine ⟨?_, ?_, ?_, ?_, ?_, ?_, ?_, ?_, trivial⟩
  all_goals simp (disch := omega) only [Lg, IM, GO, IP, BX, MU, e24, fn24, riW, lenT, SW, TW, idW, ewY, ewB, ewM, ewQ, reduceCtorEq, seval, hSS, h1, h2, h3, h4, h6, y46 q1, y47 q1, f47, AF, hr]
  rw [if_pos (by omega)]
theorem ok14 : EntryOK Try.prog G0 e14 := cFok.entryP Az ev_14 _ rfl _ rfl fun xs hf hp => by
 obtain ⟨l, hl, hF⟩ := AK (l0 := cF.l)
 show Je.tt cF.l.F _ = true /\ Ax e14.fn _ cF.l.F _ _ _ _
 rw [hl]
 have F46 := FC (k := 46) rfl (hF e46 (by rfl) (by decide))
 have F47 := FC (k := 47) rfl (hF e47 (by rfl) (by decide))
 have F48 := FC (k := 48) rfl (hF e48 (by rfl) (by decide))
 have F49 := FC (k := 49) rfl (hF e49 (by rfl) (by decide))
 have hSS := Jj (Jj F46 F47) (Jj F48 F49)
 obtain ⟨S, now, bu, le, mo, T, i, d, rfl⟩ := QV hf
 obtain ⟨h0, h1, h2, h3, h4, h5, h6, h7, _⟩ := hf
 simp only [An, A1] at h1 h2 h3 h4 h6 h7
 obtain ⟨⟨Q, p1⟩, p2, p3⟩ := hp
 replace p1 : WOK now bu le (dc S) (dc T) Q (bu * (255 - now % 256)) := p1
 have q1 : 0 < ((dc T).length : Int) /\ ((dc T).length : Int) <= 4096 := ⟨by have := p1.ct; omega, by have := p1.ct; omega⟩
 have hle := p1.le_rng
 have htm := p1.tm
 have w7 : IntKind.i64.wrap (now + 2147483648) = now + 2147483648 := i64w (by omega) (by omega)
 by_cases hr : 0 <= i /\ i < ((dc T).length : Int)
 ·by_cases hd : now < d /\ d <= now + 2147483648
  ·have hk : okA [S, now, bu, le, mo, T, i, d] := ⟨hr, hd⟩
   have c4 := rowsC p1.rT (i := i.toNat) (j := 4) (by omega) rfl
   have hdr := p1.dr i.toNat (by omega)
   have g1 : ¬ d <= now := by omega
   have g2 : ¬ now + 2147483648 < d := by omega
   by_cases hz : 0 < gC (dc T) i.toNat 4
   ·have w3 : IntKind.i64.wrap (le - 1) = le - 1 := i64w (by omega) (by omega)
    have y := y48 (mo := mo) p1 hr hz
    obtain ⟨A, B, _, k1, k2, k3, k4⟩ := p1.drop (i := i.toNat) (by omega) hz
    obtain ⟨S1, eS⟩ : ∃ S1, S1 = cd (dpW now (dc S, dc T) i.toNat).1 := ⟨_, rfl⟩
    obtain ⟨T1, eT⟩ : ∃ T1, T1 = cd (dpW now (dc S, dc T) i.toNat).2 := ⟨_, rfl⟩
    have dS : dc S1 = (dpW now (dc S, dc T) i.toNat).1 := by rw [eS, Ab]
    have dT : dc T1 = (dpW now (dc S, dc T) i.toNat).2 := by rw [eT, Ab]
    have y' : e49.pre [S1, now, bu, le - 1, mo, T1, i, d] := by
     refine y49 (Q := _) (w := _) (by rw [dS, dT]; exact k1) (by rw [dT]; exact ⟨hr.1, by rw [show (dpW now (dc S, dc T) i.toNat).2.length = (dc T).length from k2]; exact hr.2⟩) (by rw [dT]; exact k4) (by omega)
    have w5 : IntKind.i64.wrap (le - 1 + 1) = le := by rw [i64w (by omega) (by omega)]; omega
    refine ⟨?_, ?_, ?_, ?_, ?_, ?_, ?_, ?_, trivial⟩
    all_goals simp (disch := omega) only [Je, Bz, BW, GN, CO, CP, CQ, CR, CS, CT, Lf, e14, fn14, riW, lenT, SW, TW, idW, armW, clW, ewY, ewB, ewM, ewQ, reduceCtorEq, seval, hSS, h1, h2, h3, h4, h6, h7, y46 q1, y47 q1, f47, AF, c4, hr, if_pos hk, hd.1, hd.2, g1, g2, hz, y, w3, w5, w7, MV, MW, MX, MY, MZ, M3, <- eS, <- eT, y', Q7, Q8, Q9, Ra, Rb, Rc, dS, dT]
    all_goals (try rfl)
   ·have e4 : gC (dc T) i.toNat 4 = 0 := by omega
    have y := y49 (mo := mo) (d := d) p1 hr e4 (by omega)
    have w5 : IntKind.i64.wrap (le + 1) = le + 1 := i64w (by omega) (by omega)
    refine ⟨?_, ?_, ?_, ?_, ?_, ?_, ?_, ?_, trivial⟩
    all_goals simp (disch := omega) only [Je, Bz, BW, GN, CO, CP, CQ, CR, CS, CT, Lf, e14, fn14, riW, lenT, SW, TW, idW, armW, clW, ewY, ewB, ewM, ewQ, reduceCtorEq, seval, hSS, h1, h2, h3, h4, h6, h7, y46 q1, y47 q1, f47, AF, c4, hr, if_pos hk, hd.1, hd.2, g1, g2, hz, y, w5, w7, Q7, Q8, Q9, Ra, Rb, Rc]
  ·have hk : ¬ okA [S, now, bu, le, mo, T, i, d] := fun h => hd h.2
   have hn : now < d -> now + 2147483648 < d := fun _ => by omega
   refine ⟨?_, ?_, ?_, ?_, ?_, ?_, ?_, ?_, trivial⟩
   all_goals simp (disch := omega) only [Je, Bz, BW, GN, CO, CP, CQ, CR, CS, CT, Lf, e14, fn14, riW, lenT, SW, TW, idW, ewY, ewB, ewM, ewQ, reduceCtorEq, seval, hSS, h1, h2, h3, h4, h6, h7, y46 q1, y47 q1, f47, AF, hr, hd, if_neg hk, w7]
   all_goals first | exact fun h => h | rw [if_pos hn]
 ·have hk : ¬ okA [S, now, bu, le, mo, T, i, d] := fun h => hr h.1
  refine ⟨?_, ?_, ?_, ?_, ?_, ?_, ?_, ?_, trivial⟩
  all_goals simp (disch := omega) only [Je, Bz, BW, GN, CO, CP, CQ, CR, CS, CT, Lf, e14, fn14, riW, lenT, SW, TW, idW, ewY, ewB, ewM, ewQ, reduceCtorEq, seval, hSS, h1, h2, h3, h4, h6, h7, y46 q1, y47 q1, f47, AF, hr, if_neg hk, w7]
def tkN (now : Int) : Nat -> RL × RL -> (RL × RL) × RL
 | 0, p => (p, [])
 | n + 1, p => if 0 < gC p.1 2048 2 then ((tkN now n (dpW now p (gC p.1 2048 0 - 1).toNat)).1, [gC p.1 2048 0 - 1] :: (tkN now n (dpW now p (gC p.1 2048 0 - 1).toNat)).2) else (p, [])
def nTk (xs : List Int) : Nat := (env xs 6 - ((dc (env xs 7)).length : Int)).toNat
def tkR (xs : List Int) : (RL × RL) × RL := tkN (env xs 1) (nTk xs) (SW xs, TW xs)
def fnTk (j : Nat) (xs : List Int) : Int := match j with
 | 0 => if (tkR xs).2 = [] then env xs 0 else cd (tkR xs).1.1
 | 1 => env xs 1
 | 2 => env xs 2
 | 3 => env xs 3 - ((tkR xs).2.length : Int)
 | 4 => env xs 4
 | 5 => if (tkR xs).2 = [] then env xs 5 else cd (tkR xs).1.2
 | _ => if (tkR xs).2 = [] then env xs 7 else cd (dc (env xs 7) ++ (tkR xs).2)
def preTk (xs : List Int) : Prop := (∃ Q w, WOK (env xs 1) (env xs 2) (env xs 3) (SW xs) (TW xs) Q w) /\ ((dc (env xs 7)).length : Int) + env xs 3 <= 8192
def pTk : List Bool := [true,true,true,false,false]
def leTk : LEnt := ⟨⟨9017, 999999, [wsh, i64, lio], [wob], [], .tup [lio], fnTk, preTk⟩, [0, 1, 6], [6], (List.range 29).map (· + 13), [.ex 1], 43, []⟩
def muTk (xs : List Int) : Nat := nTk xs
def pTi : List Bool := [true,true,true,true,true,false,false]
def nTi (xs : List Int) : Nat := (env xs 2 - env xs 6).toNat
def mvR (xs : List Int) : (RL × RL) × Int := mvN (env xs 1) (nTi xs) (SW xs, TW xs)
def fnTi (j : Nat) (xs : List Int) : Int := match j with
 | 0 => if (mvR xs).2 = 0 then env xs 0 else cd (mvR xs).1.1
 | 1 => env xs 1
 | 2 => env xs 2
 | 3 => env xs 3
 | 4 => env xs 4
 | 5 => if (mvR xs).2 = 0 then env xs 5 else cd (mvR xs).1.2
 | _ => env xs 6 + (mvR xs).2
def preTi (xs : List Int) : Prop := (∃ Q w, WOK (env xs 1) (env xs 2) (env xs 3) (SW xs) (TW xs) Q w) /\ 0 <= env xs 6 /\ env xs 6 <= env xs 2
def muTi (xs : List Int) : Nat := nTi xs
def leTi : LEnt := ⟨⟨9015, 999999, [wsh, i64], [wob], [], .tup [i64], fnTi, preTi⟩, [0, 4], [4], [5, 6] ++ (List.range 30).map (· + 35), [.ex 1], 74, []⟩
def pMv : List Bool := [true,true,true,true,true,false,false,false,true,false,false,true,true]
def fnMv (j : Nat) (xs : List Int) : Int := match j with
 | 0 => cd (mvW (env xs 1) (SW xs, TW xs)).1
 | 1 => env xs 1
 | 2 => env xs 2
 | 3 => env xs 3
 | 4 => env xs 4
 | _ => cd (mvW (env xs 1) (SW xs, TW xs)).2
def preMv (xs : List Int) : Prop := (∃ Q w, WOK (env xs 1) (env xs 2) (env xs 3) (SW xs) (TW xs) Q w) /\ wtF (SW xs) (env xs 1) = env xs 6 /\ env xs 6 ≠ 0
def leMv : LEnt := ⟨⟨9115, 999999, [wsh, i64], [wob], [], .tup [], fnMv, preMv⟩, [0, 5], [], 6 :: (List.range 18).map (· + 47), [.nrm], 74, []⟩
def cG : Ctx := ⟨[e48, e49, e51], []⟩
def cM : Ctx := ⟨[e48, e49], []⟩
def cN : Ctx := ⟨[e51], [(39, pMv, leMv)]⟩
def Ff : E := (.and (.cmp .lss (aI 0 0 [(vX 7)]) (vI 6)) (.cmp .gtr (aI 0 1 [(vX 0), (lI 2048), (.lit .x 2)]) (lI 0)))
def Bi : E := (.not Ff)
def BZ : E := (.bin .sub .i64 (aI 0 1 [(vX 0), (lI 2048), (.lit .x 0)]) (lI 1))
def BD : E := (aX 0 4 [(vX 7), (aX 0 3 [(aX 0 2 []), BZ])])
def B0 : E := (aX 48 0 [(vX 0), (vI 1), (vI 2), (vI 3), (vI 4), (vX 5), BZ])
def B1 : E := (aI 48 1 [(vX 0), (vI 1), (vI 2), (vI 3), (vI 4), (vX 5), BZ])
def B2 : E := (aI 48 2 [(vX 0), (vI 1), (vI 2), (vI 3), (vI 4), (vX 5), BZ])
def B3 : E := (aI 48 3 [(vX 0), (vI 1), (vI 2), (vI 3), (vI 4), (vX 5), BZ])
def B4 : E := (aI 48 4 [(vX 0), (vI 1), (vI 2), (vI 3), (vI 4), (vX 5), BZ])
def B5 : E := (aX 48 5 [(vX 0), (vI 1), (vI 2), (vI 3), (vI 4), (vX 5), BZ])
def IQ : E := (.and (.and (.and (.or (.not (.cmp .lss (aI 0 0 [(vX 7)]) (vI 6))) (.cmp .lss (lI 2048) (aI 0 0 [(vX 0)]))) (.or Bi (.and (.and (.cmp .lss (lI 2048) (aI 0 0 [(vX 0)])) (.cmp .leq (aX 0 0 [BD]) (.lit .x 17592186044416))) (.and (.cmp .lss (lI 2048) (aI 0 0 [(vX 0)])) (.app .b 48 1000000 [(vX 0), (vI 1), (vI 2), (vI 3), (vI 4), (vX 5), BZ]))))) (.or Bi (.app .b 9017 1000000 [B0, B1, B2, B3, B4, B5, (vI 6), BD]))) (.or (.not (.or Bi Ff)) (.ite Bi Bi Ff)))
def Lh : List E := [(.ite Bi (vX 0) (aX 9017 0 [B0, B1, B2, B3, B4, B5, (vI 6), BD])), (.ite Bi (vI 1) (aI 9017 1 [B0, B1, B2, B3, B4, B5, (vI 6), BD])), (.ite Bi (vI 2) (aI 9017 2 [B0, B1, B2, B3, B4, B5, (vI 6), BD])), (.ite Bi (vI 3) (aI 9017 3 [B0, B1, B2, B3, B4, B5, (vI 6), BD])), (.ite Bi (vI 4) (aI 9017 4 [B0, B1, B2, B3, B4, B5, (vI 6), BD])), (.ite Bi (vX 5) (aX 9017 5 [B0, B1, B2, B3, B4, B5, (vI 6), BD])), (.ite Bi (vX 7) (aX 9017 6 [B0, B1, B2, B3, B4, B5, (vI 6), BD]))]
theorem V6 : evL Try.prog G0 (Aj cG.fs) (evFn Try.prog G0 (Aj cG.fs) (ltOf cG.ls) 40 10) 40 (subL cG.ls 41 pTk) leTk (CI Try.prog 41 pTk) = some (IQ, Lh) := by kernel_rfl
def Dz : E := (aX 48 0 [(vX 0), (vI 1), (vI 2), (vI 3), (vI 4), (vX 5), (.bin .sub .i64 (vI 6) (lI 1))])
def DA : E := (aI 48 1 [(vX 0), (vI 1), (vI 2), (vI 3), (vI 4), (vX 5), (.bin .sub .i64 (vI 6) (lI 1))])
def DB : E := (aI 48 2 [(vX 0), (vI 1), (vI 2), (vI 3), (vI 4), (vX 5), (.bin .sub .i64 (vI 6) (lI 1))])
def DC : E := (aI 48 3 [(vX 0), (vI 1), (vI 2), (vI 3), (vI 4), (vX 5), (.bin .sub .i64 (vI 6) (lI 1))])
def DD : E := (aI 48 4 [(vX 0), (vI 1), (vI 2), (vI 3), (vI 4), (vX 5), (.bin .sub .i64 (vI 6) (lI 1))])
def DE : E := (aX 48 5 [(vX 0), (vI 1), (vI 2), (vI 3), (vI 4), (vX 5), (.bin .sub .i64 (vI 6) (lI 1))])
def DF : E := (aI 0 1 [(vX 5), (.bin .sub .i64 (vI 6) (lI 1)), (.lit .x 4)])
def Od : E := (.and (.and (.cmp .geq (.bin .sub .i64 (vI 6) (lI 1)) (lI 0)) (.cmp .lss (.bin .sub .i64 (vI 6) (lI 1)) (aI 0 0 [(vX 5)]))) (.and (.app .b 48 1000000 [(vX 0), (vI 1), (vI 2), (vI 3), (vI 4), (vX 5), (.bin .sub .i64 (vI 6) (lI 1))]) (.app .b 49 1000000 [Dz, DA, DB, DC, DD, DE, (.bin .sub .i64 (vI 6) (lI 1)), DF])))
def TA : List E := [(aX 49 0 [Dz, DA, DB, DC, DD, DE, (.bin .sub .i64 (vI 6) (lI 1)), DF]), (aI 49 1 [Dz, DA, DB, DC, DD, DE, (.bin .sub .i64 (vI 6) (lI 1)), DF]), (aI 49 2 [Dz, DA, DB, DC, DD, DE, (.bin .sub .i64 (vI 6) (lI 1)), DF]), (aI 49 3 [Dz, DA, DB, DC, DD, DE, (.bin .sub .i64 (vI 6) (lI 1)), DF]), (aI 49 4 [Dz, DA, DB, DC, DD, DE, (.bin .sub .i64 (vI 6) (lI 1)), DF]), (aX 49 5 [Dz, DA, DB, DC, DD, DE, (.bin .sub .i64 (vI 6) (lI 1)), DF])]
theorem V7 : evP Try.prog G0 (Aj cM.fs) (evFn Try.prog G0 (Aj cM.fs) (ltOf cM.ls) 40 10) 40 (subP cM.ls 39 pMv) leMv (BC Try.prog 39 pMv) = some (Od, TA) := by kernel_rfl
def B6 : E := (aI 51 0 [(vX 0), (vI 1), (vI 2), (vI 3), (vI 4), (vX 5)])
def Fg : E := (.cmp .eql B6 (lI 0))
def GP : E := (.and (.cmp .lss (vI 6) (vI 2)) (.not Fg))
def B7 : E := (aX 9115 0 [(vX 0), (vI 1), (vI 2), (vI 3), (vI 4), (vX 5), B6])
def B8 : E := (aI 9115 1 [(vX 0), (vI 1), (vI 2), (vI 3), (vI 4), (vX 5), B6])
def B9 : E := (aI 9115 2 [(vX 0), (vI 1), (vI 2), (vI 3), (vI 4), (vX 5), B6])
def Ca : E := (aI 9115 3 [(vX 0), (vI 1), (vI 2), (vI 3), (vI 4), (vX 5), B6])
def Cb : E := (aI 9115 4 [(vX 0), (vI 1), (vI 2), (vI 3), (vI 4), (vX 5), B6])
def Cc : E := (aX 9115 5 [(vX 0), (vI 1), (vI 2), (vI 3), (vI 4), (vX 5), B6])
def Bp : E := (.or (.not (.cmp .lss (vI 6) (vI 2))) (.and (.cmp .lss (vI 6) (vI 2)) Fg))
def IT : E := (.and (.and (.or (.not (.cmp .lss (vI 6) (vI 2))) (.and (.app .b 51 1000000 [(vX 0), (vI 1), (vI 2), (vI 3), (vI 4), (vX 5)]) (.or Fg (.app .b 9115 1000000 [(vX 0), (vI 1), (vI 2), (vI 3), (vI 4), (vX 5), B6])))) (.or (.not GP) (.app .b 9015 1000000 [B7, B8, B9, Ca, Cb, Cc, (.bin .add .i64 (vI 6) (lI 1))]))) (.or (.not (.or Bp GP)) (.ite Bp Bp (.not Bp))))
def Ll : List E := [(.ite Bp (vX 0) (aX 9015 0 [B7, B8, B9, Ca, Cb, Cc, (.bin .add .i64 (vI 6) (lI 1))])), (.ite Bp (vI 1) (aI 9015 1 [B7, B8, B9, Ca, Cb, Cc, (.bin .add .i64 (vI 6) (lI 1))])), (.ite Bp (vI 2) (aI 9015 2 [B7, B8, B9, Ca, Cb, Cc, (.bin .add .i64 (vI 6) (lI 1))])), (.ite Bp (vI 3) (aI 9015 3 [B7, B8, B9, Ca, Cb, Cc, (.bin .add .i64 (vI 6) (lI 1))])), (.ite Bp (vI 4) (aI 9015 4 [B7, B8, B9, Ca, Cb, Cc, (.bin .add .i64 (vI 6) (lI 1))])), (.ite Bp (vX 5) (aX 9015 5 [B7, B8, B9, Ca, Cb, Cc, (.bin .add .i64 (vI 6) (lI 1))])), (.ite Bp (vI 6) (aI 9015 6 [B7, B8, B9, Ca, Cb, Cc, (.bin .add .i64 (vI 6) (lI 1))]))]
theorem V8 : evL Try.prog G0 (Aj cN.fs) (evFn Try.prog G0 (Aj cN.fs) (ltOf cN.ls) 40 10) 40 (subL cN.ls 39 pTi) leTi (CI Try.prog 39 pTi) = some (IT, Ll) := by kernel_rfl
theorem cGok : cG.OK Try.prog G0 := ((Ctx.OK.nil.addF ok51 rfl).addF ok49 rfl).addF ok48 rfl
theorem cMok : cM.OK Try.prog G0 := (Ctx.OK.nil.addF ok49 rfl).addF ok48 rfl
theorem TB {S T : RL} {now : Int} {i : Nat} (h : wtF S now = (i : Int) + 1) : mvW now (S, T) = ptW now (gC T i 4) (dpW now (S, T) i) i := by
 have e : (wtF S now - 1).toNat = i := by omega
 show (putS (dropS S (locI now T (wtF S now - 1).toNat).toNat (gC T (wtF S now - 1).toNat 2) (gC T (wtF S now - 1).toNat 3)) _ _, _) = _
 rw [e]; rfl
theorem okMv : Bd Try.prog G0 39 pMv leMv := by
 refine cMok.pieceP Az ?_ V7 _ rfl _ rfl ?_
 ·exact ⟨_, _, _, Try.func39, rfl, rfl⟩
 intro xs hf hp
 obtain ⟨l, hl, hF⟩ := AK (l0 := cM.l)
 show Od.tt cM.l.F _ = true /\ Ax leMv.ent.fn _ cM.l.F _ _ _ _
 rw [hl]
 have F48 := FC (k := 48) rfl (hF e48 (by rfl) (by decide))
 have F49 := FC (k := 49) rfl (hF e49 (by rfl) (by decide))
 have hSS := Jj F48 F49
 obtain ⟨S, now, bu, le, mo, T, k, rfl⟩ := Ex hf
 obtain ⟨h0, h1, h2, h3, h4, h5, h6, _⟩ := hf
 simp only [An, A1] at h1 h2 h3 h4 h6
 obtain ⟨⟨Q, w, p1⟩, p2, p3⟩ := hp
 replace p1 : WOK now bu le (dc S) (dc T) Q w := p1
 replace p2 : wtF (dc S) now = k := p2
 replace p3 : k ≠ 0 := p3
 obtain ⟨i, g1, g2, g3⟩ := p1.wait_pos (by rw [p2]; exact p3)
 have hle := p1.le_rng
 have hct := p1.ct
 have htm := p1.tm
 have hdr := p1.dr i g2
 have hwi := (CN.1 g3).1
 have ek : k - 1 = (i : Int) := by omega
 have wk : IntKind.i64.wrap (k - 1) = (i : Int) := by rw [i64w (by omega) (by omega)]; exact ek
 have en : ((i : Int)).toNat = i := by omega
 have c4 := rowsC p1.rT (i := i) (j := 4) (by omega) rfl
 have w3 : IntKind.i64.wrap (le - 1) = le - 1 := i64w (by omega) (by omega)
 have w5 : IntKind.i64.wrap (le - 1 + 1) = le := by rw [i64w (by omega) (by omega)]; omega
 have y := y48 (mo := mo) (i := (i : Int)) p1 (by omega) (by rw [en]; omega)
 obtain ⟨A, B, _, k1, k2, k3, k4⟩ := p1.drop (i := i) g2 (by omega)
 obtain ⟨S1, eS⟩ : ∃ S1, S1 = cd (dpW now (dc S, dc T) i).1 := ⟨_, rfl⟩
 obtain ⟨T1, eT⟩ : ∃ T1, T1 = cd (dpW now (dc S, dc T) i).2 := ⟨_, rfl⟩
 have dS : dc S1 = (dpW now (dc S, dc T) i).1 := by rw [eS, Ab]
 have dT : dc T1 = (dpW now (dc S, dc T) i).2 := by rw [eT, Ab]
 have y' : e49.pre [S1, now, bu, le - 1, mo, T1, (i : Int), gC (dc T) i 4] := by
  refine y49 (Q := _) (w := _) (by rw [dS, dT]; exact k1) (by rw [dT]; exact ⟨by omega, by rw [show (dpW now (dc S, dc T) i).2.length = (dc T).length from k2]; omega⟩) (by rw [dT, en]; exact k4) (by omega)
 have e1 : leMv.ent.fn = fnMv := rfl
 have em := TB (T := dc T) (by rw [p2]; omega : wtF (dc S) now = (i : Int) + 1)
 refine ⟨?_, ?_, ?_, ?_, ?_, ?_, ?_, trivial⟩
 all_goals simp (disch := omega) only [Od, Dz, DA, DB, DC, DD, DE, DF, TA, e1, fnMv, em, SW, TW, ewY, ewB, ewM, ewQ, reduceCtorEq, seval, hSS, h1, h2, h3, h4, h6, wk, AF, c4, en, y, w3, w5, MV, MW, MX, MY, MZ, M3, <- eS, <- eT, y', Q7, Q8, Q9, Ra, Rb, Rc, dS, dT]
 omega
theorem cNok : cN.OK Try.prog G0 := Ctx.OK.addL (c := ⟨[e51], []⟩) (Ctx.OK.nil.addF ok51 rfl) okMv rfl
theorem Lm {now : Int} : ∀ (n : Nat) (p : RL × RL), 0 <= (mvN now n p).2
 | 0, _ => Int.le_refl _
 | n + 1, p => by
   by_cases hz : wtF p.1 now = 0
   ·simp only [mvN, if_pos hz]; exact Int.le_refl _
   ·simp only [mvN, if_neg hz]
    have := Lm n (mvW now p) (now := now)
    omega
theorem Oe {now : Int} : ∀ (n : Nat) (p : RL × RL), (mvN now n p).2 <= (n : Int)
 | 0, _ => Int.le_refl _
 | n + 1, p => by
   by_cases hz : wtF p.1 now = 0
   ·simp only [mvN, if_pos hz]; omega
   ·simp only [mvN, if_neg hz]
    have := Oe n (mvW now p) (now := now)
    omega
theorem Og {now : Int} : ∀ {n : Nat} {p : RL × RL}, (mvN now n p).2 = 0 -> (mvN now n p).1 = p
 | 0, _, _ => rfl
 | n + 1, p, h => by
   by_cases hz : wtF p.1 now = 0
   ·simp only [mvN, if_pos hz]
   ·simp only [mvN, if_neg hz] at h
    have := Lm n (mvW now p) (now := now)
    omega
theorem y51 {S now bu le mo T w : Int} {Q : Nat -> List Nat} (h : WOK now bu le (dc S) (dc T) Q w) : e51.pre [S, now, bu, le, mo, T] := ⟨h.rS, h.lk.sw.1, h.tm⟩
theorem okTi : Bd Try.prog G0 39 pTi leTi := by
 refine cNok.loopP Az muTi rfl ?_ V8 _ rfl _ rfl ?_
 ·exact ⟨_, _, _, Try.func39, rfl, rfl⟩
 intro n xs hf hp hmu
 obtain ⟨l, hl, hS, hF⟩ := Td leTi muTi n cN.l (by decide)
 show IT.tt (Tabs.F (enL leTi muTi n :: cN.l)) _ = true /\ Ax leTi.ent.fn _ (Tabs.F (enL leTi muTi n :: cN.l)) _ _ _ _
 rw [hl]
 have F51 := FC (k := 51) rfl (hF e51 (by rfl) (by decide) (by decide))
 have F9015 := FC (k := 9015) rfl hS
 have F9115 := FC (k := 9115) rfl (hF leMv.ent (by rfl) (by decide) (by decide))
 have hSS := Jj F51 (Jj F9015 F9115)
 obtain ⟨S, now, bu, le, mo, T, k, rfl⟩ := Ex hf
 obtain ⟨h0, h1, h2, h3, h4, h5, h6, _⟩ := hf
 simp only [An, A1] at h1 h2 h3 h4 h6
 obtain ⟨⟨Q, w, p1⟩, p2, p3⟩ := hp
 replace p1 : WOK now bu le (dc S) (dc T) Q w := p1
 replace p2 : 0 <= k := p2
 replace p3 : k <= bu := p3
 replace hmu : (bu - k).toNat <= n := hmu
 have hbg := p1.bg
 have e1 : leTi.ent.fn = fnTi := rfl
 have e2 : leTi.ent.pre = preTi := rfl
 have f51 : e51.fn 0 [S, now, bu, le, mo, T] = wtF (dc S) now := rfl
 have y := y51 (mo := mo) p1
 have w1 : IntKind.i64.wrap (k + 1) = k + 1 := i64w (by omega) (by omega)
 by_cases hk : k < bu
 ·have en : nTi [S, now, bu, le, mo, T, k] = nTi [S, now, bu, le, mo, T, k + 1] + 1 := by
   show (bu - k).toNat = (bu - (k + 1)).toNat + 1
   omega
  by_cases hz : wtF (dc S) now = 0
  ·have hr : mvR [S, now, bu, le, mo, T, k] = ((dc S, dc T), 0) := by
    unfold mvR; rw [en]; exact if_pos hz
   refine ⟨?_, ?_, ?_, ?_, ?_, ?_, ?_, ?_, trivial⟩
   all_goals simp (disch := omega) only [IT, B6, Fg, GP, B7, B8, B9, Ca, Cb, Cc, Bp, Ll, e1, fnTi, hr, ewY, ewB, ewM, ewQ, reduceCtorEq, seval, hSS, h1, h2, h3, h4, h6, hk, f51, hz, y]
   all_goals omega
  ·obtain ⟨i, g1, g2, g3⟩ := p1.wait_pos hz
   obtain ⟨Q', m1, m2, _⟩ := p1.move g1 g2 g3
   have ym : leMv.ent.pre [S, now, bu, le, mo, T, wtF (dc S) now] := ⟨⟨Q, w, p1⟩, rfl, hz⟩
   have wz : IntKind.i64.wrap (wtF (dc S) now) = wtF (dc S) now := by rw [g1]; have := p1.ct; exact i64w (by omega) (by omega)
   obtain ⟨S1, eS⟩ : ∃ S1, S1 = cd (mvW now (dc S, dc T)).1 := ⟨_, rfl⟩
   obtain ⟨T1, eT⟩ : ∃ T1, T1 = cd (mvW now (dc S, dc T)).2 := ⟨_, rfl⟩
   have dS : dc S1 = (mvW now (dc S, dc T)).1 := by rw [eS, Ab]
   have dT : dc T1 = (mvW now (dc S, dc T)).2 := by rw [eT, Ab]
   have m0 : leMv.ent.fn 0 [S, now, bu, le, mo, T, wtF (dc S) now] = S1 := eS.symm
   have m5 : leMv.ent.fn 5 [S, now, bu, le, mo, T, wtF (dc S) now] = T1 := eT.symm
   have n1 : leMv.ent.fn 1 [S, now, bu, le, mo, T, wtF (dc S) now] = now := rfl
   have n2 : leMv.ent.fn 2 [S, now, bu, le, mo, T, wtF (dc S) now] = bu := rfl
   have n3 : leMv.ent.fn 3 [S, now, bu, le, mo, T, wtF (dc S) now] = le := rfl
   have n4 : leMv.ent.fn 4 [S, now, bu, le, mo, T, wtF (dc S) now] = mo := rfl
   have yl : leTi.ent.pre [S1, now, bu, le, mo, T1, k + 1] := ⟨⟨Q', w - 1, by
    show WOK now bu le (dc S1) (dc T1) _ _
    rw [dS, dT]; exact m1⟩, by show 0 <= k + 1; omega, by show k + 1 <= bu; omega⟩
   have hr : mvR [S, now, bu, le, mo, T, k] = ((mvR [S1, now, bu, le, mo, T1, k + 1]).1, (mvR [S1, now, bu, le, mo, T1, k + 1]).2 + 1) := by
    have hs : mvR [S1, now, bu, le, mo, T1, k + 1] = mvN now (nTi [S, now, bu, le, mo, T, k + 1]) (mvW now (dc S, dc T)) := by
     show mvN now _ (dc S1, dc T1) = _
     rw [dS, dT]; rfl
    rw [hs]; unfold mvR; rw [en]; exact if_neg hz
   obtain ⟨R, hR⟩ : ∃ R, R = mvR [S1, now, bu, le, mo, T1, k + 1] := ⟨_, rfl⟩
   have hnn : 0 <= R.2 := by rw [hR]; exact Lm _ _
   have hle : R.2 <= (bu - (k + 1)).toNat := by rw [hR]; exact Oe _ _
   have hst : R.2 = 0 -> R.1 = (dc S1, dc T1) := fun h => by rw [hR] at h ⊢; exact Og h
   have q0 : leTi.ent.fn 0 [S1, now, bu, le, mo, T1, k + 1] = cd R.1.1 := by
    show (if (mvR [S1, now, bu, le, mo, T1, k + 1]).2 = 0 then S1 else cd (mvR [S1, now, bu, le, mo, T1, k + 1]).1.1) = _
    rw [<- hR]
    by_cases hc : R.2 = 0
    ·rw [if_pos hc, hst hc, dS, eS]
    ·rw [if_neg hc]
   have q5 : leTi.ent.fn 5 [S1, now, bu, le, mo, T1, k + 1] = cd R.1.2 := by
    show (if (mvR [S1, now, bu, le, mo, T1, k + 1]).2 = 0 then T1 else cd (mvR [S1, now, bu, le, mo, T1, k + 1]).1.2) = _
    rw [<- hR]
    by_cases hc : R.2 = 0
    ·rw [if_pos hc, hst hc, dT, eT]
    ·rw [if_neg hc]
   have q6 : leTi.ent.fn 6 [S1, now, bu, le, mo, T1, k + 1] = k + 1 + R.2 := by
    show k + 1 + (mvR [S1, now, bu, le, mo, T1, k + 1]).2 = _
    rw [<- hR]
   have q1 : leTi.ent.fn 1 [S1, now, bu, le, mo, T1, k + 1] = now := rfl
   have q2 : leTi.ent.fn 2 [S1, now, bu, le, mo, T1, k + 1] = bu := rfl
   have q3 : leTi.ent.fn 3 [S1, now, bu, le, mo, T1, k + 1] = le := rfl
   have q4 : leTi.ent.fn 4 [S1, now, bu, le, mo, T1, k + 1] = mo := rfl
   rw [<- hR] at hr
   have hr0 : ¬ (R.2 + 1 = 0) := by omega
   have w6 : IntKind.i64.wrap (k + 1 + R.2) = k + 1 + R.2 := i64w (by omega) (by omega)
   have ymu : muTi [S1, now, bu, le, mo, T1, k + 1] < muTi [S, now, bu, le, mo, T, k] := by
    show nTi _ < nTi _
    rw [en]; exact Nat.lt_succ_self _
   refine ⟨?_, ?_, ?_, ?_, ?_, ?_, ?_, ?_, trivial⟩
   all_goals simp (disch := omega) only [IT, B6, Fg, GP, B7, B8, B9, Ca, Cb, Cc, Bp, Ll, e1, fnTi, hr, hr0, ewY, ewB, ewM, ewQ, reduceCtorEq, seval, hSS, h1, h2, h3, h4, h6, hk, f51, hz, y, ym, wz, w1, m0, n1, n2, n3, n4, m5, yl, q0, q1, q2, q3, q4, q5, q6, w6]
   all_goals (first | exact Nat.lt_of_lt_of_le ymu hmu | omega)
 ·have hr : mvR [S, now, bu, le, mo, T, k] = ((dc S, dc T), 0) := by
   unfold mvR
   rw [show nTi [S, now, bu, le, mo, T, k] = 0 by show (bu - k).toNat = 0; omega]; rfl
  refine ⟨?_, ?_, ?_, ?_, ?_, ?_, ?_, ?_, trivial⟩
  all_goals simp (disch := omega) only [IT, B6, Fg, GP, B7, B8, B9, Ca, Cb, Cc, Bp, Ll, e1, fnTi, hr, ewY, ewB, ewM, ewQ, reduceCtorEq, seval, hSS, h1, h2, h3, h4, h6, hk, f51, y]
  all_goals omega
theorem Oh {now : Int} : ∀ {n : Nat} {p : RL × RL}, (tkN now n p).2 = [] -> (tkN now n p).1 = p
 | 0, _, _ => rfl
 | n + 1, p, h => by
   by_cases hz : 0 < gC p.1 2048 2
   ·simp only [tkN, if_pos hz] at h
    exact absurd h (by simp)
   ·simp only [tkN, if_neg hz]
theorem IU {now bu : Int} : ∀ (n : Nat) (p : RL × RL) (Q : Nat -> List Nat) (le w : Int), WOK now bu le p.1 p.2 Q w ->
 ∃ Q', WOK now bu (le - ((tkN now n p).2.length : Int)) (tkN now n p).1.1 (tkN now n p).1.2 Q' w /\ (tkN now n p).2 = ((Q 2048).take n).map (fun i : Nat => [(i : Int)]) /\ Q' 2048 = (Q 2048).drop n /\
   (tkN now n p).1.2.length = p.2.length /\ (∀ y, y ∉ (Q 2048).take n -> gC (tkN now n p).1.2 y 0 = gC p.2 y 0 /\ gC (tkN now n p).1.2 y 1 = gC p.2 y 1 /\ gC (tkN now n p).1.2 y 4 = gC p.2 y 4) /\
   (∀ y ∈ (Q 2048).take n, gC (tkN now n p).1.2 y 4 = 0)
 | 0, p, Q, le, w, h => ⟨Q, by simpa [tkN] using h, by simp [tkN], by simp, rfl, fun _ _ => ⟨rfl, rfl, rfl⟩, by simp⟩
 | n + 1, p, Q, le, w, h => by
   obtain ⟨b0, _, b2⟩ := h.lk.hd 2048 (by decide)
   cases hq : Q 2048 with
   | nil =>
     have e : tkN now (n + 1) p = (p, []) := if_neg (by rw [b2, hq]; decide)
     rw [e]
     exact ⟨Q, by simpa using h, by simp, by simpa using hq, rfl, fun _ _ => ⟨rfl, rfl, rfl⟩, by simp⟩
   | cons i r =>
     have hm : i ∈ Q 2048 := by rw [hq]; simp
     have hi := h.lk.qc _ i hm
     obtain ⟨o1, o2⟩ := h.out _ i hm
     have hb : gC p.1 2048 0 - 1 = (i : Int) := by rw [b0, hq]; show (i : Int) + 1 - 1 = _; omega
     have hz : 0 < gC p.1 2048 2 := by rw [b2, hq]; simp
     have en : ((i : Int)).toNat = i := by omega
     obtain ⟨A, B, g1, k1, k2, k3, k4⟩ := h.drop hi o1
     rw [o2] at g1
     have hnd := h.lk.nd 2048
     have hA : A = [] := by
      cases A with
      | nil => rfl
      | cons a A' =>
        exfalso
        rw [hq] at g1
        have ea : i = a := by injection g1
        have hm2 : r = A' ++ i :: B := by injection g1
        rw [hq, hm2] at hnd
        exact (List.nodup_cons.1 hnd).1 (by simp)
     subst hA
     have hB : r = B := by rw [hq] at g1; injection g1
     subst hB
     have e : tkN now (n + 1) p = ((tkN now n (dpW now p i)).1, [(i : Int)] :: (tkN now n (dpW now p i)).2) := by
      show (if 0 < gC p.1 2048 2 then _ else _) = _
      rw [if_pos hz, hb, en]
     obtain ⟨Q', q1, q2, q3, q4, q5, q6⟩ := IU n (dpW now p i) (uQ Q (locI now p.2 i).toNat ([] ++ r)) (le - 1) w k1
     have eu : uQ Q (locI now p.2 i).toNat ([] ++ r) 2048 = r := by simp [uQ, o2]
     rw [eu] at q2 q3 q5 q6
     rw [e]
     have hir : i ∉ r := by rw [hq] at hnd; exact (List.nodup_cons.1 hnd).1
     refine ⟨Q', ?_, ?_, q3, q4.trans k2, ?_, ?_⟩
     ·show WOK now bu (le - (([(i : Int)] :: (tkN now n (dpW now p i)).2).length : Int)) _ _ _ _
      rw [show le - (([(i : Int)] :: (tkN now n (dpW now p i)).2).length : Int) = le - 1 - ((tkN now n (dpW now p i)).2.length : Int) by simp only [List.length_cons]; omega]
      exact q1
     ·show [(i : Int)] :: _ = _
      rw [q2]; rfl
     ·intro y hy
      have hy' : y ≠ i /\ y ∉ r.take n := by simpa [List.take_succ_cons] using hy
      obtain ⟨u0, u1, u4⟩ := q5 y hy'.2
      obtain ⟨v0, v1, v4⟩ := k3 y hy'.1
      exact ⟨u0.trans v0, u1.trans v1, u4.trans v4⟩
     ·intro y hy
      have hy' : y = i \/ y ∈ r.take n := by simpa [List.take_succ_cons] using hy
      by_cases hc : y ∈ r.take n
      ·exact q6 y hc
      ·have hyi : y = i := hy'.resolve_right hc
       obtain ⟨_, _, u4⟩ := q5 y hc
       exact u4.trans (by rw [hyi]; exact k4)
theorem okTk : Bd Try.prog G0 41 pTk leTk := by
 refine cGok.loopP Az muTk rfl ?_ V6 _ rfl _ rfl ?_
 ·exact ⟨_, _, _, Try.func41, rfl, rfl⟩
 intro n xs hf hp hmu
 obtain ⟨l, hl, hS, hF⟩ := Td leTk muTk n cG.l (by decide)
 show IQ.tt (Tabs.F (enL leTk muTk n :: cG.l)) _ = true /\ Ax leTk.ent.fn _ (Tabs.F (enL leTk muTk n :: cG.l)) _ _ _ _
 rw [hl]
 have F48 := FC (k := 48) rfl (hF e48 (by rfl) (by decide) (by decide))
 have F9017 := FC (k := 9017) rfl hS
 have hSS := Jj F48 F9017
 obtain ⟨S, now, bu, le, mo, T, k, O, rfl⟩ := QV hf
 obtain ⟨h0, h1, h2, h3, h4, h5, h6, h7, _⟩ := hf
 simp only [An, A1] at h1 h2 h3 h4 h6
 obtain ⟨⟨Q, w, p1⟩, p2⟩ := hp
 replace p1 : WOK now bu le (dc S) (dc T) Q w := p1
 replace p2 : ((dc O).length : Int) + le <= 8192 := p2
 replace hmu : (k - ((dc O).length : Int)).toNat <= n := hmu
 have e1 : leTk.ent.fn = fnTk := rfl
 have hS : (dc S).length = 2049 := p1.lk.sw.1
 have hct := p1.ct
 have hle := p1.le_rng
 have c0 := rowsC p1.rS (i := 2048) (j := 0) (by omega) rfl
 have c2 := rowsC p1.rS (i := 2048) (j := 2) (by omega) rfl
 obtain ⟨b0, _, b2⟩ := p1.lk.hd 2048 (by decide)
 by_cases hk : ((dc O).length : Int) < k
 ·by_cases hz : 0 < gC (dc S) 2048 2
  ·obtain ⟨i, r, hq⟩ : ∃ i r, Q 2048 = i :: r := by
    cases hq : Q 2048 with
    | nil => rw [b2, hq] at hz; exact absurd hz (by decide)
    | cons i r => exact ⟨i, r, rfl⟩
   have hb : gC (dc S) 2048 0 = (i : Int) + 1 := by rw [b0, hq]; rfl
   have hm : i ∈ Q 2048 := by rw [hq]; simp
   have hi := p1.lk.qc _ i hm
   obtain ⟨o1, o2⟩ := p1.out _ i hm
   have en : ((i : Int)).toNat = i := by omega
   have eb : ((i : Int) + 1 - 1) = (i : Int) := by omega
   have wk : IntKind.i64.wrap (i : Int) = (i : Int) := i64w (by omega) (by omega)
   have y := y48 (mo := mo) (i := (i : Int)) p1 (by omega) (by rw [en]; omega)
   have hpos : 1 <= le := by
    have e := p1.ln
    have := GM (p := fun i => decide (0 < gC (dc T) i 4)) hi (decide_eq_true o1)
    rw [e]; unfold cntD; omega
   have w3 : IntKind.i64.wrap (le - 1) = le - 1 := i64w (by omega) (by omega)
   obtain ⟨A, B, _, k1, k2, k3, k4⟩ := p1.drop (i := i) hi o1
   obtain ⟨S1, eS⟩ : ∃ S1, S1 = cd (dpW now (dc S, dc T) i).1 := ⟨_, rfl⟩
   obtain ⟨T1, eT⟩ : ∃ T1, T1 = cd (dpW now (dc S, dc T) i).2 := ⟨_, rfl⟩
   obtain ⟨O1, eO⟩ : ∃ O1, O1 = cd (dc O ++ [[(i : Int)]]) := ⟨_, rfl⟩
   have dS : dc S1 = (dpW now (dc S, dc T) i).1 := by rw [eS, Ab]
   have dT : dc T1 = (dpW now (dc S, dc T) i).2 := by rw [eT, Ab]
   have dO : dc O1 = dc O ++ [[(i : Int)]] := by rw [eO, Ab]
   have lO : (dc O1).length = (dc O).length + 1 := by rw [dO]; simp
   have yl : leTk.ent.pre [S1, now, bu, le - 1, mo, T1, k, O1] := ⟨⟨_, w, by
    show WOK now bu (le - 1) (dc S1) (dc T1) _ _
    rw [dS, dT]; exact k1⟩, by show ((dc O1).length : Int) + (le - 1) <= 8192; omega⟩
   have eN : nTk [S, now, bu, le, mo, T, k, O] = nTk [S1, now, bu, le - 1, mo, T1, k, O1] + 1 := by
    show (k - ((dc O).length : Int)).toNat = (k - ((dc O1).length : Int)).toNat + 1
    omega
   have hr : tkR [S, now, bu, le, mo, T, k, O] = ((tkR [S1, now, bu, le - 1, mo, T1, k, O1]).1, [(i : Int)] :: (tkR [S1, now, bu, le - 1, mo, T1, k, O1]).2) := by
    have hs : tkR [S1, now, bu, le - 1, mo, T1, k, O1] = tkN now (nTk [S1, now, bu, le - 1, mo, T1, k, O1]) (dpW now (dc S, dc T) i) := by
     show tkN now _ (dc S1, dc T1) = _
     rw [dS, dT]
    rw [hs]; unfold tkR; rw [eN]
    refine (if_pos hz).trans ?_
    show ((tkN now _ (dpW now (dc S, dc T) (gC (dc S) 2048 0 - 1).toNat)).1, [gC (dc S) 2048 0 - 1] :: (tkN now _ (dpW now (dc S, dc T) (gC (dc S) 2048 0 - 1).toNat)).2) = _
    rw [hb, eb, en]
   obtain ⟨R, hR⟩ : ∃ R, R = tkR [S1, now, bu, le - 1, mo, T1, k, O1] := ⟨_, rfl⟩
   have hst : R.2 = [] -> R.1 = (dc S1, dc T1) := fun h => by rw [hR] at h ⊢; exact Oh h
   have q0 : leTk.ent.fn 0 [S1, now, bu, le - 1, mo, T1, k, O1] = cd R.1.1 := by
    show (if (tkR [S1, now, bu, le - 1, mo, T1, k, O1]).2 = [] then S1 else cd (tkR [S1, now, bu, le - 1, mo, T1, k, O1]).1.1) = _
    rw [<- hR]
    by_cases hc : R.2 = []
    ·rw [if_pos hc, hst hc, dS, eS]
    ·rw [if_neg hc]
   have q5 : leTk.ent.fn 5 [S1, now, bu, le - 1, mo, T1, k, O1] = cd R.1.2 := by
    show (if (tkR [S1, now, bu, le - 1, mo, T1, k, O1]).2 = [] then T1 else cd (tkR [S1, now, bu, le - 1, mo, T1, k, O1]).1.2) = _
    rw [<- hR]
    by_cases hc : R.2 = []
    ·rw [if_pos hc, hst hc, dT, eT]
    ·rw [if_neg hc]
   have q6 : leTk.ent.fn 6 [S1, now, bu, le - 1, mo, T1, k, O1] = cd (dc O ++ [(i : Int)] :: R.2) := by
    show (if (tkR [S1, now, bu, le - 1, mo, T1, k, O1]).2 = [] then O1 else cd (dc O1 ++ (tkR [S1, now, bu, le - 1, mo, T1, k, O1]).2)) = _
    rw [<- hR]
    by_cases hc : R.2 = []
    ·rw [if_pos hc, hc, eO]
    ·rw [if_neg hc, dO]; simp
   have q3 : leTk.ent.fn 3 [S1, now, bu, le - 1, mo, T1, k, O1] = le - 1 - (R.2.length : Int) := by
    show le - 1 - ((tkR [S1, now, bu, le - 1, mo, T1, k, O1]).2.length : Int) = _
    rw [<- hR]
   have q1 : leTk.ent.fn 1 [S1, now, bu, le - 1, mo, T1, k, O1] = now := rfl
   have q2 : leTk.ent.fn 2 [S1, now, bu, le - 1, mo, T1, k, O1] = bu := rfl
   have q4 : leTk.ent.fn 4 [S1, now, bu, le - 1, mo, T1, k, O1] = mo := rfl
   have hRl : (R.2.length : Int) <= le - 1 := by
    obtain ⟨_, t1, _⟩ := IU (nTk [S1, now, bu, le - 1, mo, T1, k, O1]) (dc S1, dc T1) _ (le - 1) w (by rw [dS, dT]; exact k1)
    have := t1.le_rng.1
    have e : R.2 = (tkN now (nTk [S1, now, bu, le - 1, mo, T1, k, O1]) (dc S1, dc T1)).2 := by rw [hR]; rfl
    rw [e]; omega
   have w6 : IntKind.i64.wrap (le - 1 - (R.2.length : Int)) = le - 1 - (R.2.length : Int) := i64w (by omega) (by omega)
   rw [<- hR] at hr
   have ymu : muTk [S1, now, bu, le - 1, mo, T1, k, O1] < muTk [S, now, bu, le, mo, T, k, O] := by
    show nTk _ < nTk _
    rw [eN]; exact Nat.lt_succ_self _
   refine ⟨?_, ?_, ?_, ?_, ?_, ?_, ?_, ?_, trivial⟩
   all_goals simp (disch := omega) only [IQ, Ff, Bi, BZ, BD, B0, B1, B2, B3, B4, B5, Lh, e1, fnTk, hr, ewA, ewL, preC, binI, dvI, shI, cmpB, env, bi, List.headD, List.tail, List.map, Nat.reduceAdd, ewB, ewM, if_true, if_false, implies_true, forall_const, ne_eq, reduceCtorEq, Int.reduceEq, Int.reduceLT, Int.reduceLE, Int.reduceToNat, Int.reduceAdd, Int.reduceSub, Int.reduceMul, Int.reduceNeg, Int.reduceBEq, Nat.reduceLT, Nat.reduceEqDiff, hSS, h1, h2, h3, h4, h6, hk, hz, AF, hS, c0, c2, hb, eb, en, wk, y, MV, MW, MX, MY, MZ, M3, <- eS, <- eT, <- eO, w3, yl, q0, q1, q2, q3, q4, q5, q6, w6]
   ·exact ⟨⟨by decide, ⟨by decide, by omega⟩, by decide⟩, Nat.lt_of_lt_of_le ymu hmu⟩
   ·rw [List.length_cons, i64w (by omega) (by omega)]; omega
  ·have hr : tkR [S, now, bu, le, mo, T, k, O] = ((dc S, dc T), []) := by
    unfold tkR
    rw [show nTk [S, now, bu, le, mo, T, k, O] = (nTk [S, now, bu, le, mo, T, k, O] - 1) + 1 by show (k - ((dc O).length : Int)).toNat = (k - ((dc O).length : Int)).toNat - 1 + 1; omega]
    exact if_neg hz
   refine ⟨?_, ?_, ?_, ?_, ?_, ?_, ?_, ?_, trivial⟩
   all_goals simp (disch := omega) only [IQ, Ff, Bi, BZ, BD, B0, B1, B2, B3, B4, B5, Lh, e1, fnTk, hr, ewA, ewL, preC, binI, dvI, shI, cmpB, env, bi, List.headD, List.tail, List.map, Nat.reduceAdd, ewB, ewM, if_true, if_false, implies_true, forall_const, ne_eq, reduceCtorEq, Int.reduceEq, Int.reduceLT, Int.reduceLE, Int.reduceToNat, Int.reduceAdd, Int.reduceSub, Int.reduceMul, Int.reduceNeg, Int.reduceBEq, Nat.reduceLT, Nat.reduceEqDiff, hSS, h1, h2, h3, h4, h6, hk, hz, AF, hS, c0, c2]
   ·decide
   ·show IntKind.i64.wrap (le - 0) = le
    rw [show le - 0 = le by omega]; exact h3
 ·have hr : tkR [S, now, bu, le, mo, T, k, O] = ((dc S, dc T), []) := by
   unfold tkR
   rw [show nTk [S, now, bu, le, mo, T, k, O] = 0 by show (k - ((dc O).length : Int)).toNat = 0; omega]; rfl
  refine ⟨?_, ?_, ?_, ?_, ?_, ?_, ?_, ?_, trivial⟩
  all_goals simp (disch := omega) only [IQ, Ff, Bi, BZ, BD, B0, B1, B2, B3, B4, B5, Lh, e1, fnTk, hr, ewA, ewL, preC, binI, dvI, shI, cmpB, env, bi, List.headD, List.tail, List.map, Nat.reduceAdd, ewB, ewM, if_true, if_false, implies_true, forall_const, ne_eq, reduceCtorEq, Int.reduceEq, Int.reduceLT, Int.reduceLE, Int.reduceToNat, Int.reduceAdd, Int.reduceSub, Int.reduceMul, Int.reduceNeg, Int.reduceBEq, Nat.reduceLT, Nat.reduceEqDiff, hSS, h1, h2, h3, h4, h6, hk, AF, hS, c0, c2]
  ·show IntKind.i64.wrap (le - 0) = le
   rw [show le - 0 = le by omega]; exact h3
def jnZ (xs : List Int) : List Int := [env xs 0, env xs 1 + 1, env xs 2, env xs 3, env xs 4, env xs 5, (env xs 1 + 1) % 512]
def jnY (xs : List Int) : List Int := [fn50 0 (jnZ xs), env xs 1 + 1, env xs 2, env xs 3, env xs 4, fn50 5 (jnZ xs), 0]
def fn15 (j : Nat) (xs : List Int) : Int := match j with
 | 0 => if env xs 1 = 1099511627776 then env xs 0 else fnTi 0 (jnY xs)
 | 1 => nowT (env xs 1)
 | 2 => env xs 2
 | 3 => env xs 3
 | 4 => if env xs 1 = 1099511627776 then env xs 4 else env xs 4 + fnTi 6 (jnY xs)
 | 5 => if env xs 1 = 1099511627776 then env xs 5 else fnTi 5 (jnY xs)
 | _ => if env xs 1 = 1099511627776 then 0 else fnTi 6 (jnY xs)
def e15 : Ent := ⟨15, 39, [wsh], [wob], [], .tup [i64, .lt kJ 0], fn15, WX⟩
def tkY (xs : List Int) : List Int := [env xs 0, env xs 1, env xs 2, env xs 3, env xs 4, env xs 5, env xs 6, cd []]
def fn17 (j : Nat) (xs : List Int) : Int := match j with
 | 0 => if env xs 6 < 0 then env xs 0 else fnTk 0 (tkY xs)
 | 1 => env xs 1
 | 2 => env xs 2
 | 3 => if env xs 6 < 0 then env xs 3 else fnTk 3 (tkY xs)
 | 4 => env xs 4
 | 5 => if env xs 6 < 0 then env xs 5 else fnTk 5 (tkY xs)
 | 6 => if env xs 6 < 0 then cd [] else fnTk 6 (tkY xs)
 | _ => if env xs 6 < 0 then 2 else 0
def e17 : Ent := ⟨17, 41, [wsh, i64], [wob], [], .tup [lio, i64], fn17, WX⟩
def cH : Ctx := ⟨[e46, e50], [(41, pTk, leTk), (39, pTi, leTi)]⟩
def M4 : E := (.and (.and (.app .b 46 1000000 [(vX 0), (vI 1), (vI 2), (vI 3), (vI 4), (vX 5)]) (.or (.cmp .lss (vI 6) (lI 0)) (.app .b 9017 1000000 [(vX 0), (vI 1), (vI 2), (vI 3), (vI 4), (vX 5), (vI 6), (aX 0 2 [])]))) (.and (.ite (.cmp .lss (vI 6) (lI 0)) (.cmp .lss (vI 6) (lI 0)) (.not (.cmp .lss (vI 6) (lI 0)))) (.or (.cmp .lss (vI 6) (lI 0)) (.not (.cmp .lss (vI 6) (lI 0))))))
def Re : List E := [(.ite (.cmp .lss (vI 6) (lI 0)) (vX 0) (aX 9017 0 [(vX 0), (vI 1), (vI 2), (vI 3), (vI 4), (vX 5), (vI 6), (aX 0 2 [])])), (.ite (.cmp .lss (vI 6) (lI 0)) (vI 1) (aI 9017 1 [(vX 0), (vI 1), (vI 2), (vI 3), (vI 4), (vX 5), (vI 6), (aX 0 2 [])])), (.ite (.cmp .lss (vI 6) (lI 0)) (vI 2) (aI 9017 2 [(vX 0), (vI 1), (vI 2), (vI 3), (vI 4), (vX 5), (vI 6), (aX 0 2 [])])), (.ite (.cmp .lss (vI 6) (lI 0)) (vI 3) (aI 9017 3 [(vX 0), (vI 1), (vI 2), (vI 3), (vI 4), (vX 5), (vI 6), (aX 0 2 [])])), (.ite (.cmp .lss (vI 6) (lI 0)) (vI 4) (aI 9017 4 [(vX 0), (vI 1), (vI 2), (vI 3), (vI 4), (vX 5), (vI 6), (aX 0 2 [])])), (.ite (.cmp .lss (vI 6) (lI 0)) (vX 5) (aX 9017 5 [(vX 0), (vI 1), (vI 2), (vI 3), (vI 4), (vX 5), (vI 6), (aX 0 2 [])])), (.ite (.cmp .lss (vI 6) (lI 0)) (aX 0 2 []) (aX 9017 6 [(vX 0), (vI 1), (vI 2), (vI 3), (vI 4), (vX 5), (vI 6), (aX 0 2 [])])), (.ite (.cmp .lss (vI 6) (lI 0)) (lI 2) (lI 0))]
theorem ev_17 : evE Try.prog G0 (Aj cH.fs) (ltOf cH.ls) 40 10 e17 = some (M4, Re) := by kernel_rfl
def CU : E := (.dv .rem .i64 (.bin .add .i64 (vI 1) (lI 1)) 512)
def De : E := (aX 50 0 [(vX 0), (.bin .add .i64 (vI 1) (lI 1)), (vI 2), (vI 3), (vI 4), (vX 5), CU])
def Df : E := (aI 50 1 [(vX 0), (.bin .add .i64 (vI 1) (lI 1)), (vI 2), (vI 3), (vI 4), (vX 5), CU])
def Dg : E := (aI 50 2 [(vX 0), (.bin .add .i64 (vI 1) (lI 1)), (vI 2), (vI 3), (vI 4), (vX 5), CU])
def Dh : E := (aI 50 3 [(vX 0), (.bin .add .i64 (vI 1) (lI 1)), (vI 2), (vI 3), (vI 4), (vX 5), CU])
def Di : E := (aI 50 4 [(vX 0), (.bin .add .i64 (vI 1) (lI 1)), (vI 2), (vI 3), (vI 4), (vX 5), CU])
def Dj : E := (aX 50 5 [(vX 0), (.bin .add .i64 (vI 1) (lI 1)), (vI 2), (vI 3), (vI 4), (vX 5), CU])
def Ln : E := (aI 9015 6 [De, Df, Dg, Dh, Di, Dj, (lI 0)])
def M5 : E := (.and (.and (.app .b 46 1000000 [(vX 0), (vI 1), (vI 2), (vI 3), (vI 4), (vX 5)]) (.or (.cmp .eql (vI 1) (lI 1099511627776)) (.and (.and (.and (.cmp .geq CU (lI 0)) (.cmp .lss CU (lI 512))) (.app .b 50 1000000 [(vX 0), (.bin .add .i64 (vI 1) (lI 1)), (vI 2), (vI 3), (vI 4), (vX 5), CU])) (.app .b 9015 1000000 [De, Df, Dg, Dh, Di, Dj, (lI 0)])))) (.ite (.cmp .eql (vI 1) (lI 1099511627776)) (.cmp .eql (vI 1) (lI 1099511627776)) (.not (.cmp .eql (vI 1) (lI 1099511627776)))))
def Rf : List E := [(.ite (.cmp .eql (vI 1) (lI 1099511627776)) (vX 0) (aX 9015 0 [De, Df, Dg, Dh, Di, Dj, (lI 0)])), (.ite (.cmp .eql (vI 1) (lI 1099511627776)) (vI 1) (aI 9015 1 [De, Df, Dg, Dh, Di, Dj, (lI 0)])), (.ite (.cmp .eql (vI 1) (lI 1099511627776)) (vI 2) (aI 9015 2 [De, Df, Dg, Dh, Di, Dj, (lI 0)])), (.ite (.cmp .eql (vI 1) (lI 1099511627776)) (vI 3) (aI 9015 3 [De, Df, Dg, Dh, Di, Dj, (lI 0)])), (.ite (.cmp .eql (vI 1) (lI 1099511627776)) (vI 4) (.bin .add .i64 (aI 9015 4 [De, Df, Dg, Dh, Di, Dj, (lI 0)]) Ln)), (.ite (.cmp .eql (vI 1) (lI 1099511627776)) (vX 5) (aX 9015 5 [De, Df, Dg, Dh, Di, Dj, (lI 0)])), (.ite (.cmp .eql (vI 1) (lI 1099511627776)) (lI 0) Ln)]
theorem ev_15 : evE Try.prog G0 (Aj cH.fs) (ltOf cH.ls) 40 10 e15 = some (M5, Rf) := by kernel_rfl
theorem cHok : cH.OK Try.prog G0 := Ctx.OK.addL (c := ⟨[e46, e50], [(39, pTi, leTi)]⟩) (Ctx.OK.addL (c := ⟨[e46, e50], []⟩) ((Ctx.OK.nil.addF ok50 rfl).addF ok46 rfl) okTi rfl) okTk rfl
theorem e17fn : leTk.ent.fn = fnTk := rfl
theorem V9 : leTk.ent.pre = preTk := rfl
theorem e15fn : leTi.ent.fn = fnTi := rfl
theorem e50fn : e50.fn = fn50 := rfl
theorem ok17 : EntryOK Try.prog G0 e17 := cHok.entryP Az ev_17 _ rfl _ rfl fun xs hf hp => by
 obtain ⟨l, hl, hF⟩ := AK (l0 := cH.l)
 show M4.tt cH.l.F _ = true /\ Ax e17.fn _ cH.l.F _ _ _ _
 rw [hl]
 have F46 := FC (k := 46) rfl (hF e46 (by rfl) (by decide))
 have F9017 := FC (k := 9017) rfl (hF leTk.ent (by rfl) (by decide))
 have hSS := Jj F46 F9017
 obtain ⟨S, now, bu, le, mo, T, n, rfl⟩ := Ex hf
 obtain ⟨h0, h1, h2, h3, h4, h5, h6, _⟩ := hf
 simp only [An, A1] at h1 h2 h3 h4 h6
 obtain ⟨⟨Q, p1⟩, p2, p3⟩ := hp
 replace p1 : WOK now bu le (dc S) (dc T) Q (bu * (255 - now % 256)) := p1
 have q1 : 0 < ((dc T).length : Int) /\ ((dc T).length : Int) <= 4096 := ⟨by have := p1.ct; omega, by have := p1.ct; omega⟩
 have hle := p1.le_rng
 by_cases hn : n < 0
 ·refine ⟨?_, ?_, ?_, ?_, ?_, ?_, ?_, ?_, ?_, trivial⟩
  all_goals simp (disch := omega) only [M4, Re, e17, fn17, ewY, ewB, ewM, ewQ, reduceCtorEq, seval, hSS, h1, h2, h3, h4, h6, y46 q1, hn]
 ·have y : preTk [S, now, bu, le, mo, T, n, cd []] := ⟨⟨Q, _, p1⟩, by show ((dc (cd [])).length : Int) + le <= 8192; rw [Ab]; show (0 : Int) + le <= 8192; omega⟩
  have eY : tkY [S, now, bu, le, mo, T, n] = [S, now, bu, le, mo, T, n, cd []] := rfl
  have q1' : fnTk 1 [S, now, bu, le, mo, T, n, cd []] = now := rfl
  have q2 : fnTk 2 [S, now, bu, le, mo, T, n, cd []] = bu := rfl
  have q4 : fnTk 4 [S, now, bu, le, mo, T, n, cd []] = mo := rfl
  have w3 : IntKind.i64.wrap (fnTk 3 [S, now, bu, le, mo, T, n, cd []]) = fnTk 3 [S, now, bu, le, mo, T, n, cd []] := by
   obtain ⟨_, t1, _⟩ := IU (nTk [S, now, bu, le, mo, T, n, cd []]) (dc S, dc T) Q le _ p1
   have r := t1.le_rng
   have e : fnTk 3 [S, now, bu, le, mo, T, n, cd []] = le - ((tkN now (nTk [S, now, bu, le, mo, T, n, cd []]) (dc S, dc T)).2.length : Int) := rfl
   rw [e]
   exact i64w (by omega) (by omega)
  refine ⟨?_, ?_, ?_, ?_, ?_, ?_, ?_, ?_, ?_, trivial⟩
  all_goals simp (disch := omega) only [M4, Re, e17, fn17, eY, e17fn, V9, ewY, ewB, ewM, ewQ, reduceCtorEq, seval, hSS, h1, h2, h3, h4, h6, y46 q1, hn, y, q1', q2, q4, w3]
theorem ok15 : EntryOK Try.prog G0 e15 := cHok.entryP Az ev_15 _ rfl _ rfl fun xs hf hp => by
 obtain ⟨l, hl, hF⟩ := AK (l0 := cH.l)
 show M5.tt cH.l.F _ = true /\ Ax e15.fn _ cH.l.F _ _ _ _
 rw [hl]
 have F46 := FC (k := 46) rfl (hF e46 (by rfl) (by decide))
 have F50 := FC (k := 50) rfl (hF e50 (by rfl) (by decide))
 have F9015 := FC (k := 9015) rfl (hF leTi.ent (by rfl) (by decide))
 have hSS := Jj F46 (Jj F50 F9015)
 obtain ⟨S, now, bu, le, mo, T, rfl⟩ := Lc hf
 obtain ⟨h0, h1, h2, h3, h4, h5, _⟩ := hf
 simp only [An, A1] at h1 h2 h3 h4
 obtain ⟨⟨Q, p1⟩, p2, p3⟩ := hp
 replace p1 : WOK now bu le (dc S) (dc T) Q (bu * (255 - now % 256)) := p1
 have q1 : 0 < ((dc T).length : Int) /\ ((dc T).length : Int) <= 4096 := ⟨by have := p1.ct; omega, by have := p1.ct; omega⟩
 have hle := p1.le_rng
 have htm := p1.tm
 by_cases hM : now = 1099511627776
 ·refine ⟨?_, ?_, ?_, ?_, ?_, ?_, ?_, ?_, trivial⟩
  all_goals simp (disch := omega) only [M5, CU, De, Df, Dg, Dh, Di, Dj, Ln, Rf, e15, fn15, nowT, ewY, ewB, ewM, ewQ, reduceCtorEq, seval, hSS, h1, h2, h3, h4, y46 q1, hM]
 ·have w1 : IntKind.i64.wrap (now + 1) = now + 1 := i64w (by omega) (by omega)
  have eZ : jnZ [S, now, bu, le, mo, T] = [S, now + 1, bu, le, mo, T, (now + 1) % 512] := rfl
  obtain ⟨S1, eS⟩ : ∃ S1, S1 = fn50 0 [S, now + 1, bu, le, mo, T, (now + 1) % 512] := ⟨_, rfl⟩
  obtain ⟨T1, eT⟩ : ∃ T1, T1 = fn50 5 [S, now + 1, bu, le, mo, T, (now + 1) % 512] := ⟨_, rfl⟩
  have eY : jnY [S, now, bu, le, mo, T] = [S1, now + 1, bu, le, mo, T1, 0] := by rw [eS, eT]; rfl
  have em : (now + 1).tmod 512 = (now + 1) % 512 := Int.tmod_eq_emod_of_nonneg (by omega)
  obtain ⟨k, hk⟩ : ∃ k, k = ((now + 1) % 512).toNat := ⟨_, rfl⟩
  have dS : dc S1 = (if gC (dc S) k 2 = 0 then dc S else joinS (dc S) k) := by
   rw [eS]
   show dc (if gC (dc S) ((now + 1) % 512).toNat 2 = 0 then S else cd (joinS (dc S) ((now + 1) % 512).toNat)) = _
   rw [<- hk]
   split
   ·rfl
   ·exact Ab _
  have dT : dc T1 = (if gC (dc S) k 2 = 0 then dc T else joinT (dc T) (gC (dc S) k 0) (gC (dc S) 2048 1)) := by
   rw [eT]
   show dc (if gC (dc S) ((now + 1) % 512).toNat 2 = 0 then T else cd (joinT (dc T) (gC (dc S) ((now + 1) % 512).toNat 0) (gC (dc S) 2048 1))) = _
   rw [<- hk]
   split
   ·rfl
   ·exact Ab _
  have hb := p1.bg
  obtain ⟨j1, _, _⟩ := p1.join (by omega) hk
  rw [<- dS, <- dT] at j1
  have y50 : e50.pre [S, now + 1, bu, le, mo, T, (now + 1) % 512] := ⟨Q, Q6 p1, Int.emod_nonneg _ (by decide), by show (now + 1) % 512 < 2048; omega⟩
  have yT : leTi.ent.pre [S1, now + 1, bu, le, mo, T1, 0] := ⟨⟨_, _, j1⟩, Int.le_refl _, by show 0 <= bu; omega⟩
  have q1' : fnTi 1 [S1, now + 1, bu, le, mo, T1, 0] = now + 1 := rfl
  have q2 : fnTi 2 [S1, now + 1, bu, le, mo, T1, 0] = bu := rfl
  have q3 : fnTi 3 [S1, now + 1, bu, le, mo, T1, 0] = le := rfl
  have q4 : fnTi 4 [S1, now + 1, bu, le, mo, T1, 0] = mo := rfl
  have r6 : 0 <= fnTi 6 [S1, now + 1, bu, le, mo, T1, 0] /\ fnTi 6 [S1, now + 1, bu, le, mo, T1, 0] <= bu := by
   have e : fnTi 6 [S1, now + 1, bu, le, mo, T1, 0] = 0 + (mvN (now + 1) (bu - 0).toNat (dc S1, dc T1)).2 := rfl
   have := Lm (bu - 0).toNat (dc S1, dc T1) (now := now + 1)
   have := Oe (bu - 0).toNat (dc S1, dc T1) (now := now + 1)
   rw [e]; omega
  obtain ⟨g, hg⟩ : ∃ g, g = fnTi 6 [S1, now + 1, bu, le, mo, T1, 0] := ⟨_, rfl⟩
  rw [<- hg] at r6
  replace p2 : 0 <= mo := p2
  replace p3 : mo <= 1152921504606846976 := p3
  have w6 : IntKind.i64.wrap g = g := i64w (by omega) (by omega)
  have w7 : IntKind.i64.wrap (mo + g) = mo + g := i64w (by omega) (by omega)
  have k1 : fn50 1 [S, now + 1, bu, le, mo, T, (now + 1) % 512] = now + 1 := rfl
  have k2 : fn50 2 [S, now + 1, bu, le, mo, T, (now + 1) % 512] = bu := rfl
  have k3' : fn50 3 [S, now + 1, bu, le, mo, T, (now + 1) % 512] = le := rfl
  have k4 : fn50 4 [S, now + 1, bu, le, mo, T, (now + 1) % 512] = mo := rfl
  refine ⟨?_, ?_, ?_, ?_, ?_, ?_, ?_, ?_, trivial⟩
  all_goals simp (disch := omega) only [M5, CU, De, Df, Dg, Dh, Di, Dj, Ln, Rf, e15, fn15, nowT, eY, e15fn, e50fn, ewY, ewB, ewM, ewQ, reduceCtorEq, seval, hSS, h1, h2, h3, h4, y46 q1, hM, w1, em, y50, <- eS, <- eT, k1, k2, k3', k4, yT, q1', q2, q3, q4, <- hg, w6, w7]
  omega
def newW (now c b : Int) : Prop := (0 <= now /\ now <= 1099511627776) /\ (1 <= c /\ c <= 4096) /\ (1 <= b /\ b <= 4096) /\ c <= 256 * b
def S0 : RL := List.replicate 2049 [0, 0, 0]
def Tn (c : Int) : RL := List.replicate c.toNat [0, 0, 0, 0, 0]
def fn13 (j : Nat) (xs : List Int) : Int := match j with
 | 0 => cd S0
 | 1 => env xs 0
 | 2 => env xs 2
 | 3 => 0
 | 4 => 0
 | _ => cd (Tn (env xs 1))
def e13 : Ent := ⟨13, 33, [i64, i64, i64], [], [], .tup [wsh, .lt kJ 0], fn13, fun xs => newW (env xs 0) (env xs 1) (env xs 2)⟩
def cI : Ctx := ⟨[], []⟩
def Lo : E := (.or (.or (.or (.or (.or (.cmp .lss (vI 0) (lI 0)) (.cmp .gtr (vI 0) (lI 1099511627776))) (.cmp .lss (vI 1) (lI 1))) (.cmp .gtr (vI 1) (lI 4096))) (.cmp .lss (vI 2) (lI 1))) (.cmp .gtr (vI 2) (lI 4096)))
def Oi : E := (.cmp .lss (.bin .mul .i64 (lI 256) (vI 2)) (vI 1))
def Oj : E := (.or Lo Oi)
def Ok : E := (.not Oj)
def Rg : E := (.and (.or (.not (.and (.not Lo) (.not Oi))) (.and (.cmp .geq (vI 1) (lI 0)) (.cmp .leq (vI 1) (.lit .x 3518437208883)))) (.and (.and Ok (.cmp .eql (.ite Oj (.ite Lo (lI 2) (lI 180)) (lI 0)) (lI 0))) Ok))
def UT : List E := [(aX 0 7 [(lI 2049), (lI 0), (lI 0), (lI 0)]), (vI 0), (vI 2), (lI 0), (lI 0), (aX 0 7 [(vI 1), (lI 0), (lI 0), (lI 0), (lI 0), (lI 0)])]
theorem ev_13 : evE Try.prog G0 (Aj cI.fs) (ltOf cI.ls) 40 10 e13 = some (Rg, UT) := by kernel_rfl
theorem fits3 {k1 k2 k3 : K} {xs : List Int} (h : fits [k1, k2, k3] xs) : ∃ a b c, xs = [a, b, c] := by
 have := Am h
 match xs, this with
 | [a, b, c], _ => exact ⟨a, b, c, rfl⟩
theorem cIok : cI.OK Try.prog G0 := Ctx.OK.nil
theorem ok13 : EntryOK Try.prog G0 e13 := cIok.entryP Az ev_13 _ rfl _ rfl fun xs hf hp => by
 obtain ⟨l, hl, hF⟩ := AK (l0 := cI.l)
 show Rg.tt cI.l.F _ = true /\ Ax e13.fn _ cI.l.F _ _ _ _
 rw [hl]
 obtain ⟨now, c, b, rfl⟩ := fits3 hf
 obtain ⟨h0, h1, h2, _⟩ := hf
 simp only [An] at h0 h1 h2
 obtain ⟨⟨a1, a2⟩, ⟨b1, b2⟩, ⟨c1, c2⟩, d1⟩ := hp
 simp only [ewA, ewL, preC, binI, dvI, shI, cmpB, env, bi, List.headD, List.tail, List.map, Nat.reduceAdd] at a1 a2 b1 b2 c1 c2 d1
 have w1 : IntKind.i64.wrap (256 * b) = 256 * b := i64w (by omega) (by omega)
 refine ⟨?_, ?_, ?_, ?_, ?_, ?_, ?_, trivial⟩
 all_goals simp (disch := omega) only [Rg, Lo, Oi, Oj, Ok, UT, e13, fn13, S0, Tn, ewA, ewL, preC, binI, dvI, shI, cmpB, env, bi, List.headD, List.tail, List.map, Nat.reduceAdd, ewB, ewM, if_true, if_false, implies_true, forall_const, ne_eq, reduceCtorEq, Int.reduceEq, Int.reduceLT, Int.reduceLE, Int.reduceToNat, Int.reduceAdd, Int.reduceSub, Int.reduceMul, Int.reduceNeg, Int.reduceBEq, Nat.reduceLT, Nat.reduceEqDiff, h0, h1, h2, w1]
 rw [if_neg (by omega)]
 omega
theorem TC (n w k j : Nat) : gC (List.replicate n (List.replicate w 0)) k j = 0 := by
 unfold gC
 rw [List.getD_eq_getElem?_getD, List.getD_eq_getElem?_getD, List.getElem?_replicate]
 by_cases h : k < n
 ·rw [if_pos h, Option.getD_some, List.getElem?_replicate]
  by_cases h2 : j < w
  ·rw [if_pos h2]; rfl
  ·rw [if_neg h2]; rfl
 ·rw [if_neg h]; rfl
theorem Rh (k j : Nat) : gC S0 k j = 0 := TC 2049 3 k j
theorem Jf (c : Int) (k j : Nat) : gC (Tn c) k j = 0 := TC c.toNat 5 k j
theorem PB (n w : Nat) : Wid (List.replicate n (List.replicate w 0)) n w := by
 refine ⟨List.length_replicate, fun i hi => ?_⟩
 rw [List.getD_eq_getElem?_getD, List.getElem?_replicate, if_pos hi, Option.getD_some, List.length_replicate]
theorem WOK.new {now c b w : Int} (h : newW now c b) (hw : 0 <= w) : WOK now b 0 S0 (Tn c) (fun _ => []) w := by
 obtain ⟨h1, h2, h3, h4⟩ := h
 have hl : (Tn c).length = c.toNat := List.length_replicate
 refine ⟨h1, h3, ⟨by omega, by omega, by omega⟩, fun r hr => ?_, fun r hr => ?_, ⟨?_, PB 2049 3, fun k i hi => (absurd hi List.not_mem_nil), fun _ _ => rfl, fun _ => List.nodup_nil, fun k m i hi => (absurd hi List.not_mem_nil), fun k hk => ⟨Rh k 0, Rh k 1, Rh k 2⟩, fun k A i B hq => ?_⟩, fun i _ hi => ?_, fun k i hi => (absurd hi List.not_mem_nil), fun i _ => ?_, fun i _ hi => ?_, ?_, ?_⟩
 ·rw [(List.mem_replicate.1 hr).2]; exact ⟨rfl, rfl, rfl, trivial⟩
 ·rw [(List.mem_replicate.1 hr).2]; exact ⟨rfl, rfl, rfl, rfl, rfl, trivial⟩
 ·rw [hl]; exact PB c.toNat 5
 ·cases A <;> cases hq
 ·rw [Jf] at hi; omega
 ·rw [Jf]; omega
 ·rw [Jf] at hi; omega
 ·rw [show cntW now (Tn c) = 0 from JZ fun i _ => by
   unfold AO
   rw [show decide (now < gC (Tn c) i 4) = false from decide_eq_false (by rw [Jf]; omega)]; rfl]
  exact hw
 ·rw [show cntD (Tn c) = 0 from JZ fun i _ => decide_eq_false (by rw [Jf]; omega)]; rfl
def cap8 : Int := 1099511627776
def lsI : Sh := .lst 3 (Row.ofKs intK) false
def fnL19 : Nat -> List Int -> Int
 | 0, xs => b2i ((dc (env xs 0)).drop (env xs 3).toNat == (dc (env xs 1)).drop (env xs 3).toNat)
 | _, _ => 0
def preL19 (xs : List Int) : Prop := env xs 2 = ((dc (env xs 0)).length : Int) /\ (dc (env xs 0)).length = (dc (env xs 1)).length /\ 0 <= env xs 3 /\ env xs 3 <= env xs 2 /\ env xs 2 < cap8 /\ rowsOK intK (dc (env xs 0)) /\ rowsOK intK (dc (env xs 1))
def le19 : LEnt := ⟨⟨9019, 999999, [lsI, lsI, .lt .b 0, i64, i64], [], [0, 1], .tup [.sc .b, .sc .b], fnL19, preL19⟩, [0, 1, 4, 12, 13], [4], [5] ++ (List.range 13).map (· + 13), [.ex 0, .ret], 26, [0, 1]⟩
def pre19 (xs : List Int) : Prop := ((dc (env xs 0)).length : Int) < cap8 /\ ((dc (env xs 1)).length : Int) < cap8 /\ rowsOK intK (dc (env xs 0)) /\ rowsOK intK (dc (env xs 1))
def e19 : Ent := ⟨19, 32, [lsI, lsI], [], [0, 1], .sc .b, fun _ xs => b2i (dc (env xs 0) == dc (env xs 1)), pre19⟩
def cL : Ctx := ⟨[], [(32, [true,true,false,true,false], le19)]⟩
def DG : E := (.and (.cmp .geq (vI 3) (lI 0)) (.cmp .lss (vI 3) (aI 0 0 [(vX 0)])))
def DH : E := (.cmp .neq (aI 0 1 [(vX 0), (vI 3), (.lit .x 0)]) (aI 0 1 [(vX 1), (vI 3), (.lit .x 0)]))
def DI : E := (.and (.cmp .lss (vI 3) (vI 2)) (.not DH))
def DJ : E := (.or (.not (.cmp .lss (vI 3) (vI 2))) (.and DI (.app .b 9019 0 [(vX 0), (vX 1), (vI 2), (.bin .add .i64 (vI 3) (lI 1))])))
def DK : E := (.app .b 9019 1 [(vX 0), (vX 1), (vI 2), (.bin .add .i64 (vI 3) (lI 1))])
def Ol : E := (.and (.or (.not (.cmp .lss (vI 3) (vI 2))) (.and DG (.and DG (.and (.cmp .geq (vI 3) (lI 0)) (.cmp .lss (vI 3) (aI 0 0 [(vX 1)])))))) (.or (.not DI) (.app .b 9019 1000000 [(vX 0), (vX 1), (vI 2), (.bin .add .i64 (vI 3) (lI 1))])))
def IV : List E := [(.ite DJ (.lit .b 1) (.lit .b 0)), (.ite DJ (.and (.cmp .lss (vI 3) (vI 2)) DK) (.and (.not (.and (.cmp .lss (vI 3) (vI 2)) DH)) DK))]
theorem Wa : evL Try.prog G0 (Aj cI.fs) (evFn Try.prog G0 (Aj cI.fs) (ltOf cI.ls) 40 10) 40 (subL cI.ls 32 [true,true,false,true,false]) le19 (CI Try.prog 32 [true,true,false,true,false]) = some (Ol, IV) := by kernel_rfl
def GQ : E := (.cmp .neq (aI 0 0 [(vX 0)]) (aI 0 0 [(vX 1)]))
def M6 : E := (.or GQ (.app .b 9019 1000000 [(vX 0), (vX 1), (aI 0 0 [(vX 0)]), (lI 0)]))
def Ri : List E := [(.and (.not GQ) (.or (.app .b 9019 0 [(vX 0), (vX 1), (aI 0 0 [(vX 0)]), (lI 0)]) (.app .b 9019 1 [(vX 0), (vX 1), (aI 0 0 [(vX 0)]), (lI 0)])))]
theorem ev_19 : evE Try.prog G0 (Aj cL.fs) (ltOf cL.ls) 40 10 e19 = some (M6, Ri) := by kernel_rfl
theorem Rj {r : List Int} (h : fits intK r) : ∃ a, r = [a] /\ IntKind.i64.wrap a = a := by
 have := Am h
 match r, this, h with
 | [a], _, h => exact ⟨a, rfl, h.1⟩
theorem lo19 : Bd Try.prog G0 32 [true,true,false,true,false] le19 := by
 refine cIok.loopP Az (fun xs => (env xs 2 - env xs 3).toNat) rfl ?_ Wa _ rfl _ rfl ?_
 ·exact ⟨_, _, _, Try.func32, rfl, rfl⟩
 intro n xs hf hp hmu
 obtain ⟨l, hl, S, Sp, -⟩ := V1 le19 (fun xs => (env xs 2 - env xs 3).toNat) n cI.l (by decide)
 rw [hl]
 obtain ⟨c, d, m, i, rfl⟩ : ∃ c d m i, xs = [c, d, m, i] := by
  have := Am hf
  match xs, this with
  | [c, d, m, i], _ => exact ⟨_, _, _, _, rfl⟩
 ·skip
  obtain ⟨h0, h1, h2, h3, _⟩ := hf
  simp only [An, A1] at h2 h3
  obtain ⟨p1, p2, p3, p4, p5, p6, p7⟩ := hp
  simp only [ewY, seval] at p1 p2 p3 p4 p5 p6 p7 hmu
  unfold cap8 at p5
  have w0 : IntKind.i64.wrap 0 = 0 := i64w (by decide) (by decide)
  have w1 : IntKind.i64.wrap 1 = 1 := i64w (by decide) (by decide)
  have wc : IntKind.i64.wrap ((dc c).length : Int) = ((dc c).length : Int) := i64w (by omega) (by omega)
  have wd : IntKind.i64.wrap ((dc d).length : Int) = ((dc d).length : Int) := i64w (by omega) (by omega)
  have e1 : le19.ent.fn = fnL19 := rfl
  by_cases hlt : i < m
  ·have hs : IntKind.i64.wrap (i + 1) = i + 1 := i64w (by omega) (by omega)
   have row : ∀ x, rowsOK intK (dc x) -> (dc x).length = (dc c).length -> ∃ a, (dc x).getD i.toNat [] = [a] /\ IntKind.i64.wrap a = a /\ (dc x).drop i.toNat = [a] :: (dc x).drop (i + 1).toNat := fun x hx hlx => by
    have hl : i.toNat < (dc x).length := by omega
    obtain ⟨a, hab, ha⟩ := Rj (hx _ (List.getElem_mem hl))
    refine ⟨a, by simp [List.getD, hl, hab], ha, ?_⟩
    rw [List.drop_eq_getElem_cons hl, show (i + 1).toNat = i.toNat + 1 by omega, hab]
   obtain ⟨a, r1, a1, d1⟩ := row c p6 rfl
   obtain ⟨x, r2, x1, d2⟩ := row d p7 p2.symm
   have nS : i2b (K.b.norm (l.F 9019 1000000 [c, d, m, i + 1])) = true :=
    Sp _ ⟨⟨p1, p2, by show 0 <= i + 1; omega, by show i + 1 <= m; omega, by show m < cap8; unfold cap8; omega, p6, p7⟩, by show (m - (i + 1)).toNat < n; omega⟩
   have f0 : l.F 9019 0 [c, d, m, i + 1] = b2i ((dc c).drop (i + 1).toNat == (dc d).drop (i + 1).toNat) := S 0 rfl _
   have f1 : l.F 9019 1 [c, d, m, i + 1] = 0 := S 1 rfl _
   have b1' : decide (i >= 0) = true := by simp; omega
   have b2' : decide (i < ((dc c).length : Int)) = true := by simp; omega
   have b3' : decide (i < ((dc d).length : Int)) = true := by simp; omega
   refine ⟨?_, ?_, ?_, trivial⟩
   ·simp only [Ol, DG, DH, DI, DJ, DK, ewY, seval, h2, h3, w0, w1, wc, wd, hs, r1, r2, a1, x1, nS, b1', b2', b3', hlt, decide_true]
    simp
   ·simp only [IV, DG, DH, DI, DJ, DK, ewY, seval, h2, h3, w0, w1, wc, wd, hs, r1, r2, a1, x1, f0, hlt, decide_true, e1, fnL19, d1, d2]
    have hc : ([a] :: List.drop (i + 1).toNat (dc c) == [x] :: List.drop (i + 1).toNat (dc d)) = ((a == x) && List.drop (i + 1).toNat (dc c) == List.drop (i + 1).toNat (dc d)) := by
     simp [List.cons_beq_cons]
    rw [hc]
    simp only [bne]
    generalize (a == x) = p
    generalize (List.drop (i + 1).toNat (dc c) == List.drop (i + 1).toNat (dc d)) = q
    cases p <;> cases q <;> rfl
   ·simp only [IV, DG, DH, DI, DJ, DK, ewY, seval, h2, h3, w0, w1, wc, wd, hs, r1, r2, a1, x1, f0, f1, hlt, decide_true, e1, fnL19]
    simp only [bne]
    generalize (a == x) = p
    generalize (List.drop (i + 1).toNat (dc c) == List.drop (i + 1).toNat (dc d)) = q
    cases p <;> cases q <;> rfl
  ·have hd1 : (dc c).drop i.toNat = [] := List.drop_of_length_le (by omega)
   have hd2 : (dc d).drop i.toNat = [] := List.drop_of_length_le (by omega)
   refine ⟨?_, ?_, ?_, trivial⟩
   ·simp only [Ol, DG, DH, DI, DJ, DK, ewY, seval, h2, h3, hlt, decide_false]; simp
   ·simp only [IV, DG, DH, DI, DJ, DK, ewY, seval, h2, h3, hlt, decide_false, e1, fnL19, hd1, hd2]; rfl
   ·simp only [IV, DG, DH, DI, DJ, DK, ewY, seval, h2, h3, hlt, decide_false, e1, fnL19]; rfl
theorem ok19 : EntryOK Try.prog G0 e19 := (cIok.addL lo19 rfl).entryP Az ev_19 _ rfl _ rfl fun xs hf hp => by
 obtain ⟨l, hl, hF⟩ := ctx_F (l0 := cL.l)
 obtain ⟨S, Sp⟩ := hF le19.ent (by rfl) (by decide)
 show M6.tt cL.l.F _ = true /\ Ax _ _ cL.l.F _ _ _ _
 rw [hl]
 obtain ⟨c, d, rfl⟩ := Ts (Am hf)
 ·obtain ⟨p1, p2, p3, p4⟩ := hp
  simp only [ewY, seval] at p1 p2 p3 p4
  unfold cap8 at p1 p2
  have w0 : IntKind.i64.wrap 0 = 0 := i64w (by decide) (by decide)
  have wc : IntKind.i64.wrap ((dc c).length : Int) = ((dc c).length : Int) := i64w (by omega) (by omega)
  have wd : IntKind.i64.wrap ((dc d).length : Int) = ((dc d).length : Int) := i64w (by omega) (by omega)
  by_cases hl2 : (dc c).length = (dc d).length
  ·have nS : i2b (K.b.norm (l.F 9019 1000000 [c, d, ((dc c).length : Int), 0])) = true :=
    Sp _ ⟨rfl, hl2, by show (0 : Int) <= 0; omega, by show (0 : Int) <= ((dc c).length : Int); omega, by show ((dc c).length : Int) < cap8; unfold cap8; omega, p3, p4⟩
   have f0 : l.F 9019 0 [c, d, ((dc c).length : Int), 0] = b2i (dc c == dc d) := S 0 rfl _
   have f1 : l.F 9019 1 [c, d, ((dc c).length : Int), 0] = 0 := S 1 rfl _
   have hne : (((dc c).length : Int) != ((dc d).length : Int)) = false := by simp [hl2]
   refine ⟨?_, ?_, trivial⟩
   ·simp only [M6, GQ, ewY, seval, w0, wc, wd, hne, nS]; rfl
   ·simp only [Ri, GQ, e19, ewY, seval, w0, wc, wd, hne, f0, f1]
    cases dc c == dc d <;> rfl
  ·have hne : (((dc c).length : Int) != ((dc d).length : Int)) = true := by simp; omega
   have hd : (dc c == dc d) = false := by
    rw [beq_eq_false_iff_ne]
    exact fun e => hl2 (by rw [e])
   refine ⟨?_, ?_, trivial⟩
   ·simp only [M6, GQ, ewY, seval, w0, wc, wd, hne]; rfl
   ·simp only [Ri, GQ, e19, ewY, seval, w0, wc, wd, hne, hd]; rfl
structure WS (S now bu le mo T n b l m : Int) (p : RL × RL) : Prop where
 a1 : now = n
 a2 : bu = b
 a3 : le = l
 a4 : mo = m
 s : dc S = p.1
 t : dc T = p.2
 ok : ∃ Q, WOK n b l p.1 p.2 Q (b * (255 - n % 256))
 mb : 0 <= m /\ m <= 1152921504606846976
theorem WS.new {S now bu le mo T n c b : Int} (h : newW n c b) (d0 : S = e13.fn 0 [n, c, b]) (d1 : now = IntKind.i64.wrap (e13.fn 1 [n, c, b])) (d2 : bu = IntKind.i64.wrap (e13.fn 2 [n, c, b])) (d3 : le = IntKind.i64.wrap (e13.fn 3 [n, c, b])) (d4 : mo = IntKind.i64.wrap (e13.fn 4 [n, c, b])) (d5 : T = e13.fn 5 [n, c, b]) :
 WS S now bu le mo T n b 0 0 (S0, Tn c) := by
 have hh := h
 obtain ⟨h1, h2, h3, h4⟩ := hh
 refine ⟨d1.trans (i64w (by show -9223372036854775808 <= n; omega) (by show n <= _; omega)), d2.trans (i64w (by show -9223372036854775808 <= b; omega) (by show b <= _; omega)), d3.trans rfl, d4.trans rfl, by rw [d0]; exact Ab _, by rw [d5]; exact Ab _, ⟨_, WOK.new h (Int.mul_nonneg (by omega) (by omega))⟩, by decide⟩
theorem WOK.armed {now bu le w d : Int} {S T : RL} {Q : Nat -> List Nat} {i : Nat} (h : WOK now bu le S T Q w) (hi : i < T.length) (hd : now < d /\ d <= now + 2147483648) :
 ∃ Q', WOK now bu (if 0 < gC T i 4 then le else le + 1) (armW now d (S, T) i).1 (armW now d (S, T) i).2 Q' w /\ (armW now d (S, T) i).2.length = T.length := by
 unfold armW clW
 by_cases hz : 0 < gC T i 4
 ·simp only [if_pos hz]
  obtain ⟨A, B, _, k1, k2, k3, k4⟩ := h.drop hi hz
  obtain ⟨m1, m2, _⟩ := k1.put (d := d) (i := i) (by rw [k2]; exact hi) k4 hd
  have e : le - 1 + 1 = le := by omega
  rw [e] at m1
  exact ⟨_, m1, m2.trans k2⟩
 ·simp only [if_neg hz]
  have := (h.dr i hi).1
  obtain ⟨m1, m2, _⟩ := h.put (d := d) (i := i) hi (by omega) hd
  exact ⟨_, m1, m2⟩
theorem WS.arm {S now bu le mo T n b l m i d S' now' bu' le' mo' T' e l' : Int} {p : RL × RL} (h : WS S now bu le mo T n b l m p) (hi : 0 <= i /\ i < (p.2.length : Int)) (hd : n < d /\ d <= n + 2147483648) (hl : (if 0 < gC p.2 i.toNat 4 then l else l + 1) = l')
 (d0 : S' = e14.fn 0 [S, now, bu, le, mo, T, i, d]) (d1 : now' = IntKind.i64.wrap (e14.fn 1 [S, now, bu, le, mo, T, i, d])) (d2 : bu' = IntKind.i64.wrap (e14.fn 2 [S, now, bu, le, mo, T, i, d])) (d3 : le' = IntKind.i64.wrap (e14.fn 3 [S, now, bu, le, mo, T, i, d])) (d4 : mo' = IntKind.i64.wrap (e14.fn 4 [S, now, bu, le, mo, T, i, d])) (d5 : T' = e14.fn 5 [S, now, bu, le, mo, T, i, d]) (d6 : e = IntKind.i64.wrap (e14.fn 6 [S, now, bu, le, mo, T, i, d])) :
 WS S' now' bu' le' mo' T' n b l' m (armW n d p i.toNat) /\ e = 0 := by
 obtain ⟨rfl, rfl, rfl, rfl, hs, ht, ⟨Q, ok⟩, mb⟩ := h
 obtain ⟨P1, P2⟩ := p
 replace hs : dc S = P1 := hs
 replace ht : dc T = P2 := ht
 subst hs ht
 have hk : okA [S, now, bu, le, mo, T, i, d] := ⟨hi, hd⟩
 have htm := ok.tm
 have hbg := ok.bg
 obtain ⟨Q', m1, m2⟩ := ok.armed (i := i.toNat) (d := d) (by show i.toNat < (dc T).length; have : i < ((dc T).length : Int) := hi.2; omega) hd
 have hler := m1.le_rng
 have e0 : e14.fn 0 [S, now, bu, le, mo, T, i, d] = cd (armW now d (dc S, dc T) i.toNat).1 := if_pos hk
 have e3 : e14.fn 3 [S, now, bu, le, mo, T, i, d] = l' := (if_pos hk).trans hl
 have e5 : e14.fn 5 [S, now, bu, le, mo, T, i, d] = cd (armW now d (dc S, dc T) i.toNat).2 := if_pos hk
 have e6 : e14.fn 6 [S, now, bu, le, mo, T, i, d] = 0 := if_pos hk
 replace hl : (if 0 < gC (dc T) i.toNat 4 then le else le + 1) = l' := hl
 rw [hl] at m1 hler
 refine ⟨⟨d1.trans (i64w (by show -9223372036854775808 <= now; omega) (by show now <= _; omega)), d2.trans (i64w (by show -9223372036854775808 <= bu; omega) (by show bu <= _; omega)), ?_, d4.trans (i64w (by show -9223372036854775808 <= mo; omega) (by show mo <= _; omega)), ?_, ?_, ⟨Q', m1⟩, mb⟩, ?_⟩
 ·rw [d3, e3]; exact i64w (by omega) (by omega)
 ·rw [d0, e0, Ab]
 ·rw [d5, e5, Ab]
 ·rw [d6, e6]; rfl
theorem PC (xs : List Int) : dc (fnTi 0 xs) = (mvR xs).1.1 /\ dc (fnTi 5 xs) = (mvR xs).1.2 := by
 have hz : (mvR xs).2 = 0 -> (mvR xs).1 = (SW xs, TW xs) := fun h => Og h
 constructor
 ·show dc (if (mvR xs).2 = 0 then env xs 0 else cd (mvR xs).1.1) = _
  split
  ·rename_i h; rw [hz h]; rfl
  ·exact Ab _
 ·show dc (if (mvR xs).2 = 0 then env xs 5 else cd (mvR xs).1.2) = _
  split
  ·rename_i h; rw [hz h]; rfl
  ·exact Ab _
theorem VE (S now bu le mo T i : Int) : (dc (fn50 0 [S, now, bu, le, mo, T, i]), dc (fn50 5 [S, now, bu, le, mo, T, i])) = joinW i.toNat (dc S, dc T) := by
 show (dc (if gC (dc S) i.toNat 2 = 0 then S else cd (joinS (dc S) i.toNat)), dc (if gC (dc S) i.toNat 2 = 0 then T else cd (joinT (dc T) (gC (dc S) i.toNat 0) (gC (dc S) 2048 1)))) = (if gC (dc S) i.toNat 2 = 0 then (dc S, dc T) else (joinS (dc S) i.toNat, joinT (dc T) (gC (dc S) i.toNat 0) (gC (dc S) 2048 1)))
 by_cases h : gC (dc S) i.toNat 2 = 0
 ·simp only [if_pos h]
 ·simp only [if_neg h, Ab]
theorem VF (S now bu le mo T : Int) : dc (fn15 0 [S, now, bu, le, mo, T]) = (tickW now bu (dc S, dc T)).1.1 /\ dc (fn15 5 [S, now, bu, le, mo, T]) = (tickW now bu (dc S, dc T)).1.2 /\ fn15 6 [S, now, bu, le, mo, T] = (tickW now bu (dc S, dc T)).2 /\
 fn15 4 [S, now, bu, le, mo, T] = mo + (tickW now bu (dc S, dc T)).2 := by
 by_cases hM : now = 1099511627776
 ·have e : tickW now bu (dc S, dc T) = ((dc S, dc T), 0) := if_pos hM
  rw [e]
  refine ⟨?_, ?_, if_pos hM, ?_⟩
  ·exact congrArg dc (if_pos hM)
  ·exact congrArg dc (if_pos hM)
  ·refine (if_pos hM).trans ?_
   show mo = mo + 0
   omega
 ·obtain ⟨ys, hy⟩ : ∃ ys, ys = jnY [S, now, bu, le, mo, T] := ⟨_, rfl⟩
  have e : tickW now bu (dc S, dc T) = mvR ys := by
   have e1 : tickW now bu (dc S, dc T) = mvN (now + 1) bu.toNat (joinW ((now + 1) % 512).toNat (dc S, dc T)) := if_neg hM
   rw [e1, <- VE S (now + 1) bu le mo T, hy]
   show _ = mvN (now + 1) (bu - 0).toNat _
   rw [Int.sub_zero]
   rfl
  have e6 : fnTi 6 ys = (mvR ys).2 := by
   show env ys 6 + (mvR ys).2 = _
   rw [show env ys 6 = 0 by rw [hy]; rfl, Int.zero_add]
  rw [e]
  refine ⟨?_, ?_, ?_, ?_⟩
  ·refine (congrArg dc (if_neg hM)).trans ?_
   rw [<- hy]; exact (PC ys).1
  ·refine (congrArg dc (if_neg hM)).trans ?_
   rw [<- hy]; exact (PC ys).2
  ·refine (if_neg hM).trans ?_
   rw [<- hy]; exact e6
  ·refine (if_neg hM).trans ?_
   rw [<- hy, e6]; rfl
theorem WS.tick {S now bu le mo T n b l m S' now' bu' le' mo' T' v : Int} {p : RL × RL} (h : WS S now bu le mo T n b l m p) (hm : m + b <= 1152921504606846976)
 (d0 : S' = e15.fn 0 [S, now, bu, le, mo, T]) (d1 : now' = IntKind.i64.wrap (e15.fn 1 [S, now, bu, le, mo, T])) (d2 : bu' = IntKind.i64.wrap (e15.fn 2 [S, now, bu, le, mo, T])) (d3 : le' = IntKind.i64.wrap (e15.fn 3 [S, now, bu, le, mo, T])) (d4 : mo' = IntKind.i64.wrap (e15.fn 4 [S, now, bu, le, mo, T])) (d5 : T' = e15.fn 5 [S, now, bu, le, mo, T]) (d6 : v = IntKind.i64.wrap (e15.fn 6 [S, now, bu, le, mo, T])) :
 WS S' now' bu' le' mo' T' (nowT n) b l (m + (tickW n b p).2) (tickW n b p).1 /\ v = (tickW n b p).2 := by
 obtain ⟨rfl, rfl, rfl, rfl, hs, ht, ⟨Q, ok⟩, mb⟩ := h
 obtain ⟨P1, P2⟩ := p
 replace hs : dc S = P1 := hs
 replace ht : dc T = P2 := ht
 subst hs ht
 obtain ⟨f0, f5, f6, f4⟩ := VF S now bu le mo T
 obtain ⟨Q', t1, t2, t3, _⟩ := ok.tick
 have htm := t1.tm
 have hbg := ok.bg
 have hle := ok.le_rng
 obtain ⟨g, hg⟩ : ∃ g, g = (tickW now bu (dc S, dc T)).2 := ⟨_, rfl⟩
 rw [<- hg] at f6 f4 t2 t3 ⊢
 refine ⟨⟨d1.trans (i64w (by show -9223372036854775808 <= nowT now; omega) (by show nowT now <= _; omega)), d2.trans (i64w (by show -9223372036854775808 <= bu; omega) (by show bu <= _; omega)), d3.trans (i64w (by show -9223372036854775808 <= le; omega) (by show le <= _; omega)), ?_, ?_, ?_, ⟨Q', t1⟩, by omega, by omega⟩, ?_⟩
 ·rw [d4]; show IntKind.i64.wrap (fn15 4 _) = _; rw [f4]; exact i64w (by omega) (by omega)
 ·rw [d0]; exact f0
 ·rw [d5]; exact f5
 ·rw [d6]; show IntKind.i64.wrap (fn15 6 _) = _; rw [f6]; exact i64w (by omega) (by omega)
theorem VG (S now bu le mo T n : Int) (hn : 0 <= n) : dc (fn17 0 [S, now, bu, le, mo, T, n]) = (tkN now n.toNat (dc S, dc T)).1.1 /\ dc (fn17 5 [S, now, bu, le, mo, T, n]) = (tkN now n.toNat (dc S, dc T)).1.2 /\ dc (fn17 6 [S, now, bu, le, mo, T, n]) = (tkN now n.toNat (dc S, dc T)).2 /\
 fn17 3 [S, now, bu, le, mo, T, n] = le - ((tkN now n.toNat (dc S, dc T)).2.length : Int) /\ fn17 7 [S, now, bu, le, mo, T, n] = 0 := by
 have hM : ¬ n < 0 := by omega
 obtain ⟨ys, hy⟩ : ∃ ys, ys = tkY [S, now, bu, le, mo, T, n] := ⟨_, rfl⟩
 have e : tkN now n.toNat (dc S, dc T) = tkR ys := by
  rw [hy]
  show _ = tkN now (n - ((dc (cd [])).length : Int)).toNat (dc S, dc T)
  rw [Ab]
  show _ = tkN now (n - (0 : Int)).toNat (dc S, dc T)
  rw [Int.sub_zero]
 have hz : (tkR ys).2 = [] -> (tkR ys).1 = (SW ys, TW ys) := fun h => Oh h
 rw [e]
 refine ⟨?_, ?_, ?_, ?_, if_neg hM⟩
 ·refine (congrArg dc (if_neg hM)).trans ?_
  show dc (fnTk 0 (tkY [S, now, bu, le, mo, T, n])) = _
  rw [<- hy]
  show dc (if (tkR ys).2 = [] then env ys 0 else cd (tkR ys).1.1) = _
  split
  ·rename_i h; rw [hz h]; rfl
  ·exact Ab _
 ·refine (congrArg dc (if_neg hM)).trans ?_
  show dc (fnTk 5 (tkY [S, now, bu, le, mo, T, n])) = _
  rw [<- hy]
  show dc (if (tkR ys).2 = [] then env ys 5 else cd (tkR ys).1.2) = _
  split
  ·rename_i h; rw [hz h]; rfl
  ·exact Ab _
 ·refine (congrArg dc (if_neg hM)).trans ?_
  show dc (fnTk 6 (tkY [S, now, bu, le, mo, T, n])) = _
  rw [<- hy]
  have e7 : env ys 7 = cd [] := by rw [hy]; rfl
  show dc (if (tkR ys).2 = [] then env ys 7 else cd (dc (env ys 7) ++ (tkR ys).2)) = _
  rw [e7]
  split
  ·rename_i h; rw [h]; exact Ab _
  ·rw [Ab, Ab, List.nil_append]
 ·refine (if_neg hM).trans ?_
  show fnTk 3 (tkY [S, now, bu, le, mo, T, n]) = _
  rw [<- hy]
  show env ys 3 - ((tkR ys).2.length : Int) = _
  rw [show env ys 3 = le by rw [hy]; rfl]
theorem WS.take {S now bu le mo T n b l m k S' now' bu' le' mo' T' v e : Int} {p : RL × RL} (h : WS S now bu le mo T n b l m p) (hk : 0 <= k)
 (d0 : S' = e17.fn 0 [S, now, bu, le, mo, T, k]) (d1 : now' = IntKind.i64.wrap (e17.fn 1 [S, now, bu, le, mo, T, k])) (d2 : bu' = IntKind.i64.wrap (e17.fn 2 [S, now, bu, le, mo, T, k])) (d3 : le' = IntKind.i64.wrap (e17.fn 3 [S, now, bu, le, mo, T, k])) (d4 : mo' = IntKind.i64.wrap (e17.fn 4 [S, now, bu, le, mo, T, k])) (d5 : T' = e17.fn 5 [S, now, bu, le, mo, T, k]) (d6 : v = e17.fn 6 [S, now, bu, le, mo, T, k]) (d7 : e = IntKind.i64.wrap (e17.fn 7 [S, now, bu, le, mo, T, k])) :
 WS S' now' bu' le' mo' T' n b (l - ((tkN n k.toNat p).2.length : Int)) m (tkN n k.toNat p).1 /\ dc v = (tkN n k.toNat p).2 /\ e = 0 := by
 obtain ⟨rfl, rfl, rfl, rfl, hs, ht, ⟨Q, ok⟩, mb⟩ := h
 obtain ⟨P1, P2⟩ := p
 replace hs : dc S = P1 := hs
 replace ht : dc T = P2 := ht
 subst hs ht
 obtain ⟨f0, f5, f6, f3, f7⟩ := VG S now bu le mo T k hk
 obtain ⟨Q', t1, _⟩ := IU k.toNat (dc S, dc T) Q le _ ok
 have htm := ok.tm
 have hbg := ok.bg
 have hle := t1.le_rng
 refine ⟨⟨d1.trans (i64w (by show -9223372036854775808 <= now; omega) (by show now <= _; omega)), d2.trans (i64w (by show -9223372036854775808 <= bu; omega) (by show bu <= _; omega)), ?_, d4.trans (i64w (by show -9223372036854775808 <= mo; omega) (by show mo <= _; omega)), ?_, ?_, ⟨Q', t1⟩, mb⟩, ?_, ?_⟩
 ·rw [d3]; show IntKind.i64.wrap (fn17 3 _) = _; rw [f3]; exact i64w (by omega) (by omega)
 ·rw [d0]; exact f0
 ·rw [d5]; exact f5
 ·rw [d6]; exact f6
 ·rw [d7]; show IntKind.i64.wrap (fn17 7 _) = _; rw [f7]; rfl
structure WV (S now bu le mo T c : Int) (d : Nat -> Int) (B : List Nat) : Prop where
 ok : ∃ Q, WOK now bu le (dc S) (dc T) Q (bu * (255 - now % 256)) /\ Q 2048 = B
 mb : 0 <= mo /\ mo <= 1125899906842624
 cp : ((dc T).length : Int) = c
 dl : ∀ i : Nat, (i : Int) < c -> gC (dc T) i 4 = d i
 sr : B.Pairwise fun a b => d a <= d b
def upD (d : Nat -> Int) (i : Nat) (v : Int) : Nat -> Int := fun j => if j = i then v else d j
theorem AZ (d : Nat -> Int) (i : Nat) (v : Int) : upD d i v i = v := if_pos rfl
theorem As (d : Nat -> Int) {i j : Nat} (v : Int) (h : j ≠ i) : upD d i v j = d j := if_neg h
section
variable {S now bu le mo T c : Int} {d : Nat -> Int} {B : List Nat}
theorem WV.wx (h : WV S now bu le mo T c d B) : WX [S, now, bu, le, mo, T] := by
 obtain ⟨Q, ok, _⟩ := h.ok
 have := h.mb
 exact ⟨⟨Q, ok⟩, this.1, by show mo <= 1152921504606846976; omega⟩
theorem WV.wx1 (h : WV S now bu le mo T c d B) (i : Int) : WX [S, now, bu, le, mo, T, i] := h.wx
theorem WV.wx2 (h : WV S now bu le mo T c d B) (i j : Int) : WX [S, now, bu, le, mo, T, i, j] := h.wx
theorem WV.tm (h : WV S now bu le mo T c d B) : 0 <= now /\ now <= 1099511627776 := by obtain ⟨Q, ok, _⟩ := h.ok; exact ok.tm
theorem WV.bg (h : WV S now bu le mo T c d B) : 1 <= bu /\ bu <= 4096 := by obtain ⟨Q, ok, _⟩ := h.ok; exact ok.bg
theorem WV.ct (h : WV S now bu le mo T c d B) : 0 < c /\ c <= 4096 := by obtain ⟨Q, ok, _⟩ := h.ok; have := ok.ct; have := h.cp; omega
theorem WV.ler (h : WV S now bu le mo T c d B) : 0 <= le /\ le <= 4096 := by obtain ⟨Q, ok, _⟩ := h.ok; exact ok.le_rng
theorem WV.lenOK (h : WV S now bu le mo T c d B) (r : List Int) : lenOK (S :: now :: bu :: le :: mo :: T :: r) := by
 have := h.ct; have := h.cp
 exact ⟨by show 0 < ((dc T).length : Int); omega, by show ((dc T).length : Int) <= 4096; omega⟩
theorem WV.preR (h : WV S now bu le mo T c d B) (i : Int) : preR [S, now, bu, le, mo, T, i] := by
 obtain ⟨Q, ok, _⟩ := h.ok
 exact ⟨h.lenOK [i], ok.rT⟩
theorem WV.pre16 (h : WV S now bu le mo T c d B) : e16.pre [S, now, bu, le, mo, T] := by
 obtain ⟨Q, ok, _⟩ := h.ok
 exact ⟨h.lenOK [], ok.rS, ok.lk.sw.1⟩
theorem WV.mem (h : WV S now bu le mo T c d B) (i : Nat) : i ∈ B ↔ (i : Int) < c /\ 0 < d i /\ d i <= now := by
 obtain ⟨Q, ok, rfl⟩ := h.ok
 have hc := h.cp
 constructor
 ·intro hi
  have h1 := ok.lk.qc _ i hi
  have hic : (i : Int) < c := by omega
  obtain ⟨o1, o2⟩ := ok.out _ i hi
  have e := h.dl i hic
  refine ⟨hic, by omega, ?_⟩
  rw [<- e]
  by_cases hh : gC (dc T) i 4 <= now
  ·exact hh
  ·exfalso
   obtain ⟨p1, p2, _⟩ := ok.pl i h1 (by omega)
   unfold locI at o2
   rw [if_neg hh] at o2
   have : 0 <= gC (dc T) i 1 /\ gC (dc T) i 1 < 512 := by omega
   omega
 ·rintro ⟨h1, h2, h3⟩
  have e := h.dl i h1
  have := ok.inn i (by omega) (by omega)
  unfold locI at this
  rw [if_pos (by omega)] at this
  exact this
theorem WV.nd (h : WV S now bu le mo T c d B) : B.Nodup := by
 obtain ⟨Q, ok, rfl⟩ := h.ok
 exact ok.lk.nd 2048
theorem WV.lag (h : WV S now bu le mo T c d B) : gC (dc S) 2048 2 = (B.length : Int) := by
 obtain ⟨Q, ok, rfl⟩ := h.ok
 exact (ok.lk.hd 2048 (by decide)).2.2
theorem WV.dr (h : WV S now bu le mo T c d B) {i : Nat} (hi : (i : Int) < c) : 0 <= d i /\ d i <= now + 2147483648 := by
 obtain ⟨Q, ok, rfl⟩ := h.ok
 have := h.cp
 rw [<- h.dl i hi]; exact ok.dr i (by omega)
theorem WV.lenB (h : WV S now bu le mo T c d B) : (B.length : Int) <= c := by
 have hn := h.nd
 have hs : B ⊆ List.range c.toNat := fun i hi => by
  have := ((h.mem i).1 hi).1
  exact List.mem_range.2 (by omega)
 have h1 := List.Nodup.length_le_of_subset hn hs
 have h2 := h.ct
 rw [List.length_range] at h1
 omega
def cntP (c : Int) (d : Nat -> Int) : Int := (cnt c.toNat (fun i => decide (0 < d i)) : Nat)
theorem WV.len (h : WV S now bu le mo T c d B) : le = cntP c d := by
 obtain ⟨Q, ok, rfl⟩ := h.ok
 have hc := h.cp
 rw [ok.ln]
 unfold cntP cntD
 rw [show (dc T).length = c.toNat by omega]
 congr 1
 exact EF fun j hj => by rw [h.dl j (by omega)]
theorem TD {A C : List Nat} {i : Nat} (h : (A ++ i :: C).Nodup) : (A ++ i :: C).erase i = A ++ C := by
 have hi : i ∉ A := fun hm => by
  rw [List.nodup_append] at h
  exact h.2.2 i hm i (by simp) rfl
 rw [List.erase_append_right _ hi, List.erase_cons_head]
def NN (T : RL) : Prop := ∀ y, 0 <= gC T y 0
theorem PD {now bu le : Int} : ∀ (n : Nat) (p : RL × RL) (Q : Nat -> List Nat) (w : Int), WOK now bu le p.1 p.2 Q w -> NN p.2 -> NN (mvN now n p).1.2
 | 0, p, Q, w, _, hn => hn
 | n + 1, p, Q, w, h, hn => by
   by_cases hz : wtF p.1 now = 0
   ·have e : mvN now (n + 1) p = (p, 0) := if_pos hz
    rw [e]; exact hn
   ·obtain ⟨i, hi1, hi2, hi3⟩ := h.wait_pos hz
    obtain ⟨Q1, m1, m2, m3, m4, m5, m6, m7⟩ := h.move hi1 hi2 hi3
    have e : mvN now (n + 1) p = ((mvN now n (mvW now p)).1, (mvN now n (mvW now p)).2 + 1) := if_neg hz
    rw [e]
    refine PD n (mvW now p) Q1 (w - 1) m1 fun y => ?_
    by_cases hy : y = i
    ·subst hy; exact m6
    ·have := m4 y hy
     have e2 : gC (mvW now p).2 y 0 = gC p.2 y 0 := this
     rw [e2]; exact hn y
theorem WOK.tick_nn {now bu le : Int} {S T : RL} {Q : Nat -> List Nat} (h : WOK now bu le S T Q (bu * (255 - now % 256))) (hn : NN T) : NN (tickW now bu (S, T)).1.2 := by
 have htm := h.tm
 by_cases hM : now = 1099511627776
 ·have e1 : tickW now bu (S, T) = ((S, T), 0) := if_pos hM
  rw [e1]; exact hn
 ·obtain ⟨k, hk⟩ : ∃ k, k = ((now + 1) % 512).toNat := ⟨_, rfl⟩
  obtain ⟨j1, j2, j3⟩ := h.join (by omega) hk
  have ej : joinW k (S, T) = (if gC S k 2 = 0 then S else joinS S k, if gC S k 2 = 0 then T else joinT T (gC S k 0) (gC S 2048 1)) := by
   unfold joinW
   by_cases hc : gC S k 2 = 0 <;> simp [hc]
  have e1 : tickW now bu (S, T) = mvN (now + 1) bu.toNat (joinW k (S, T)) := by rw [hk]; exact if_neg hM
  rw [e1, ej]
  exact PD bu.toNat _ _ _ j1 fun y => by rw [j3 y 0 (by decide) (by decide)]; exact hn y
theorem WOK.gone {now bu le w : Int} {S T : RL} {Q : Nat -> List Nat} {i : Nat} (h : WOK now bu le S T Q w) (hi : i < T.length) (hd : 0 < gC T i 4) :
 ∃ Q', WOK now bu (le - 1) (dpW now (S, T) i).1 (dpW now (S, T) i).2 Q' w /\ Q' 2048 = (Q 2048).erase i /\
   (dpW now (S, T) i).2.length = T.length /\ (∀ y, y ≠ i -> gC (dpW now (S, T) i).2 y 0 = gC T y 0 /\ gC (dpW now (S, T) i).2 y 4 = gC T y 4) /\ gC (dpW now (S, T) i).2 i 4 = 0 /\ (∀ m, i ∉ Q' m) /\ gC (dpW now (S, T) i).2 i 0 = 0 := by
 obtain ⟨A, C, k0, k1, k2, k3, k4⟩ := h.drop hi hd
 refine ⟨_, k1, ?_, k2, fun y hy => ⟨(k3 y hy).1, (k3 y hy).2.2⟩, k4, fun m hm => ?_, by rw [show (dpW now (S, T) i).2 = dropT T i from rfl, (Hs h.lk k0).2 i 0, if_pos ⟨rfl, by decide⟩]⟩
 ·by_cases hk : (locI now T i).toNat = 2048
  ·rw [hk, AL]
   rw [hk] at k0
   rw [k0, TD (by rw [<- k0]; exact h.lk.nd 2048)]
  ·rw [AU _ _ (fun e => hk e.symm)]
   refine (List.erase_of_not_mem fun hm => hk ?_).symm
   exact (h.out _ i hm).2
 ·have : 0 < gC (dropT T i) i 4 := (k1.out m i hm).1
  omega
theorem TE {now bu : Int} : ∀ (n : Nat) (p : RL × RL) (Q : Nat -> List Nat) (le w : Int), WOK now bu le p.1 p.2 Q w -> NN p.2 -> NN (tkN now n p).1.2 /\ lvSum (tkN now n p).1.2 p.2.length <= lvSum p.2 p.2.length
 | 0, p, Q, le, w, _, hn => ⟨hn, Int.le_refl _⟩
 | n + 1, p, Q, le, w, h, hn => by
   obtain ⟨b0, _, b2⟩ := h.lk.hd 2048 (by decide)
   cases hq : Q 2048 with
   | nil =>
     have e : tkN now (n + 1) p = (p, []) := if_neg (by rw [b2, hq]; decide)
     rw [e]; exact ⟨hn, Int.le_refl _⟩
   | cons i r =>
     have hm : i ∈ Q 2048 := by rw [hq]; simp
     have hi := h.lk.qc _ i hm
     obtain ⟨o1, o2⟩ := h.out _ i hm
     have hb : gC p.1 2048 0 - 1 = (i : Int) := by rw [b0, hq]; show (i : Int) + 1 - 1 = _; omega
     have hz : 0 < gC p.1 2048 2 := by rw [b2, hq]; simp
     have en : ((i : Int)).toNat = i := by omega
     obtain ⟨Q1, k1, _, k3, k4, _, _, k7⟩ := h.gone hi o1
     have e : tkN now (n + 1) p = ((tkN now n (dpW now p i)).1, [(i : Int)] :: (tkN now n (dpW now p i)).2) := by
      show (if 0 < gC p.1 2048 2 then _ else _) = _
      rw [if_pos hz, hb, en]
     have hn1 : NN (dpW now p i).2 := fun y => by
      by_cases hy : y = i
      ·have e3 : gC (dpW now p i).2 i 0 = 0 := k7
       rw [hy, e3]; decide
      ·have e3 : gC (dpW now p i).2 y 0 = gC p.2 y 0 := (k4 y hy).1
       rw [e3]; exact hn y
     obtain ⟨r1, r2⟩ := TE n (dpW now p i) Q1 (le - 1) w k1 hn1
     have hs := IK (n := p.2.length) (T := p.2) (T' := (dpW now p i).2) hi (fun y hy => (k4 y hy).1)
     have e3 : gC (dpW now p i).2 i 0 = 0 := k7
     have e4 : (dpW now p i).2.length = p.2.length := k3
     rw [e4] at r2
     have := hn i
     rw [e]
     exact ⟨r1, by show lvSum (tkN now n (dpW now p i)).1.2 p.2.length <= _; omega⟩
theorem WOK.come {now bu le w dd : Int} {S T : RL} {Q : Nat -> List Nat} {i : Nat} (h : WOK now bu le S T Q w) (hi : i < T.length) (hz : gC T i 4 = 0) (hd : now < dd /\ dd <= now + 2147483648) :
 ∃ Q', WOK now bu (le + 1) (ptW now dd (S, T) i).1 (ptW now dd (S, T) i).2 Q' w /\ Q' 2048 = Q 2048 /\
   (ptW now dd (S, T) i).2.length = T.length /\ (∀ y, y ≠ i -> gC (ptW now dd (S, T) i).2 y 0 = gC T y 0 /\ gC (ptW now dd (S, T) i).2 y 4 = gC T y 4) /\ gC (ptW now dd (S, T) i).2 i 4 = dd /\ gC (ptW now dd (S, T) i).2 i 0 = lvF now dd := by
 obtain ⟨m1, m2, m3, m4, _, m6⟩ := h.put hi hz hd
 refine ⟨_, m1, ?_, m2, fun y hy => ⟨(m3 y hy).1, (m3 y hy).2.2⟩, m6, m4⟩
 have hk : (kW now dd).toNat ≠ 2048 := by
  obtain ⟨Q', m⟩ : ∃ Q', Q' = uQ Q (kW now dd).toNat (Q (kW now dd).toNat ++ [i]) := ⟨_, rfl⟩
  rw [<- m] at m1
  have hin : i ∈ Q' (kW now dd).toNat := by rw [m, AL]; simp
  have ho := (m1.out _ i hin).2
  have hl := m1.loc_lt (i := i) (by rw [m2]; exact hi) (by rw [m6]; exact hd.1)
  omega
 rw [AU _ _ (fun e => hk e.symm)]
theorem WOK.arms {now bu le w dd : Int} {S T : RL} {Q : Nat -> List Nat} {i : Nat} (h : WOK now bu le S T Q w) (hi : i < T.length) (hd : now < dd /\ dd <= now + 2147483648) :
 ∃ Q', WOK now bu (if 0 < gC T i 4 then le else le + 1) (armW now dd (S, T) i).1 (armW now dd (S, T) i).2 Q' w /\ Q' 2048 = (Q 2048).erase i /\
   (armW now dd (S, T) i).2.length = T.length /\ (∀ y, y ≠ i -> gC (armW now dd (S, T) i).2 y 0 = gC T y 0 /\ gC (armW now dd (S, T) i).2 y 4 = gC T y 4) /\ gC (armW now dd (S, T) i).2 i 4 = dd /\ gC (armW now dd (S, T) i).2 i 0 = lvF now dd := by
 unfold armW clW
 by_cases hz : 0 < gC T i 4
 ·simp only [if_pos hz]
  obtain ⟨Q1, k1, k2, k3, k4, k5, _⟩ := h.gone hi hz
  obtain ⟨Q2, m1, m2, m3, m4, m5, m6⟩ := k1.come (dd := dd) (i := i) (by rw [k3]; exact hi) k5 hd
  have e : le - 1 + 1 = le := by omega
  rw [e] at m1
  exact ⟨Q2, m1, m2.trans k2, m3.trans k3, fun y hy => ⟨(m4 y hy).1.trans (k4 y hy).1, (m4 y hy).2.trans (k4 y hy).2⟩, m5, m6⟩
 ·simp only [if_neg hz]
  have := (h.dr i hi).1
  obtain ⟨Q2, m1, m2, m3, m4, m5, m6⟩ := h.come (i := i) hi (by omega) hd
  refine ⟨Q2, m1, m2.trans ?_, m3, m4, m5, m6⟩
  refine (List.erase_of_not_mem fun hm => ?_).symm
  have := (h.out _ i hm).1
  omega
theorem Hw {d d' : Nat -> Int} : ∀ {l : List Nat}, (∀ i ∈ l, d' i = d i) -> l.Pairwise (fun a b => d a <= d b) -> l.Pairwise fun a b => d' a <= d' b
 | [], _, _ => List.Pairwise.nil
 | a :: l, h, hp => by
   rw [List.pairwise_cons] at hp ⊢
   refine ⟨fun b hb => ?_, Hw (fun i hi => h i (List.mem_cons_of_mem _ hi)) hp.2⟩
   rw [h a (List.mem_cons_self ..), h b (List.mem_cons_of_mem _ hb)]
   exact hp.1 b hb
theorem WV.arm {S' now' bu' le' mo' T' e i dd : Int} (h : WV S now bu le mo T c d B) (hi : 0 <= i /\ i < c) (hd : now < dd /\ dd <= now + 2147483648)
 (ho : Ah e14.fn [S, now, bu, le, mo, T, i, dd] 0 [.x, .i .i64, .i .i64, .i .i64, .i .i64, .x, .i .i64] [S', now', bu', le', mo', T', e]) :
 WV S' now' bu' le' mo' T' c (upD d i.toNat dd) (B.erase i.toNat) /\ now' = now /\ bu' = bu /\ mo' = mo /\ e = 0 /\ le' = (if 0 < d i.toNat then le else le + 1) /\
  (∀ y, y ≠ i.toNat -> gC (dc T') y 0 = gC (dc T) y 0) /\ gC (dc T') i.toNat 0 = lvF now dd := by
 obtain ⟨o0, o1, o2, o3, o4, o5, o6, _⟩ := ho
 have w : WS S now bu le mo T now bu le mo (dc S, dc T) := by
  obtain ⟨Q, ok, _⟩ := h.ok
  have := h.mb
  exact ⟨rfl, rfl, rfl, rfl, rfl, rfl, ⟨Q, ok⟩, by omega⟩
 have hc := h.cp
 obtain ⟨s, he⟩ := w.arm (i := i) (d := dd) (l' := if 0 < gC (dc T) i.toNat 4 then le else le + 1) (by show 0 <= i /\ i < ((dc T).length : Int); omega) hd rfl o0 o1 o2 o3 o4 o5 o6
 obtain ⟨Q, ok, hB⟩ := h.ok
 obtain ⟨Q', q1, q2, q3, q4, q5, q6⟩ := ok.arms (i := i.toNat) (dd := dd) (by omega) hd
 obtain ⟨rfl, rfl, rfl, rfl, hs, ht, _, _⟩ := s
 have hic : (i.toNat : Int) < c := by omega
 have hdi := h.dl i.toNat hic
 refine ⟨⟨⟨Q', ?_, ?_⟩, h.mb, ?_, fun y hy => ?_, ?_⟩, rfl, rfl, rfl, he, by rw [hdi], fun y hy => ?_, ?_⟩
 ·rw [hs, ht]; exact q1
 ·rw [q2, hB]
 ·rw [ht, <- hc]; exact congrArg Int.ofNat q3
 ·rw [ht]
  by_cases e : y = i.toNat
  ·subst e; rw [AZ]; exact q5
  ·rw [As _ _ e, <- h.dl y hy]; exact (q4 y e).2
 ·refine Hw (d := d) (fun y hy => ?_) (h.sr.sublist (List.erase_sublist ..))
  have : y ≠ i.toNat := fun e => by
   subst e
   exact (List.Nodup.not_mem_erase h.nd) hy
  exact As _ _ this
 ·rw [ht]; exact (q4 y hy).1
 ·rw [ht]; exact q6
theorem WV.can {S' now' bu' le' mo' T' e i : Int} (h : WV S now bu le mo T c d B) (hi : 0 <= i /\ i < c)
 (ho : Ah e24.fn [S, now, bu, le, mo, T, i] 0 [.x, .i .i64, .i .i64, .i .i64, .i .i64, .x, .i .i64] [S', now', bu', le', mo', T', e]) :
 WV S' now' bu' le' mo' T' c (upD d i.toNat 0) (B.erase i.toNat) /\ now' = now /\ bu' = bu /\ mo' = mo /\ e = (if d i.toNat = 0 then 6 else 0) /\ le' = (if d i.toNat = 0 then le else le - 1) /\
  (∀ y, y ≠ i.toNat -> gC (dc T') y 0 = gC (dc T) y 0) /\ gC (dc T') i.toNat 0 = (if d i.toNat = 0 then gC (dc T) i.toNat 0 else 0) := by
 obtain ⟨o0, o1, o2, o3, o4, o5, o6, _⟩ := ho
 obtain ⟨Q, ok, hB⟩ := h.ok
 have hc := h.cp
 have htm := ok.tm
 have hbg := ok.bg
 have hler := ok.le_rng
 have hmb := h.mb
 have hic : (i.toNat : Int) < c := by omega
 have hdi := h.dl i.toNat hic
 have hdr := h.dr hic
 have hr : riW [S, now, bu, le, mo, T, i] := by show 0 <= i /\ i < ((dc T).length : Int); omega
 have e1 : now' = now := o1.trans (i64w (by show -9223372036854775808 <= now; omega) (by show now <= _; omega))
 have e2 : bu' = bu := o2.trans (i64w (by show -9223372036854775808 <= bu; omega) (by show bu <= _; omega))
 have e4 : mo' = mo := o4.trans (i64w (by show -9223372036854775808 <= mo; omega) (by show mo <= _; omega))
 by_cases hz : d i.toNat = 0
 ·have hz' : ¬ (riW [S, now, bu, le, mo, T, i] /\ gC (dc T) i.toNat 4 ≠ 0) := fun hh => hh.2 (by rw [hdi]; exact hz)
  have f0 : S' = S := o0.trans (if_neg hz')
  have f5 : T' = T := o5.trans (if_neg hz')
  have f3 : le' = le := o3.trans ((congrArg _ (if_neg hz')).trans (i64w (by show -9223372036854775808 <= le; omega) (by show le <= _; omega)))
  have f6 : e = 6 := o6.trans (by
   show IntKind.i64.wrap (if riW [S, now, bu, le, mo, T, i] then (if gC (dc T) i.toNat 4 = 0 then 6 else 0) else 2) = 6
   rw [if_pos hr, if_pos (by rw [hdi]; exact hz)]; rfl)
  subst f0 f5 f3
  have hnB : i.toNat ∉ B := fun hm => by have := ((h.mem _).1 hm).2.1; omega
  have hu : upD d i.toNat 0 = d := by
   funext y
   by_cases e : y = i.toNat
   ·subst e; rw [AZ, hz]
   ·exact As _ _ e
  rw [hu, List.erase_of_not_mem hnB, if_pos hz, if_pos hz, if_pos hz]
  exact ⟨by rw [e1, e2, e4]; exact h, e1, e2, e4, f6, rfl, fun _ _ => rfl, rfl⟩
 ·have hz' : riW [S, now, bu, le, mo, T, i] /\ gC (dc T) i.toNat 4 ≠ 0 := ⟨hr, by rw [hdi]; exact hz⟩
  obtain ⟨Q', q1, q2, q3, q4, q5, _, q7⟩ := ok.gone (i := i.toNat) (by omega) (by rw [hdi]; omega)
  have hler2 := q1.le_rng
  have f0 : dc S' = (dpW now (dc S, dc T) i.toNat).1 := by rw [o0.trans (if_pos hz')]; exact Ab _
  have f5 : dc T' = (dpW now (dc S, dc T) i.toNat).2 := by rw [o5.trans (if_pos hz')]; exact Ab _
  have f3 : le' = le - 1 := o3.trans ((congrArg _ (if_pos hz')).trans (i64w (by show -9223372036854775808 <= le - 1; omega) (by show le - 1 <= _; omega)))
  have f6 : e = 0 := o6.trans (by
   show IntKind.i64.wrap (if riW [S, now, bu, le, mo, T, i] then (if gC (dc T) i.toNat 4 = 0 then 6 else 0) else 2) = 0
   rw [if_pos hr, if_neg (by rw [hdi]; exact hz)]; rfl)
  rw [if_neg hz, if_neg hz, if_neg hz]
  refine ⟨?_, e1, e2, e4, f6, f3, fun y hy => ?_, by rw [f5]; exact q7⟩
  rw [e1, e2, e4]
  refine ⟨⟨Q', ?_, ?_⟩, h.mb, ?_, fun y hy => ?_, ?_⟩
  ·rw [f0, f5, f3]; exact q1
  ·rw [q2, hB]
  ·rw [f5, <- hc]; exact congrArg Int.ofNat q3
  ·rw [f5]
   by_cases e : y = i.toNat
   ·subst e; rw [AZ]; exact q5
   ·rw [As _ _ e, <- h.dl y hy]; exact (q4 y e).2
  ·refine Hw (d := d) (fun y hy => ?_) (h.sr.sublist (List.erase_sublist ..))
   have : y ≠ i.toNat := fun e => by
    subst e
    exact (List.Nodup.not_mem_erase h.nd) hy
   exact As _ _ this
  ·rw [f5]; exact (q4 y hy).1
theorem WV.tick {S' now' bu' le' mo' T' g : Int} (h : WV S now bu le mo T c d B) (hm : mo + bu <= 1125899906842624)
 (ho : Ah e15.fn [S, now, bu, le, mo, T] 0 [.x, .i .i64, .i .i64, .i .i64, .i .i64, .x, .i .i64] [S', now', bu', le', mo', T', g]) :
 ∃ D : List Nat, WV S' now' bu' le' mo' T' c d (B ++ D) /\ (∀ i, i ∈ D ↔ now < 1099511627776 /\ (i : Int) < c /\ d i = now + 1) /\ now' = nowT now /\ bu' = bu /\ le' = le /\ mo' = mo + g /\ 0 <= g /\ g <= bu /\
   lvSum (dc T') c.toNat + g <= lvSum (dc T) c.toNat /\ (NN (dc T) -> NN (dc T')) := by
 obtain ⟨o0, o1, o2, o3, o4, o5, o6, _⟩ := ho
 have w : WS S now bu le mo T now bu le mo (dc S, dc T) := by
  obtain ⟨Q, ok, _⟩ := h.ok
  have := h.mb
  exact ⟨rfl, rfl, rfl, rfl, rfl, rfl, ⟨Q, ok⟩, by omega⟩
 have hc := h.cp
 have hmb := h.mb
 obtain ⟨s, hv⟩ := w.tick (by omega) o0 o1 o2 o3 o4 o5 o6
 obtain ⟨Q, ok, hB⟩ := h.ok
 obtain ⟨Q', t1, t2, t3, t4, t5, t6, t7⟩ := ok.tick
 obtain ⟨rfl, rfl, rfl, e4, hs, ht, _, _⟩ := s
 have hdue := ok.due
 have hD : ∀ i, i ∈ (if now = 1099511627776 then [] else Q ((now + 1) % 512).toNat) ↔ now < 1099511627776 /\ (i : Int) < c /\ d i = now + 1 := fun i => by
  have htm := ok.tm
  by_cases hM : now = 1099511627776
  ·rw [if_pos hM]
   constructor
   ·intro hh; cases hh
   ·rintro ⟨hh, _⟩; omega
  ·rw [if_neg hM, hdue i]
   constructor
   ·rintro ⟨a, b⟩
    have hic : (i : Int) < c := by omega
    exact ⟨by omega, hic, by rw [<- h.dl i hic]; exact b⟩
   ·rintro ⟨_, a, b⟩
    exact ⟨by omega, by rw [h.dl i a]; exact b⟩
 refine ⟨if now = 1099511627776 then [] else Q ((now + 1) % 512).toNat, ⟨⟨Q', ?_, ?_⟩, ?_, ?_, fun y hy => ?_, ?_⟩, hD, rfl, rfl, rfl, ?_, ?_, ?_, ?_, fun hn => by rw [ht]; exact ok.tick_nn hn⟩
 ·rw [hs, ht]; exact t1
 ·rw [t7, hB]
 ·rw [e4]; omega
 ·rw [ht, <- hc]; exact congrArg Int.ofNat t4
 ·rw [ht, t5 y]; exact h.dl y hy
 ·rw [List.pairwise_append]
  refine ⟨h.sr, ?_, fun a ha b hb => ?_⟩
  ·refine List.pairwise_of_forall_mem_list fun a ha b hb => ?_
   rw [((hD a).1 ha).2.2, ((hD b).1 hb).2.2]; exact Int.le_refl _
  ·rw [((hD b).1 hb).2.2]
   have := ((h.mem a).1 ha).2.2
   omega
 ·rw [e4, hv]
 ·rw [hv]; exact t2
 ·rw [hv]; exact t3
 ·rw [ht, hv, show c.toNat = (dc T).length by omega]; exact t6
theorem WV.take {S' now' bu' le' mo' T' v e k : Int} (h : WV S now bu le mo T c d B) (hk : 0 <= k)
 (ho : Ah e17.fn [S, now, bu, le, mo, T, k] 0 [.x, .i .i64, .i .i64, .i .i64, .i .i64, .x, .x, .i .i64] [S', now', bu', le', mo', T', v, e]) :
 WV S' now' bu' le' mo' T' c (fun i => if i ∈ B.take k.toNat then 0 else d i) (B.drop k.toNat) /\ now' = now /\ bu' = bu /\ mo' = mo /\ e = 0 /\ dc v = (B.take k.toNat).map (fun i : Nat => [(i : Int)]) /\ le' = le - ((B.take k.toNat).length : Int) /\ (NN (dc T) -> NN (dc T') /\ lvSum (dc T') c.toNat <= lvSum (dc T) c.toNat) := by
 obtain ⟨o0, o1, o2, o3, o4, o5, o6, o7, _⟩ := ho
 have w : WS S now bu le mo T now bu le mo (dc S, dc T) := by
  obtain ⟨Q, ok, _⟩ := h.ok
  have := h.mb
  exact ⟨rfl, rfl, rfl, rfl, rfl, rfl, ⟨Q, ok⟩, by omega⟩
 have hc := h.cp
 obtain ⟨s, hv, he⟩ := w.take hk o0 o1 o2 o3 o4 o5 o6 o7
 obtain ⟨Q, ok, hB⟩ := h.ok
 obtain ⟨Q', t1, t2, t3, t4, t5, t6⟩ := IU k.toNat (dc S, dc T) Q le _ ok
 rw [hB] at t2 t3 t5 t6
 obtain ⟨e1, e2, e3, e4, hs, ht, _, _⟩ := s
 have hl : (tkN now k.toNat (dc S, dc T)).2.length = (B.take k.toNat).length := by rw [t2, List.length_map]
 refine ⟨?_, e1, e2, e4, he, hv.trans t2, by rw [e3, hl], fun hn => by
  rw [ht, show c.toNat = (dc T).length by omega]
  exact TE k.toNat (dc S, dc T) Q le _ ok hn⟩
 rw [e1, e2, e4]
 refine ⟨⟨Q', ?_, t3⟩, h.mb, ?_, fun y hy => ?_, ?_⟩
 ·rw [hs, ht, e3]; exact t1
 ·rw [ht, <- hc]; exact congrArg Int.ofNat t4
 ·rw [ht]
  by_cases hm : y ∈ B.take k.toNat
  ·rw [if_pos hm]; exact t6 y hm
  ·rw [if_neg hm, <- h.dl y hy]; exact (t5 y hm).2.2
 ·refine Hw (d := d) (fun y hy => ?_) (h.sr.sublist (List.drop_sublist ..))
  refine if_neg fun hm => ?_
  have hn := h.nd
  rw [<- List.take_append_drop k.toNat B, List.nodup_append] at hn
  exact hn.2.2 y hm y hy rfl
theorem WV.new {S' now' bu' le' mo' T' n c b : Int} (h : newW n c b)
 (ho : Ah e13.fn [n, c, b] 0 [.x, .i .i64, .i .i64, .i .i64, .i .i64, .x] [S', now', bu', le', mo', T']) :
 WV S' now' bu' le' mo' T' c (fun _ => 0) [] /\ now' = n /\ bu' = b /\ le' = 0 /\ mo' = 0 /\ dc T' = Tn c := by
 obtain ⟨o0, o1, o2, o3, o4, o5, _⟩ := ho
 have w := WS.new h o0 o1 o2 o3 o4 o5
 have hh := h
 obtain ⟨_, h2, h3, _⟩ := hh
 obtain ⟨rfl, rfl, rfl, rfl, hs, ht, _, _⟩ := w
 refine ⟨⟨⟨fun _ => [], ?_, rfl⟩, by decide, ?_, fun y hy => ?_, List.Pairwise.nil⟩, rfl, rfl, rfl, rfl, ht⟩
 ·rw [hs, ht]; exact WOK.new h (Int.mul_nonneg (by omega) (by omega))
 ·rw [ht]
  show ((List.replicate c.toNat [0, 0, 0, 0, 0] : RL).length : Int) = c
  rw [List.length_replicate]; omega
 ·rw [ht]; exact Jf c y 4
end
def rowT (T : RL) (i : Nat) : List Int := [(i : Int), gC T i 4, gC T i 0, gC T i 1]
def kT (T : RL) (i : Nat) : Nat := (gC T i 0 * 512 + gC T i 1).toNat
def wiR (A : RL) (id : Int) : RL := A.filter fun r => decide (r.headD 0 ≠ id)
def ixR (p : List Int -> Bool) : RL -> Int -> Int
 | [], _ => -1
 | r :: l, n => if p r = true then n else ixR p l (n + 1)
def isId (id : Int) (r : List Int) : Bool := decide (r.headD 0 = id)
def isAt (lv ix : Int) (r : List Int) : Bool := decide (r.getD 2 0 = lv) && decide (r.getD 3 0 = ix)
def puR (now : Int) (A : RL) (id d : Int) : RL := A ++ [[id, d, lvF now d, blk (lvF now d) d % 512]]
structure RF (now : Int) (T : RL) (Q : Nat -> List Nat) (A B : RL) : Prop where
 a : ∃ la : List Nat, A = la.map (rowT T) /\ la.Nodup /\ (∀ i ∈ la, i < T.length /\ now < gC T i 4) /\ ∀ k < 2048, la.filter (fun i => decide (kT T i = k)) = Q k
 b : B = (Q 2048).map (rowT T)
theorem E2 {T T' : RL} {i : Nat} (h0 : gC T' i 0 = gC T i 0) (h1 : gC T' i 1 = gC T i 1) (h4 : gC T' i 4 = gC T i 4) : rowT T' i = rowT T i := by unfold rowT; rw [h0, h1, h4]
theorem J1 {T T' : RL} {i : Nat} (h0 : gC T' i 0 = gC T i 0) (h1 : gC T' i 1 = gC T i 1) : kT T' i = kT T i := by unfold kT; rw [h0, h1]
theorem Jg (T : RL) (la : List Nat) (i : Nat) : wiR (la.map (rowT T)) (i : Int) = (la.filter fun j => decide (j ≠ i)).map (rowT T) := by
 unfold wiR
 rw [List.filter_map]
 congr 1
 refine List.filter_congr fun j _ => ?_
 show decide (((j : Nat) : Int) ≠ ((i : Nat) : Int)) = _
 by_cases h : j = i
 ·subst h; simp
 ·have : ¬ ((j : Int) = (i : Int)) := by omega
  simp [h, this]
theorem MJ {A C : List Nat} {i : Nat} (h : (A ++ i :: C).Nodup) : (A ++ i :: C).filter (fun j => decide (j ≠ i)) = A ++ C := by
 rw [List.nodup_append, List.nodup_cons] at h
 obtain ⟨_, ⟨h2, _⟩, h3⟩ := h
 have e1 : A.filter (fun j => decide (j ≠ i)) = A := List.filter_eq_self.2 fun j hj => by
  have := h3 j hj i (by simp)
  simpa using this
 have e2 : C.filter (fun j => decide (j ≠ i)) = C := List.filter_eq_self.2 fun j hj => by
  have : j ≠ i := fun e => h2 (e ▸ hj)
  simpa using this
 rw [List.filter_append, List.filter_cons_of_neg (by simp), e1, e2]
theorem EH {A : List Nat} {i : Nat} (h : i ∉ A) : A.filter (fun j => decide (j ≠ i)) = A :=
 List.filter_eq_self.2 fun j hj => by
  have : j ≠ i := fun e => h (e ▸ hj)
  simpa using this
section
variable {now bu le w : Int} {S T : RL} {Q : Nat -> List Nat} {A B : RL}
theorem WOK.kq (h : WOK now bu le S T Q w) {i : Nat} (hi : i < T.length) (hd : now < gC T i 4) : (locI now T i).toNat = kT T i := by
 unfold locI kT
 rw [if_neg (by omega)]
theorem RF.drop (h : WOK now bu le S T Q w) (hr : RF now T Q A B) {i : Nat} (hi : i < T.length) {X Y : List Nat} (hq : Q (locI now T i).toNat = X ++ i :: Y)
 (hy : ∀ y, y ≠ i -> gC (dropT T i) y 0 = gC T y 0 /\ gC (dropT T i) y 1 = gC T y 1 /\ gC (dropT T i) y 4 = gC T y 4) (hl : (dropT T i).length = T.length) :
 RF now (dropT T i) (uQ Q (locI now T i).toNat (X ++ Y)) (wiR A i) (wiR B i) := by
 obtain ⟨⟨la, rfl, nd, h1, h2⟩, rfl⟩ := hr
 have hrow : ∀ l : List Nat, (l.filter fun j => decide (j ≠ i)).map (rowT T) = (l.filter fun j => decide (j ≠ i)).map (rowT (dropT T i)) := fun l =>
  List.map_congr_left fun j hj => by
   have hj : j ≠ i := by simpa using (List.mem_filter.1 hj).2
   obtain ⟨a, b, c⟩ := hy j hj
   exact (E2 a b c).symm
 have hQ : ∀ k, (Q k).filter (fun j => decide (j ≠ i)) = uQ Q (locI now T i).toNat (X ++ Y) k := fun k => by
  by_cases hk : k = (locI now T i).toNat
  ·rw [hk, AL, hq]
   exact MJ (by rw [<- hq]; exact h.lk.nd _)
  ·rw [AU _ _ hk]
   exact EH fun hm => hk (h.out _ i hm).2.symm
 refine ⟨⟨la.filter fun j => decide (j ≠ i), by rw [Jg, hrow], nd.filter _, fun j hj => ?_, fun k hk => ?_⟩, by rw [Jg, hrow, hQ]⟩
 ·obtain ⟨m1, m2⟩ := List.mem_filter.1 hj
  have m2 : j ≠ i := by simpa using m2
  rw [hl, (hy j m2).2.2]
  exact h1 j m1
 ·rw [<- hQ k, <- h2 k hk, List.filter_filter, List.filter_filter]
  refine List.filter_congr fun j _ => ?_
  by_cases hj : j = i
  ·subst hj; simp
  ·rw [J1 (hy j hj).1 (hy j hj).2.1, Bool.and_comm]
theorem RF.put (h : WOK now bu le S T Q w) (hr : RF now T Q A B) {i : Nat} {d : Int} {T' : RL} (hi : i < T.length) (hz : gC T i 4 = 0) (hd : now < d)
 (hl : T'.length = T.length) (hy : ∀ y, y ≠ i -> gC T' y 0 = gC T y 0 /\ gC T' y 1 = gC T y 1 /\ gC T' y 4 = gC T y 4) (g0 : gC T' i 0 = lvF now d) (g1 : gC T' i 1 = blk (lvF now d) d % 512) (g4 : gC T' i 4 = d) (hk : (kW now d).toNat = kT T' i) (hk8 : (kW now d).toNat < 2048) :
 RF now T' (uQ Q (kW now d).toNat (Q (kW now d).toNat ++ [i])) (puR now A i d) B := by
 obtain ⟨⟨la, rfl, nd, h1, h2⟩, rfl⟩ := hr
 have hia : i ∉ la := fun hm => by have := (h1 i hm).2; have := h.tm; omega
 have hib : i ∉ Q 2048 := fun hm => by have := (h.out _ i hm).1; omega
 have hrow : ∀ l : List Nat, i ∉ l -> l.map (rowT T) = l.map (rowT T') := fun l hl =>
  List.map_congr_left fun j hj => by
   obtain ⟨a, b, c⟩ := hy j (fun e => hl (e ▸ hj))
   exact (E2 a b c).symm
 refine ⟨⟨la ++ [i], ?_, ?_, fun j hj => ?_, fun k hk' => ?_⟩, ?_⟩
 ·rw [List.map_append, <- hrow la hia]
  unfold puR rowT
  simp only [List.map_cons, List.map_nil, g0, g1, g4]
 ·rw [List.nodup_append]
  exact ⟨nd, by simp, fun a ha b hb => by simp only [List.mem_singleton] at hb; subst hb; exact fun e => hia (e ▸ ha)⟩
 ·rw [hl]
  rcases List.mem_append.1 hj with hj | hj
  ·rw [(hy j (fun e => hia (e ▸ hj))).2.2]; exact h1 j hj
  ·simp only [List.mem_singleton] at hj; subst hj; rw [g4]; exact ⟨hi, hd⟩
 ·rw [List.filter_append]
  have e1 : la.filter (fun j => decide (kT T' j = k)) = Q k := by
   rw [<- h2 k hk']
   refine List.filter_congr fun j hj => ?_
   have hj : j ≠ i := fun e => hia (e ▸ hj)
   rw [J1 (hy j hj).1 (hy j hj).2.1]
  rw [e1]
  by_cases hkk : k = (kW now d).toNat
  ·subst hkk
   rw [AL, List.filter_cons_of_pos (by simpa using hk.symm)]; rfl
  ·rw [AU _ _ hkk, List.filter_cons_of_neg (by rw [<- hk]; simpa using fun e => hkk e.symm)]; simp
 ·rw [AU _ _ (by omega)]; exact hrow _ hib
end
end
end Go.Proofs.Ytnockichpnaoeaa.Ew

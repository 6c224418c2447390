/- Texts that the claim needs, set narrow. -/
import Derived.Test.YtgpflpbldeflhaaDoory4
import Derived.Shelf.Small.Bits
import Derived.Ground.NamesProg
import Derived.Test.YtgpflpbldeflhaaDoorProg
import Derived.Lib.ItoaNum
set_option linter.unusedVariables false
set_option linter.unusedSimpArgs false
set_option maxHeartbeats 8000000
namespace Go.Proofs.YtgpflpbldeflhaaDoor.Ew.Sr
open Go Go.RowKit
noncomputable section
def sw3 : Sh := .obj 3 [i64]
def swO (j : Nat) : Ob := { j := j, ty := 3, cs := [i64] }
def isP (D : Int) (i : Int) : Prop := 0 <= i /\ i < ((dc D).length : Int)
def pre108 (xs : List Int) : Prop := LN (env xs 0) /\ isP (env xs 0) (env xs 1) /\ isP (env xs 0) (env xs 2)
def LJ (xs ys : List Int) : Prop := env ys 0 = env xs 0 /\ ((env ys 2 = env xs 1 /\ env ys 3 = env xs 2) \/ (env ys 2 = env xs 2 /\ env ys 3 = env xs 1))
def b108 : Ent := ⟨108, 108, [Dt, i64, i64, sw3], [dO, swO 1], [], .tup [i64, i64], z0, pre108⟩
def e108 : Ent := b108.fw (fnG Tryd.prog G0 b108 LJ)
def c108 : Ctx := ⟨[e108], []⟩
def pre106 (xs : List Int) : Prop := LN (env xs 0) /\ isP (env xs 0) (env xs 1) /\ isP (env xs 0) (env xs 2) /\ isP (env xs 0) (env xs 3)
def LK (xs ys : List Int) : Prop := env ys 0 = env xs 0 /\ (env ys 2 = env xs 1 \/ env ys 2 = env xs 2 \/ env ys 2 = env xs 3)
def b106 : Ent := ⟨106, 106, [Dt, i64, i64, i64, sw3], [dO, swO 1], [], i64, z0, pre106⟩
def e106 : Ent := b106.fw (fnG Tryd.prog G0 b106 LK)
def c106 : Ctx := ⟨[e106], []⟩
def pre105 (xs : List Int) : Prop := LN (env xs 0) /\ 1 <= env xs 1 /\ env xs 1 + 1 < ((dc (env xs 0)).length : Int)
def LM (xs ys : List Int) : Prop := env ys 0 = env xs 0 /\ env xs 1 - 1 <= env ys 2 /\ env ys 2 <= env xs 1 + 1
def b105 : Ent := ⟨105, 105, [Dt, i64, sw3], [dO, swO 1], [], i64, z0, pre105⟩
def e105 : Ent := b105.fw (fnG Tryd.prog G0 b105 LM)
def c94 : Ctx := ⟨[e105, e106], []⟩
def pre94 (xs : List Int) : Prop := In3 (env xs 0) (env xs 1) (env xs 2) /\ env xs 1 + 12 < env xs 2
def Pf (xs ys : List Int) : Prop := env ys 0 = env xs 0 /\ env xs 1 <= env ys 1 /\ env ys 1 < env xs 2
def b94 : Ent := ⟨94, 94, [Dt, i64, i64], [dO], [], .tup [i64, i64], z0, pre94⟩
def e94 : Ent := b94.fw (fnG Tryd.prog G0 b94 Pf)
def Rw (xs ys : List Int) : Prop := True
theorem ok108 : EPz e108 LJ := by
 refine Co.entryK false [(97, e97)] ?_
 go_invoke
 refine enK rfl ?_
 intro l ρ D a ha b hb s hs hp hSS _
 obtain ⟨p1, p2, p3⟩ := hp
 replace p1 : LN D := p1
 replace p2 : isP D a := p2
 replace p3 : isP D b := p3
 have p0 := p1.2
 have p4 := p2
 have p5 := p3
 obtain ⟨q1, q2⟩ := p4
 obtain ⟨q3, q4⟩ := p5
 by_cases c : at0 (vl D) b.toNat < at0 (vl D) a.toNat
 ·refine ⟨?_, ?_⟩ <;> simp (disch := omega) only [ewZ, reduceCtorEq, seval, hSS, Ai, p1.1.w, l97.1, l97.2, tb, c]
  ·omega
  ·exact ⟨rfl, Or.inr ⟨rfl, rfl⟩⟩
 ·refine ⟨?_, ?_⟩ <;> simp (disch := omega) only [ewZ, reduceCtorEq, seval, hSS, Ai, p1.1.w, l97.1, l97.2, tb, c]
  ·omega
  ·exact ⟨rfl, Or.inl ⟨rfl, rfl⟩⟩
theorem isP.w {D i : Int} (h : isP D i) (hn : LN D) : IntKind.i64.wrap i = i := by
 have := h.1; have := h.2; have := hn.2
 exact i64w (by omega) (by omega)
theorem ww (z : Int) : IntKind.i64.wrap (IntKind.i64.wrap z) = IntKind.i64.wrap z := K.norm_norm kJ z
theorem f108 {D a b s : Int} (h : LN D) (ha : isP D a) (hb : isP D b) (hs : IntKind.i64.wrap s = s) :
 ∃ s' x y, e108.fn 0 [D, a, b, s] = D /\ IntKind.i64.wrap (e108.fn 1 [D, a, b, s]) = s' /\ IntKind.i64.wrap (e108.fn 2 [D, a, b, s]) = x /\ IntKind.i64.wrap (e108.fn 3 [D, a, b, s]) = y /\ e108.pre [D, a, b, s] /\ IntKind.i64.wrap s' = s' /\ isP D x /\ isP D y /\ (x = a /\ y = b \/ x = b /\ y = a) := by
 have y0 : e108.pre [D, a, b, s] := ⟨h, ha, hb⟩
 have z := ok108.2 [D, a, b, s] ⟨rfl, ha.w h, hb.w h, hs, trivial⟩ y0
 have z2 : IntKind.i64.wrap (e108.fn 2 [D, a, b, s]) = a /\ IntKind.i64.wrap (e108.fn 3 [D, a, b, s]) = b \/ IntKind.i64.wrap (e108.fn 2 [D, a, b, s]) = b /\ IntKind.i64.wrap (e108.fn 3 [D, a, b, s]) = a := z.2
 refine ⟨_, _, _, z.1, rfl, rfl, rfl, y0, ww _, ?_, ?_, z2⟩
 ·rcases z2 with ⟨e, _⟩ | ⟨e, _⟩
  ·rw [e]; exact ha
  ·rw [e]; exact hb
 ·rcases z2 with ⟨_, e⟩ | ⟨_, e⟩
  ·rw [e]; exact hb
  ·rw [e]; exact ha
theorem Tx : c108.OK Tryd.prog G0 := ⟨rfl, mF ⟨ok108.1, trivial⟩, mF trivial⟩
theorem ok106 : EPz e106 LK := by
 refine Tx.entryK false [(108, e108)] ?_
 go_invoke
 refine enK rfl ?_
 intro l ρ D a ha b hb c hc s hs hp hSS _
 obtain ⟨p1, p2, p3, p4⟩ := hp
 replace p1 : LN D := p1
 replace p2 : isP D a := p2
 replace p3 : isP D b := p3
 replace p4 : isP D c := p4
 have p0 := p1.2
 obtain ⟨s1, x1, y1, a1, a2, a3, a4, a5, a6, a7, a8, a9⟩ := f108 p1 p2 p3 hs
 obtain ⟨s2, x2, y2, b1, b2, b3, b4, b5, b6, b7, b8, b9⟩ := f108 p1 a8 p4 a6
 obtain ⟨s3, x3, y3, c1, c2, c3, c4, c5, c6, c7, c8, c9⟩ := f108 p1 a7 b7 b6
 refine ⟨?_, ?_⟩ <;> simp (disch := omega) only [ewZ, reduceCtorEq, seval, hSS, a1, a2, a3, a4, b1, b2, b3, b4, c1, c2, c3, c4]
 ·exact ⟨a5, b5, c5⟩
 ·exact ⟨rfl, by show y3 = a \/ y3 = b \/ y3 = c; omega⟩
theorem f106 {D a b c s : Int} (h : LN D) (ha : isP D a) (hb : isP D b) (hc : isP D c) (hs : IntKind.i64.wrap s = s) :
 ∃ s' y, e106.fn 0 [D, a, b, c, s] = D /\ IntKind.i64.wrap (e106.fn 1 [D, a, b, c, s]) = s' /\ IntKind.i64.wrap (e106.fn 2 [D, a, b, c, s]) = y /\ e106.pre [D, a, b, c, s] /\ IntKind.i64.wrap s' = s' /\ (y = a \/ y = b \/ y = c) := by
 have y0 : e106.pre [D, a, b, c, s] := ⟨h, ha, hb, hc⟩
 have z := ok106.2 [D, a, b, c, s] ⟨rfl, ha.w h, hb.w h, hc.w h, hs, trivial⟩ y0
 exact ⟨_, _, z.1, rfl, rfl, y0, ww _, z.2⟩
theorem Ty : c106.OK Tryd.prog G0 := ⟨rfl, mF ⟨ok106.1, trivial⟩, mF trivial⟩
theorem ok105 : EPz e105 LM := by
 refine Ty.entryK false [(106, e106)] ?_
 go_invoke
 refine enK rfl ?_
 intro l ρ D a ha s hs hp hSS _
 obtain ⟨p1, p2, p3⟩ := hp
 replace p1 : LN D := p1
 have p0 := p1.2
 simp only [ewY, seval] at p2 p3
 have w1 : IntKind.i64.wrap (a - 1) = a - 1 := i64w (by omega) (by omega)
 have w2 : IntKind.i64.wrap (a + 1) = a + 1 := i64w (by omega) (by omega)
 obtain ⟨s1, x1, a1, a2, a3, a4, a5, a6⟩ := f106 (a := a - 1) (b := a) (c := a + 1) p1 ⟨by omega, by omega⟩ ⟨by omega, by omega⟩ ⟨by omega, by omega⟩ hs
 refine ⟨?_, ?_⟩ <;> simp (disch := omega) only [ewZ, reduceCtorEq, seval, hSS, w1, w2, a1, a2, a3]
 ·exact a4
 ·exact ⟨rfl, by show a - 1 <= x1; omega, by show x1 <= a + 1; omega⟩
theorem f105 {D a s : Int} (h : LN D) (ha : 1 <= a) (hb : a + 1 < ((dc D).length : Int)) (hs : IntKind.i64.wrap s = s) :
 ∃ s' y, e105.fn 0 [D, a, s] = D /\ IntKind.i64.wrap (e105.fn 1 [D, a, s]) = s' /\ IntKind.i64.wrap (e105.fn 2 [D, a, s]) = y /\ e105.pre [D, a, s] /\ IntKind.i64.wrap s' = s' /\ a - 1 <= y /\ y <= a + 1 := by
 have y0 : e105.pre [D, a, s] := ⟨h, ha, hb⟩
 have hn := h.2
 have z := ok105.2 [D, a, s] ⟨rfl, i64w (by omega) (by omega), hs, trivial⟩ y0
 exact ⟨_, _, z.1, rfl, rfl, y0, ww _, z.2.1, z.2.2⟩
theorem c94ok : c94.OK Tryd.prog G0 := ⟨rfl, mF ⟨ok105.1, ok106.1, trivial⟩, mF trivial⟩
theorem ok94 : EPz e94 Pf := by
 refine c94ok.entryK false [(105, e105), (106, e106)] ?_
 go_invoke
 refine enK rfl ?_
 intro l ρ D a ha b hb hp hSS _
 obtain ⟨⟨p1, p2, p3, p4⟩, p5⟩ := hp
 replace p1 : LN D := p1
 have p0 := p1.2
 simp only [ewY, seval] at p2 p3 p4 p5
 have w1 : IntKind.i64.wrap (b - a) = b - a := i64w (by omega) (by omega)
 have c1 : b - a >= 8 := by omega
 obtain ⟨q, hq⟩ : ∃ q, (b - a) / 4 = q := ⟨_, rfl⟩
 have wq : (b - a).tdiv 4 = q := by rw [Int.tdiv_eq_ediv_of_nonneg (by omega)]; exact hq
 have v0 : IntKind.i64.wrap q = q := i64w (by omega) (by omega)
 have v1 : IntKind.i64.wrap (q * 1) = q * 1 := i64w (by omega) (by omega)
 have v2 : IntKind.i64.wrap (q * 2) = q * 2 := i64w (by omega) (by omega)
 have v3 : IntKind.i64.wrap (q * 3) = q * 3 := i64w (by omega) (by omega)
 have u1 : IntKind.i64.wrap (a + q * 1) = a + q * 1 := i64w (by omega) (by omega)
 have u2 : IntKind.i64.wrap (a + q * 2) = a + q * 2 := i64w (by omega) (by omega)
 have u3 : IntKind.i64.wrap (a + q * 3) = a + q * 3 := i64w (by omega) (by omega)
 by_cases c2 : b - a >= 50
 ·obtain ⟨s1, x1, a1, a2, a3, a4, a5, a6, a7⟩ := f105 (a := a + q * 1) (s := 0) p1 (by omega) (by omega) rfl
  obtain ⟨s2, x2, b1, b2, b3, b4, b5, b6, b7⟩ := f105 (a := a + q * 2) p1 (by omega) (by omega) a5
  obtain ⟨s3, x3, c1', d2, d3, d4, d5, d6, d7⟩ := f105 (a := a + q * 3) p1 (by omega) (by omega) b5
  obtain ⟨s4, x4, m1, m2, m3, m4, m5, m6⟩ := f106 (a := x1) (b := x2) (c := x3) p1 ⟨by omega, by omega⟩ ⟨by omega, by omega⟩ ⟨by omega, by omega⟩ d5
  refine ⟨?_, ?_⟩ <;> simp (disch := omega) only [ewZ, reduceCtorEq, seval, hSS, w1, c1, c2, wq, v0, v1, v2, v3, u1, u2, u3, a1, a2, a3, b1, b2, b3, c1', d2, d3, m1, m2, m3]
  ·exact ⟨⟨a4, b4, d4⟩, m4⟩
  ·exact ⟨rfl, by show a <= x4; omega, by show x4 < b; omega⟩
 ·obtain ⟨s4, x4, m1, m2, m3, m4, m5, m6⟩ := f106 (a := a + q * 1) (b := a + q * 2) (c := a + q * 3) (s := 0) p1 ⟨by omega, by omega⟩ ⟨by omega, by omega⟩ ⟨by omega, by omega⟩ rfl
  refine ⟨?_, ?_⟩ <;> simp (disch := omega) only [ewZ, reduceCtorEq, seval, hSS, w1, c1, c2, wq, v0, v1, v2, v3, u1, u2, u3, m1, m2, m3]
  ·exact m4
  ·exact ⟨rfl, by show a <= x4; omega, by show x4 < b; omega⟩
end
end Go.Proofs.YtgpflpbldeflhaaDoor.Ew.Sr
namespace Go.Proofs
open Go.Shelf
def Tryd.lenA_ren : Go.Shelf.Ren := ⟨fun | 125 => 90 | 128 => 100 | 129 => 101 | n => n, fun | 46 => 79 | 3 => 3 | 51 => 26 | 53 => 55 | 4 => 4 | 5 => 5 | 9 => 9 | n => n, fun | n => n⟩
theorem Tryd.lenA : Go.Proofs.Lays.n125 Tryd.prog Tryd.lenA_ren := {
 mixed := by kernel_rfl
 f125 := Tryd.func90.trans (congrArg some (by kernel_rfl))
 f128 := Tryd.func100.trans (congrArg some (by kernel_rfl))
 f129 := Tryd.func101.trans (congrArg some (by kernel_rfl))
 t3 := Tryd.underlying3
 a3 := Tryd.isAgg3
 z3 := Tryd.sizeOf3
 v3 := Tryd.zeroValue3
 t4 := Tryd.underlying4
 a4 := Tryd.isAgg4
 z4 := Tryd.sizeOf4
 v4 := Tryd.zeroValue4
 t5 := Tryd.underlying5
 a5 := Tryd.isAgg5
 z5 := Tryd.sizeOf5
 v5 := Tryd.zeroValue5
 t9 := Tryd.underlying9
 a9 := Tryd.isAgg9
 z9 := Tryd.sizeOf9
 v9 := Tryd.zeroValue9
 t46 := Tryd.underlying79
 a46 := Tryd.isAgg79
 z46 := Tryd.sizeOf79
 v46 := Tryd.zeroValue79
 t51 := Tryd.underlying26
 a51 := Tryd.isAgg26
 z51 := Tryd.sizeOf26
 v51 := Tryd.zeroValue26
 t53 := Tryd.underlying55
 a53 := Tryd.isAgg55
 z53 := Tryd.sizeOf55
 v53 := Tryd.zeroValue55 }
end Go.Proofs
set_option maxHeartbeats 8000000
namespace Go.Proofs.YtgpflpbldeflhaaDoor.Ew.Sr
open Go Go.RowKit
noncomputable section
def u64 : Sh := .sc (.i .u64)
def xsh : Sh := .obj 166 [u64]
def xsO (j : Nat) : Ob := { j := j, ty := 166, cs := [u64] }
def Rx : Ent := ⟨104, 104, [xsh], [xsO 0], [], u64, z0, fun _ => True⟩
def e104x : Ent := Rx.fw (fnG Tryd.prog G0 Rx Rw)
def e90 : Ent := ⟨90, 90, [u64], [], [], i64, fun _ xs => ((Lib.bitLen (env xs 0).toNat : Nat) : Int), fun _ => True⟩
def c90 : Ctx := ⟨[e90], []⟩
def pre103 (xs : List Int) : Prop := 1 <= env xs 0 /\ env xs 0 <= 1000000
def LO (xs ys : List Int) : Prop := 1 <= env ys 0 /\ env ys 0 <= 2 * env xs 0
def b103 : Ent := ⟨103, 103, [i64], [], [], u64, z0, pre103⟩
def e103 : Ent := b103.fw (fnG Tryd.prog G0 b103 LO)
def cBp : Ctx := ⟨[e104x], []⟩
def pBp : List Bool := [true,true,false,true,true,true,false]
def preBp (xs : List Int) : Prop := LN (env xs 0) /\ 0 <= env xs 1 /\ 8 <= env xs 2 /\ env xs 1 + env xs 2 <= ((dc (env xs 0)).length : Int) /\ 1 <= env xs 4 /\ env xs 4 <= 2 * env xs 2 /\ env xs 1 <= env xs 5
def Pg (xs ys : List Int) : Prop := St (env xs 0) (env ys 0) (env xs 1) (env xs 1 + env xs 2)
def muBp (xs : List Int) : Nat := (env xs 1 + env xs 2 - env xs 5).toNat
def lbBp : LEnt := ⟨⟨9093, 999999, [Dt, i64, i64, xsh, u64, i64], [dO, xsO 1], [], .tup [], z0, preBp⟩, [0, 1, 6, 7, 8, 9], [], [9, 10] ++ (List.range 39).map (· + 26), [.ex 0], 65, []⟩
def leBp : LEnt := lbBp.fw (fnM Tryd.prog G0 93 pBp lbBp Pg)
def c93 : Ctx := ⟨[e103], [(93, pBp, leBp)]⟩
def Ph (xs ys : List Int) : Prop := St (env xs 0) (env ys 0) (env xs 1) (env xs 2)
def b93 : Ent := ⟨93, 93, [Dt, i64, i64], [dO], [], .tup [], z0, pre91⟩
def e93 : Ent := b93.fw (fnG Tryd.prog G0 b93 Ph)
theorem ok104x : EPz e104x Rw := by
 refine Ctx.OK.nil.entryK false [] ?_
 go_invoke
 refine enK rfl ?_
 intro l ρ r hr hp hSS _
 refine ⟨?_, trivial⟩
 simp (disch := omega) only [ewZ, reduceCtorEq, seval, hSS]
theorem ok90 : EntryOK Tryd.prog G0 e90 := by
 intro xs hf hp w M0 Im0 hs hM hG hR
 obtain ⟨a, rfl⟩ : ∃ a, xs = [a] := by
  have h : xs.length = 1 := Ax hf
  exact List.length_eq_one_iff.1 h
 have ha : IntKind.u64.wrap a = a := hf.1
 have hr := u64r ha
 have hargs : (SV.concL F0 (env [a]) hs e90.pgen.1).toArray = #[.int .u64 a] := by
  show #[Value.int .u64 (IntKind.u64.wrap a)] = _
  rw [ha]
 rw [hargs]
 refine (Any.bits_Len Tryd.lenA a w hr.1 hr.2).mono ?_
 rintro e w' ⟨rfl, rfl⟩
 refine ⟨hs, Im0, fun _ _ => rfl, fun _ h => h, fun _ h => Or.inl h, ?_, ?_⟩
 ·have hb := Lib.bitLen_le a.toNat 64 (Nat.le_refl _) (by omega)
  show Ending.returned (Value.int .i64 _) = .returned (Value.int .i64 (IntKind.i64.wrap (IntKind.i64.wrap ((Lib.bitLen a.toNat : Nat) : Int))))
  rw [i64w (z := ((Lib.bitLen a.toNat : Nat) : Int)) (by omega) (by omega), i64w (by omega) (by omega)]
 ·exact ⟨fun x hx _ => absurd (show x ∈ [] from hx) List.not_mem_nil, fun x hx _ _ _ _ _ _ _ => absurd (show x ∈ [] from hx) List.not_mem_nil, fun b hb => hR.im b hb, Fr.refl _ _⟩
theorem and64 (x y : Int) (h0 : 0 <= y) (h1 : y <= 18446744073709551615) : 0 <= bitsI .and .u64 x y /\ bitsI .and .u64 x y <= y := by
 have hb : (BitVec.ofInt 64 y).toNat = y.toNat := by rw [BitVec.toNat_ofInt]; omega
 have h2 : (BitVec.ofInt 64 x &&& BitVec.ofInt 64 y).toNat <= y.toNat := by rw [BitVec.toNat_and, hb]; exact Nat.and_le_right
 have e : bitsI .and .u64 x y = ((BitVec.ofInt 64 x &&& BitVec.ofInt 64 y).toNat : Int) := by
  show IntKind.u64.wrap ((BitVec.ofInt 64 x &&& BitVec.ofInt 64 y).toNat : Int) = _
  exact u64w (by omega) (by omega)
 omega
theorem SH {x : Nat} (h : 1 <= x) (h1 : x <= 1000000) : 1 <= 2 ^ Lib.bitLen x /\ 2 ^ Lib.bitLen x <= 2 * x /\ Lib.bitLen x <= 20 := by
 obtain ⟨a, b, c⟩ := Lib.bitLenAux_bounds 64 x (by omega) (by omega)
 have d := Lib.bitLen_le x 20 (by omega) (by omega)
 refine ⟨Nat.one_le_two_pow, ?_, d⟩
 have : 2 ^ Lib.bitLen x = 2 * 2 ^ (Lib.bitLen x - 1) := by
  rw [<- Nat.pow_succ']; congr 1
  have : 1 <= Lib.bitLen x := a
  omega
 rw [this]
 have : 2 ^ (Lib.bitLen x - 1) <= x := b
 omega
theorem c90ok : c90.OK Tryd.prog G0 := ⟨rfl, mF ⟨ok90, trivial⟩, mF trivial⟩
theorem ok103 : EPz e103 LO := by
 refine c90ok.entryK false [(90, e90)] ?_
 go_invoke
 refine enK rfl ?_
 intro l ρ x hx hp hSS _
 obtain ⟨p1, p2⟩ := hp
 simp only [ewY, seval] at p1 p2
 have w1 : IntKind.u64.wrap x = x := u64w (by omega) (by omega)
 obtain ⟨b1, b2, b3⟩ := SH (x := x.toNat) (by omega) (by omega)
 refine ⟨?_, ?_⟩ <;> simp (disch := omega) only [ewZ, reduceCtorEq, seval, hSS, w1]
 ·refine ⟨trivial, ?_⟩
  show 0 <= IntKind.i64.wrap ((Lib.bitLen x.toNat : Nat) : Int)
  rw [i64w (by omega) (by omega)]
  omega
 ·show 1 <= IntKind.u64.wrap (1 * 2 ^ min (IntKind.i64.wrap ((Lib.bitLen x.toNat : Nat) : Int)).toNat 64) /\ IntKind.u64.wrap (1 * 2 ^ min (IntKind.i64.wrap ((Lib.bitLen x.toNat : Nat) : Int)).toNat 64) <= 2 * x
  rw [i64w (by omega) (by omega), show min ((Lib.bitLen x.toNat : Nat) : Int).toNat 64 = Lib.bitLen x.toNat by omega]
  have e : (1 * 2 ^ Lib.bitLen x.toNat : Int) = ((2 ^ Lib.bitLen x.toNat : Nat) : Int) := by rw [Int.natCast_pow]; simp
  rw [e, u64w (by omega) (by omega)]
  omega
theorem cBpok : cBp.OK Tryd.prog G0 := ⟨rfl, mF ⟨ok104x.1, trivial⟩, mF trivial⟩
theorem okBp : IPz 93 pBp leBp Pg := by
 refine cBpok.loopK muBp false 9093 [(104, e104x)] ⟨_, _, _, Tryd.func93, rfl, rfl⟩ ?_
 go_invoke
 refine enK rfl ?_
 intro φ l ρ D a ha n hn r hr m hm i hi hp hφ hSS _
 obtain ⟨p1, p2, p3, p4, p5, p6, p7⟩ := hp
 replace p1 : LN D := p1
 have p0 := p1.2
 simp only [ewY, seval] at p2 p3 p4 p5 p6 p7
 obtain ⟨q, hq⟩ : ∃ q, n / 4 = q := ⟨_, rfl⟩
 have wq : n.tdiv 4 = q := by rw [Int.tdiv_eq_ediv_of_nonneg (by omega)]; exact hq
 have v0 : IntKind.i64.wrap q = q := i64w (by omega) (by omega)
 have v2 : IntKind.i64.wrap (q * 2) = q * 2 := i64w (by omega) (by omega)
 have v3 : IntKind.i64.wrap (a + q * 2) = a + q * 2 := i64w (by omega) (by omega)
 have v4 : IntKind.i64.wrap (a + q * 2 + 1) = a + q * 2 + 1 := i64w (by omega) (by omega)
 have v6 : IntKind.u64.wrap (m - 1) = m - 1 := u64w (by omega) (by omega)
 by_cases c : i <= a + q * 2 + 1
 ·have v5 : IntKind.i64.wrap (i + 1) = i + 1 := i64w (by omega) (by omega)
  have z0 := and64 (IntKind.u64.wrap (e104x.fn 1 [r])) (m - 1) (by omega) (by omega)
  obtain ⟨z, hz⟩ : ∃ z, bitsI .and .u64 (IntKind.u64.wrap (e104x.fn 1 [r])) (m - 1) = z := ⟨_, rfl⟩
  rw [hz] at z0
  have x0 : 0 <= (if n <= z then z - n else z) /\ (if n <= z then z - n else z) < n := by
   by_cases h : n <= z
   ·rw [if_pos h]; omega
   ·rw [if_neg h]; omega
  obtain ⟨o, ho⟩ : ∃ o, (if n <= z then z - n else z) = o := ⟨_, rfl⟩
  rw [ho] at x0
  have wz : IntKind.i64.wrap z = z := i64w (by omega) (by omega)
  have wn : IntKind.i64.wrap (z - n) = z - n := i64w (by omega) (by omega)
  have wo : IntKind.i64.wrap (a + o) = a + o := i64w (by omega) (by omega)
  obtain ⟨x', hx'⟩ : ∃ z, IntKind.u64.wrap (e104x.fn 0 [r]) = z := ⟨_, rfl⟩
  have wx : IntKind.u64.wrap x' = x' := by rw [<- hx']; exact K.norm_norm (.i .u64) _
  have s : St D (swc D i.toNat (a + o).toNat) a (a + n) := St.swc p1.1 p2 (by omega) (by omega) p4
  have lE := AX D i.toNat (a + o).toNat
  obtain ⟨E, hE⟩ : ∃ E, swc D i.toNat (a + o).toNat = E := ⟨_, rfl⟩
  rw [hE] at s lE
  have y2 : lbBp.ent.pre [E, a, n, x', m, i + 1] := ⟨s.ln p1, p2, p3, by show a + n <= ((dc E).length : Int); omega, p5, p6, by show a <= i + 1; omega⟩
  have ym : muBp [E, a, n, x', m, i + 1] < muBp [D, a, n, r, m, i] := by show (a + n - (i + 1)).toNat < (a + n - i).toNat; omega
  have ih := hφ [E, a, n, x', m, i + 1] ⟨rfl, ha, hn, wx, hm, v5, trivial⟩ y2 ym
  obtain ⟨u, hu⟩ : ∃ u, φ 0 [E, a, n, x', m, i + 1] = u := ⟨_, rfl⟩
  have ih : St E u a (a + n) := by rw [<- hu]; exact ih
  have lu := ih.len
  refine ⟨?_, ?_⟩
  ·simp (disch := omega) only [ewZ, reduceCtorEq, seval, hSS, Ai, p1.1.w, Ap, wq, v0, v2, v3, v4, v5, v6, c, hz, wz, wn, ho, wo, hx', hE, hu, lu, lE]
   exact ⟨⟨trivial, by omega⟩, y2, ym⟩
  ·simp (disch := omega) only [ewZ, reduceCtorEq, seval, hSS, Ai, p1.1.w, Ap, wq, v0, v2, v3, v4, v5, v6, c, hz, wz, wn, ho, wo, hx', hE, hu]
   exact s.trans ih
 ·refine ⟨?_, ?_⟩ <;> simp (disch := omega) only [ewZ, reduceCtorEq, seval, hSS, wq, v0, v2, v3, v4, c]
  ·exact St.refl p1.1 _ _
theorem c93ok : c93.OK Tryd.prog G0 := ⟨rfl, mF ⟨ok103.1, trivial⟩, mF ⟨okBp.1, trivial⟩⟩
theorem ok93 : EPz e93 Ph := by
 refine c93ok.entryK false [(103, e103), (9093, leBp.ent)] ?_
 go_invoke
 refine enK rfl ?_
 intro l ρ D a ha b hb hp hSS _
 obtain ⟨p1, p2, p3, p4⟩ := hp
 replace p1 : LN D := p1
 have p0 := p1.2
 simp only [ewY, seval] at p2 p3 p4
 have w1 : IntKind.i64.wrap (b - a) = b - a := i64w (by omega) (by omega)
 by_cases c : b - a >= 8
 ·obtain ⟨q, hq⟩ : ∃ q, (b - a) / 4 = q := ⟨_, rfl⟩
  have wq : (b - a).tdiv 4 = q := by rw [Int.tdiv_eq_ediv_of_nonneg (by omega)]; exact hq
  have v0 : IntKind.i64.wrap q = q := i64w (by omega) (by omega)
  have v2 : IntKind.i64.wrap (q * 2) = q * 2 := i64w (by omega) (by omega)
  have v3 : IntKind.i64.wrap (a + q * 2) = a + q * 2 := i64w (by omega) (by omega)
  have v4 : IntKind.i64.wrap (a + q * 2 - 1) = a + q * 2 - 1 := i64w (by omega) (by omega)
  have w2 : IntKind.u64.wrap (b - a) = b - a := u64w (by omega) (by omega)
  have y0 : e103.pre [b - a] := ⟨by show 1 <= b - a; omega, by show b - a <= 1000000; omega⟩
  have z := ok103.2 [b - a] ⟨w1, trivial⟩ y0
  obtain ⟨m, hm⟩ : ∃ m, IntKind.u64.wrap (e103.fn 0 [b - a]) = m := ⟨_, rfl⟩
  have z : 1 <= m /\ m <= 2 * (b - a) := by rw [<- hm]; exact z
  have y1 : lbBp.ent.pre [D, a, b - a, b - a, m, a + q * 2 - 1] := ⟨p1, p2, c, by show a + (b - a) <= ((dc D).length : Int); omega, z.1, z.2, by show a <= a + q * 2 - 1; omega⟩
  have g := okBp.2 [D, a, b - a, b - a, m, a + q * 2 - 1] ⟨rfl, ha, w1, w2, u64w (by omega) (by omega), v4, trivial⟩ y1
  obtain ⟨u, hu⟩ : ∃ u, leBp.ent.fn 0 [D, a, b - a, b - a, m, a + q * 2 - 1] = u := ⟨_, rfl⟩
  have g : St D u a (a + (b - a)) := by rw [<- hu]; exact g
  rw [show a + (b - a) = b by omega] at g
  have lu := g.len
  refine ⟨?_, ?_⟩
  ·simp (disch := omega) only [ewZ, reduceCtorEq, seval, hSS, w1, w2, c, wq, v0, v2, v3, v4, hm, hu, lu]
   exact ⟨y0, y1⟩
  ·simp (disch := omega) only [ewZ, reduceCtorEq, seval, hSS, w1, w2, c, wq, v0, v2, v3, v4, hm, hu]
   exact g
 ·refine ⟨?_, ?_⟩ <;> simp (disch := omega) only [ewZ, reduceCtorEq, seval, hSS, w1, c]
  ·exact St.refl p1.1 _ _
end
end Go.Proofs.YtgpflpbldeflhaaDoor.Ew.Sr

/- Texts that the claim needs, set narrow. -/
import Derived.Test.YtgpflpbldeflhaaDoory11
set_option linter.unusedVariables false
set_option linter.unusedSimpArgs false
set_option maxHeartbeats 8000000
namespace Go.Proofs.YtgpflpbldeflhaaDoor.Ew.Sr
open Go Go.RowKit
noncomputable section
def rbx : Sh := .obj 74 (ruK.map .sc)
def pDs (k : Nat) : List Bool := [true,true,false,true,false,false,true,true,false,false,true,true,true,true,false] ++ List.replicate (k + 1) true ++ [false,true,true,false,false,true,true,false]
def pD6 : List Bool := pDs 0
def preD6 (xs : List Int) : Prop := rowsOK ruK (dc (env xs 14)) /\ ((dc (env xs 14)).length : Int) <= 3 /\ rowsOK [.i .u32] (dc (env xs 15)) /\ env xs 16 = ((dc (env xs 15)).length : Int) /\ env xs 16 <= 1000000 /\ 0 <= env xs 17 /\ env xs 17 <= env xs 16
def muD6 (xs : List Int) : Nat := (env xs 16 - env xs 17).toNat
def cD6 : Ctx := ⟨[e5, e21g.nm, e3], []⟩
def lbD6 : LEnt := ⟨⟨9906, 999999, [i64, rbx, lru, .lst 26 uR false, i64, i64], [], [0, 1, 2], .tup [], z0, preD6⟩, [2, 3, 5, 113, 114, 115], [], [7, 8, 9, 10] ++ (List.range 56).map (· + 115), [.ex 5], 287, [5, 113]⟩
def leD6 : LEnt := lbD6.fw (fnM Tryd.prog G0 6 pD6 lbD6 T2s)
def leD6b : LEnt := { leD6 with ent := { leD6.ent with key := 9907 } }
def leD6c : LEnt := { leD6 with ent := { leD6.ent with key := 9908 } }
def cQ6 : Ctx := ⟨[], [(6, pDs 0, leD6), (6, pDs 1, leD6b), (6, pDs 2, leD6c)]⟩
def pQ6 : List Bool := [true, true, false, true, false, false, true, true, false, false, true, true, true]
def lbQ6 : LEnt := ⟨⟨9606, 999999, [rbx, i64, rbx], [], [0, 1], .tup [], z0, T0⟩, [1, 2, 3], [], [5] ++ [7, 8, 9, 10] ++ (List.range 81).map (· + 91), [.nrm], 287, []⟩
def leQ6 : LEnt := lbQ6.fw (fnM Tryd.prog G0 6 pQ6 lbQ6 T2s)
def pW6 : List Bool := [true, true, false, true, false, false, true, true, false, false, true, true, false]
def preW6 (xs : List Int) : Prop := 0 <= env xs 0 /\ env xs 0 < 40
def lbW6 : LEnt := ⟨⟨10006, 999999, [i64, rbx], [{ j := 0, ty := 74, cs := ruK.map .sc }], [], .tup [], z0, preW6⟩, [2, 3], [], (List.range 62).map (· + 29), [.nrm], 287, []⟩
def JL : E := (.or (.cmp .eql (.dv .rem .i64 (vI 0) 8) (lI 0)) (.or (.cmp .eql (.dv .rem .i64 (vI 0) 8) (lI 1)) (.or (.cmp .eql (.dv .rem .i64 (vI 0) 8) (lI 2)) (.or (.not (.cmp .eql (.dv .rem .i64 (vI 0) 8) (lI 3))) (.cmp .geq (.dv .rem .i64 (vI 0) 32) (lI 0))))))
def NB : List E := [(.ite (.cmp .eql (.dv .rem .i64 (vI 0) 8) (lI 0)) (.conv .u8 (.dv .quo .i64 (vI 0) 8)) (.var (.i .u8) 1)), (.var (.i .u8) 2), (.ite (.cmp .eql (.dv .rem .i64 (vI 0) 8) (lI 0)) (.var (.i .u8) 3) (.ite (.cmp .eql (.dv .rem .i64 (vI 0) 8) (lI 1)) (.conv .u8 (vI 0)) (.var (.i .u8) 3))), (.ite (.cmp .eql (.dv .rem .i64 (vI 0) 8) (lI 0)) (.var (.i .u8) 4) (.ite (.cmp .eql (.dv .rem .i64 (vI 0) 8) (lI 1)) (.bin .and .u8 (.conv .u8 (vI 0)) (.lit (.i .u8) 21)) (.var (.i .u8) 4))), (.ite (.cmp .eql (.dv .rem .i64 (vI 0) 8) (lI 0)) (.var (.i .u32) 5) (.ite (.cmp .eql (.dv .rem .i64 (vI 0) 8) (lI 1)) (.var (.i .u32) 5) (.ite (.cmp .eql (.dv .rem .i64 (vI 0) 8) (lI 2)) (.lit (.i .u32) 2147483648) (.ite (.cmp .eql (.dv .rem .i64 (vI 0) 8) (lI 3)) (.var (.i .u32) 5) (.ite (.cmp .eql (.dv .rem .i64 (vI 0) 8) (lI 4)) (.var (.i .u32) 5) (.ite (.cmp .eql (.dv .rem .i64 (vI 0) 8) (lI 5)) (.var (.i .u32) 5) (.ite (.cmp .eql (.dv .rem .i64 (vI 0) 8) (lI 6)) (.conv .u32 (vI 0)) (.var (.i .u32) 5)))))))), (.ite (.cmp .eql (.dv .rem .i64 (vI 0) 8) (lI 0)) (.var (.i .u8) 6) (.ite (.cmp .eql (.dv .rem .i64 (vI 0) 8) (lI 1)) (.var (.i .u8) 6) (.ite (.cmp .eql (.dv .rem .i64 (vI 0) 8) (lI 2)) (.conv .u8 (.bin .add .i64 (lI 1) (vI 0))) (.ite (.cmp .eql (.dv .rem .i64 (vI 0) 8) (lI 3)) (.var (.i .u8) 6) (.ite (.cmp .eql (.dv .rem .i64 (vI 0) 8) (lI 4)) (.var (.i .u8) 6) (.ite (.cmp .eql (.dv .rem .i64 (vI 0) 8) (lI 5)) (.var (.i .u8) 6) (.ite (.cmp .eql (.dv .rem .i64 (vI 0) 8) (lI 6)) (.lit (.i .u8) 32) (.var (.i .u8) 6)))))))), (.ite (.cmp .eql (.dv .rem .i64 (vI 0) 8) (lI 0)) (.var (.i .u32) 7) (.ite (.cmp .eql (.dv .rem .i64 (vI 0) 8) (lI 1)) (.var (.i .u32) 7) (.ite (.cmp .eql (.dv .rem .i64 (vI 0) 8) (lI 2)) (.var (.i .u32) 7) (.ite (.cmp .eql (.dv .rem .i64 (vI 0) 8) (lI 3)) (.sh .shl .u32 (.lit (.i .u32) 4294967295) (.dv .rem .i64 (vI 0) 32)) (.var (.i .u32) 7))))), (.ite (.cmp .eql (.dv .rem .i64 (vI 0) 8) (lI 0)) (.var (.i .u8) 8) (.ite (.cmp .eql (.dv .rem .i64 (vI 0) 8) (lI 1)) (.var (.i .u8) 8) (.ite (.cmp .eql (.dv .rem .i64 (vI 0) 8) (lI 2)) (.var (.i .u8) 8) (.ite (.cmp .eql (.dv .rem .i64 (vI 0) 8) (lI 3)) (.conv .u8 (.bin .sub .i64 (lI 32) (.dv .rem .i64 (vI 0) 32))) (.var (.i .u8) 8))))), (.ite (.cmp .eql (.dv .rem .i64 (vI 0) 8) (lI 0)) (.var (.i .u16) 9) (.ite (.cmp .eql (.dv .rem .i64 (vI 0) 8) (lI 1)) (.var (.i .u16) 9) (.ite (.cmp .eql (.dv .rem .i64 (vI 0) 8) (lI 2)) (.var (.i .u16) 9) (.ite (.cmp .eql (.dv .rem .i64 (vI 0) 8) (lI 3)) (.var (.i .u16) 9) (.ite (.cmp .eql (.dv .rem .i64 (vI 0) 8) (lI 4)) (.bin .sub .u16 (.lit (.i .u16) 65535) (.conv .u16 (.dv .quo .i64 (vI 0) 8))) (.ite (.cmp .eql (.dv .rem .i64 (vI 0) 8) (lI 5)) (.var (.i .u16) 9) (.ite (.cmp .eql (.dv .rem .i64 (vI 0) 8) (lI 6)) (.var (.i .u16) 9) (.ite (.cmp .eql (.dv .rem .i64 (vI 0) 8) (lI 7)) (.lit (.i .u16) 9) (.var (.i .u16) 9))))))))), (.ite (.cmp .eql (.dv .rem .i64 (vI 0) 8) (lI 0)) (.var (.i .u16) 10) (.ite (.cmp .eql (.dv .rem .i64 (vI 0) 8) (lI 1)) (.var (.i .u16) 10) (.ite (.cmp .eql (.dv .rem .i64 (vI 0) 8) (lI 2)) (.var (.i .u16) 10) (.ite (.cmp .eql (.dv .rem .i64 (vI 0) 8) (lI 3)) (.var (.i .u16) 10) (.ite (.cmp .eql (.dv .rem .i64 (vI 0) 8) (lI 4)) (.lit (.i .u16) 65535) (.ite (.cmp .eql (.dv .rem .i64 (vI 0) 8) (lI 5)) (.var (.i .u16) 10) (.ite (.cmp .eql (.dv .rem .i64 (vI 0) 8) (lI 6)) (.var (.i .u16) 10) (.ite (.cmp .eql (.dv .rem .i64 (vI 0) 8) (lI 7)) (.lit (.i .u16) 9) (.var (.i .u16) 10))))))))), (.ite (.cmp .eql (.dv .rem .i64 (vI 0) 8) (lI 0)) (.var (.i .u16) 11) (.ite (.cmp .eql (.dv .rem .i64 (vI 0) 8) (lI 1)) (.var (.i .u16) 11) (.ite (.cmp .eql (.dv .rem .i64 (vI 0) 8) (lI 2)) (.var (.i .u16) 11) (.ite (.cmp .eql (.dv .rem .i64 (vI 0) 8) (lI 3)) (.var (.i .u16) 11) (.ite (.cmp .eql (.dv .rem .i64 (vI 0) 8) (lI 4)) (.var (.i .u16) 11) (.ite (.cmp .eql (.dv .rem .i64 (vI 0) 8) (lI 5)) (.lit (.i .u16) 0) (.ite (.cmp .eql (.dv .rem .i64 (vI 0) 8) (lI 6)) (.var (.i .u16) 11) (.ite (.cmp .eql (.dv .rem .i64 (vI 0) 8) (lI 7)) (.lit (.i .u16) 5) (.var (.i .u16) 11))))))))), (.ite (.cmp .eql (.dv .rem .i64 (vI 0) 8) (lI 0)) (.var (.i .u16) 12) (.ite (.cmp .eql (.dv .rem .i64 (vI 0) 8) (lI 1)) (.var (.i .u16) 12) (.ite (.cmp .eql (.dv .rem .i64 (vI 0) 8) (lI 2)) (.var (.i .u16) 12) (.ite (.cmp .eql (.dv .rem .i64 (vI 0) 8) (lI 3)) (.var (.i .u16) 12) (.ite (.cmp .eql (.dv .rem .i64 (vI 0) 8) (lI 4)) (.var (.i .u16) 12) (.ite (.cmp .eql (.dv .rem .i64 (vI 0) 8) (lI 5)) (.conv .u16 (.dv .quo .i64 (vI 0) 8)) (.ite (.cmp .eql (.dv .rem .i64 (vI 0) 8) (lI 6)) (.var (.i .u16) 12) (.ite (.cmp .eql (.dv .rem .i64 (vI 0) 8) (lI 7)) (.lit (.i .u16) 4) (.var (.i .u16) 12))))))))), (.var .b 13)]
def leW6 : LEnt := lbW6.fw (fnR cN.l.F lbW6.ent.np JL NB T2s)
theorem ev_W6 : evP Tryd.prog G0 (A5 cN.fs) (evFn Tryd.prog G0 (A5 cN.fs) (ltOf cN.ls) 40 10) 40 (subP cN.ls 6 pW6) leW6 (AQ Tryd.prog 6 pW6) = some (JL, NB) := by kernel_rfl
def pI6 : List Bool := [true, true, false, true, false]
def preI6 (xs : List Int) : Prop := 0 <= env xs 13 /\ env xs 13 <= 40
def muI6 (xs : List Int) : Nat := (40 - env xs 13).toNat
def cI6 : Ctx := ⟨[], [(6, pW6, leW6), (6, pQ6, leQ6)]⟩
def lbI6 : LEnt := ⟨⟨9706, 999999, [rbx, i64], [], [0], .tup [], z0, preI6⟩, [1, 25], [], [2, 3] ++ [5] ++ [7, 8, 9, 10] ++ (List.range 148).map (· + 25), [.ex 0], 287, []⟩
def leI6 : LEnt := lbI6.fw (fnM Tryd.prog G0 6 pI6 lbI6 T2s)
def pM6 : List Bool := [true, true, true, true, false, true, false]
def preM6 (xs : List Int) : Prop := ((dc (env xs 13)).length : Int) = env xs 14 /\ 0 <= env xs 14 /\ env xs 14 <= 257
def QN (xs ys : List Int) : Prop := dc (env ys 0) = dc (env xs 13) ++ List.replicate (257 - env xs 14).toNat (xs.take 13)
def muM6 (xs : List Int) : Nat := (257 - env xs 14).toNat
def lbM6 : LEnt := ⟨⟨9806, 999999, [rbx, .lst 74 ruR true, i64], [], [0], .tup [.lst 74 ruR true], z0, preM6⟩, [1, 11, 173], [11], (List.range 7).map (· + 173), [.ex 7], 287, []⟩
def leM6 : LEnt := lbM6.fw (fnM Tryd.prog G0 6 pM6 lbM6 QN)
theorem cD6ok : cD6.OK Tryd.prog G0 := ⟨rfl, mF ⟨ok5.1, (EntryOK.nm ok21g.1), ok3.1, trivial⟩, mF trivial⟩
theorem S2 {l : Int} {ys X : List Int} (h : EO [l] ys) (h0 : env ys 8 = 0) (hr : rowsOK ruK (dc l)) (hX : ∀ k, k < 7 -> env X (k + 1) = env ys (k + 1)) : ∀ k, k < 7 -> rowsOK clK (dc (env X (k + 1))) /\ ((dc (env X (k + 1))).length : Int) <= 9223372036854775807 := fun k hk => by
 rcases h with ⟨_, _, h⟩ | ⟨_, _, _, h⟩ | ⟨p, q, T, _⟩
 ·rw [h0] at h; exact absurd h (by decide)
 ·rw [h0] at h; exact absurd h (by decide)
 ·have hL : ruls (dc l) := ⟨by have q : ((dc l).length : Int) <= 256 := q; omega, fun r h => ⟨hr r h, p r h⟩⟩
  have a := T.at k hk
  have e : (tabs ys).getD k [] = dc (env ys (k + 1)) := match k, hk with | 0, _ => rfl | 1, _ => rfl | 2, _ => rfl | 3, _ => rfl | 4, _ => rfl | 5, _ => rfl | 6, _ => rfl
  rw [e] at a
  have f := a.facts (by omega) hL
  rw [hX k hk]
  exact ⟨a.1, by have := f.2.2.2.2.1; omega⟩
theorem okD6 : IPz 6 pD6 leD6 T2s := by
 refine cD6ok.loopK muD6 true 9906 [(3, e3), (5, e5), (100002101, e21g.nm)] ⟨_, _, _, Tryd.func6, rfl, rfl⟩ ?_
 go_invoke
 refine enK rfl ?_
 intro φ l ρ i hi r0 hr0 r1 hr1 r2 hr2 r3 hr3 r4 hr4 r5 hr5 r6 hr6 r7 hr7 r8 hr8 r9 hr9 ra hra rb hrb rc hrc ll q n hn j hj hp hφ v1 hn1 v2 v3 v4 v5 v6 v7 v8 v9 hn9 hSS hd
 simp (disch := omega) only [and_true, Ent.nm_fn, hSS, ewZ, reduceCtorEq, seval] at hd
 obtain ⟨hd1, hd2, hd3, hd4, hd5, hd6, hd7, hd8, hd9⟩ := hd
 obtain ⟨p1, p2, p3, p4, p5, p6, p7⟩ := hp
 replace p1 : rowsOK ruK (dc ll) := p1
 replace p2 : ((dc ll).length : Int) <= 3 := p2
 replace p3 : rowsOK [.i .u32] (dc q) := p3
 simp only [ewY, seval] at p4 p5 p6 p7
 refine ⟨?_, trivial⟩
 by_cases c : j < n
 ·have w0 : IntKind.i64.wrap (j + 1) = j + 1 := i64w (by omega) (by omega)
  have y21 : e21g.pre [ll] := ⟨p1, by show ((dc ll).length : Int) <= 1000000; omega⟩
  have Z := (PostOK.usf (vs := [v1, v2, v3, v4, v5, v6, v7, v8, v9]) ok21g.2 ⟨hd1, hd2, hd3, hd4, hd5, hd6, hd7, hd8, hd9, trivial⟩) ⟨rfl, trivial⟩ y21
  have pl : ((dc ll).length : Int) <= 9223372036854775807 := by omega
  have yp : lbD6.ent.pre [i, r0, r1, r2, r3, r4, r5, r6, r7, r8, r9, ra, rb, rc, ll, q, n, j + 1] := ⟨p1, p2, p3, p4, p5, by show 0 <= j + 1; omega, by show j + 1 <= n; omega⟩
  have ym : muD6 [i, r0, r1, r2, r3, r4, r5, r6, r7, r8, r9, ra, rb, rc, ll, q, n, j + 1] < muD6 [i, r0, r1, r2, r3, r4, r5, r6, r7, r8, r9, ra, rb, rc, ll, q, n, j] := by show (n - (j + 1)).toNat < (n - j).toNat; omega
  simp (disch := omega) only [ewZ, reduceCtorEq, seval, hSS, c, w0]
  exact ⟨⟨p6, by omega, ⟨p1, pl⟩, y21, fun h => S2 Z h p1 fun k hk => match k, hk with | 0, _ | 1, _ | 2, _ | 3, _ | 4, _ | 5, _ | 6, _ => rfl⟩, yp, ym⟩
 ·simp (disch := omega) only [ewZ, reduceCtorEq, seval, hSS, c]
theorem okD6k (le : LEnt) (k : Nat) (h : AQ Tryd.prog 6 (pDs k) = AQ Tryd.prog 6 pD6) (e : CodeOK Tryd.prog G0 (AQ Tryd.prog 6 pD6) leD6 -> CodeOK Tryd.prog G0 (AQ Tryd.prog 6 pD6) le) : AL Tryd.prog G0 6 (pDs k) le := by
 unfold AL
 rw [h]
 exact e okD6.1
theorem cQ6ok : cQ6.OK Tryd.prog G0 := ⟨rfl, mF trivial, mF ⟨okD6.1, (okD6k leD6b 1 (by kernel_rfl) id), (okD6k leD6c 2 (by kernel_rfl) id), trivial⟩⟩
theorem row_u {a b c d e : Int} (ha : IntKind.u32.wrap a = a) (hb : IntKind.u32.wrap b = b) (hc : IntKind.u32.wrap c = c) (hd : IntKind.u32.wrap d = d) (he : IntKind.u32.wrap e = e) : rowsOK [.i .u32] [[a], [b], [c], [d], [e]] := fun r hr => by
 simp only [List.mem_cons, List.not_mem_nil, or_false] at hr
 rcases hr with rfl | rfl | rfl | rfl | rfl
 ·exact ⟨ha, trivial⟩
 ·exact ⟨hb, trivial⟩
 ·exact ⟨hc, trivial⟩
 ·exact ⟨hd, trivial⟩
 ·exact ⟨he, trivial⟩
theorem okQ6 : IPz 6 pQ6 leQ6 T2s := by
 refine cQ6ok.pieceK true [(9906, leD6.ent), (9907, leD6b.ent), (9908, leD6c.ent)] ⟨_, _, _, Tryd.func6, rfl, rfl⟩ ?_
 go_invoke
 refine enK rfl ?_
 intro l ρ b0 hb0 b1 hb1 b2 hb2 b3 hb3 b4 hb4 b5 hb5 b6 hb6 b7 hb7 b8 hb8 b9 hb9 ba hba bb hbb bc hbc i hi r0 hr0 r1 hr1 r2 hr2 r3 hr3 r4 hr4 r5 hr5 r6 hr6 r7 hr7 r8 hr8 r9 hr9 ra hra rb hrb rc hrc hp hSS _
 refine ⟨?_, trivial⟩
 have fr : fits ruK [r0, r1, r2, r3, r4, r5, r6, r7, r8, r9, ra, rb, rc] := ⟨hr0, hr1, hr2, hr3, hr4, hr5, hr6, hr7, hr8, hr9, hra, hrb, hrc, trivial⟩
 have fb : fits ruK [b0, b1, b2, b3, b4, b5, b6, b7, b8, b9, ba, bb, bc] := ⟨hb0, hb1, hb2, hb3, hb4, hb5, hb6, hb7, hb8, hb9, hba, hbb, hbc, trivial⟩
 have mk : ∀ M : RL, rowsOK ruK M -> M.length <= 3 -> preD6 [i, r0, r1, r2, r3, r4, r5, r6, r7, r8, r9, ra, rb, rc, cd M, cd [[0], [r6], [IntKind.u32.wrap (r6 - 1)], [4294967295], [167772415]], 5, 0] := fun M hM h3 =>
  ⟨by show rowsOK ruK (dc (cd M)); rw [Ab]; exact hM, by show ((dc (cd M)).length : Int) <= 3; rw [Ab]; omega, by show rowsOK _ (dc (cd [[0], [r6], [IntKind.u32.wrap (r6 - 1)], [4294967295], [167772415]])); rw [Ab]; exact row_u rfl hr6 (K.norm_norm (.i .u32) _) rfl rfl,
   by show (5 : Int) = ((dc (cd [[0], [r6], [IntKind.u32.wrap (r6 - 1)], [4294967295], [167772415]])).length : Int); rw [Ab]; rfl, by show (5 : Int) <= 1000000; decide, Int.le_refl _, by show (0 : Int) <= 5; decide⟩
 simp (disch := omega) only [ewZ, reduceCtorEq, seval, hSS]
 refine ⟨mk _ (fun r hr => ?_) (by simp), mk _ (fun r hr => ?_) (by simp), mk _ (fun r hr => ?_) (by simp)⟩ <;> simp only [List.mem_cons, List.not_mem_nil, or_false] at hr
 ·exact hr ▸ fr
 ·rcases hr with rfl | rfl
  ·exact fr
  ·exact fb
 ·rcases hr with rfl | rfl | rfl
  ·exact fb
  ·exact fr
  ·exact fr
theorem okW6 : IPz 6 pW6 leW6 T2s := by
 refine Ctx.OK.nil.pieceH (c := cN) mixed ⟨_, _, _, Tryd.func6, rfl, rfl⟩ ev_W6 (by kernel_rfl) _ rfl fun xs hf hp => ?_
 obtain ⟨l, hl, hF⟩ := Ic (l0 := cN.l)
 show ∃ ρ : Nat -> Int, _ /\ JL.tt cN.l.F ρ = true /\ T2s xs (NB.map (E.den cN.l.F ρ))
 rw [hl]
 replace hf : fits [kJ, (.i .u8), (.i .u8), (.i .u8), (.i .u8), (.i .u32), (.i .u8), (.i .u32), (.i .u8), (.i .u16), (.i .u16), (.i .u16), (.i .u16), .b] xs := hf
 obtain ⟨i, hi, r0, hr0, r1, hr1, r2, hr2, r3, hr3, r4, hr4, r5, hr5, r6, hr6, r7, hr7, r8, hr8, r9, hr9, ra, hra, rb, hrb, rc, hrc, rfl⟩ := Bj hf
 simp only [AH] at hi hr0 hr1 hr2 hr3 hr4 hr5 hr6 hr7 hr8 hr9 hra hrb hrc
 obtain ⟨ρ, hρ⟩ : ∃ ρ : Nat -> Int, ∀ i_, i_ < 14 -> ρ i_ = env [i, r0, r1, r2, r3, r4, r5, r6, r7, r8, r9, ra, rb, rc] i_ := ⟨env [i, r0, r1, r2, r3, r4, r5, r6, r7, r8, r9, ra, rb, rc], fun _ _ => rfl⟩
 refine ⟨ρ, hρ, ?_⟩
 have hρe := Tk hρ (Nat.le_refl _)
 simp only [eqL, Nat.reduceAdd] at hρe
 have hSS := Jj (Jj (Jj hρe (Jj hi hr0)) (Jj (Jj hr1 hr2) (Jj hr3 hr4))) (Jj (Jj (Jj hr5 hr6) (Jj hr7 hr8)) (Jj (Jj hr9 hra) (Jj hrb hrc)))
 obtain ⟨p1, p2⟩ := hp
 simp only [ewY, seval] at p1 p2
 refine ⟨?_, trivial⟩
 simp (disch := omega) only [JL, ewZ, reduceCtorEq, seval, hSS]
 intro _ _ _ _
 rw [Int.tmod_eq_emod_of_nonneg p1]; omega
theorem cI6ok : cI6.OK Tryd.prog G0 := ⟨rfl, mF trivial, mF ⟨okW6.1, okQ6.1, trivial⟩⟩
theorem okI6 : IPz 6 pI6 leI6 T2s := by
 refine cI6ok.nm.loopK muI6 true 9706 [(100009606, leQ6.nm.ent), (100010006, leW6.nm.ent)] ⟨_, _, _, Tryd.func6, rfl, rfl⟩ ?_
 go_invoke
 refine enK rfl ?_
 intro φ l ρ b0 hb0 b1 hb1 b2 hb2 b3 hb3 b4 hb4 b5 hb5 b6 hb6 b7 hb7 b8 hb8 b9 hb9 ba hba bb hbb bc hbc i hi hp hφ v1 hn1 v2 hn2 v3 hn3 v4 hn4 v5 hn5 v6 hn6 v7 hn7 v8 hn8 v9 hn9 v10 hn10 v11 hn11 v12 hn12 v13 hn13 hSS hd
 simp (disch := omega) only [and_true, Ent.nm_fn, hSS, ewZ, reduceCtorEq, seval] at hd
 obtain ⟨hd1, hd2, hd3, hd4, hd5, hd6, hd7, hd8, hd9, hd10, hd11, hd12, hd13⟩ := hd
 obtain ⟨p1, p2⟩ := hp
 simp only [ewY, seval] at p1 p2
 refine ⟨?_, trivial⟩
 by_cases c : i < 40
 ·have w0 : IntKind.i64.wrap (i + 1) = i + 1 := i64w (by omega) (by omega)
  have yW : leW6.ent.pre [i, b0, b1, b2, b3, b4, b5, b6, b7, b8, b9, ba, bb, bc] := ⟨p1, c⟩
  have yp : lbI6.ent.pre [b0, b1, b2, b3, b4, b5, b6, b7, b8, b9, ba, bb, bc, i + 1] := ⟨by show 0 <= i + 1; omega, by show i + 1 <= 40; omega⟩
  have ym : muI6 [b0, b1, b2, b3, b4, b5, b6, b7, b8, b9, ba, bb, bc, i + 1] < muI6 [b0, b1, b2, b3, b4, b5, b6, b7, b8, b9, ba, bb, bc, i] := by show (40 - (i + 1)).toNat < (40 - i).toNat; omega
  simp (disch := omega) only [ewZ, reduceCtorEq, seval, hSS, c, w0]
  exact ⟨⟨yW, trivial⟩, yp, ym⟩
 ·simp (disch := omega) only [ewZ, reduceCtorEq, seval, hSS, c]
theorem okM6 : IPz 6 pM6 leM6 QN := by
 refine Ctx.OK.nil.loopK (c := cN) muM6 true 9806 [] ⟨_, _, _, Tryd.func6, rfl, rfl⟩ ?_
 go_invoke
 refine enK rfl ?_
 intro φ l ρ b0 hb0 b1 hb1 b2 hb2 b3 hb3 b4 hb4 b5 hb5 b6 hb6 b7 hb7 b8 hb8 b9 hb9 ba hba bb hbb bc hbc C i hi hp hφ hSS _
 obtain ⟨p1, p2, p3⟩ := hp
 simp only [ewY, seval] at p1 p2 p3
 by_cases c : i < 257
 ·have w0 : IntKind.i64.wrap (i + 1) = i + 1 := i64w (by omega) (by omega)
  obtain ⟨D, hD⟩ : ∃ D, cd (dc C ++ [[b0, b1, b2, b3, b4, b5, b6, b7, b8, b9, ba, bb, bc]]) = D := ⟨_, rfl⟩
  have dD : dc D = dc C ++ [[b0, b1, b2, b3, b4, b5, b6, b7, b8, b9, ba, bb, bc]] := by rw [<- hD, Ab]
  have lD : ((dc D).length : Int) = i + 1 := by rw [dD, List.length_append, List.length_singleton]; omega
  have yp : lbM6.ent.pre [b0, b1, b2, b3, b4, b5, b6, b7, b8, b9, ba, bb, bc, D, i + 1] := ⟨lD, by show 0 <= i + 1; omega, by show i + 1 <= 257; omega⟩
  have ym : muM6 [b0, b1, b2, b3, b4, b5, b6, b7, b8, b9, ba, bb, bc, D, i + 1] < muM6 [b0, b1, b2, b3, b4, b5, b6, b7, b8, b9, ba, bb, bc, C, i] := by show (257 - (i + 1)).toNat < (257 - i).toNat; omega
  have ih := hφ [b0, b1, b2, b3, b4, b5, b6, b7, b8, b9, ba, bb, bc, D, i + 1] ⟨hb0, hb1, hb2, hb3, hb4, hb5, hb6, hb7, hb8, hb9, hba, hbb, hbc, rfl, w0, trivial⟩ yp ym
  refine ⟨?_, ?_⟩ <;> simp (disch := omega) only [ewZ, reduceCtorEq, seval, hSS, c, w0, hD]
  ·exact ⟨by omega, yp, ym⟩
  ·replace ih : dc (φ 0 [b0, b1, b2, b3, b4, b5, b6, b7, b8, b9, ba, bb, bc, D, i + 1]) = dc D ++ List.replicate (257 - (i + 1)).toNat [b0, b1, b2, b3, b4, b5, b6, b7, b8, b9, ba, bb, bc] := ih
   show dc (φ 0 [b0, b1, b2, b3, b4, b5, b6, b7, b8, b9, ba, bb, bc, D, i + 1]) = dc C ++ List.replicate (257 - i).toNat [b0, b1, b2, b3, b4, b5, b6, b7, b8, b9, ba, bb, bc]
   rw [ih, dD, show (257 - i).toNat = (257 - (i + 1)).toNat + 1 by omega, List.replicate_succ, List.append_assoc]; rfl
 ·refine ⟨?_, ?_⟩ <;> simp (disch := omega) only [ewZ, reduceCtorEq, seval, hSS, c]
  ·show dc C = dc C ++ List.replicate (257 - i).toNat [b0, b1, b2, b3, b4, b5, b6, b7, b8, b9, ba, bb, bc]
   rw [show (257 - i).toNat = 0 by omega]; exact (List.append_nil _).symm
end
end Go.Proofs.YtgpflpbldeflhaaDoor.Ew.Sr
set_option maxHeartbeats 8000000
namespace Go.Proofs.YtgpflpbldeflhaaDoor.Ew.Sr
open Go Go.RowKit
noncomputable section
def pV6 (k : Nat) : List Bool := [true, true, true, true, true, true, true, true, true, false, true, false] ++ List.replicate (k + 1) true ++ [false, true, true, false, false]
def cV6 : Ctx := ⟨[e29, e30, e21g, e3], []⟩
def pV60 := pV6 0
def Sb : LEnt := ⟨⟨10106, 999999, [.lt kJ 0], [], [], .tup [], z0, T0⟩, [218], [], [18, 19, 20, 21] ++ (List.range 65).map (· + 220), [.nrm], 287, []⟩
def leV60 : LEnt := Sb.fw (fnM Tryd.prog G0 6 pV60 Sb T2s)
def pV61 := pV6 1
def Sc : LEnt := ⟨⟨10206, 999999, [.lt kJ 1], [], [], .tup [], z0, T0⟩, [218], [], [18, 19, 20, 21] ++ (List.range 65).map (· + 220), [.nrm], 287, []⟩
def leV61 : LEnt := Sc.fw (fnM Tryd.prog G0 6 pV61 Sc T2s)
def pV62 := pV6 2
def Sd : LEnt := ⟨⟨10306, 999999, [.lt kJ 2], [], [], .tup [], z0, T0⟩, [218], [], [18, 19, 20, 21] ++ (List.range 65).map (· + 220), [.nrm], 287, []⟩
def leV62 : LEnt := Sd.fw (fnM Tryd.prog G0 6 pV62 Sd T2s)
def pV63 := pV6 3
def Se : LEnt := ⟨⟨10406, 999999, [.lt kJ 3], [], [], .tup [], z0, T0⟩, [218], [], [18, 19, 20, 21] ++ (List.range 65).map (· + 220), [.nrm], 287, []⟩
def leV63 : LEnt := Se.fw (fnM Tryd.prog G0 6 pV63 Se T2s)
def pV64 := pV6 4
def Sf : LEnt := ⟨⟨10506, 999999, [.lt kJ 4], [], [], .tup [], z0, T0⟩, [218], [], [18, 19, 20, 21] ++ (List.range 65).map (· + 220), [.nrm], 287, []⟩
def leV64 : LEnt := Sf.fw (fnM Tryd.prog G0 6 pV64 Sf T2s)
def pV65 := pV6 5
def Si : LEnt := ⟨⟨10606, 999999, [.lt kJ 5], [], [], .tup [], z0, T0⟩, [218], [], [18, 19, 20, 21] ++ (List.range 65).map (· + 220), [.nrm], 287, []⟩
def leV65 : LEnt := Si.fw (fnM Tryd.prog G0 6 pV65 Si T2s)
def pV66 := pV6 6
def Sj : LEnt := ⟨⟨10706, 999999, [.lt kJ 6], [], [], .tup [], z0, T0⟩, [218], [], [18, 19, 20, 21] ++ (List.range 65).map (· + 220), [.nrm], 287, []⟩
def leV66 : LEnt := Sj.fw (fnM Tryd.prog G0 6 pV66 Sj T2s)
def pV67 := pV6 7
def Sk : LEnt := ⟨⟨10806, 999999, [.lt kJ 7], [], [], .tup [], z0, T0⟩, [218], [], [18, 19, 20, 21] ++ (List.range 65).map (· + 220), [.nrm], 287, []⟩
def leV67 : LEnt := Sk.fw (fnM Tryd.prog G0 6 pV67 Sk T2s)
def c6 : Ctx := ⟨[e29, e30, e21g, e13, e3, e11], [(6, pI6, leI6), (6, pM6, leM6), (6, pV60, leV60), (6, pV61, leV61), (6, pV62, leV62), (6, pV63, leV63), (6, pV64, leV64), (6, pV65, leV65), (6, pV66, leV66), (6, pV67, leV67)]⟩
def b6 : Ent := ⟨6, 6, [], [], [], .lt .b 1, z0, T0⟩
def e6 : Ent := b6.fw (fnG Tryd.prog G0 b6 T2s)
theorem T9 {v1 v2 v3 v4 v5 v6 v7 v8 v9 v10 : Int} (g : dc v1 = exL) (Z : EO [v1] [v2, v3, v4, v5, v6, v7, v8, v9, v10]) : v10 = 0 /\ (dc v6).length = 5 /\ (dc v4).length = 3 /\ ∀ k, k < 7 -> rowsOK clK (dc (env [v2, v3, v4, v5, v6, v7, v8, v9] (k + 1))) /\ ((dc (env [v2, v3, v4, v5, v6, v7, v8, v9] (k + 1))).length : Int) <= 9223372036854775807 := by
 have hr := CW
 have aR : allR (dc v1) := by rw [g]; exact fun r h => (hr.2 r h).2
 rcases Z with ⟨h, _⟩ | ⟨_, h, _⟩ | ⟨_, _, T, h⟩
 ·exact absurd aR h
 ·have h : 256 < ((dc v1).length : Int) := h
  rw [g] at h; exact absurd h (by decide)
 ·have T : tabP (dc v1) [v2, v3, v4, v5, v6, v7, v8, v9, v10] := T
  rw [g] at T
  have fk := fun k hk => (T.at k hk).facts (by omega) hr
  have f3 : dc v6 = clsF 3 exL := (fk 3 (by decide)).1
  have f1 : dc v4 = clsF 1 exL := (fk 1 (by decide)).1
  refine ⟨h, by rw [f3]; kernel_rfl, by rw [f1]; kernel_rfl, fun k hk => ?_⟩
  have a := (fk k hk).2.1
  have b := (fk k hk).2.2.2.2.1
  have e : (tabs [v2, v3, v4, v5, v6, v7, v8, v9, v10]).getD k [] = dc (env [v2, v3, v4, v5, v6, v7, v8, v9] (k + 1)) := match k, hk with | 0, _ => rfl | 1, _ => rfl | 2, _ => rfl | 3, _ => rfl | 4, _ => rfl | 5, _ => rfl | 6, _ => rfl
  rw [e] at a b
  exact ⟨a, by omega⟩
theorem QO {R : RL} (h : rowsOK clK R) {i : Nat} {q : List Int} (hq : fits clK q) : rowsOK clK (R.set i q) := fun r hr => by
 rcases List.mem_or_eq_of_mem_set hr with hr | rfl
 ·exact h r hr
 ·exact hq
theorem Hj {R : RL} (h : rowsOK clK R) {i : Nat} (hi : i < R.length) {z : Int} (hz : IntKind.u32.wrap z = z) : rowsOK clK (R.set i (splR (R.getD i []) 0 [z])) := by
 obtain ⟨f0, f1, f2, f3, f4, e, h0, h1⟩ := AJ h hi
 have hx : ∀ x ∈ [f1, f2, f3, f4], IntKind.u64.wrap x = x := h1.2
 rw [e]
 exact QO h ⟨hz, hx f1 (by simp), hx f2 (by simp), hx f3 (by simp), hx f4 (by simp), trivial⟩
theorem S3 {R : RL} (h : rowsOK clK R) {i : Nat} (hi : i < R.length) {a b c d : Int} (ha : IntKind.u64.wrap a = a) (hb : IntKind.u64.wrap b = b) (hc : IntKind.u64.wrap c = c) (hd : IntKind.u64.wrap d = d) : rowsOK clK (R.set i (splR (R.getD i []) 1 [a, b, c, d])) := by
 obtain ⟨f0, f1, f2, f3, f4, e, h0, h1⟩ := AJ h hi
 rw [e]
 exact QO h ⟨h0, ha, hb, hc, hd, trivial⟩
theorem cV6ok : cV6.OK Tryd.prog G0 := ⟨rfl, mF ⟨ok29.1, ok30.1, ok21g.1, ok3.1, trivial⟩, mF trivial⟩
theorem okV60Z : (IPz 6 pV60 leV60 T2s) /\ (IPz 6 pV61 leV61 T2s) /\ (IPz 6 pV62 leV62 T2s) /\ (IPz 6 pV63 leV63 T2s) := by
 refine ⟨?_, ?_, ?_, ?_⟩
 all_goals
  refine cV6ok.nm.pieceK false [(100000003, e3.nm), (100000029, e29.nm), (100000030, e30.nm), (100002101, e21g.nm)] ⟨_, _, _, Tryd.func6, rfl, rfl⟩ ?_
  go_invoke
  refine enK rfl ?_
  intro l ρ hp v1 v2 hn2 v3 v4 v5 v6 v7 v8 v9 v10 hn10 v11 hn11 v12 hn12 v13 hn13 v14 hn14 v15 hn15 v16 hn16 v17 hn17 v18 hn18 v19 hn19 v20 hn20 v21 hn21 v22 hn22 v23 hn23 v24 hn24 v25 hn25 v26 hn26 v27 hn27 v28 hn28 v29 hn29 hSS hd
  simp (disch := omega) only [and_true, Ent.nm_fn, hSS, ewZ, reduceCtorEq, seval] at hd
  obtain ⟨hd1, hd2, hd3, hd4, hd5, hd6, hd7, hd8, hd9, hd10, hd11, hd12, hd13, hd14, hd15, hd16, hd17, hd18, hd19, hd20, hd21, hd22, hd23, hd24, hd25, hd26, hd27, hd28, hd29⟩ := hd
  have g29 := (PostOK.usf (vs := [v1]) ok29.2 ⟨hd1, trivial⟩) trivial trivial
  replace g29 : dc v1 = exL := g29
  have y21 : e21g.pre [v1] := by
   show pre39 [v1]
   have hr := CW
   rw [<- g29] at hr
   exact ⟨fun r h => (hr.2 r h).1, by have := hr.1; show ((dc v1).length : Int) <= 1000000; omega⟩
  have Z := (PostOK.usf (vs := [v2, v3, v4, v5, v6, v7, v8, v9, v10]) ok21g.2 ⟨hd2, hd3, hd4, hd5, hd6, hd7, hd8, hd9, hd10, trivial⟩) ⟨rfl, trivial⟩ y21
  obtain ⟨z0, l3, l1, T⟩ := T9 g29 Z
  have n3 : ((dc v6).length : Int) = 5 := by omega
  have n1 : ((dc v4).length : Int) = 3 := by omega
  refine ⟨?_, trivial⟩
  simp (disch := omega) only [ewZ, reduceCtorEq, seval, hSS, z0, n3, n1]
  first | exact ⟨⟨trivial, y21⟩, trivial, fun k hk => match k, hk with | 0, _ => T 0 (by decide) | 1, _ => T 1 (by decide) | 2, _ => T 2 (by decide) | 3, _ => T 3 (by decide) | 4, _ => T 4 (by decide) | 5, _ => T 5 (by decide) | 6, _ => T 6 (by decide)⟩ | exact ⟨⟨trivial, y21⟩, trivial, fun k hk => match k, hk with | 0, _ => T 0 (by decide) | 1, _ => T 1 (by decide) | 2, _ => T 2 (by decide) | 3, _ => ⟨by show rowsOK clK (dc (cd _)); rw [Ab]; exact Hj (T 3 (by decide)).1 (show 1 < (dc v6).length by omega) rfl, by show ((dc (cd _)).length : Int) <= _; rw [Ab, List.length_set]; omega⟩ | 4, _ => T 4 (by decide) | 5, _ => T 5 (by decide) | 6, _ => T 6 (by decide)⟩ | exact ⟨⟨trivial, y21⟩, trivial, fun k hk => match k, hk with | 0, _ => T 0 (by decide) | 1, _ => T 1 (by decide) | 2, _ => T 2 (by decide) | 3, _ => ⟨by show rowsOK clK (dc (cd _)); rw [Ab]; exact S3 (T 3 (by decide)).1 (show 2 < (dc v6).length by omega) (K.norm_norm (.i .u64) _) (K.norm_norm (.i .u64) _) (K.norm_norm (.i .u64) _) (K.norm_norm (.i .u64) _), by show ((dc (cd _)).length : Int) <= _; rw [Ab, List.length_set]; omega⟩ | 4, _ => T 4 (by decide) | 5, _ => T 5 (by decide) | 6, _ => T 6 (by decide)⟩
theorem okV64Z : (IPz 6 pV64 leV64 T2s) /\ (IPz 6 pV65 leV65 T2s) /\ (IPz 6 pV66 leV66 T2s) /\ (IPz 6 pV67 leV67 T2s) := by
 refine ⟨?_, ?_, ?_, ?_⟩
 all_goals
  refine cV6ok.nm.pieceK false [(100000003, e3.nm), (100000029, e29.nm), (100000030, e30.nm), (100002101, e21g.nm)] ⟨_, _, _, Tryd.func6, rfl, rfl⟩ ?_
  go_invoke
  refine enK rfl ?_
  intro l ρ hp v1 v2 hn2 v3 v4 v5 v6 v7 v8 v9 v10 hn10 v11 hn11 v12 hn12 v13 hn13 v14 hn14 v15 hn15 v16 hn16 v17 hn17 v18 hn18 v19 hn19 v20 hn20 v21 hn21 v22 hn22 v23 hn23 v24 hn24 v25 hn25 v26 hn26 v27 hn27 v28 hn28 v29 hn29 hSS hd
  simp (disch := omega) only [and_true, Ent.nm_fn, hSS, ewZ, reduceCtorEq, seval] at hd
  obtain ⟨hd1, hd2, hd3, hd4, hd5, hd6, hd7, hd8, hd9, hd10, hd11, hd12, hd13, hd14, hd15, hd16, hd17, hd18, hd19, hd20, hd21, hd22, hd23, hd24, hd25, hd26, hd27, hd28, hd29⟩ := hd
  have g29 := (PostOK.usf (vs := [v1]) ok29.2 ⟨hd1, trivial⟩) trivial trivial
  replace g29 : dc v1 = exL := g29
  have y21 : e21g.pre [v1] := by
   show pre39 [v1]
   have hr := CW
   rw [<- g29] at hr
   exact ⟨fun r h => (hr.2 r h).1, by have := hr.1; show ((dc v1).length : Int) <= 1000000; omega⟩
  have Z := (PostOK.usf (vs := [v2, v3, v4, v5, v6, v7, v8, v9, v10]) ok21g.2 ⟨hd2, hd3, hd4, hd5, hd6, hd7, hd8, hd9, hd10, trivial⟩) ⟨rfl, trivial⟩ y21
  obtain ⟨z0, l3, l1, T⟩ := T9 g29 Z
  have n3 : ((dc v6).length : Int) = 5 := by omega
  have n1 : ((dc v4).length : Int) = 3 := by omega
  refine ⟨?_, trivial⟩
  simp (disch := omega) only [ewZ, reduceCtorEq, seval, hSS, z0, n3, n1]
  first | exact ⟨⟨trivial, y21⟩, trivial, fun k hk => match k, hk with | 0, _ => T 0 (by decide) | 1, _ => T 1 (by decide) | 2, _ => T 2 (by decide) | 3, _ => ⟨by show rowsOK clK (dc (cd _)); rw [Ab]; exact Hj (T 3 (by decide)).1 (show 0 < (dc v6).length by omega) rfl, by show ((dc (cd _)).length : Int) <= _; rw [Ab, List.length_set]; omega⟩ | 4, _ => T 4 (by decide) | 5, _ => T 5 (by decide) | 6, _ => T 6 (by decide)⟩ | exact ⟨⟨trivial, y21⟩, trivial, fun k hk => match k, hk with | 0, _ => ⟨by show rowsOK clK (dc (cd [])); rw [Ab]; exact (fun r hr => (by cases hr)), by show ((dc (cd [])).length : Int) <= _; rw [Ab]; decide⟩ | 1, _ => T 1 (by decide) | 2, _ => T 2 (by decide) | 3, _ => T 3 (by decide) | 4, _ => T 4 (by decide) | 5, _ => T 5 (by decide) | 6, _ => T 6 (by decide)⟩ | exact ⟨⟨trivial, y21⟩, trivial, fun k hk => match k, hk with | 0, _ => T 0 (by decide) | 1, _ => ⟨by show rowsOK clK (dc (cd _)); rw [Ab]; exact Hj (T 1 (by decide)).1 (show 2 < (dc v4).length by omega) rfl, by show ((dc (cd _)).length : Int) <= _; rw [Ab, List.length_set]; omega⟩ | 2, _ => T 2 (by decide) | 3, _ => T 3 (by decide) | 4, _ => T 4 (by decide) | 5, _ => T 5 (by decide) | 6, _ => T 6 (by decide)⟩ | exact ⟨⟨trivial, y21⟩, trivial, fun k hk => match k, hk with | 0, _ => T 0 (by decide) | 1, _ => T 1 (by decide) | 2, _ => T 2 (by decide) | 3, _ => T 3 (by decide) | 4, _ => T 4 (by decide) | 5, _ => T 5 (by decide) | 6, _ => T 6 (by decide)⟩
end
end Go.Proofs.YtgpflpbldeflhaaDoor.Ew.Sr

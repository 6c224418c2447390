/- Texts that the claim needs, set narrow. -/
import Derived.Test.Ytnockichpnaoeaau4
import Derived.Deep.RegionLaw
import Derived.Lib.SliceRun
import Derived.Lib.Hide
import Derived.Shelf.Spec.SlicesInsertGrow
import Derived.Test.YtnockichpnaoeaaProg
import Derived.Sort.OwnSortedInts
import Derived.Shelf.SortM.Plain
import Derived.Shelf.SortM.SortNone
import Derived.Shelf.SlGeneric
import Derived.Ground.SlgmProg
set_option linter.unusedVariables false
set_option linter.unusedSimpArgs false
namespace Go.Proofs.Ytnockichpnaoeaa.Ew
open Go Go.RowKit
noncomputable section
structure LZ (S now bu le mo T h ln vn D c : Int) (d a : Nat -> Int) (B : List Nat) : Prop where
 w : WV S now bu le mo T c a B
 hd : 1 <= h /\ h <= 4096
 ln : ln = le
 rD : rowsOK intK (dc D)
 cp : ((dc D).length : Int) = c
 dl : ∀ i : Nat, (i : Int) < c -> gC (dc D) i 0 = d i
 ad : ∀ i : Nat, (i : Int) < c -> (a i = 0 ↔ d i = 0) /\ a i <= d i /\ d i <= now + 2147483648
 vb : 0 <= vn /\ vn <= 1125899906842624
def LVx (xs : List Int) (c : Int) (d a : Nat -> Int) (B : List Nat) : Prop := LZ (env xs 0) (env xs 1) (env xs 2) (env xs 3) (env xs 4) (env xs 5) (env xs 6) (env xs 7) (env xs 8) (env xs 9) c d a B
def preZ (xs : List Int) : Prop := ∃ c d a B, LVx xs c d a B
def V8 (xs ys : List Int) : Prop := ∀ j, j < 10 -> env ys j = env xs j
def newZ (n c b h : Int) : Prop := newW n c b /\ 1 <= h /\ h <= 4096
def pre12 (xs : List Int) : Prop := newZ (env xs 0) (env xs 1) (env xs 2) (env xs 3)
def kW6 : List K := [.x, .i .i64, .i .i64, .i .i64, .i .i64, .x]
def kW7 : List K := [.x, .i .i64, .i .i64, .i .i64, .i .i64, .x, .i .i64]
def wp6 (ys : List Int) : List Int := [env ys 0, env ys 1, env ys 2, env ys 3, env ys 4, env ys 5]
def QB (xs ys : List Int) : Prop := Aj e13.fn [env xs 0, env xs 1, env xs 2] 0 kW6 (wp6 ys) /\ LVx ys (env xs 1) (fun _ => 0) (fun _ => 0) [] /\ env ys 1 = env xs 0 /\ env ys 2 = env xs 2 /\ env ys 4 = 0 /\ env ys 6 = env xs 3 /\ env ys 8 = 0
def b12 : Ent := ⟨312, 12, [i64, i64, i64, i64], [], [], .tup [lzS, .lt kJ 0], z0, pre12⟩
def ex13 (xs ys : List Int) : Prop := (0 <= env xs 10 /\ env xs 10 < lenD xs) /\ env xs 1 < env xs 11 /\ env xs 11 <= env xs 1 + 2147483648 -> if gC (TW xs) (env xs 10).toNat 4 = 0 \/ env xs 11 < gC (TW xs) (env xs 10).toNat 4 then ∃ e, Aj e14.fn (wp6 xs ++ [env xs 10, env xs 11]) 0 kW7 (wp6 ys ++ [e]) else wp6 ys = wp6 xs
def IJ (xs ys : List Int) : Prop := ex13 xs ys /\ ∀ c d a B, LVx xs c d a B ->
 (((0 <= env xs 10 /\ env xs 10 < c) /\ env xs 1 < env xs 11 /\ env xs 11 <= env xs 1 + 2147483648 ->
   LVx ys c (upD d (env xs 10).toNat (env xs 11)) (if a (env xs 10).toNat = 0 \/ env xs 11 < a (env xs 10).toNat then upD a (env xs 10).toNat (env xs 11) else a) B /\ env ys 10 = 0 /\ env ys 1 = env xs 1 /\ env ys 2 = env xs 2 /\ env ys 4 = env xs 4 /\ env ys 6 = env xs 6 /\ env ys 8 = env xs 8) /\
 (¬ ((0 <= env xs 10 /\ env xs 10 < c) /\ env xs 1 < env xs 11 /\ env xs 11 <= env xs 1 + 2147483648) -> env ys 10 = 2 /\ V8 xs ys))
def b13 : Ent := ⟨313, 13, [lzS, i64, i64], [wobL, lzO], [], i64, z0, preZ⟩
def QC (xs ys : List Int) : Prop := ∀ c d a B, LVx xs c d a B ->
 ((0 <= env xs 10 /\ env xs 10 < c ->
   LVx ys c (upD d (env xs 10).toNat 0) (upD a (env xs 10).toNat 0) (B.erase (env xs 10).toNat) /\ env ys 10 = (if d (env xs 10).toNat = 0 then 6 else 0) /\ env ys 1 = env xs 1 /\ env ys 2 = env xs 2 /\ env ys 4 = env xs 4 /\ env ys 6 = env xs 6 /\ env ys 8 = env xs 8) /\
 (¬ (0 <= env xs 10 /\ env xs 10 < c) -> env ys 10 = 2 /\ V8 xs ys))
def b19z : Ent := ⟨319, 19, [lzS, i64], [wobL, lzO], [], i64, z0, preZ⟩
def cZ2 : Ctx := ⟨[z34, z36, e18, e29, e14, e24, e13], []⟩
def cZ2n : Ctx := cZ2.nm
def FX : List E := [(vI 0), (vI 1), (vI 2)]
def QD : List (Nat × E) := [(640000083200000, (aX 100000013 0 FX)),
 (640000083200001, (aI 100000013 1 FX)),
 (640000083200002, (aI 100000013 2 FX)),
 (640000083200003, (aI 100000013 3 FX)),
 (640000083200004, (aI 100000013 4 FX)),
 (640000083200005, (aX 100000013 5 FX))]
def IK : E := (.or (.cmp .lss (vI 3) (lI 1)) (.cmp .gtr (vI 3) (lI 4096)))
def Lv : E := (.not IK)
def Nz : E := (.and (.or IK (.and (.and (.app .b 100000013 1000000 [(vI 0), (vI 1), (vI 2)]) (dE QD 0 6)) (.and (.cmp .geq (vI 1) (lI 0)) (.cmp .leq (vI 1) (.lit .x 17592186044416))))) (.and (.and Lv (.cmp .eql (.ite IK (lI 2) (lI 0)) (lI 0))) Lv))
def NA : List E := [(vX 640000083200000), (vI 640000083200001), (vI 640000083200002), (vI 640000083200003), (vI 640000083200004), (vX 640000083200005), (vI 3), (lI 0), (lI 0), (aX 0 7 [(vI 1), (lI 0)])]
def z12 : Ent := b12.fw (fnR cZ2n.l.F b12.np Nz NA QB)
theorem Xt : evE Try.prog G0 (Af cZ2n.fs) (ltOf cZ2n.ls) 40 10 z12 = some (Nz, NA) := by kernel_rfl
def N5 : List E := [(vX 0), (vI 1), (vI 2), (vI 3), (vI 4), (vX 5), (vI 10)]
def Ff : List E := [(vX 0), (vI 1), (vI 2), (vI 3), (vI 4), (vX 5), (vI 10), (vI 11)]
def Hx : List (Nat × E) := [(640000115200256, (aI 100000018 0 [(vX 0), (vI 1), (vI 2), (vI 3), (vI 4), (vX 5)])),
 (640002150400256, (.app .b 100000336 0 [(vX 0), (vI 1), (vI 2), (vI 3), (vI 4), (vX 5), (vI 6), (vI 7), (vI 8), (vX 9), (vI 10)])),
 (640000185600256, (aI 100000029 0 N5)),
 (640000185600257, (.app .b 100000029 1 N5)),
 (640000089600256, (aX 100000014 0 Ff)),
 (640000089600257, (aI 100000014 1 Ff)),
 (640000089600258, (aI 100000014 2 Ff)),
 (640000089600259, (aI 100000014 3 Ff)),
 (640000089600260, (aI 100000014 4 Ff)),
 (640000089600261, (aX 100000014 5 Ff)),
 (640000089600262, (aI 100000014 6 Ff))]
def Br : E := (.or (.or (.not (.var .b 640002150400256)) (.cmp .leq (vI 11) (vI 640000115200256))) (.cmp .gtr (vI 11) (.bin .add .i64 (vI 640000115200256) (lI 2147483648))))
def Cd : E := (.or (.not (.var .b 640000185600257)) (.cmp .gtr (vI 640000185600256) (vI 11)))
def He : E := (.not Cd)
def Hf : E := (.or Br He)
def KQ : E := (.and (.and (.app .b 100000334 1000000 [(vX 0), (vI 1), (vI 2), (vI 3), (vI 4), (vX 5), (vI 6), (vI 7), (vI 8), (vX 9)]) (.and (.and (.and (.app .b 100000018 1000000 [(vX 0), (vI 1), (vI 2), (vI 3), (vI 4), (vX 5)]) (dE Hx 0 1)) (.and (.app .b 100000336 1000000 [(vX 0), (vI 1), (vI 2), (vI 3), (vI 4), (vX 5), (vI 6), (vI 7), (vI 8), (vX 9), (vI 10)]) (dE Hx 1 1))) (.or Br (.and (.and (.app .b 100000029 1000000 [(vX 0), (vI 1), (vI 2), (vI 3), (vI 4), (vX 5), (vI 10)]) (dE Hx 2 2)) (.and (.or He (.and (.app .b 100000014 1000000 [(vX 0), (vI 1), (vI 2), (vI 3), (vI 4), (vX 5), (vI 10), (vI 11)]) (dE Hx 4 7))) (.and (.cmp .geq (vI 10) (lI 0)) (.cmp .lss (vI 10) (aI 0 0 [(vX 9)])))))))) (.ite Br Hf (.ite Cd (.and (.not Br) Cd) Hf)))
def KR : List E := [(.ite Br (vX 0) (.ite Cd (vX 640000089600256) (vX 0))), (.ite Br (vI 1) (.ite Cd (vI 640000089600257) (vI 1))), (.ite Br (vI 2) (.ite Cd (vI 640000089600258) (vI 2))), (.ite Br (vI 3) (.ite Cd (vI 640000089600259) (vI 3))), (.ite Br (vI 4) (.ite Cd (vI 640000089600260) (vI 4))), (.ite Br (vX 5) (.ite Cd (vX 640000089600261) (vX 5))), (vI 6), (.bin .add .i64 (vI 7) (.ite Br (lI 0) (.ite (.not (.var .b 640000185600257)) (lI 1) (lI 0)))), (vI 8), (.ite Br (vX 9) (aX 0 6 [(vX 9), (vI 10), (.lit .x 0), (vI 11)])), (.ite Br (lI 2) (lI 0))]
def z13 : Ent := b13.fw (fnR cZ2n.l.F b13.np KQ KR IJ)
theorem Xu : evE Try.prog G0 (Af cZ2n.fs) (ltOf cZ2n.ls) 40 10 z13 = some (KQ, KR) := by kernel_rfl
def Fg : List E := [(vX 0), (vI 1), (vI 2), (vI 3), (vI 4), (vX 5), (vI 10)]
def QE : List (Nat × E) := [(640000153600256, (aX 100000024 0 Fg)),
 (640000153600257, (aI 100000024 1 Fg)),
 (640000153600258, (aI 100000024 2 Fg)),
 (640000153600259, (aI 100000024 3 Fg)),
 (640000153600260, (aI 100000024 4 Fg)),
 (640000153600261, (aX 100000024 5 Fg)),
 (640000153600262, (aI 100000024 6 Fg))]
def IL : E := (.and (.app .b 100000334 1000000 [(vX 0), (vI 1), (vI 2), (vI 3), (vI 4), (vX 5), (vI 6), (vI 7), (vI 8), (vX 9)]) (.and (.and (.app .b 100000024 1000000 [(vX 0), (vI 1), (vI 2), (vI 3), (vI 4), (vX 5), (vI 10)]) (dE QE 0 7)) (.or (.cmp .neq (vI 640000153600262) (lI 0)) (.and (.cmp .geq (vI 10) (lI 0)) (.cmp .lss (vI 10) (aI 0 0 [(vX 9)]))))))
def IM : List E := [(vX 640000153600256), (vI 640000153600257), (vI 640000153600258), (vI 640000153600259), (vI 640000153600260), (vX 640000153600261), (vI 6), (.ite (.cmp .neq (vI 640000153600262) (lI 0)) (vI 7) (.bin .sub .i64 (vI 7) (lI 1))), (vI 8), (.ite (.cmp .neq (vI 640000153600262) (lI 0)) (vX 9) (aX 0 6 [(vX 9), (vI 10), (.lit .x 0), (lI 0)])), (.ite (.cmp .neq (vI 640000153600262) (lI 0)) (vI 640000153600262) (lI 0))]
def z19 : Ent := b19z.fw (fnR cZ2n.l.F b19z.np IL IM QC)
theorem Xv : evE Try.prog G0 (Af cZ2n.fs) (ltOf cZ2n.ls) 40 10 z19 = some (IL, IM) := by kernel_rfl
theorem S9 : cZ2.OK Try.prog G0 := by
 have h : Ctx.OK Try.prog G0 ⟨[z34, z36, e18, e29, e14, e24, e13], []⟩ := ((((((Ctx.OK.nil.addF ok13 rfl).addF ok24 rfl).addF ok14 rfl).addF ok29 rfl).addF ok18 rfl).addF V6 rfl).addF S7 rfl
 exact h
theorem rowsOK.set {T : RL} {i : Nat} {v : Int} (h : rowsOK intK T) (hi : i < T.length) (hv : IntKind.i64.wrap v = v) : rowsOK intK (setC T i 0 [v]) := by
 intro r hr
 obtain ⟨k, hk, rfl⟩ := List.mem_iff_getElem.1 hr
 have e : (setC T i 0 [v]).getD k [] = (setC T i 0 [v])[k] := by rw [List.getD_eq_getElem?_getD, List.getElem?_eq_getElem hk]; rfl
 rw [<- e, Mb T k 0 [v] hi]
 have hl := hk
 rw [Cj] at hl
 by_cases hh : k = i
 ·subst hh
  rw [if_pos rfl]
  have : T.getD k [] = T[k] := by rw [List.getD_eq_getElem?_getD, List.getElem?_eq_getElem hl]; rfl
  obtain ⟨a, ha, _⟩ := S6 (h _ (List.getElem_mem hl))
  rw [this, ha]
  exact ⟨hv, trivial⟩
 ·rw [if_neg hh, List.getD_eq_getElem?_getD, List.getElem?_eq_getElem hl]
  exact h _ (List.getElem_mem hl)
theorem RI {T : RL} {i : Nat} {v : Int} (h : rowsOK intK T) (hi : i < T.length) (y : Nat) : gC (setC T i 0 [v]) y 0 = if y = i then v else gC T y 0 := by
 have hl : (T.getD i []).length = 1 := by
  obtain ⟨a, ha, _⟩ := S6 (h _ (List.getElem_mem hi))
  rw [List.getD_eq_getElem?_getD, List.getElem?_eq_getElem hi, Option.getD_some, ha]; rfl
 rw [RE hi (by omega)]
 by_cases h : y = i <;> simp [h]
section
variable {S now bu le mo T h ln vn D c : Int} {d a : Nat -> Int} {B : List Nat}
theorem LZ.dr (hz : LZ S now bu le mo T h ln vn D c d a B) {i : Nat} (hi : (i : Int) < c) : 0 <= d i /\ d i <= now + 2147483648 := by
 have := hz.ad i hi
 have := hz.w.dr hi
 omega
theorem LZ.lnr (hz : LZ S now bu le mo T h ln vn D c d a B) : 0 <= ln /\ ln <= 4096 := by
 have := hz.ln
 have := hz.w.ler
 omega
theorem LZ.eqs {c' : Int} {d' a' : Nat -> Int} {B' : List Nat} (hz : LZ S now bu le mo T h ln vn D c d a B) (hz' : LZ S now bu le mo T h ln vn D c' d' a' B') : c' = c /\ ∀ i : Nat, (i : Int) < c -> a' i = a i /\ d' i = d i := by
 have e : c' = c := hz'.cp.symm.trans hz.cp
 subst e
 exact ⟨rfl, fun i hi => ⟨(hz'.w.dl i hi).symm.trans (hz.w.dl i hi), (hz'.dl i hi).symm.trans (hz.dl i hi)⟩⟩
theorem LZ.put {S' bu' le' mo' T' h ln' D' vn' x e : Int} {i : Nat} {B' : List Nat} (hz : LZ S now bu le mo T h ln vn D c d a B) (hi : (i : Int) < c) (hD : D' = cd (setC (dc D) i 0 [x])) (hw : WV S' now bu' le' mo' T' c (upD a i e) B') (hl : ln' = le') (hx : x <= now + 2147483648) (h0 : e = 0 ↔ x = 0) (h1 : e <= x) (hv : 0 <= vn' /\ vn' <= 1125899906842624) : LZ S' now bu' le' mo' T' h ln' vn' D' c (upD d i x) (upD a i e) B' := by
 have htm := hz.w.tm
 have hcp := hz.cp
 have hwd := hw.dr hi
 rw [BL] at hwd
 have hl' : i < (dc D).length := by omega
 subst hD
 refine ⟨hw, hz.hd, hl, ?_, ?_, fun y hy => ?_, fun y hy => ?_, hv⟩
 ·rw [Ac]; exact hz.rD.set hl' (i64w (by omega) (by omega))
 ·rw [Ac, Cj]; exact hcp
 ·rw [Ac, RI hz.rD hl']; unfold upD; split
  ·rfl
  ·exact hz.dl y hy
 ·by_cases hh : y = i
  ·subst hh
   rw [BL, BL]
   exact ⟨h0, h1, hx⟩
  ·rw [AL _ _ hh, AL _ _ hh]; exact hz.ad y hy
theorem JF {d : Nat -> Int} {i : Nat} {v : Int} (h : d i = v) : upD d i v = d := by
 funext y
 by_cases e : y = i
 ·subst e; rw [BL, h]
 ·exact AL _ _ e
end
theorem Pq : EntryOK Try.prog G0 z12 /\ PostOK z12 QB := by
 refine S9.nm.entryH mixed Xt (by kernel_rfl) _ rfl fun xs hf hp => ?_
 obtain ⟨l, hl, hF⟩ := AN (l0 := cZ2n.l)
 show ∃ ρ : Nat -> Int, _ /\ Nz.tt cZ2n.l.F ρ = true /\ QB xs (NA.map (E.den cZ2n.l.F ρ))
 rw [hl]
 have F13 := FC (k := 100000013) rfl (hF e13.nm (by rfl) (by decide))
 replace hf : fits [kJ, kJ, kJ, kJ] xs := hf
 obtain ⟨n, xs0, hx0, hn, hf0⟩ := Aa hf
 obtain ⟨c, xs1, hx1, hc, hf1⟩ := Aa hf0
 obtain ⟨b, xs2, hx2, hb, hf2⟩ := Aa hf1
 obtain ⟨h, xs3, hx3, hh, hf3⟩ := Aa hf2
 have hxn := AV hf3
 subst hxn hx3 hx2 hx1 hx0
 simp only [Ad] at hn hc hb hh
 obtain ⟨ρ, hρ, hd⟩ := solve (F := l.F) 4 QD (by kernel_rfl) [n, c, b, h]
 have hDf := EA (by kernel_rfl) hd
 refine ⟨ρ, hρ, ?_⟩
 have r0 : ρ 0 = n := hρ 0 (by decide)
 have r1 : ρ 1 = c := hρ 1 (by decide)
 have r2 : ρ 2 = b := hρ 2 (by decide)
 have r3 : ρ 3 = h := hρ 3 (by decide)
 obtain ⟨⟨v1, hv1, hd1, hn1⟩, ⟨v2, hv2, hd2, hn2⟩⟩ := Jj (nmd hd 0 rfl) (nmd hd 1 rfl)
 obtain ⟨⟨v3, hv3, hd3, hn3⟩, ⟨v4, hv4, hd4, hn4⟩⟩ := Jj (nmd hd 2 rfl) (nmd hd 3 rfl)
 obtain ⟨⟨v5, hv5, hd5, hn5⟩, ⟨v6, hv6, hd6, hn6⟩⟩ := Jj (nmd hd 4 rfl) (nmd hd 5 rfl)
 simp only [Ad] at hn2 hn3 hn4 hn5
 simp (disch := omega) only [Ad, FX, F13, Ent.nm_fn, r0, hn, r1, hc, r2, hb, r3, hh, hv1, hv2, hn2, hv3, hn3, hv4, hn4, hv5, hn5, hv6, ewA, ewL, preC, binI, dvI, shI, cmpB, env, bi, List.headD, List.tail, List.map, Nat.reduceAdd, ewR, ewB, ewM, if_true, if_false, implies_true, forall_const, ne_eq, reduceCtorEq, Int.reduceEq, Int.reduceLT, Int.reduceLE, Int.reduceToNat, Int.reduceAdd, Int.reduceSub, Int.reduceMul, Int.reduceNeg, Int.reduceBEq, Nat.reduceLT, Nat.reduceEqDiff] at hd1 hd2 hd3 hd4 hd5 hd6
 have hSS := Jj (Jj (Jj (Jj F13 r0) (Jj hn (Jj r1 hc))) (Jj (Jj r2 hb) (Jj r3 (Jj hh hv1)))) (Jj (Jj (Jj hv2 hn2) (Jj hv3 (Jj hn3 hv4))) (Jj (Jj hn4 hv5) (Jj hn5 (Jj hv6 hDf))))
 obtain ⟨p1, p2, p3⟩ := hp
 replace p1 : newW n c b := p1
 replace p2 : 1 <= h := p2
 replace p3 : h <= 4096 := p3
 have q := WV.new p1 ⟨hd1, hd2, hd3, hd4, hd5, hd6, trivial⟩
 have y : e13.pre [n, c, b] := p1
 refine ⟨?_, ?_⟩
 ·simp (disch := omega) only [Nz, IK, Lv, ewA, ewL, preC, binI, dvI, shI, cmpB, env, bi, List.headD, List.tail, List.map, Nat.reduceAdd, ewR, ewB, ewM, if_true, if_false, implies_true, forall_const, ne_eq, reduceCtorEq, Int.reduceEq, Int.reduceLT, Int.reduceLE, Int.reduceToNat, Int.reduceAdd, Int.reduceSub, Int.reduceMul, Int.reduceNeg, Int.reduceBEq, Nat.reduceLT, Nat.reduceEqDiff, hSS, y]
  refine ⟨fun _ => by unfold newW at p1; omega, ⟨⟨p2, p3⟩, if_neg (by omega)⟩, p2, p3⟩
 ·simp (disch := omega) only [NA, IK, Lv, ewA, ewL, preC, binI, dvI, shI, cmpB, env, bi, List.headD, List.tail, List.map, Nat.reduceAdd, ewR, ewB, ewM, if_true, if_false, implies_true, forall_const, ne_eq, reduceCtorEq, Int.reduceEq, Int.reduceLT, Int.reduceLE, Int.reduceToNat, Int.reduceAdd, Int.reduceSub, Int.reduceMul, Int.reduceNeg, Int.reduceBEq, Nat.reduceLT, Nat.reduceEqDiff, hSS]
  obtain ⟨q1, q2, q3, q4, q5, q6⟩ := q
  unfold newW at p1
  have hw : LZ v1 v2 v3 v4 v5 v6 h 0 0 (cd (List.replicate c.toNat [0])) c (fun _ => 0) (fun _ => 0) [] := by
   refine ⟨q1, ⟨p2, p3⟩, q4.symm, ?_, ?_, fun i hi => ?_, fun i hi => ⟨Iff.rfl, Int.le_refl _, by rw [q2]; show (0 : Int) <= n + 2147483648; omega⟩, by decide⟩
   ·rw [Ac]
    intro r hr
    rw [List.eq_of_mem_replicate hr]
    exact ⟨rfl, trivial⟩
   ·rw [Ac, List.length_replicate]; omega
   ·rw [Ac]
    unfold gC
    rw [show (List.replicate c.toNat [0] : RL).getD i [] = [0] by rw [List.getD_eq_getElem?_getD, List.getElem?_replicate, if_pos (by omega)]; rfl]; rfl
  exact ⟨⟨hd1, hd2, hd3, hd4, hd5, hd6, trivial⟩, hw, q2, q3, q5, rfl, rfl⟩
theorem Ta : EntryOK Try.prog G0 z13 /\ PostOK z13 IJ := by
 refine S9.nm.entryH mixed Xu (by kernel_rfl) _ rfl fun xs hf hp => ?_
 obtain ⟨l, hl, hF⟩ := AN (l0 := cZ2n.l)
 show ∃ ρ : Nat -> Int, _ /\ KQ.tt cZ2n.l.F ρ = true /\ IJ xs (KR.map (E.den cZ2n.l.F ρ))
 rw [hl]
 have F14 := FC (k := 100000014) rfl (hF e14.nm (by rfl) (by decide))
 have F18 := FC (k := 100000018) rfl (hF e18.nm (by rfl) (by decide))
 have F29 := FC (k := 100000029) rfl (hF e29.nm (by rfl) (by decide))
 have F334 := FC (k := 100000334) rfl (hF z34.nm (by rfl) (by decide))
 have F336 := FC (k := 100000336) rfl (hF z36.nm (by rfl) (by decide))
 replace hf : fits [.x, kJ, kJ, kJ, kJ, .x, kJ, kJ, kJ, .x, kJ, kJ] xs := hf
 obtain ⟨S, xs0, hx0, hS, hf0⟩ := Aa hf
 obtain ⟨now, xs1, hx1, hnow, hf1⟩ := Aa hf0
 obtain ⟨bu, xs2, hx2, hbu, hf2⟩ := Aa hf1
 obtain ⟨le, xs3, hx3, hle, hf3⟩ := Aa hf2
 obtain ⟨mo, xs4, hx4, hmo, hf4⟩ := Aa hf3
 obtain ⟨T, xs5, hx5, hT, hf5⟩ := Aa hf4
 obtain ⟨h, xs6, hx6, hh, hf6⟩ := Aa hf5
 obtain ⟨ln, xs7, hx7, hln, hf7⟩ := Aa hf6
 obtain ⟨vn, xs8, hx8, hvn, hf8⟩ := Aa hf7
 obtain ⟨D, xs9, hx9, hD, hf9⟩ := Aa hf8
 obtain ⟨i, xs10, hx10, hi, hf10⟩ := Aa hf9
 obtain ⟨x, xs11, hx11, hx, hf11⟩ := Aa hf10
 have hxn := AV hf11
 subst hxn hx11 hx10 hx9 hx8 hx7 hx6 hx5 hx4 hx3 hx2 hx1 hx0
 simp only [Ad] at hnow hbu hle hmo hh hln hvn hi hx
 obtain ⟨ρ, hρ, hd⟩ := solve (F := l.F) 12 Hx (by kernel_rfl) [S, now, bu, le, mo, T, h, ln, vn, D, i, x]
 have hDf := EA (by kernel_rfl) hd
 refine ⟨ρ, hρ, ?_⟩
 have r0 : ρ 0 = S := hρ 0 (by decide)
 have r1 : ρ 1 = now := hρ 1 (by decide)
 have r2 : ρ 2 = bu := hρ 2 (by decide)
 have r3 : ρ 3 = le := hρ 3 (by decide)
 have r4 : ρ 4 = mo := hρ 4 (by decide)
 have r5 : ρ 5 = T := hρ 5 (by decide)
 have r6 : ρ 6 = h := hρ 6 (by decide)
 have r7 : ρ 7 = ln := hρ 7 (by decide)
 have r8 : ρ 8 = vn := hρ 8 (by decide)
 have r9 : ρ 9 = D := hρ 9 (by decide)
 have r10 : ρ 10 = i := hρ 10 (by decide)
 have r11 : ρ 11 = x := hρ 11 (by decide)
 obtain ⟨⟨v1, hv1, hd1, hn1⟩, ⟨v2, hv2, hd2, hn2⟩⟩ := Jj (nmd hd 0 rfl) (nmd hd 1 rfl)
 obtain ⟨⟨v3, hv3, hd3, hn3⟩, ⟨v4, hv4, hd4, hn4⟩⟩ := Jj (nmd hd 2 rfl) (nmd hd 3 rfl)
 obtain ⟨⟨v5, hv5, hd5, hn5⟩, ⟨v6, hv6, hd6, hn6⟩⟩ := Jj (nmd hd 4 rfl) (nmd hd 5 rfl)
 obtain ⟨⟨v7, hv7, hd7, hn7⟩, ⟨v8, hv8, hd8, hn8⟩⟩ := Jj (nmd hd 6 rfl) (nmd hd 7 rfl)
 obtain ⟨⟨v9, hv9, hd9, hn9⟩, ⟨v10, hv10, hd10, hn10⟩⟩ := Jj (nmd hd 8 rfl) (nmd hd 9 rfl)
 obtain ⟨v11, hv11, hd11, hn11⟩ := nmd hd 10 rfl
 simp only [Ad] at hn1 hn3 hn6 hn7 hn8 hn9 hn11
 simp (disch := omega) only [Ad, N5, Ff, F14, F18, F29, F336, Ent.nm_fn, r0, r1, hnow, r2, hbu, r3, hle, r4, hmo, r5, r6, hh, r7, hln, r8, hvn, r9, r10, hi, r11, hx, hv1, hn1, hv2, hn2, hv3, hn3, hv4, hn4, hv5, hv6, hn6, hv7, hn7, hv8, hn8, hv9, hn9, hv10, hv11, hn11, ewA, ewL, preC, binI, dvI, shI, cmpB, env, bi, List.headD, List.tail, List.map, Nat.reduceAdd, ewR, ewB, ewM, if_true, if_false, implies_true, forall_const, ne_eq, reduceCtorEq, Int.reduceEq, Int.reduceLT, Int.reduceLE, Int.reduceToNat, Int.reduceAdd, Int.reduceSub, Int.reduceMul, Int.reduceNeg, Int.reduceBEq, Nat.reduceLT, Nat.reduceEqDiff] at hd1 hd2 hd3 hd4 hd5 hd6 hd7 hd8 hd9 hd10 hd11
 have hSS := Jj (Jj (Jj (Jj (Jj F14 F18) (Jj F29 (Jj F334 F336))) (Jj (Jj r0 (Jj r1 hnow)) (Jj r2 (Jj hbu r3)))) (Jj (Jj (Jj hle (Jj r4 hmo)) (Jj r5 (Jj r6 hh))) (Jj (Jj r7 (Jj hln r8)) (Jj hvn (Jj r9 r10))))) (Jj (Jj (Jj (Jj hi (Jj r11 hx)) (Jj hv1 (Jj hn1 hv2))) (Jj (Jj hn2 (Jj hv3 hn3)) (Jj hv4 (Jj hn4 hv5)))) (Jj (Jj (Jj hv6 (Jj hn6 hv7)) (Jj hn7 (Jj hv8 hn8))) (Jj (Jj hv9 (Jj hn9 hv10)) (Jj hv11 (Jj hn11 hDf)))))
 obtain ⟨c, d, a, B, hz⟩ := hp
 replace hz : LZ S now bu le mo T h ln vn D c d a B := hz
 have hw := hz.w
 have htm := hw.tm
 have hct := hw.ct
 have hcp := hz.cp
 have hln := hz.lnr
 have y34 : z34.pre [S, now, bu, le, mo, T, h, ln, vn, D] := trivial
 have y18 : e18.pre [S, now, bu, le, mo, T] := hw.lenOK []
 have y36 : z36.pre [S, now, bu, le, mo, T, h, ln, vn, D, i] := by
  show ((dc D).length : Int) <= 4096; omega
 have y29 : e29.pre [S, now, bu, le, mo, T, i] := hw.preR i
 have y14 : e14.pre [S, now, bu, le, mo, T, i, x] := hw.wx2 _ _
 have z1 := hw.nowV hd1
 have z2 : v2 = b2i (decide (0 <= i) && decide (i < ((dc D).length : Int))) := hd2.trans (by show K.b.norm (b2i (decide (0 <= i) && decide (i < ((dc D).length : Int)))) = _; cases (decide (0 <= i) && decide (i < ((dc D).length : Int))) <;> rfl)
 have b2 : i2b v2 = true ↔ (0 <= i /\ i < c) := by rw [z2, GY, Bool.and_eq_true, decide_eq_true_iff, decide_eq_true_iff, hcp]
 have wx : IntKind.i64.wrap (now + 2147483648) = now + 2147483648 := i64w (by omega) (by omega)
 have wD : IntKind.i64.wrap (((dc D).length : Nat) : Int) = c := by rw [hcp]; exact i64w (by omega) (by omega)
 subst z1
 by_cases hb : (0 <= i /\ i < c) /\ v1 < x /\ x <= v1 + 2147483648
 ·obtain ⟨hi, hx1, hx2⟩ := hb
  obtain ⟨z3, z4⟩ := hw.dead hi ⟨hd3, hd4, trivial⟩
  have hic : (i.toNat : Int) < c := by omega
  obtain ⟨ad1, ad2, ad3⟩ := hz.ad i.toNat hic
  have hadr := hw.dr hic
  have b4 : i2b v4 = true ↔ a i.toNat ≠ 0 := by rw [z4, GY, decide_eq_true_iff]
  have b4' : i2b v4 = false ↔ a i.toNat = 0 := by rw [<- Bool.not_eq_true, b4]; simp
  subst z3
  obtain ⟨q1, q2, q3, q4, q5, q6, _⟩ := hw.arm hi ⟨hx1, hx2⟩ ⟨hd5, hd6, hd7, hd8, hd9, hd10, hd11, trivial⟩
  have hB : a i.toNat = 0 \/ x < a i.toNat -> B.erase i.toNat = B := fun hh => List.erase_of_not_mem fun hm => by
   have := (hw.mem i.toNat).1 hm
   omega
  have hn : ¬ v1 + 2147483648 < x := by omega
  refine ⟨?_, ?_⟩
  ·simp (disch := omega) only [KQ, Br, Cd, He, Hf, ewA, ewL, preC, binI, dvI, shI, cmpB, env, bi, List.headD, List.tail, List.map, Nat.reduceAdd, ewR, ewB, ewM, if_true, if_false, implies_true, forall_const, ne_eq, reduceCtorEq, Int.reduceEq, Int.reduceLT, Int.reduceLE, Int.reduceToNat, Int.reduceAdd, Int.reduceSub, Int.reduceMul, Int.reduceNeg, Int.reduceBEq, Nat.reduceLT, Nat.reduceEqDiff, hSS, y34, y18, y36, y29, y14, wx, b2, b4, b4', wD, hi, hx1, hx2]
   exact ⟨fun h => absurd h hn, id, id⟩
  ·simp (disch := omega) only [KR, Br, Cd, He, Hf, ewA, ewL, preC, binI, dvI, shI, cmpB, env, bi, List.headD, List.tail, List.map, Nat.reduceAdd, ewR, ewB, ewM, if_true, if_false, implies_true, forall_const, ne_eq, reduceCtorEq, Int.reduceEq, Int.reduceLT, Int.reduceLE, Int.reduceToNat, Int.reduceAdd, Int.reduceSub, Int.reduceMul, Int.reduceNeg, Int.reduceBEq, Nat.reduceLT, Nat.reduceEqDiff, hSS, wx, b2, b4, b4', hi, hx1, hx2]
   simp only [if_neg hn]
   have hle := hz.ln
   by_cases hc : a i.toNat = 0 \/ x < a i.toNat
   ·have hcc : ¬a i.toNat = 0 -> x < a i.toNat := fun h => hc.resolve_left h
    simp only [if_pos hcc]
    refine ⟨fun _ => ?_, ?_⟩
    ·have ce : gC (dc T) i.toNat 4 = a i.toNat := hw.dl i.toNat hic
     show if gC (dc T) i.toNat 4 = 0 \/ x < gC (dc T) i.toNat 4 then _ else _
     rw [ce, if_pos hc]
     exact ⟨v11, ⟨hd5, hd6, hd7, hd8, hd9, hd10, hd11, trivial⟩⟩
    intro c' d' a' B' hz'
    replace hz' : LZ S v1 bu le mo T h ln vn D c' d' a' B' := hz'
    obtain ⟨rfl, hea⟩ := hz.eqs hz'
    obtain ⟨ea, ed⟩ := hea i.toNat hic
    refine ⟨fun _ => ?_, fun hh => absurd ⟨hi, hx1, hx2⟩ hh⟩
    obtain ⟨q1, q2, q3, q4, q5, q6, _⟩ := hz'.w.arm hi ⟨hx1, hx2⟩ ⟨hd5, hd6, hd7, hd8, hd9, hd10, hd11, trivial⟩
    have hB : B'.erase i.toNat = B' := List.erase_of_not_mem fun hm => by
     have := (hz'.w.mem i.toNat).1 hm
     omega
    rw [hB] at q1
    show LZ v5 v6 v7 v8 v9 v10 h (ln + if a i.toNat = 0 then 1 else 0) vn _ c' (upD d' i.toNat x) (if a' i.toNat = 0 \/ x < a' i.toNat then upD a' i.toNat x else a') B' /\ (0 : Int) = 0 /\ v6 = v1 /\ v7 = bu /\ v9 = mo /\ h = h /\ vn = vn
    rw [if_pos (show a' i.toNat = 0 \/ x < a' i.toNat by rw [ea]; exact hc)]
    have q1' := q1
    rw [q2] at q1'
    refine ⟨?_, rfl, q2, q3, q4, rfl, rfl⟩
    rw [q2]
    refine hz'.put hic rfl q1' ?_ hx2 Iff.rfl (Int.le_refl _) hz'.vb
    rw [q6, hle, ea]
    by_cases ha : a i.toNat = 0
    ·rw [if_pos ha, if_neg (by omega)]
    ·rw [if_neg ha, if_pos (by omega)]; omega
   ·have hcc : ¬ (¬a i.toNat = 0 -> x < a i.toNat) := fun h => hc (by omega)
    simp only [if_neg hcc, if_neg (show ¬ a i.toNat = 0 by omega)]
    refine ⟨fun _ => ?_, ?_⟩
    ·have ce : gC (dc T) i.toNat 4 = a i.toNat := hw.dl i.toNat hic
     show if gC (dc T) i.toNat 4 = 0 \/ x < gC (dc T) i.toNat 4 then _ else _
     rw [ce, if_neg hc]; rfl
    intro c' d' a' B' hz'
    replace hz' : LZ S v1 bu le mo T h ln vn D c' d' a' B' := hz'
    obtain ⟨rfl, hea⟩ := hz.eqs hz'
    obtain ⟨ea, ed⟩ := hea i.toNat hic
    refine ⟨fun _ => ?_, fun hh => absurd ⟨hi, hx1, hx2⟩ hh⟩
    show LZ S v1 bu le mo T h (ln + 0) vn _ c' (upD d' i.toNat x) (if a' i.toNat = 0 \/ x < a' i.toNat then upD a' i.toNat x else a') B' /\ (0 : Int) = 0 /\ v1 = v1 /\ bu = bu /\ mo = mo /\ h = h /\ vn = vn
    rw [if_neg (show ¬ (a' i.toNat = 0 \/ x < a' i.toNat) by rw [ea]; exact hc), Int.add_zero]
    refine ⟨?_, rfl, rfl, rfl, rfl, rfl, rfl⟩
    have q := hz'.put (x := x) (e := a' i.toNat) hic rfl (by rw [JF rfl]; exact hz'.w) hle hx2 (by omega) (by omega) hz'.vb
    rw [JF rfl] at q
    exact q
 ·have hb' : (0 <= i /\ i < c) /\ v1 < x -> v1 + 2147483648 < x := by omega
  refine ⟨?_, ?_⟩
  ·simp (disch := omega) only [KQ, Br, Cd, He, Hf, ewA, ewL, preC, binI, dvI, shI, cmpB, env, bi, List.headD, List.tail, List.map, Nat.reduceAdd, ewR, ewB, ewM, if_true, if_false, implies_true, forall_const, ne_eq, reduceCtorEq, Int.reduceEq, Int.reduceLT, Int.reduceLE, Int.reduceToNat, Int.reduceAdd, Int.reduceSub, Int.reduceMul, Int.reduceNeg, Int.reduceBEq, Nat.reduceLT, Nat.reduceEqDiff, hSS, y34, y18, y36, y29, y14, wx, b2, wD]
   refine ⟨fun hh => absurd hh.2 (by omega), fun _ hh => absurd hh.2 (by omega), fun hh => absurd hh.2 (by omega)⟩
  ·simp (disch := omega) only [KR, Br, Cd, He, Hf, ewA, ewL, preC, binI, dvI, shI, cmpB, env, bi, List.headD, List.tail, List.map, Nat.reduceAdd, ewR, ewB, ewM, if_true, if_false, implies_true, forall_const, ne_eq, reduceCtorEq, Int.reduceEq, Int.reduceLT, Int.reduceLE, Int.reduceToNat, Int.reduceAdd, Int.reduceSub, Int.reduceMul, Int.reduceNeg, Int.reduceBEq, Nat.reduceLT, Nat.reduceEqDiff, hSS, wx, b2, if_pos hb']
   refine ⟨fun hh => absurd (show (0 <= i /\ i < c) /\ v1 < x /\ x <= v1 + 2147483648 from ⟨⟨hh.1.1, by rw [<- hcp]; exact hh.1.2⟩, hh.2⟩) hb, ?_⟩
   intro c' d' a' B' hz'
   replace hz' : LZ S v1 bu le mo T h ln vn D c' d' a' B' := hz'
   obtain ⟨rfl, hea⟩ := hz.eqs hz'
   refine ⟨fun hh => absurd hh hb, fun _ => ⟨rfl, fun j hj => ?_⟩⟩
   have e : IntKind.i64.wrap (ln + 0) = ln := by rw [Int.add_zero]; exact i64w (by omega) (by omega)
   match j, hj with
   | 0, _ | 1, _ | 2, _ | 3, _ | 4, _ | 5, _ | 6, _ | 8, _ | 9, _ => rfl
   | 7, _ => first | exact e | exact Int.add_zero ln
theorem V9 : EntryOK Try.prog G0 z19 /\ PostOK z19 QC := by
 refine S9.nm.entryH mixed Xv (by kernel_rfl) _ rfl fun xs hf hp => ?_
 obtain ⟨l, hl, hF⟩ := AN (l0 := cZ2n.l)
 show ∃ ρ : Nat -> Int, _ /\ IL.tt cZ2n.l.F ρ = true /\ QC xs (IM.map (E.den cZ2n.l.F ρ))
 rw [hl]
 have F24 := FC (k := 100000024) rfl (hF e24.nm (by rfl) (by decide))
 have F334 := FC (k := 100000334) rfl (hF z34.nm (by rfl) (by decide))
 replace hf : fits [.x, kJ, kJ, kJ, kJ, .x, kJ, kJ, kJ, .x, kJ] xs := hf
 obtain ⟨S, xs0, hx0, hS, hf0⟩ := Aa hf
 obtain ⟨now, xs1, hx1, hnow, hf1⟩ := Aa hf0
 obtain ⟨bu, xs2, hx2, hbu, hf2⟩ := Aa hf1
 obtain ⟨le, xs3, hx3, hle, hf3⟩ := Aa hf2
 obtain ⟨mo, xs4, hx4, hmo, hf4⟩ := Aa hf3
 obtain ⟨T, xs5, hx5, hT, hf5⟩ := Aa hf4
 obtain ⟨h, xs6, hx6, hh, hf6⟩ := Aa hf5
 obtain ⟨ln, xs7, hx7, hln, hf7⟩ := Aa hf6
 obtain ⟨vn, xs8, hx8, hvn, hf8⟩ := Aa hf7
 obtain ⟨D, xs9, hx9, hD, hf9⟩ := Aa hf8
 obtain ⟨i, xs10, hx10, hi, hf10⟩ := Aa hf9
 have hxn := AV hf10
 subst hxn hx10 hx9 hx8 hx7 hx6 hx5 hx4 hx3 hx2 hx1 hx0
 simp only [Ad] at hnow hbu hle hmo hh hln hvn hi
 obtain ⟨ρ, hρ, hd⟩ := solve (F := l.F) 11 QE (by kernel_rfl) [S, now, bu, le, mo, T, h, ln, vn, D, i]
 have hDf := EA (by kernel_rfl) hd
 refine ⟨ρ, hρ, ?_⟩
 have r0 : ρ 0 = S := hρ 0 (by decide)
 have r1 : ρ 1 = now := hρ 1 (by decide)
 have r2 : ρ 2 = bu := hρ 2 (by decide)
 have r3 : ρ 3 = le := hρ 3 (by decide)
 have r4 : ρ 4 = mo := hρ 4 (by decide)
 have r5 : ρ 5 = T := hρ 5 (by decide)
 have r6 : ρ 6 = h := hρ 6 (by decide)
 have r7 : ρ 7 = ln := hρ 7 (by decide)
 have r8 : ρ 8 = vn := hρ 8 (by decide)
 have r9 : ρ 9 = D := hρ 9 (by decide)
 have r10 : ρ 10 = i := hρ 10 (by decide)
 obtain ⟨⟨v1, hv1, hd1, hn1⟩, ⟨v2, hv2, hd2, hn2⟩⟩ := Jj (nmd hd 0 rfl) (nmd hd 1 rfl)
 obtain ⟨⟨v3, hv3, hd3, hn3⟩, ⟨v4, hv4, hd4, hn4⟩⟩ := Jj (nmd hd 2 rfl) (nmd hd 3 rfl)
 obtain ⟨⟨v5, hv5, hd5, hn5⟩, ⟨v6, hv6, hd6, hn6⟩⟩ := Jj (nmd hd 4 rfl) (nmd hd 5 rfl)
 obtain ⟨v7, hv7, hd7, hn7⟩ := nmd hd 6 rfl
 simp only [Ad] at hn2 hn3 hn4 hn5 hn7
 simp (disch := omega) only [Ad, Fg, F24, Ent.nm_fn, r0, r1, hnow, r2, hbu, r3, hle, r4, hmo, r5, r6, hh, r7, hln, r8, hvn, r9, r10, hi, hv1, hv2, hn2, hv3, hn3, hv4, hn4, hv5, hn5, hv6, hv7, hn7, ewA, ewL, preC, binI, dvI, shI, cmpB, env, bi, List.headD, List.tail, List.map, Nat.reduceAdd, ewR, ewB, ewM, if_true, if_false, implies_true, forall_const, ne_eq, reduceCtorEq, Int.reduceEq, Int.reduceLT, Int.reduceLE, Int.reduceToNat, Int.reduceAdd, Int.reduceSub, Int.reduceMul, Int.reduceNeg, Int.reduceBEq, Nat.reduceLT, Nat.reduceEqDiff] at hd1 hd2 hd3 hd4 hd5 hd6 hd7
 have hSS := Jj (Jj (Jj (Jj (Jj F24 F334) (Jj r0 r1)) (Jj (Jj hnow r2) (Jj hbu r3))) (Jj (Jj (Jj hle r4) (Jj hmo r5)) (Jj (Jj r6 hh) (Jj r7 (Jj hln r8))))) (Jj (Jj (Jj (Jj hvn r9) (Jj r10 hi)) (Jj (Jj hv1 hv2) (Jj hn2 hv3))) (Jj (Jj (Jj hn3 hv4) (Jj hn4 hv5)) (Jj (Jj hn5 hv6) (Jj hv7 (Jj hn7 hDf)))))
 obtain ⟨c, d, a, B, hz⟩ := hp
 replace hz : LZ S now bu le mo T h ln vn D c d a B := hz
 have hw := hz.w
 have htm := hw.tm
 have hct := hw.ct
 have hcp := hz.cp
 have hln := hz.lnr
 have wD : IntKind.i64.wrap (((dc D).length : Nat) : Int) = c := by rw [hcp]; exact i64w (by omega) (by omega)
 have y34 : z34.pre [S, now, bu, le, mo, T, h, ln, vn, D] := trivial
 have y24 : e24.pre [S, now, bu, le, mo, T, i] := hw.wx1 _
 by_cases hi : 0 <= i /\ i < c
 ·have hic : (i.toNat : Int) < c := by omega
  obtain ⟨ad1, ad2, ad3⟩ := hz.ad i.toNat hic
  obtain ⟨q1, q2, q3, q4, q5, q6, _⟩ := hw.can hi ⟨hd1, hd2, hd3, hd4, hd5, hd6, hd7, trivial⟩
  by_cases hd : a i.toNat = 0
  ·have z7 : v7 = 6 := by rw [q5, if_pos hd]
   refine ⟨?_, ?_⟩
   ·simp (disch := omega) only [IL, ewA, ewL, preC, binI, dvI, shI, cmpB, env, bi, List.headD, List.tail, List.map, Nat.reduceAdd, ewR, ewB, ewM, if_true, if_false, implies_true, forall_const, ne_eq, reduceCtorEq, Int.reduceEq, Int.reduceLT, Int.reduceLE, Int.reduceToNat, Int.reduceAdd, Int.reduceSub, Int.reduceMul, Int.reduceNeg, Int.reduceBEq, Nat.reduceLT, Nat.reduceEqDiff, hSS, y34, y24, wD, z7, hi]
   ·simp (disch := omega) only [IM, ewA, ewL, preC, binI, dvI, shI, cmpB, env, bi, List.headD, List.tail, List.map, Nat.reduceAdd, ewR, ewB, ewM, if_true, if_false, implies_true, forall_const, ne_eq, reduceCtorEq, Int.reduceEq, Int.reduceLT, Int.reduceLE, Int.reduceToNat, Int.reduceAdd, Int.reduceSub, Int.reduceMul, Int.reduceNeg, Int.reduceBEq, Nat.reduceLT, Nat.reduceEqDiff, hSS, z7]
    intro c' d' a' B' hz'
    replace hz' : LZ S now bu le mo T h ln vn D c' d' a' B' := hz'
    obtain ⟨rfl, hea⟩ := hz.eqs hz'
    obtain ⟨ea, ed⟩ := hea i.toNat hic
    refine ⟨fun _ => ?_, fun hh => absurd hi hh⟩
    obtain ⟨q1, q2, q3, q4, q5, q6, _⟩ := hz'.w.can hi ⟨hd1, hd2, hd3, hd4, hd5, hd6, hd7, trivial⟩
    show LZ _ _ _ _ _ _ _ _ _ _ c' (upD d' i.toNat 0) (upD a' i.toNat 0) (B'.erase i.toNat) /\ (6 : Int) = (if d' i.toNat = 0 then 6 else 0) /\ _
    rw [JF (d := d') (by rw [ed]; exact ad1.1 hd), if_pos (by rw [ed]; exact ad1.1 hd)]
    refine ⟨⟨q1, hz'.hd, ?_, hz'.rD, hz'.cp, hz'.dl, ?_, hz'.vb⟩, rfl, q2, q3, q4, rfl, rfl⟩
    ·rw [q6, if_pos (by rw [ea]; exact hd)]; exact hz'.ln
    ·show ∀ y : Nat, (y : Int) < c' -> (upD a' i.toNat 0 y = 0 ↔ d' y = 0) /\ upD a' i.toNat 0 y <= d' y /\ d' y <= v2 + 2147483648
     rw [JF (by rw [ea]; exact hd), q2]; exact hz'.ad
  ·have z7 : v7 = 0 := by rw [q5, if_neg hd]
   refine ⟨?_, ?_⟩
   ·simp (disch := omega) only [IL, ewA, ewL, preC, binI, dvI, shI, cmpB, env, bi, List.headD, List.tail, List.map, Nat.reduceAdd, ewR, ewB, ewM, if_true, if_false, implies_true, forall_const, ne_eq, reduceCtorEq, Int.reduceEq, Int.reduceLT, Int.reduceLE, Int.reduceToNat, Int.reduceAdd, Int.reduceSub, Int.reduceMul, Int.reduceNeg, Int.reduceBEq, Nat.reduceLT, Nat.reduceEqDiff, hSS, y34, y24, wD, z7, hi]
   ·simp (disch := omega) only [IM, ewA, ewL, preC, binI, dvI, shI, cmpB, env, bi, List.headD, List.tail, List.map, Nat.reduceAdd, ewR, ewB, ewM, if_true, if_false, implies_true, forall_const, ne_eq, reduceCtorEq, Int.reduceEq, Int.reduceLT, Int.reduceLE, Int.reduceToNat, Int.reduceAdd, Int.reduceSub, Int.reduceMul, Int.reduceNeg, Int.reduceBEq, Nat.reduceLT, Nat.reduceEqDiff, hSS, z7]
    intro c' d' a' B' hz'
    replace hz' : LZ S now bu le mo T h ln vn D c' d' a' B' := hz'
    obtain ⟨rfl, hea⟩ := hz.eqs hz'
    obtain ⟨ea, ed⟩ := hea i.toNat hic
    refine ⟨fun _ => ?_, fun hh => absurd hi hh⟩
    obtain ⟨q1, q2, q3, q4, q5, q6, _⟩ := hz'.w.can hi ⟨hd1, hd2, hd3, hd4, hd5, hd6, hd7, trivial⟩
    have hdn : ¬ d' i.toNat = 0 := by rw [ed]; exact fun h => hd (ad1.2 h)
    show LZ v1 v2 v3 v4 v5 v6 h (ln - 1) vn _ c' (upD d' i.toNat 0) (upD a' i.toNat 0) (B'.erase i.toNat) /\ (0 : Int) = (if d' i.toNat = 0 then 6 else 0) /\ v2 = now /\ v3 = bu /\ v5 = mo /\ h = h /\ vn = vn
    rw [if_neg hdn]
    have q1' := q1
    rw [q2] at q1'
    refine ⟨?_, rfl, q2, q3, q4, rfl, rfl⟩
    rw [q2]
    refine hz'.put hic rfl q1' ?_ (by omega) Iff.rfl (Int.le_refl _) hz'.vb
    rw [q6, hz'.ln, if_neg (by rw [ea]; exact hd)]
 ·obtain ⟨q1, q2⟩ := hw.canB hi ⟨hd1, hd2, hd3, hd4, hd5, hd6, hd7, trivial⟩
  refine ⟨?_, ?_⟩
  ·simp (disch := omega) only [IL, ewA, ewL, preC, binI, dvI, shI, cmpB, env, bi, List.headD, List.tail, List.map, Nat.reduceAdd, ewR, ewB, ewM, if_true, if_false, implies_true, forall_const, ne_eq, reduceCtorEq, Int.reduceEq, Int.reduceLT, Int.reduceLE, Int.reduceToNat, Int.reduceAdd, Int.reduceSub, Int.reduceMul, Int.reduceNeg, Int.reduceBEq, Nat.reduceLT, Nat.reduceEqDiff, hSS, y34, y24, wD, q2]
  ·simp (disch := omega) only [IM, ewA, ewL, preC, binI, dvI, shI, cmpB, env, bi, List.headD, List.tail, List.map, Nat.reduceAdd, ewR, ewB, ewM, if_true, if_false, implies_true, forall_const, ne_eq, reduceCtorEq, Int.reduceEq, Int.reduceLT, Int.reduceLE, Int.reduceToNat, Int.reduceAdd, Int.reduceSub, Int.reduceMul, Int.reduceNeg, Int.reduceBEq, Nat.reduceLT, Nat.reduceEqDiff, hSS, q2]
   intro c' d' a' B' hz'
   replace hz' : LZ S now bu le mo T h ln vn D c' d' a' B' := hz'
   obtain ⟨rfl, hea⟩ := hz.eqs hz'
   obtain ⟨rfl, rfl, rfl, rfl, rfl, rfl⟩ := q1
   refine ⟨fun hh => absurd hh hi, fun _ => ⟨rfl, fun j hj => ?_⟩⟩
   match j, hj with
   | 0, _ | 1, _ | 2, _ | 3, _ | 4, _ | 5, _ | 6, _ | 7, _ | 8, _ | 9, _ => rfl
structure LM (S now bu le mo T h ln vn D c : Int) (d a : Nat -> Int) (B R : List Nat) : Prop where
 w : WV S now bu le mo T c a B
 hd : 1 <= h /\ h <= 4096
 ln : ln = le + (R.length : Int)
 rD : rowsOK intK (dc D)
 cp : ((dc D).length : Int) = c
 dl : ∀ i : Nat, (i : Int) < c -> gC (dc D) i 0 = d i
 nd : R.Nodup
 rr : ∀ i ∈ R, (i : Int) < c /\ a i = 0 /\ 0 < d i
 ad : ∀ i : Nat, (i : Int) < c -> (i ∉ R -> (a i = 0 ↔ d i = 0)) /\ a i <= d i /\ d i <= now + 2147483648
 vb : 0 <= vn /\ vn + (R.length : Int) <= 1125899906842624
def LMx (xs : List Int) (c : Int) (d a : Nat -> Int) (B R : List Nat) : Prop := LM (env xs 0) (env xs 1) (env xs 2) (env xs 3) (env xs 4) (env xs 5) (env xs 6) (env xs 7) (env xs 8) (env xs 9) c d a B R
def cmD (now : Int) (d : Nat -> Int) (R : List Nat) : Nat -> Int := fun j => if j ∈ R /\ d j <= now then 0 else d j
def cmA (now : Int) (d a : Nat -> Int) (R : List Nat) : Nat -> Int := fun j => if j ∈ R then (if d j <= now then 0 else d j) else a j
def cmO (now : Int) (d : Nat -> Int) (R : List Nat) : List Nat := R.filter fun j => decide (d j <= now)
def cmV (now : Int) (d : Nat -> Int) (R : List Nat) : Int := ((R.filter fun j => decide (now < d j)).length : Nat)
def idR (l : List Nat) : RL := l.map fun i : Nat => [(i : Int)]
def pLt : List Bool := [true,true,true,true,true,true,false,true,false]
def LsX (xs : List Int) (R : List Nat) : Prop := (dc (env xs 11)).drop (env xs 13).toNat = idR R
def preLt (xs : List Int) : Prop := (∃ c d a B R, LMx xs c d a B R /\ LsX xs R) /\ rowsOK intK (dc (env xs 11)) /\ env xs 12 = ((dc (env xs 11)).length : Int) /\ 0 <= env xs 13 /\ env xs 13 <= env xs 12 /\ env xs 12 <= 4096 /\ ((dc (env xs 10)).length : Int) <= env xs 13
def NB (xs ys : List Int) : Prop := ∀ c d a B R, LMx xs c d a B R -> LsX xs R -> (R = [] -> ∀ j, j < 11 -> env ys j = env xs j) /\
 LVx ys c (cmD (env xs 1) d R) (cmA (env xs 1) d a R) B /\ dc (env ys 10) = dc (env xs 10) ++ idR (cmO (env xs 1) d R) /\ env ys 1 = env xs 1 /\ env ys 2 = env xs 2 /\ env ys 4 = env xs 4 /\ env ys 6 = env xs 6 /\ env ys 8 = env xs 8 + cmV (env xs 1) d R
def muLt (xs : List Int) : Nat := (env xs 12 - env xs 13).toNat
def hnS : Sh := .fnc 40 [.obj 24 [lzS], .obj 29 [lio]]
def lbLt : LEnt := ⟨⟨9014, 999999, [hnS, lio, i64, i64], [{ j := 2, ty := 102, tl := some k3, cs := [.sc .x, i64, i64, i64, i64, ltm] }, { j := 1, ty := 49, cs := [.ref 2, i64, i64, i64, lio] }, { j := 5, ty := 29, cs := [lio] }], [0, 7], .tup [], z0, preLt⟩, [5, 32, 33, 34], [], [9] ++ (List.range 8).map (· + 34), [.ex 0], 43, []⟩
def cZ4 : Ctx := ⟨[e18, e14], []⟩
def cZ4n : Ctx := cZ4.nm
def Gv : List E := [(vX 0), (vI 1), (vI 2), (vI 3), (vI 4), (vX 5), (aI 0 1 [(vX 11), (vI 13), (.lit .x 0)]), (aI 0 1 [(vX 9), (aI 0 1 [(vX 11), (vI 13), (.lit .x 0)]), (.lit .x 0)])]
def N8 : List (Nat × E) := [(640000115203264, (aI 100000018 0 [(vX 0), (vI 1), (vI 2), (vI 3), (vI 4), (vX 5)])),
 (640000089603264, (aX 100000014 0 Gv)),
 (640000089603265, (aI 100000014 1 Gv)),
 (640000089603266, (aI 100000014 2 Gv)),
 (640000089603267, (aI 100000014 3 Gv)),
 (640000089603268, (aI 100000014 4 Gv)),
 (640000089603269, (aX 100000014 5 Gv)),
 (640000089603270, (aI 100000014 6 Gv))]
def Gw : E := (.and (.cmp .geq (aI 0 1 [(vX 11), (vI 13), (.lit .x 0)]) (lI 0)) (.cmp .lss (aI 0 1 [(vX 11), (vI 13), (.lit .x 0)]) (aI 0 0 [(vX 9)])))
def Gx : E := (aI 0 1 [(vX 9), (aI 0 1 [(vX 11), (vI 13), (.lit .x 0)]), (.lit .x 0)])
def Bs : E := (.cmp .gtr Gx (vI 640000115203264))
def Gy : E := (.not Bs)
def Gz : E := (aX 0 4 [(vX 10), (aX 0 3 [(aX 0 2 []), (aI 0 1 [(vX 11), (vI 13), (.lit .x 0)])])])
def BC : E := (.ite Bs (vX 640000089603264) (vX 0))
def BD : E := (.ite Bs (vI 640000089603265) (vI 1))
def BE : E := (.ite Bs (vI 640000089603266) (vI 2))
def BF : E := (.ite Bs (vI 640000089603267) (vI 3))
def BG : E := (.ite Bs (vI 640000089603268) (vI 4))
def Be : E := (.ite Bs (vX 640000089603269) (vX 5))
def Bf : E := (.ite Bs (vI 7) (.bin .sub .i64 (vI 7) (lI 1)))
def Bg : E := (.bin .add .i64 (vI 8) (.ite Bs (lI 1) (lI 0)))
def Bh : E := (.ite Bs (vX 9) (aX 0 6 [(vX 9), (aI 0 1 [(vX 11), (vI 13), (.lit .x 0)]), (.lit .x 0), (lI 0)]))
def Bi : E := (.ite Bs (vX 10) Gz)
def Lw : E := (.and (.and (.or (.not (.cmp .lss (vI 13) (vI 12))) (.and (.and (.cmp .geq (vI 13) (lI 0)) (.cmp .lss (vI 13) (aI 0 0 [(vX 11)]))) (.and (.and Gw (.and (.and (.app .b 100000018 1000000 [(vX 0), (vI 1), (vI 2), (vI 3), (vI 4), (vX 5)]) (dE N8 0 1)) (.or Gy (.and (.app .b 100000014 1000000 [(vX 0), (vI 1), (vI 2), (vI 3), (vI 4), (vX 5), (aI 0 1 [(vX 11), (vI 13), (.lit .x 0)]), Gx]) (dE N8 1 7))))) (.or Bs (.and Gw (.cmp .leq (aX 0 0 [Gz]) (.lit .x 17592186044416))))))) (.or (.not (.cmp .lss (vI 13) (vI 12))) (.and (.ite Bs Bs Gy) (.app .b 9014 1000000 [BC, BD, BE, BF, BG, Be, (vI 6), Bf, Bg, Bh, Bi, (vX 11), (vI 12), (.bin .add .i64 (vI 13) (lI 1))])))) (.or (.not (.or (.not (.cmp .lss (vI 13) (vI 12))) (.cmp .lss (vI 13) (vI 12)))) (.ite (.not (.cmp .lss (vI 13) (vI 12))) (.not (.cmp .lss (vI 13) (vI 12))) (.cmp .lss (vI 13) (vI 12)))))
def Lx : List E := [(.ite (.not (.cmp .lss (vI 13) (vI 12))) (vX 0) (aX 9014 0 [BC, BD, BE, BF, BG, Be, (vI 6), Bf, Bg, Bh, Bi, (vX 11), (vI 12), (.bin .add .i64 (vI 13) (lI 1))])), (.ite (.not (.cmp .lss (vI 13) (vI 12))) (vI 1) (aI 9014 1 [BC, BD, BE, BF, BG, Be, (vI 6), Bf, Bg, Bh, Bi, (vX 11), (vI 12), (.bin .add .i64 (vI 13) (lI 1))])), (.ite (.not (.cmp .lss (vI 13) (vI 12))) (vI 2) (aI 9014 2 [BC, BD, BE, BF, BG, Be, (vI 6), Bf, Bg, Bh, Bi, (vX 11), (vI 12), (.bin .add .i64 (vI 13) (lI 1))])), (.ite (.not (.cmp .lss (vI 13) (vI 12))) (vI 3) (aI 9014 3 [BC, BD, BE, BF, BG, Be, (vI 6), Bf, Bg, Bh, Bi, (vX 11), (vI 12), (.bin .add .i64 (vI 13) (lI 1))])), (.ite (.not (.cmp .lss (vI 13) (vI 12))) (vI 4) (aI 9014 4 [BC, BD, BE, BF, BG, Be, (vI 6), Bf, Bg, Bh, Bi, (vX 11), (vI 12), (.bin .add .i64 (vI 13) (lI 1))])), (.ite (.not (.cmp .lss (vI 13) (vI 12))) (vX 5) (aX 9014 5 [BC, BD, BE, BF, BG, Be, (vI 6), Bf, Bg, Bh, Bi, (vX 11), (vI 12), (.bin .add .i64 (vI 13) (lI 1))])), (.ite (.not (.cmp .lss (vI 13) (vI 12))) (vI 6) (aI 9014 6 [BC, BD, BE, BF, BG, Be, (vI 6), Bf, Bg, Bh, Bi, (vX 11), (vI 12), (.bin .add .i64 (vI 13) (lI 1))])), (.ite (.not (.cmp .lss (vI 13) (vI 12))) (vI 7) (aI 9014 7 [BC, BD, BE, BF, BG, Be, (vI 6), Bf, Bg, Bh, Bi, (vX 11), (vI 12), (.bin .add .i64 (vI 13) (lI 1))])), (.ite (.not (.cmp .lss (vI 13) (vI 12))) (vI 8) (aI 9014 8 [BC, BD, BE, BF, BG, Be, (vI 6), Bf, Bg, Bh, Bi, (vX 11), (vI 12), (.bin .add .i64 (vI 13) (lI 1))])), (.ite (.not (.cmp .lss (vI 13) (vI 12))) (vX 9) (aX 9014 9 [BC, BD, BE, BF, BG, Be, (vI 6), Bf, Bg, Bh, Bi, (vX 11), (vI 12), (.bin .add .i64 (vI 13) (lI 1))])), (.ite (.not (.cmp .lss (vI 13) (vI 12))) (vX 10) (aX 9014 10 [BC, BD, BE, BF, BG, Be, (vI 6), Bf, Bg, Bh, Bi, (vX 11), (vI 12), (.bin .add .i64 (vI 13) (lI 1))]))]
def leLt : LEnt := lbLt.fw (fnL lbLt cZ4n.l Lw Lx NB muLt)
theorem ev_Lt : evL Try.prog G0 (Af cZ4n.fs) (evFn Try.prog G0 (Af cZ4n.fs) (ltOf cZ4n.ls) 40 10) 40 (subL cZ4n.ls 14 pLt) leLt (BQ Try.prog 14 pLt) = some (Lw, Lx) := by kernel_rfl
def pre14z (xs : List Int) : Prop := preZ xs /\ env xs 4 + env xs 2 <= 1125899906842624 /\ env xs 8 + 4096 <= 1125899906842624
def ex14 (xs ys : List Int) (L : Int) : Prop := ∃ v1 v2 v3 v4 v5 v6 v7 v8 v9 v10 v11 v12 v13 v15, Aj e15.fn (wp6 xs) 0 kW7 [v1, v2, v3, v4, v5, v6, v7] /\ Aj e17.fn [v1, v2, v3, v4, v5, v6, env xs 6] 0 [.x, .i .i64, .i .i64, .i .i64, .i .i64, .x, .x, .i .i64] [v8, v9, v10, v11, v12, v13, L, v15] /\ (dc L = [] -> wp6 ys = [v8, v9, v10, v11, v12, v13])
def IP (xs ys : List Int) : Prop := ∃ L, ex14 xs ys L /\ ∀ c d a B, LVx xs c d a B -> ∃ N P : List Nat, dc L = idR P /\ (∀ i, i ∈ N ↔ env xs 1 < 1099511627776 /\ (i : Int) < c /\ a i = env xs 1 + 1) /\ P = (B ++ N).take (env xs 6).toNat /\
 LVx ys c (cmD (nowT (env xs 1)) d P) (cmA (nowT (env xs 1)) d a P) ((B ++ N).drop (env xs 6).toNat) /\ dc (env ys 10) = idR (cmO (nowT (env xs 1)) d P) /\ env ys 1 = nowT (env xs 1) /\ env ys 2 = env xs 2 /\ (env xs 4 <= env ys 4 /\ env ys 4 <= env xs 4 + env xs 2) /\ env ys 6 = env xs 6 /\ env ys 8 = env xs 8 + cmV (nowT (env xs 1)) d P
def b14z : Ent := ⟨314, 14, [lzS], [wobL, lzO], [], .tup [lio, .lt kJ 0], z0, pre14z⟩
def cZ5 : Ctx := ⟨[z34, e15, e17], [(14, pLt, leLt)]⟩
def cZ5n : Ctx := cZ5.nm
def Fh : List E := [(vX 0), (vI 1), (vI 2), (vI 3), (vI 4), (vX 5)]
def EC : List E := [(vX 640000096000768), (vI 640000096000769), (vI 640000096000770), (vI 640000096000771), (vI 640000096000772), (vX 640000096000773), (vI 6)]
def Ct : List E := [(vX 640000108806400), (vI 640000108806401), (vI 640000108806402), (vI 640000108806403), (vI 640000108806404), (vX 640000108806405), (vI 6), (vI 7), (vI 8), (vX 9), (aX 0 2 []), (vX 640000108806406), (aI 0 0 [(vX 640000108806406)]), (lI 0)]
def JG : List (Nat × E) := [(640000096000768, (aX 100000015 0 Fh)),
 (640000096000769, (aI 100000015 1 Fh)),
 (640000096000770, (aI 100000015 2 Fh)),
 (640000096000771, (aI 100000015 3 Fh)),
 (640000096000772, (aI 100000015 4 Fh)),
 (640000096000773, (aX 100000015 5 Fh)),
 (640000096000774, (aI 100000015 6 Fh)),
 (640000108806400, (aX 100000017 0 EC)),
 (640000108806401, (aI 100000017 1 EC)),
 (640000108806402, (aI 100000017 2 EC)),
 (640000108806403, (aI 100000017 3 EC)),
 (640000108806404, (aI 100000017 4 EC)),
 (640000108806405, (aX 100000017 5 EC)),
 (640000108806406, (aX 100000017 6 EC)),
 (640000108806407, (aI 100000017 7 EC)),
 (640057689609472, (aX 100009014 0 Ct)),
 (640057689609473, (aI 100009014 1 Ct)),
 (640057689609474, (aI 100009014 2 Ct)),
 (640057689609475, (aI 100009014 3 Ct)),
 (640057689609476, (aI 100009014 4 Ct)),
 (640057689609477, (aX 100009014 5 Ct)),
 (640057689609478, (aI 100009014 6 Ct)),
 (640057689609479, (aI 100009014 7 Ct)),
 (640057689609480, (aI 100009014 8 Ct)),
 (640057689609481, (aX 100009014 9 Ct)),
 (640057689609482, (aX 100009014 10 Ct))]
def NC : E := (.and (.app .b 100000334 1000000 [(vX 0), (vI 1), (vI 2), (vI 3), (vI 4), (vX 5), (vI 6), (vI 7), (vI 8), (vX 9)]) (.and (.and (.app .b 100000015 1000000 [(vX 0), (vI 1), (vI 2), (vI 3), (vI 4), (vX 5)]) (dE JG 0 7)) (.and (.and (.app .b 100000017 1000000 [(vX 640000096000768), (vI 640000096000769), (vI 640000096000770), (vI 640000096000771), (vI 640000096000772), (vX 640000096000773), (vI 6)]) (dE JG 7 8)) (.and (.app .b 100009014 1000000 [(vX 640000108806400), (vI 640000108806401), (vI 640000108806402), (vI 640000108806403), (vI 640000108806404), (vX 640000108806405), (vI 6), (vI 7), (vI 8), (vX 9), (aX 0 2 []), (vX 640000108806406), (aI 0 0 [(vX 640000108806406)]), (lI 0)]) (dE JG 15 11)))))
def ND : List E := [(vX 640057689609472), (vI 640057689609473), (vI 640057689609474), (vI 640057689609475), (vI 640057689609476), (vX 640057689609477), (vI 640057689609478), (vI 640057689609479), (vI 640057689609480), (vX 640057689609481), (vX 640057689609482)]
def z14 : Ent := b14z.fw (fnR cZ5n.l.F b14z.np NC ND IP)
theorem Xw : evE Try.prog G0 (Af cZ5n.fs) (ltOf cZ5n.ls) 40 10 z14 = some (NC, ND) := by kernel_rfl
section
variable {S now bu le mo T h ln vn D c : Int} {d a : Nat -> Int} {B R : List Nat} {r : Nat}
theorem LM.lz (m : LM S now bu le mo T h ln vn D c d a B []) : LZ S now bu le mo T h ln vn D c d a B :=
 ⟨m.w, m.hd, by have := m.ln; simp at this; exact this, m.rD, m.cp, m.dl, fun i hi => ⟨(m.ad i hi).1 (by simp), (m.ad i hi).2⟩, by have := m.vb; simp at this; exact this⟩
theorem LM.later {S' bu' le' mo' T' ln' vn' : Int} {B' : List Nat} (m : LM S now bu le mo T h ln vn D c d a B (r :: R)) (hw : WV S' now bu' le' mo' T' c (upD a r (d r)) B') (hl : le' = le + 1) (hn : ln' = ln) (hv : vn' = vn + 1) : LM S' now bu' le' mo' T' h ln' vn' D c d (upD a r (d r)) B' R := by
 have nd := List.nodup_cons.1 m.nd
 have hln := m.ln
 have hvb := m.vb
 rw [List.length_cons] at hln hvb
 refine ⟨hw, m.hd, by omega, m.rD, m.cp, m.dl, nd.2, fun i hi => ?_, fun i hi => ?_, by omega⟩
 ·have e : i ≠ r := fun e => nd.1 (e ▸ hi)
  rw [AL _ _ e]
  exact m.rr i (List.mem_cons_of_mem _ hi)
 ·have := m.ad i hi
  by_cases e : i = r
  ·subst e
   rw [BL]
   exact ⟨fun _ => Iff.rfl, Int.le_refl _, this.2.2⟩
  ·rw [AL _ _ e]
   exact ⟨fun hh => this.1 (by simp [e, hh]), this.2⟩
theorem LM.comes {D' ln' : Int} (m : LM S now bu le mo T h ln vn D c d a B (r :: R)) (hD : D' = cd (setC (dc D) r 0 [0])) (hn : ln' = ln - 1) : LM S now bu le mo T h ln' vn D' c (upD d r 0) a B R := by
 have nd := List.nodup_cons.1 m.nd
 have hln := m.ln
 have hvb := m.vb
 have htm := m.w.tm
 rw [List.length_cons] at hln hvb
 obtain ⟨r1, r2, r3⟩ := m.rr r (List.mem_cons_self ..)
 have hcp := m.cp
 have hl' : r < (dc D).length := by omega
 subst hD
 refine ⟨m.w, m.hd, by omega, ?_, ?_, fun y hy => ?_, nd.2, fun i hi => ?_, fun i hi => ?_, by omega⟩
 ·rw [Ac]; exact m.rD.set hl' rfl
 ·rw [Ac, Cj]; exact hcp
 ·rw [Ac, RI m.rD hl']; unfold upD; split
  ·rfl
  ·exact m.dl y hy
 ·have e : i ≠ r := fun e => nd.1 (e ▸ hi)
  rw [AL _ _ e]
  exact m.rr i (List.mem_cons_of_mem _ hi)
 ·have := m.ad i hi
  by_cases e : i = r
  ·subst e
   rw [BL]
   exact ⟨fun _ => ⟨fun _ => rfl, fun _ => r2⟩, by omega, by omega⟩
  ·rw [AL _ _ e]
   exact ⟨fun hh => this.1 (by simp [e, hh]), this.2⟩
theorem LZ.due {S1 now1 bu1 le1 mo1 T1 S2 bu2 le2 mo2 T2 : Int} {P N : List Nat} (hz : LZ S now bu le mo T h ln vn D c d a B) (hw1 : WV S1 now1 bu1 le1 mo1 T1 c a (B ++ N)) (h1 : now <= now1) (h2 : le1 = le) (hP : P = (B ++ N).take h.toNat)
 (hw2 : WV S2 now1 bu2 le2 mo2 T2 c (fun i => if i ∈ P then 0 else a i) ((B ++ N).drop h.toNat)) (h3 : le2 = le1 - (P.length : Int)) (hv : vn + 4096 <= 1125899906842624) :
 LM S2 now1 bu2 le2 mo2 T2 h ln vn D c d (fun i => if i ∈ P then 0 else a i) ((B ++ N).drop h.toNat) P /\ cmA now1 d (fun i => if i ∈ P then 0 else a i) P = cmA now1 d a P := by
 have hl := hz.ln
 have hh := hz.hd
 have hvb := hz.vb
 have hlen : (P.length : Int) <= h := by rw [hP, List.length_take]; omega
 have hsub : ∀ i ∈ P, i ∈ B ++ N := fun i hi => by rw [hP] at hi; exact List.mem_of_mem_take hi
 refine ⟨⟨hw2, hh, by omega, hz.rD, hz.cp, hz.dl, ?_, fun i hi => ?_, fun i hi => ?_, by omega⟩, ?_⟩
 ·rw [hP]; exact hw1.nd.sublist (List.take_sublist ..)
 ·obtain ⟨m1, m2, m3⟩ := (hw1.mem i).1 (hsub i hi)
  have := hz.ad i m1
  exact ⟨m1, if_pos hi, by omega⟩
 ·have := hz.ad i hi
  have hd0 := hz.dr hi
  refine ⟨fun hn => ?_, ?_, by omega⟩
  ·show (if i ∈ P then 0 else a i) = 0 ↔ d i = 0
   rw [if_neg hn]; exact this.1
  ·show (if i ∈ P then 0 else a i) <= d i
   split <;> omega
 ·funext j
  unfold cmA
  by_cases e : j ∈ P
  ·rw [if_pos e, if_pos e]
  ·rw [if_neg e, if_neg e]; exact if_neg e
theorem N9 : cmD now d [] = d := funext fun j => if_neg (by simp)
theorem Oa : cmA now d a [] = a := funext fun j => if_neg (by simp)
theorem QF (hr : r ∉ R) (hd : now < d r) : cmD now d (r :: R) = cmD now d R /\ cmA now d a (r :: R) = cmA now d (upD a r (d r)) R /\ cmO now d (r :: R) = cmO now d R /\ cmV now d (r :: R) = cmV now d R + 1 := by
 refine ⟨funext fun j => ?_, funext fun j => ?_, ?_, ?_⟩
 ·unfold cmD
  by_cases e : j = r
  ·subst e; rw [if_neg (by omega), if_neg (by omega)]
  ·simp [e]
 ·unfold cmA
  by_cases e : j = r
  ·subst e; rw [if_pos (by simp), if_neg (by omega), if_neg hr, BL]
  ·rw [AL _ _ e]; simp [e]
 ·unfold cmO
  rw [List.filter_cons, if_neg (by simp; omega)]
 ·unfold cmV
  rw [List.filter_cons, if_pos (by simpa using hd)]; rfl
theorem NE {f : Int -> Bool} (hr : r ∉ R) (v : Int) : (R.filter fun j => f (upD d r v j)) = R.filter fun j => f (d j) :=
 List.filter_congr fun j hj => by rw [AL _ _ (show j ≠ r from fun e => hr (e ▸ hj))]
theorem VL (hr : r ∉ R) (hd : d r <= now) (ha : a r = 0) : cmD now d (r :: R) = cmD now (upD d r 0) R /\ cmA now d a (r :: R) = cmA now (upD d r 0) a R /\ cmO now d (r :: R) = r :: cmO now (upD d r 0) R /\ cmV now d (r :: R) = cmV now (upD d r 0) R := by
 refine ⟨funext fun j => ?_, funext fun j => ?_, ?_, ?_⟩
 ·unfold cmD
  by_cases e : j = r
  ·subst e; rw [if_pos ⟨by simp, hd⟩, if_neg (fun hh => hr hh.1), BL]
  ·rw [AL _ _ e]; simp [e]
 ·unfold cmA
  by_cases e : j = r
  ·subst e; rw [if_pos (by simp), if_pos hd, if_neg hr, ha]
  ·rw [AL _ _ e]; simp [e]
 ·unfold cmO
  rw [List.filter_cons, if_pos (by simpa using hd), NE (f := fun x => decide (x <= now)) hr]
 ·unfold cmV
  rw [List.filter_cons, if_neg (by simp; omega), NE (f := fun x => decide (now < x)) hr]
end
theorem QG {R : List Nat} {x : Int} {t : RL} (h : [x] :: t = idR R) : ∃ q R1, R = q :: R1 /\ x = (q : Int) /\ t = idR R1 := by
 cases R with
 | nil => cases h
 | cons q R1 =>
   injection h with h1 h2
   injection h1 with h1 _
   exact ⟨q, R1, rfl, h1, h2⟩
theorem Fk : ∀ {R R' : List Nat}, idR R = idR R' -> R' = R
 | [], [], _ => rfl
 | [], _ :: _, h => by cases h
 | _ :: _, [], h => by cases h
 | q :: R, q' :: R', h => by
   obtain ⟨q2, R2, e1, e2, e3⟩ := QG (R := q' :: R') (x := (q : Int)) (t := idR R) h
   injection e1 with e4 e5
   subst e4 e5
   rw [Fk e3, show q' = q by omega]
theorem cZ4ok : cZ4.OK Try.prog G0 := (Ctx.OK.nil.addF ok14 rfl).addF ok18 rfl
set_option maxHeartbeats 4000000 in
theorem okLt : Bc Try.prog G0 14 pLt leLt /\ PostOK leLt.ent NB := by
 refine cZ4ok.nm.loopH mixed rfl ⟨_, _, _, Try.func14, rfl, rfl⟩ ev_Lt (by kernel_rfl) _ rfl fun xs hf hp φ hφ => ?_
 obtain ⟨l, hl, hS, hF⟩ := M5 lbLt φ muLt (muLt xs) cZ4n.l (by decide)
 show ∃ ρ : Nat -> Int, _ /\ Lw.tt (Tabs.F (enH lbLt φ muLt (muLt xs) :: cZ4n.l)) ρ = true /\ NB xs (Lx.map (E.den (Tabs.F (enH lbLt φ muLt (muLt xs) :: cZ4n.l)) ρ))
 rw [hl]
 replace hφ : ∀ ys, fits [.x, kJ, kJ, kJ, kJ, .x, kJ, kJ, kJ, .x, .x, .x, kJ, kJ] ys -> lbLt.ent.pre ys -> muLt ys < muLt xs -> NB ys (Ai φ ys 0 lbLt.ent.oks) := hφ
 have F9014 := FC (k := 9014) rfl hS
 have F14 := FC (k := 100000014) rfl (hF e14.nm (by rfl) (by decide) (by decide))
 have F18 := FC (k := 100000018) rfl (hF e18.nm (by rfl) (by decide) (by decide))
 replace hf : fits [.x, kJ, kJ, kJ, kJ, .x, kJ, kJ, kJ, .x, .x, .x, kJ, kJ] xs := hf
 obtain ⟨S, xs0, hx0, hS, hf0⟩ := Aa hf
 obtain ⟨now, xs1, hx1, hnow, hf1⟩ := Aa hf0
 obtain ⟨bu, xs2, hx2, hbu, hf2⟩ := Aa hf1
 obtain ⟨le, xs3, hx3, hle, hf3⟩ := Aa hf2
 obtain ⟨mo, xs4, hx4, hmo, hf4⟩ := Aa hf3
 obtain ⟨T, xs5, hx5, hT, hf5⟩ := Aa hf4
 obtain ⟨h, xs6, hx6, hh, hf6⟩ := Aa hf5
 obtain ⟨ln, xs7, hx7, hln, hf7⟩ := Aa hf6
 obtain ⟨vn, xs8, hx8, hvn, hf8⟩ := Aa hf7
 obtain ⟨D, xs9, hx9, hD, hf9⟩ := Aa hf8
 obtain ⟨O, xs10, hx10, hO, hf10⟩ := Aa hf9
 obtain ⟨L, xs11, hx11, hL, hf11⟩ := Aa hf10
 obtain ⟨n, xs12, hx12, hn, hf12⟩ := Aa hf11
 obtain ⟨i, xs13, hx13, hi, hf13⟩ := Aa hf12
 have hxn := AV hf13
 subst hxn hx13 hx12 hx11 hx10 hx9 hx8 hx7 hx6 hx5 hx4 hx3 hx2 hx1 hx0
 simp only [Ad] at hnow hbu hle hmo hh hln hvn hn hi
 obtain ⟨ρ, hρ, hd⟩ := solve (F := l.F) 14 N8 (by kernel_rfl) [S, now, bu, le, mo, T, h, ln, vn, D, O, L, n, i]
 have hDf := EA (by kernel_rfl) hd
 refine ⟨ρ, hρ, ?_⟩
 have r0 : ρ 0 = S := hρ 0 (by decide)
 have r1 : ρ 1 = now := hρ 1 (by decide)
 have r2 : ρ 2 = bu := hρ 2 (by decide)
 have r3 : ρ 3 = le := hρ 3 (by decide)
 have r4 : ρ 4 = mo := hρ 4 (by decide)
 have r5 : ρ 5 = T := hρ 5 (by decide)
 have r6 : ρ 6 = h := hρ 6 (by decide)
 have r7 : ρ 7 = ln := hρ 7 (by decide)
 have r8 : ρ 8 = vn := hρ 8 (by decide)
 have r9 : ρ 9 = D := hρ 9 (by decide)
 have r10 : ρ 10 = O := hρ 10 (by decide)
 have r11 : ρ 11 = L := hρ 11 (by decide)
 have r12 : ρ 12 = n := hρ 12 (by decide)
 have r13 : ρ 13 = i := hρ 13 (by decide)
 obtain ⟨⟨v1, hv1, hd1, hn1⟩, ⟨v2, hv2, hd2, hn2⟩⟩ := Jj (nmd hd 0 rfl) (nmd hd 1 rfl)
 obtain ⟨⟨v3, hv3, hd3, hn3⟩, ⟨v4, hv4, hd4, hn4⟩⟩ := Jj (nmd hd 2 rfl) (nmd hd 3 rfl)
 obtain ⟨⟨v5, hv5, hd5, hn5⟩, ⟨v6, hv6, hd6, hn6⟩⟩ := Jj (nmd hd 4 rfl) (nmd hd 5 rfl)
 obtain ⟨⟨v7, hv7, hd7, hn7⟩, ⟨v8, hv8, hd8, hn8⟩⟩ := Jj (nmd hd 6 rfl) (nmd hd 7 rfl)
 simp only [Ad] at hn1 hn3 hn4 hn5 hn6 hn8
 simp (disch := omega) only [Ad, Gv, F14, F18, Ent.nm_fn, r0, r1, hnow, r2, hbu, r3, hle, r4, hmo, r5, r6, hh, r7, hln, r8, hvn, r9, r10, r11, r12, hn, r13, hi, hv1, hn1, hv2, hv3, hn3, hv4, hn4, hv5, hn5, hv6, hn6, hv7, hv8, hn8, ewA, ewL, preC, binI, dvI, shI, cmpB, env, bi, List.headD, List.tail, List.map, Nat.reduceAdd, ewR, ewB, ewM, if_true, if_false, implies_true, forall_const, ne_eq, reduceCtorEq, Int.reduceEq, Int.reduceLT, Int.reduceLE, Int.reduceToNat, Int.reduceAdd, Int.reduceSub, Int.reduceMul, Int.reduceNeg, Int.reduceBEq, Nat.reduceLT, Nat.reduceEqDiff] at hd1 hd2 hd3 hd4 hd5 hd6 hd7 hd8
 have hSS := Jj (Jj (Jj (Jj (Jj F9014 F14) (Jj F18 (Jj r0 r1))) (Jj (Jj hnow r2) (Jj hbu (Jj r3 hle)))) (Jj (Jj (Jj r4 hmo) (Jj r5 (Jj r6 hh))) (Jj (Jj r7 hln) (Jj r8 (Jj hvn r9))))) (Jj (Jj (Jj (Jj r10 r11) (Jj r12 (Jj hn r13))) (Jj (Jj hi hv1) (Jj hn1 (Jj hv2 hv3)))) (Jj (Jj (Jj hn3 hv4) (Jj hn4 (Jj hv5 hn5))) (Jj (Jj hv6 (Jj hn6 hv7)) (Jj hv8 (Jj hn8 hDf)))))
 obtain ⟨⟨c, d, a, B, R, hm, hL⟩, p1, p2, p3, p4, p5, p6⟩ := hp
 replace hm : LM S now bu le mo T h ln vn D c d a B R := hm
 replace hL : (dc L).drop i.toNat = idR R := hL
 replace p1 : rowsOK intK (dc L) := p1
 simp only [ewA, ewL, preC, binI, dvI, shI, cmpB, env, bi, List.headD, List.tail, List.map, Nat.reduceAdd] at p2 p3 p4 p5 p6
 have hw := hm.w
 have htm := hw.tm
 have hct := hw.ct
 have hcp := hm.cp
 have hvb := hm.vb
 have wD : IntKind.i64.wrap (((dc D).length : Nat) : Int) = c := by rw [hcp]; exact i64w (by omega) (by omega)
 have wL : IntKind.i64.wrap (((dc L).length : Nat) : Int) = n := by rw [<- p2]; exact hn
 have y18 : e18.pre [S, now, bu, le, mo, T] := hw.lenOK []
 have z1 := hw.nowV hd1
 by_cases hi : i < n
 ·obtain ⟨r, er, hr, hmem, hdrop⟩ := Qh p1 p3 (by omega)
  obtain ⟨x, r1, rfl, hx, hr⟩ := Aa hr
  obtain rfl := AV hr
  simp only [Ad] at hx
  rw [hdrop] at hL
  obtain ⟨q, R1, rfl, rfl, hL1⟩ := QG hL
  have nd := List.nodup_cons.1 hm.nd
  obtain ⟨g1, g2, g3⟩ := hm.rr q (List.mem_cons_self ..)
  obtain ⟨_, g4, g5⟩ := hm.ad q g1
  have cq := hm.dl q g1
  have c0 := DX hm.rD (i := q) (j := 0) (by omega) rfl
  have hvb' := hm.vb
  have hln' := hm.ln
  have hle' := hw.ler
  rw [List.length_cons] at hvb' hln'
  have tq : ((q : Nat) : Int).toNat = q := by omega
  simp (disch := omega) only [ewA, ewL, preC, binI, dvI, shI, cmpB, env, bi, List.headD, List.tail, List.map, Nat.reduceAdd, ewR, ewB, ewM, if_true, if_false, implies_true, forall_const, ne_eq, reduceCtorEq, Int.reduceEq, Int.reduceLT, Int.reduceLE, Int.reduceToNat, Int.reduceAdd, Int.reduceSub, Int.reduceMul, Int.reduceNeg, Int.reduceBEq, Nat.reduceLT, Nat.reduceEqDiff, er, tq, AX, c0, cq] at hd2 hd3 hd4 hd5 hd6 hd7 hd8
  have y14 : e14.pre [S, now, bu, le, mo, T, (q : Int), d q] := hw.wx2 _ _
  have wn : IntKind.i64.wrap (vn + 1) = vn + 1 := i64w (by omega) (by omega)
  have wl : IntKind.i64.wrap (ln - 1) = ln - 1 := i64w (by omega) (by omega)
  have wi : IntKind.i64.wrap (i + 1) = i + 1 := i64w (by omega) (by omega)
  have hcm : ∀ {c' : Int} {d' a' : Nat -> Int} {B' R' : List Nat}, LM S now bu le mo T h ln vn D c' d' a' B' R' -> (dc L).drop i.toNat = idR R' -> R' = q :: R1 /\ c' = c /\ d' q = d q := fun {c' d' a' B' R'} hm' hL' => by
   rw [hdrop] at hL'
   have e := hm'.cp.symm.trans hm.cp
   exact ⟨Fk (hL.symm.trans hL'), e, (hm'.dl q (by omega)).symm.trans cq⟩
  by_cases hd : now < d q
  ·obtain ⟨q1, q2, q3, q4, q5, q6, _⟩ := hw.arm (i := (q : Int)) (dd := d q) ⟨by omega, g1⟩ ⟨hd, g5⟩ ⟨hd2, hd3, hd4, hd5, hd6, hd7, hd8, trivial⟩
   have ha0 : ∀ {c' : Int} {a' : Nat -> Int} {B' : List Nat}, WV S now bu le mo T c' a' B' -> a' q = 0 -> B'.erase q = B' := fun hw' h0 => List.erase_of_not_mem fun hm => by
    have := (hw'.mem q).1 hm
    omega
   have hB := ha0 hw g2
   rw [tq, hB] at q1
   rw [tq, g2, if_neg (by omega)] at q6
   subst q2
   have hm1 := hm.later q1 q6 rfl rfl
   have yp : lbLt.ent.pre [v2, v3, v4, v5, v6, v7, h, ln, vn + 1, D, O, L, n, i + 1] := ⟨⟨_, _, _, _, _, hm1, hL1⟩, p1, p2, by show 0 <= i + 1; omega, by show i + 1 <= n; omega, p5, by show ((dc O).length : Int) <= i + 1; omega⟩
   have ym : muLt [v2, v3, v4, v5, v6, v7, h, ln, vn + 1, D, O, L, n, i + 1] < muLt [S, v3, bu, le, mo, T, h, ln, vn, D, O, L, n, i] := by show (n - (i + 1)).toNat < (n - i).toNat; omega
   have i1 := hφ [v2, v3, v4, v5, v6, v7, h, ln, vn + 1, D, O, L, n, i + 1] ⟨rfl, hn3, hn4, hn5, hn6, rfl, hh, hln, wn, rfl, rfl, rfl, hn, wi, trivial⟩ yp ym
   refine ⟨?_, ?_⟩
   ·simp (disch := omega) only [Lw, Gw, Gx, Bs, Gy, Gz, BC, BD, BE, BF, BG, Be, Bf, Bg, Bh, Bi, ewA, ewL, preC, binI, dvI, shI, cmpB, env, bi, List.headD, List.tail, List.map, Nat.reduceAdd, ewR, ewB, ewM, if_true, if_false, implies_true, forall_const, ne_eq, reduceCtorEq, Int.reduceEq, Int.reduceLT, Int.reduceLE, Int.reduceToNat, Int.reduceAdd, Int.reduceSub, Int.reduceMul, Int.reduceNeg, Int.reduceBEq, Nat.reduceLT, Nat.reduceEqDiff, hSS, hi, er, tq, AX, c0, cq, wD, wL, z1, hd, wn, y18, y14, wi]
    exact ⟨⟨p3, by omega, g1⟩, yp, ym⟩
   ·simp (disch := omega) only [Lx, Gw, Gx, Bs, Gy, Gz, BC, BD, BE, BF, BG, Be, Bf, Bg, Bh, Bi, ewA, ewL, preC, binI, dvI, shI, cmpB, env, bi, List.headD, List.tail, List.map, Nat.reduceAdd, ewR, ewB, ewM, if_true, if_false, implies_true, forall_const, ne_eq, reduceCtorEq, Int.reduceEq, Int.reduceLT, Int.reduceLE, Int.reduceToNat, Int.reduceAdd, Int.reduceSub, Int.reduceMul, Int.reduceNeg, Int.reduceBEq, Nat.reduceLT, Nat.reduceEqDiff, hSS, hi, er, tq, AX, c0, cq, wD, wL, z1, hd, wn, wi]
    intro c' d' a' B' R' hm' hL'
    obtain ⟨rfl, rfl, ed⟩ := hcm hm' hL'
    replace hm' : LM S v3 bu le mo T h ln vn D c' d' a' B' (q :: R1) := hm'
    have a0 := (hm'.rr q (List.mem_cons_self ..)).2.1
    obtain ⟨u1, _, _, _, _, u6, _⟩ := hm'.w.arm (i := (q : Int)) (dd := d q) ⟨by omega, g1⟩ ⟨hd, g5⟩ ⟨hd2, hd3, hd4, hd5, hd6, hd7, hd8, trivial⟩
    rw [tq, ha0 hm'.w a0, <- ed] at u1
    rw [tq, a0, if_neg (by omega)] at u6
    obtain ⟨_, j1, j2, j3, j4, j5, j6, j7⟩ := i1 c' d' _ B' R1 (hm'.later u1 u6 rfl rfl) hL1
    obtain ⟨k1, k2, k3, k4⟩ := QF (a := a') (now := v3) nd.1 (show v3 < d' q by rw [ed]; exact hd)
    refine ⟨nofun, ?_, ?_, j3, j4.trans q3, j5.trans q4, j6, ?_⟩
    ·show LVx _ c' (cmD v3 d' (q :: R1)) (cmA v3 d' a' (q :: R1)) B'
     rw [k1, k2]; exact j1
    ·show _ = dc O ++ idR (cmO v3 d' (q :: R1))
     rw [k3]; exact j2
    ·show _ = vn + cmV v3 d' (q :: R1)
     rw [k4]; exact j7.trans (by show vn + 1 + cmV v3 d' R1 = _; omega)
  ·have hd' : d q <= now := by omega
   obtain ⟨D', eD⟩ : ∃ D', D' = cd (setC (dc D) q 0 [0]) := ⟨_, rfl⟩
   have eD2 : cd (List.set (dc D) q (splR (List.getD (dc D) q []) 0 [0])) = D' := eD.symm
   have hm1 := hm.comes eD rfl
   have lO : (dc O ++ [[(q : Int)]]).length = (dc O).length + 1 := by rw [List.length_append]; rfl
   have yp : lbLt.ent.pre [S, now, bu, le, mo, T, h, ln - 1, vn, D', cd (dc O ++ [[(q : Int)]]), L, n, i + 1] := ⟨⟨_, _, _, _, _, hm1, hL1⟩, p1, p2, by show 0 <= i + 1; omega, by show i + 1 <= n; omega, p5, by show ((dc (cd (dc O ++ [[(q : Int)]]))).length : Int) <= i + 1; rw [Ac]; omega⟩
   have ym : muLt [S, now, bu, le, mo, T, h, ln - 1, vn, D', cd (dc O ++ [[(q : Int)]]), L, n, i + 1] < muLt [S, now, bu, le, mo, T, h, ln, vn, D, O, L, n, i] := by show (n - (i + 1)).toNat < (n - i).toNat; omega
   have i1 := hφ [S, now, bu, le, mo, T, h, ln - 1, vn, D', cd (dc O ++ [[(q : Int)]]), L, n, i + 1] ⟨rfl, hnow, hbu, hle, hmo, rfl, hh, wl, hvn, rfl, rfl, rfl, hn, wi, trivial⟩ yp ym
   refine ⟨?_, ?_⟩
   ·simp (disch := omega) only [Lw, Gw, Gx, Bs, Gy, Gz, BC, BD, BE, BF, BG, Be, Bf, Bg, Bh, Bi, ewA, ewL, preC, binI, dvI, shI, cmpB, env, bi, List.headD, List.tail, List.map, Nat.reduceAdd, ewR, ewB, ewM, if_true, if_false, implies_true, forall_const, ne_eq, reduceCtorEq, Int.reduceEq, Int.reduceLT, Int.reduceLE, Int.reduceToNat, Int.reduceAdd, Int.reduceSub, Int.reduceMul, Int.reduceNeg, Int.reduceBEq, Nat.reduceLT, Nat.reduceEqDiff, hSS, hi, er, tq, AX, c0, cq, wD, wL, z1, hd, wl, y18, wi, Int.add_zero, eD2]
    exact ⟨⟨p3, ⟨by omega, g1⟩, ⟨by omega, g1⟩, by omega⟩, yp, ym⟩
   ·simp (disch := omega) only [Lx, Gw, Gx, Bs, Gy, Gz, BC, BD, BE, BF, BG, Be, Bf, Bg, Bh, Bi, ewA, ewL, preC, binI, dvI, shI, cmpB, env, bi, List.headD, List.tail, List.map, Nat.reduceAdd, ewR, ewB, ewM, if_true, if_false, implies_true, forall_const, ne_eq, reduceCtorEq, Int.reduceEq, Int.reduceLT, Int.reduceLE, Int.reduceToNat, Int.reduceAdd, Int.reduceSub, Int.reduceMul, Int.reduceNeg, Int.reduceBEq, Nat.reduceLT, Nat.reduceEqDiff, hSS, hi, er, tq, AX, c0, cq, wD, wL, z1, hd, wl, wi, Int.add_zero, eD2]
    intro c' d' a' B' R' hm' hL'
    obtain ⟨rfl, rfl, ed⟩ := hcm hm' hL'
    replace hm' : LM S now bu le mo T h ln vn D c' d' a' B' (q :: R1) := hm'
    have a0 := (hm'.rr q (List.mem_cons_self ..)).2.1
    obtain ⟨_, j1, j2, j3, j4, j5, j6, j7⟩ := i1 c' _ a' B' R1 (hm'.comes eD rfl) hL1
    obtain ⟨k1, k2, k3, k4⟩ := VL (a := a') (now := now) nd.1 (show d' q <= now by rw [ed]; exact hd') a0
    refine ⟨nofun, ?_, ?_, j3, j4, j5, j6, ?_⟩
    ·show LVx _ c' (cmD now d' (q :: R1)) (cmA now d' a' (q :: R1)) B'
     rw [k1, k2]; exact j1
    ·show _ = dc O ++ idR (cmO now d' (q :: R1))
     rw [k3]
     exact j2.trans (show dc (cd (dc O ++ [[(q : Int)]])) ++ idR (cmO now (upD d' q 0) R1) = dc O ++ idR (q :: cmO now (upD d' q 0) R1) by rw [Ac, List.append_assoc]; rfl)
    ·show _ = vn + cmV now d' (q :: R1)
     rw [k4]; exact j7
 ·have eR : R = [] := by
   rw [List.drop_eq_nil_of_le (by omega)] at hL
   exact Fk (R := []) hL
  subst eR
  refine ⟨?_, ?_⟩
  ·simp (disch := omega) only [Lw, Gw, Gx, Bs, Gy, Gz, BC, BD, BE, BF, BG, Be, Bf, Bg, Bh, Bi, ewA, ewL, preC, binI, dvI, shI, cmpB, env, bi, List.headD, List.tail, List.map, Nat.reduceAdd, ewR, ewB, ewM, if_true, if_false, implies_true, forall_const, ne_eq, reduceCtorEq, Int.reduceEq, Int.reduceLT, Int.reduceLE, Int.reduceToNat, Int.reduceAdd, Int.reduceSub, Int.reduceMul, Int.reduceNeg, Int.reduceBEq, Nat.reduceLT, Nat.reduceEqDiff, hSS, hi]
  ·simp (disch := omega) only [Lx, Gw, Gx, Bs, Gy, Gz, BC, BD, BE, BF, BG, Be, Bf, Bg, Bh, Bi, ewA, ewL, preC, binI, dvI, shI, cmpB, env, bi, List.headD, List.tail, List.map, Nat.reduceAdd, ewR, ewB, ewM, if_true, if_false, implies_true, forall_const, ne_eq, reduceCtorEq, Int.reduceEq, Int.reduceLT, Int.reduceLE, Int.reduceToNat, Int.reduceAdd, Int.reduceSub, Int.reduceMul, Int.reduceNeg, Int.reduceBEq, Nat.reduceLT, Nat.reduceEqDiff, hSS, hi]
   intro c' d' a' B' R' hm' hL'
   replace hm' : LM S now bu le mo T h ln vn D c' d' a' B' R' := hm'
   replace hL' : (dc L).drop i.toNat = idR R' := hL'
   rw [hL] at hL'
   obtain rfl := Fk hL'
   refine ⟨fun _ j hj => ?_, ?_⟩
   ·match j, hj with
    | 0, _ | 1, _ | 2, _ | 3, _ | 4, _ | 5, _ | 6, _ | 7, _ | 8, _ | 9, _ | 10, _ => rfl
   show LZ S now bu le mo T h ln vn D c' (cmD now d' []) (cmA now d' a' []) B' /\ dc O = dc O ++ [] /\ _
   rw [N9, Oa, List.append_nil]
   exact ⟨hm'.lz, rfl, rfl, rfl, rfl, rfl, (Int.add_zero _).symm⟩
theorem cZ5ok : cZ5.OK Try.prog G0 := Ctx.OK.addL (c := ⟨[z34, e15, e17], []⟩) (((Ctx.OK.nil.addF ok17 rfl).addF ok15 rfl).addF S7 rfl) okLt.1 rfl
theorem Tb : EntryOK Try.prog G0 z14 /\ PostOK z14 IP := by
 refine cZ5ok.nm.entryH mixed Xw (by kernel_rfl) _ rfl fun xs hf hp => ?_
 obtain ⟨l, hl, hF⟩ := AN (l0 := cZ5n.l)
 show ∃ ρ : Nat -> Int, _ /\ NC.tt cZ5n.l.F ρ = true /\ IP xs (ND.map (E.den cZ5n.l.F ρ))
 rw [hl]
 have F15 := FC (k := 100000015) rfl (hF e15.nm (by rfl) (by decide))
 have F17 := FC (k := 100000017) rfl (hF e17.nm (by rfl) (by decide))
 have F334 := FC (k := 100000334) rfl (hF z34.nm (by rfl) (by decide))
 have F9014 := FC (k := 100009014) rfl (hF leLt.nm.ent (by rfl) (by decide))
 replace hf : fits [.x, kJ, kJ, kJ, kJ, .x, kJ, kJ, kJ, .x] xs := hf
 obtain ⟨S, xs0, hx0, hS, hf0⟩ := Aa hf
 obtain ⟨now, xs1, hx1, hnow, hf1⟩ := Aa hf0
 obtain ⟨bu, xs2, hx2, hbu, hf2⟩ := Aa hf1
 obtain ⟨le, xs3, hx3, hle, hf3⟩ := Aa hf2
 obtain ⟨mo, xs4, hx4, hmo, hf4⟩ := Aa hf3
 obtain ⟨T, xs5, hx5, hT, hf5⟩ := Aa hf4
 obtain ⟨h, xs6, hx6, hh, hf6⟩ := Aa hf5
 obtain ⟨ln, xs7, hx7, hln, hf7⟩ := Aa hf6
 obtain ⟨vn, xs8, hx8, hvn, hf8⟩ := Aa hf7
 obtain ⟨D, xs9, hx9, hD, hf9⟩ := Aa hf8
 have hxn := AV hf9
 subst hxn hx9 hx8 hx7 hx6 hx5 hx4 hx3 hx2 hx1 hx0
 simp only [Ad] at hnow hbu hle hmo hh hln hvn
 obtain ⟨ρ, hρ, hd⟩ := solve (F := l.F) 10 JG (by kernel_rfl) [S, now, bu, le, mo, T, h, ln, vn, D]
 have hDf := EA (by kernel_rfl) hd
 refine ⟨ρ, hρ, ?_⟩
 have r0 : ρ 0 = S := hρ 0 (by decide)
 have r1 : ρ 1 = now := hρ 1 (by decide)
 have r2 : ρ 2 = bu := hρ 2 (by decide)
 have r3 : ρ 3 = le := hρ 3 (by decide)
 have r4 : ρ 4 = mo := hρ 4 (by decide)
 have r5 : ρ 5 = T := hρ 5 (by decide)
 have r6 : ρ 6 = h := hρ 6 (by decide)
 have r7 : ρ 7 = ln := hρ 7 (by decide)
 have r8 : ρ 8 = vn := hρ 8 (by decide)
 have r9 : ρ 9 = D := hρ 9 (by decide)
 obtain ⟨⟨v1, hv1, hd1, hn1⟩, ⟨v2, hv2, hd2, hn2⟩⟩ := Jj (nmd hd 0 rfl) (nmd hd 1 rfl)
 obtain ⟨⟨v3, hv3, hd3, hn3⟩, ⟨v4, hv4, hd4, hn4⟩⟩ := Jj (nmd hd 2 rfl) (nmd hd 3 rfl)
 obtain ⟨⟨v5, hv5, hd5, hn5⟩, ⟨v6, hv6, hd6, hn6⟩⟩ := Jj (nmd hd 4 rfl) (nmd hd 5 rfl)
 obtain ⟨⟨v7, hv7, hd7, hn7⟩, ⟨v8, hv8, hd8, hn8⟩⟩ := Jj (nmd hd 6 rfl) (nmd hd 7 rfl)
 obtain ⟨⟨v9, hv9, hd9, hn9⟩, ⟨v10, hv10, hd10, hn10⟩⟩ := Jj (nmd hd 8 rfl) (nmd hd 9 rfl)
 obtain ⟨⟨v11, hv11, hd11, hn11⟩, ⟨v12, hv12, hd12, hn12⟩⟩ := Jj (nmd hd 10 rfl) (nmd hd 11 rfl)
 obtain ⟨⟨v13, hv13, hd13, hn13⟩, ⟨v14, hv14, hd14, hn14⟩⟩ := Jj (nmd hd 12 rfl) (nmd hd 13 rfl)
 obtain ⟨⟨v15, hv15, hd15, hn15⟩, ⟨v16, hv16, hd16, hn16⟩⟩ := Jj (nmd hd 14 rfl) (nmd hd 15 rfl)
 obtain ⟨⟨v17, hv17, hd17, hn17⟩, ⟨v18, hv18, hd18, hn18⟩⟩ := Jj (nmd hd 16 rfl) (nmd hd 17 rfl)
 obtain ⟨⟨v19, hv19, hd19, hn19⟩, ⟨v20, hv20, hd20, hn20⟩⟩ := Jj (nmd hd 18 rfl) (nmd hd 19 rfl)
 obtain ⟨⟨v21, hv21, hd21, hn21⟩, ⟨v22, hv22, hd22, hn22⟩⟩ := Jj (nmd hd 20 rfl) (nmd hd 21 rfl)
 obtain ⟨⟨v23, hv23, hd23, hn23⟩, ⟨v24, hv24, hd24, hn24⟩⟩ := Jj (nmd hd 22 rfl) (nmd hd 23 rfl)
 obtain ⟨⟨v25, hv25, hd25, hn25⟩, ⟨v26, hv26, hd26, hn26⟩⟩ := Jj (nmd hd 24 rfl) (nmd hd 25 rfl)
 simp only [Ad] at hn2 hn3 hn4 hn5 hn7 hn9 hn10 hn11 hn12 hn15 hn17 hn18 hn19 hn20 hn22 hn23 hn24
 simp (disch := omega) only [Ad, Fh, EC, Ct, F15, F17, F9014, Ent.nm_fn, r0, r1, hnow, r2, hbu, r3, hle, r4, hmo, r5, r6, hh, r7, hln, r8, hvn, r9, hv1, hv2, hn2, hv3, hn3, hv4, hn4, hv5, hn5, hv6, hv7, hn7, hv8, hv9, hn9, hv10, hn10, hv11, hn11, hv12, hn12, hv13, hv14, hv15, hn15, hv16, hv17, hn17, hv18, hn18, hv19, hn19, hv20, hn20, hv21, hv22, hn22, hv23, hn23, hv24, hn24, hv25, hv26, ewA, ewL, preC, binI, dvI, shI, cmpB, env, bi, List.headD, List.tail, List.map, Nat.reduceAdd, ewR, ewB, ewM, if_true, if_false, implies_true, forall_const, ne_eq, reduceCtorEq, Int.reduceEq, Int.reduceLT, Int.reduceLE, Int.reduceToNat, Int.reduceAdd, Int.reduceSub, Int.reduceMul, Int.reduceNeg, Int.reduceBEq, Nat.reduceLT, Nat.reduceEqDiff] at hd1 hd2 hd3 hd4 hd5 hd6 hd7 hd8 hd9 hd10 hd11 hd12 hd13 hd14 hd15 hd16 hd17 hd18 hd19 hd20 hd21 hd22 hd23 hd24 hd25 hd26
 have hSS := Jj (Jj (Jj (Jj (Jj (Jj F15 F17) (Jj F334 F9014)) (Jj (Jj r0 r1) (Jj hnow r2))) (Jj (Jj (Jj hbu r3) (Jj hle r4)) (Jj (Jj hmo r5) (Jj r6 hh)))) (Jj (Jj (Jj (Jj r7 hln) (Jj r8 hvn)) (Jj (Jj r9 hv1) (Jj hv2 hn2))) (Jj (Jj (Jj hv3 hn3) (Jj hv4 hn4)) (Jj (Jj hv5 hn5) (Jj hv6 hv7))))) (Jj (Jj (Jj (Jj (Jj hn7 hv8) (Jj hv9 hn9)) (Jj (Jj hv10 hn10) (Jj hv11 hn11))) (Jj (Jj (Jj hv12 hn12) (Jj hv13 hv14)) (Jj (Jj hv15 hn15) (Jj hv16 hv17)))) (Jj (Jj (Jj (Jj hn17 hv18) (Jj hn18 hv19)) (Jj (Jj hn19 hv20) (Jj hn20 hv21))) (Jj (Jj (Jj hv22 hn22) (Jj hv23 hn23)) (Jj (Jj hv24 hn24) (Jj hv25 (Jj hv26 hDf))))))
 obtain ⟨⟨c, d, a, B, hz⟩, p1, p2⟩ := hp
 replace hz : LZ S now bu le mo T h ln vn D c d a B := hz
 replace p1 : mo + bu <= 1125899906842624 := p1
 replace p2 : vn + 4096 <= 1125899906842624 := p2
 have hw := hz.w
 have htm := hw.tm
 have hct := hw.ct
 have hhd := hz.hd
 have y34 : z34.pre [S, now, bu, le, mo, T, h, ln, vn, D] := trivial
 have y15 : e15.pre [S, now, bu, le, mo, T] := hw.wx
 have nT : now <= nowT now := by unfold nowT; split <;> omega
 have go : ∀ {c : Int} {d a : Nat -> Int} {B : List Nat}, LZ S now bu le mo T h ln vn D c d a B -> ∃ N P : List Nat, (∀ i, i ∈ N ↔ now < 1099511627776 /\ (i : Int) < c /\ a i = now + 1) /\ P = (B ++ N).take h.toNat /\
  LM v8 (nowT now) v10 v11 v12 v13 h ln vn D c d (fun i => if i ∈ P then 0 else a i) ((B ++ N).drop h.toNat) P /\ cmA (nowT now) d (fun i => if i ∈ P then 0 else a i) P = cmA (nowT now) d a P /\ dc v14 = idR P /\ v9 = nowT now /\ v10 = bu /\ mo <= v12 /\ v12 <= mo + bu /\ WX [v1, v2, v3, v4, v5, v6, h] /\ P.length <= 4096 := by
  intro c d a B hz
  obtain ⟨N, q1, q2, q3, q4, q5, q6, q7, q8, _⟩ := hz.w.tick p1 ⟨hd1, hd2, hd3, hd4, hd5, hd6, hd7, trivial⟩
  obtain ⟨t1, t2, t3, t4, t5, t6, t7, _⟩ := q1.take (k := h) (by omega) ⟨hd8, hd9, hd10, hd11, hd12, hd13, hd14, hd15, trivial⟩
  rw [q3] at t2
  subst t2
  obtain ⟨m1, m2⟩ := hz.due (P := (B ++ N).take h.toNat) (by rw [q3] at q1; exact q1) nT q5 rfl t1 t7 p2
  refine ⟨N, _, q2, rfl, m1, m2, t6, rfl, t3.trans q4, by omega, by omega, q1.wx1 _, ?_⟩
  rw [List.length_take]; omega
 obtain ⟨N, P, n1, n2, n3, n4, n5, n6, n7, n8, n9, n10, n11⟩ := go hz
 have y17 : e17.pre [v1, v2, v3, v4, v5, v6, h] := n10
 have lP : (dc v14).length = P.length := by rw [n5]; exact List.length_map ..
 have wP : IntKind.i64.wrap (((dc v14).length : Nat) : Int) = (((dc v14).length : Nat) : Int) := i64w (by omega) (by omega)
 simp only [wP] at hd16 hd17 hd18 hd19 hd20 hd21 hd22 hd23 hd24 hd25 hd26
 have rP : rowsOK intK (dc v14) := by
  rw [n5]
  intro r hr
  obtain ⟨j, hj, rfl⟩ := List.mem_map.1 hr
  have := (n3.rr j hj).1
  exact ⟨i64w (by omega) (by omega), trivial⟩
 have yL : leLt.ent.pre [v8, v9, v10, v11, v12, v13, h, ln, vn, D, cd [], v14, (((dc v14).length : Nat) : Int), 0] :=
  ⟨⟨c, d, _, _, P, by rw [n6]; exact n3, n5⟩, rP, rfl, by show (0 : Int) <= 0; decide, by show (0 : Int) <= (((dc v14).length : Nat) : Int); omega, by show (((dc v14).length : Nat) : Int) <= 4096; omega, by show ((dc (cd [])).length : Int) <= 0; rw [Ac]; decide⟩
 refine ⟨?_, ?_⟩
 ·simp (disch := omega) only [NC, ewA, ewL, preC, binI, dvI, shI, cmpB, env, bi, List.headD, List.tail, List.map, Nat.reduceAdd, ewR, ewB, ewM, if_true, if_false, implies_true, forall_const, ne_eq, reduceCtorEq, Int.reduceEq, Int.reduceLT, Int.reduceLE, Int.reduceToNat, Int.reduceAdd, Int.reduceSub, Int.reduceMul, Int.reduceNeg, Int.reduceBEq, Nat.reduceLT, Nat.reduceEqDiff, hSS, y34, y15, y17, wP, yL]
 ·simp (disch := omega) only [ND, ewA, ewL, preC, binI, dvI, shI, cmpB, env, bi, List.headD, List.tail, List.map, Nat.reduceAdd, ewR, ewB, ewM, if_true, if_false, implies_true, forall_const, ne_eq, reduceCtorEq, Int.reduceEq, Int.reduceLT, Int.reduceLE, Int.reduceToNat, Int.reduceAdd, Int.reduceSub, Int.reduceMul, Int.reduceNeg, Int.reduceBEq, Nat.reduceLT, Nat.reduceEqDiff, hSS]
  have q := (PostOK.use (ks := [.x, kJ, kJ, kJ, kJ, .x, kJ, kJ, kJ, .x, .x, .x, kJ, kJ]) (os := [.x, kJ, kJ, kJ, kJ, .x, kJ, kJ, kJ, .x, .x]) (vs := [v16, v17, v18, v19, v20, v21, v22, v23, v24, v25, v26]) okLt.2 rfl rfl ⟨hd16, hd17, hd18, hd19, hd20, hd21, hd22, hd23, hd24, hd25, hd26, trivial⟩) ⟨rfl, hn9, hn10, hn11, hn12, rfl, hh, hln, hvn, rfl, rfl, rfl, wP, rfl, trivial⟩ yL
  refine ⟨v14, ⟨v1, v2, v3, v4, v5, v6, v7, v8, v9, v10, v11, v12, v13, v15, ⟨hd1, hd2, hd3, hd4, hd5, hd6, hd7, trivial⟩, ⟨hd8, hd9, hd10, hd11, hd12, hd13, hd14, hd15, trivial⟩, fun hL => ?_⟩, fun c' d' a' B' hz' => ?_⟩
  ·have hP : P = [] := Fk (R := []) (hL.symm.trans n5)
   have j := (q c d _ _ P (by rw [n6]; exact n3) n5).1 hP
   show [v16, v17, v18, v19, v20, v21] = _
   rw [show v16 = v8 from j 0 (by omega), show v17 = v9 from j 1 (by omega), show v18 = v10 from j 2 (by omega), show v19 = v11 from j 3 (by omega), show v20 = v12 from j 4 (by omega), show v21 = v13 from j 5 (by omega)]
  obtain ⟨N, P', n1, n2, n3, n4, n5', n6, n7, n8, n9, n10, n11⟩ := go hz'
  obtain ⟨_, j1, j2, j3, j4, j5, j6, j7⟩ := q c' d' _ _ P' (by rw [n6]; exact n3) n5'
  replace j3 : v17 = v9 := j3
  replace j5 : v20 = v12 := j5
  refine ⟨N, P', n5', n1, n2, ?_, ?_, j3.trans n6, j4.trans n7, ⟨by show mo <= v20; omega, by show v20 <= mo + bu; omega⟩, j6, ?_⟩
  ·show LVx _ c' (cmD (nowT now) d' P') (cmA (nowT now) d' a' P') _
   rw [<- n4, <- n6]; exact j1
  ·show _ = idR (cmO (nowT now) d' P')
   rw [<- n6]
   exact j2.trans (show dc (cd []) ++ idR (cmO v9 d' P') = idR (cmO v9 d' P') by rw [Ac]; rfl)
  ·show _ = vn + cmV (nowT now) d' P'
   rw [<- n6]; exact j7
def e25 : Ent := ⟨25, 11, [i64, i64], [], [], i64, fun _ xs => env xs 0 % env xs 1, fun xs => 0 < env xs 1 /\ env xs 1 <= 4611686018427387904⟩
def numS : Sh := .agg [i64, i64, i64]
def capF (xs : List Int) : Int := 1 + env xs 1 % 300
def nowF (xs : List Int) : Int := env xs 0 % 1073741824
def cZ6 : Ctx := ⟨[e25, z12], []⟩
def cZ6n : Ctx := cZ6.nm
def Tc (xs ys : List Int) : Prop := True
def Td : E := (.cmp .neq (vI 1) (lI 0))
def Wa : List E := [(aI 0 21 [(.bin .add .i64 (aI 0 21 [(vI 0), (vI 1)]) (vI 1)), (vI 1)])]
theorem ev_25 : evE Try.prog G0 (Af cI.fs) (ltOf cI.ls) 40 10 e25 = some (Td, Wa) := by kernel_rfl
theorem WP {n b : Int} (h : 0 < b) : (n.tmod b + b).tmod b = n % b /\ -b < n.tmod b /\ n.tmod b < b := by
 have h1 := Int.tmod_lt_of_pos n h
 have h2 := Int.lt_tmod_of_pos n h
 refine ⟨?_, h2, h1⟩
 rw [Int.tmod_eq_emod_of_nonneg (by omega), Int.add_emod_right]
 rw [Int.tmod_def, Int.sub_eq_add_neg, <- Int.mul_neg, Int.add_mul_emod_self_left]
theorem ok25 : EntryOK Try.prog G0 e25 := cIok.entryP mixed ev_25 _ rfl _ rfl fun xs hf hp => by
 obtain ⟨l, hl, hF⟩ := AN (l0 := cI.l)
 show Td.tt cI.l.F _ = true /\ Aq e25.fn _ cI.l.F _ _ _ _
 rw [hl]
 obtain ⟨n, b, rfl⟩ := UO (Ao hf)
 obtain ⟨h0, h1, _⟩ := hf
 simp only [Ad] at h0 h1
 obtain ⟨p1, p2⟩ := hp
 simp only [ewA, ewL, preC, binI, dvI, shI, cmpB, env, bi, List.headD, List.tail, List.map, Nat.reduceAdd] at p1 p2
 obtain ⟨m1, m2, m3⟩ := WP (n := n) p1
 have w1 : IntKind.i64.wrap (n.tmod b) = n.tmod b := i64w (by omega) (by omega)
 have w2 : IntKind.i64.wrap (n.tmod b + b) = n.tmod b + b := i64w (by omega) (by omega)
 have hb : (b != 0) = true := by simp; omega
 have w0 : IntKind.i64.wrap 0 = 0 := i64w (by decide) (by decide)
 refine ⟨?_, ?_, trivial⟩
 ·simp only [Td, ewA, ewL, preC, binI, dvI, shI, cmpB, env, bi, List.headD, List.tail, List.map, Nat.reduceAdd, h0, h1, w0, hb]
 ·simp only [Wa, e25, ewA, ewL, preC, binI, dvI, shI, cmpB, env, bi, List.headD, List.tail, List.map, Nat.reduceAdd, h0, h1, w1, w2, m1]
section
variable {S now bu le mo T h ln vn D n b l m : Int} {p : RL × RL} {S' now' bu' le' mo' T' h' ln' vn' D' : Int}
theorem WS.touchA {l' i d e : Int} (s : WS S now bu le mo T n b l m p) (hi : 0 <= i /\ i < (p.2.length : Int)) (hD : (dc D).length = p.2.length) (hd : n < d /\ d <= n + 2147483648) (hc : gC p.2 i.toNat 4 = 0 \/ d < gC p.2 i.toNat 4) (hl : (if 0 < gC p.2 i.toNat 4 then l else l + 1) = l')
 (q : IJ [S, now, bu, le, mo, T, h, ln, vn, D, i, d] [S', now', bu', le', mo', T', h', ln', vn', D', e]) : WS S' now' bu' le' mo' T' n b l' m (armW n d p i.toNat) := by
 have e1 := s.a1
 have e2 := s.t
 have q1 := q.1 ⟨by show 0 <= i /\ i < ((dc D).length : Int); omega, by show now < d; omega, by show d <= now + 2147483648; omega⟩
 have q2 : if gC (dc T) i.toNat 4 = 0 \/ d < gC (dc T) i.toNat 4 then ∃ e, Aj e14.fn [S, now, bu, le, mo, T, i, d] 0 kW7 [S', now', bu', le', mo', T', e] else wp6 [S', now', bu', le', mo', T'] = wp6 [S, now, bu, le, mo, T] := q1
 rw [e2, if_pos hc] at q2
 obtain ⟨e, o0, o1, o2, o3, o4, o5, o6, _⟩ := q2
 exact (s.arm hi hd hl o0 o1 o2 o3 o4 o5 o6).1
theorem WS.touchB {i d e : Int} (s : WS S now bu le mo T n b l m p) (hi : 0 <= i /\ i < (p.2.length : Int)) (hD : (dc D).length = p.2.length) (hd : n < d /\ d <= n + 2147483648) (hc : ¬ (gC p.2 i.toNat 4 = 0 \/ d < gC p.2 i.toNat 4))
 (q : IJ [S, now, bu, le, mo, T, h, ln, vn, D, i, d] [S', now', bu', le', mo', T', h', ln', vn', D', e]) : WS S' now' bu' le' mo' T' n b l m p := by
 have e1 := s.a1
 have e2 := s.t
 have q1 := q.1 ⟨by show 0 <= i /\ i < ((dc D).length : Int); omega, by show now < d; omega, by show d <= now + 2147483648; omega⟩
 have q2 : if gC (dc T) i.toNat 4 = 0 \/ d < gC (dc T) i.toNat 4 then ∃ e, Aj e14.fn [S, now, bu, le, mo, T, i, d] 0 kW7 [S', now', bu', le', mo', T', e] else [S', now', bu', le', mo', T'] = [S, now, bu, le, mo, T] := q1
 rw [e2, if_neg hc] at q2
 injection q2 with g1 g2
 injection g2 with g2 g3
 injection g3 with g3 g4
 injection g4 with g4 g5
 injection g5 with g5 g6
 injection g6 with g6 _
 subst g1 g2 g3 g4 g5 g6
 exact s
theorem WS.tickL {O c : Int} {d a : Nat -> Int} {B : List Nat} (s : WS S now bu le mo T n b l m p) (hz : LZ S now bu le mo T h ln vn D c d a B) (hm : m + b <= 1152921504606846976) (q : IP [S, now, bu, le, mo, T, h, ln, vn, D] [S', now', bu', le', mo', T', h', ln', vn', D', O]) :
 ∃ N P : List Nat, (tkN (nowT n) h.toNat (tickW n b p).1).2 = idR P /\ (∀ i, i ∈ N ↔ now < 1099511627776 /\ (i : Int) < c /\ a i = now + 1) /\ P = (B ++ N).take h.toNat /\ LZ S' now' bu' le' mo' T' h' ln' vn' D' c (cmD (nowT now) d P) (cmA (nowT now) d a P) ((B ++ N).drop h.toNat) /\ dc O = idR (cmO (nowT now) d P) /\ now' = nowT now /\ bu' = bu /\ (mo <= mo' /\ mo' <= mo + bu) /\ h' = h /\ vn' = vn + cmV (nowT now) d P /\
   (P = [] -> WS S' now' bu' le' mo' T' (nowT n) b (l - 0) (m + (tickW n b p).2) (tkN (nowT n) h.toNat (tickW n b p).1).1) := by
 have hh := hz.hd
 obtain ⟨L, ⟨v1, v2, v3, v4, v5, v6, v7, v8, v9, v10, v11, v12, v13, v15, ⟨o0, o1, o2, o3, o4, o5, o6, _⟩, ⟨t0, t1, t2, t3, t4, t5, t6, t7, _⟩, hx⟩, q2⟩ := q
 obtain ⟨s1, _⟩ := s.tick hm o0 o1 o2 o3 o4 o5 o6
 obtain ⟨s2, hL, _⟩ := s1.take (k := h) (by omega) t0 t1 t2 t3 t4 t5 t6 t7
 obtain ⟨N, P, n1, n2, n3, n4, n5, n6, n7, n8, n9, n10⟩ := q2 c d a B hz
 refine ⟨N, P, hL.symm.trans n1, n2, n3, n4, n5, n6, n7, n8, n9, n10, fun hP => ?_⟩
 subst hP
 have hx2 : [S', now', bu', le', mo', T'] = [v8, v9, v10, v11, v12, v13] := hx n1
 injection hx2 with g1 g2
 injection g2 with g2 g3
 injection g3 with g3 g4
 injection g4 with g4 g5
 injection g5 with g5 g6
 injection g6 with g6 _
 have hl : (tkN (nowT n) h.toNat (tickW n b p).1).2 = [] := hL.symm.trans n1
 rw [hl] at s2
 subst g1 g2 g3 g4 g5 g6
 exact s2
theorem WS.quiet {O c : Int} {d a : Nat -> Int} (s : WS S now bu le mo T n b l m p) (hz : LZ S now bu le mo T h ln vn D c d a []) (h1 : h = 1) (hm : m + b <= 1152921504606846976) (q : IP [S, now, bu, le, mo, T, h, ln, vn, D] [S', now', bu', le', mo', T', h', ln', vn', D', O]) (hr : (tkN (nowT n) 1 (tickW n b p).1).2 = []) :
 WS S' now' bu' le' mo' T' (nowT n) b (l - 0) (m + (tickW n b p).2) (tkN (nowT n) 1 (tickW n b p).1).1 /\ LZ S' now' bu' le' mo' T' h' ln' vn' D' c d a [] /\ dc O = [] /\ now' = nowT now /\ bu' = bu /\ (mo <= mo' /\ mo' <= mo + bu) /\ h' = 1 /\ vn' = vn := by
 subst h1
 obtain ⟨N, P, t1, t2, t3, t4, t5, t6, t7, t8, t9, t10, t11⟩ := s.tickL hz hm q
 have hP : P = [] := Fk (R := []) (hr.symm.trans t1)
 subst hP
 have hN : N = [] := by
  cases N with
  | nil => rfl
  | cons x N => cases t3
 subst hN
 rw [N9, Oa] at t4
 exact ⟨t11 rfl, t4, t5, t6, t7, t8, t9, t10.trans (Int.add_zero _)⟩
theorem Xx : ∀ {l : List Nat} {k : Nat}, l.Nodup -> (∀ i, i ∈ l ↔ i = k) -> l = [k]
 | [], k, _, h => by have := (h k).2 rfl; cases this
 | [x], k, _, h => by rw [(h x).1 (by simp)]
 | x :: y :: l, k, hn, h => by
   have e1 := (h x).1 (by simp)
   have e2 := (h y).1 (by simp)
   subst e1 e2
   simp at hn
theorem RJ : ∀ {l : List Nat}, (∀ i, i ∉ l) -> l = []
 | [], _ => rfl
 | x :: _, h => absurd (by simp) (h x)
end
theorem cZ6ok : cZ6.OK Try.prog G0 := (Ctx.OK.nil.addF Pq.1 rfl).addF ok25 rfl
section
variable {S now bu le mo T h ln vn D c : Int} {d a : Nat -> Int} {B : List Nat}
theorem LZ.pz (hz : LZ S now bu le mo T h ln vn D c d a B) {r : List Int} : preZ (S :: now :: bu :: le :: mo :: T :: h :: ln :: vn :: D :: r) := ⟨c, d, a, B, hz⟩
theorem LZ.alarm (hz : LZ S now bu le mo T h ln vn D c d a B) {i x y : Int} (hi : 0 <= i /\ i < c) (ho : Aj z22.fn [S, now, bu, le, mo, T, h, ln, vn, D, i] 0 [.i .i64, .b] [x, y]) : x = a i.toNat /\ y = b2i (decide (a i.toNat ≠ 0)) := hz.w.dead hi ho
theorem LZ.lag (hz : LZ S now bu le mo T h ln vn D c d a B) {v : Int} (ho : v = IntKind.i64.wrap (z23.fn 0 [S, now, bu, le, mo, T, h, ln, vn, D])) : v = (B.length : Int) := hz.w.lagV ho
theorem LZ.vain (hz : LZ S now bu le mo T h ln vn D c d a B) {v : Int} (ho : v = IntKind.i64.wrap (z17.fn 0 [S, now, bu, le, mo, T, h, ln, vn, D])) : v = vn := by
 have := hz.vb
 exact ho.trans (i64w (by show _ <= vn; omega) (by show vn <= _; omega))
theorem LZ.lenV (hz : LZ S now bu le mo T h ln vn D c d a B) {v : Int} (ho : v = IntKind.i64.wrap (z15.fn 0 [S, now, bu, le, mo, T, h, ln, vn, D])) : v = ln := by
 have := hz.lnr
 exact ho.trans (i64w (by show _ <= ln; omega) (by show ln <= _; omega))
theorem LZ.p22 (hz : LZ S now bu le mo T h ln vn D c d a B) (i : Int) : z22.pre [S, now, bu, le, mo, T, h, ln, vn, D, i] := hz.w.preR i
theorem eq19 {v L r : Int} {R : List Nat} (h : r = K.b.norm (e19.fn 0 [v, L])) (ho : dc v = idR R) (hL : dc L = idR R := by rw [Ac]; rfl) : r = 1 := by
 rw [h]
 show K.b.norm (b2i (dc v == dc L)) = 1
 rw [ho, hL]; simp [b2i, K.norm]
theorem pr19 {v L : Int} {R : List Nat} (ho : dc v = idR R) (h1 : R.length < 4096) (h2 : ∀ i ∈ R, i < 4096) (hL : dc L = idR R := by rw [Ac]; rfl) : e19.pre [v, L] := by
 have hl : ((idR R).length : Int) < cap8 := by unfold cap8 idR; rw [List.length_map]; omega
 have hr : rowsOK intK (idR R) := fun r hr => by
  obtain ⟨j, hj, rfl⟩ := List.mem_map.1 hr
  have := h2 j hj
  exact ⟨i64w (by omega) (by omega), trivial⟩
 show ((dc v).length : Int) < cap8 /\ ((dc L).length : Int) < cap8 /\ rowsOK intK (dc v) /\ rowsOK intK (dc L)
 rw [ho, hL]
 exact ⟨hl, hl, hr, hr⟩
theorem LZ.p23 (hz : LZ S now bu le mo T h ln vn D c d a B) : z23.pre [S, now, bu, le, mo, T, h, ln, vn, D] := hz.w.pre16
end
section
variable {S now bu le mo T h ln vn D c : Int} {d a : Nat -> Int} {B : List Nat} {S' now' bu' le' mo' T' h' ln' vn' D' : Int}
theorem LZ.ws (hz : LZ S now bu le mo T h ln vn D c d a B) : IntKind.i64.wrap now = now /\ IntKind.i64.wrap bu = bu /\ IntKind.i64.wrap le = le /\ IntKind.i64.wrap mo = mo /\ IntKind.i64.wrap h = h /\ IntKind.i64.wrap ln = ln /\ IntKind.i64.wrap vn = vn := by
 have := hz.w.tm; have := hz.w.bg; have := hz.w.ler; have := hz.w.mb; have := hz.hd; have := hz.lnr; have := hz.vb
 refine ⟨?_, ?_, ?_, ?_, ?_, ?_, ?_⟩ <;> exact i64w (by omega) (by omega)
theorem LZ.touch {i x e : Int} (hz : LZ S now bu le mo T h ln vn D c d a B) (hi : 0 <= i /\ i < c) (hx : now < x /\ x <= now + 2147483648)
 (ho : Aj z13.fn [S, now, bu, le, mo, T, h, ln, vn, D, i, x] 0 [.x, .i .i64, .i .i64, .i .i64, .i .i64, .x, .i .i64, .i .i64, .i .i64, .x, .i .i64] [S', now', bu', le', mo', T', h', ln', vn', D', e]) :
 IJ [S, now, bu, le, mo, T, h, ln, vn, D, i, x] [S', now', bu', le', mo', T', h', ln', vn', D', e] /\
 LZ S' now' bu' le' mo' T' h' ln' vn' D' c (upD d i.toNat x) (if a i.toNat = 0 \/ x < a i.toNat then upD a i.toNat x else a) B /\ e = 0 /\ now' = now /\ bu' = bu /\ mo' = mo /\ h' = h /\ vn' = vn := by
 have ht := hz.w.tm
 have hc := hz.w.ct
 obtain ⟨w1, w2, w3, w4, w5, w6, w7⟩ := hz.ws
 have p := PostOK.use (ks := [.x, .i .i64, .i .i64, .i .i64, .i .i64, .x, .i .i64, .i .i64, .i .i64, .x, .i .i64, .i .i64]) Ta.2 rfl rfl ho ⟨rfl, w1, w2, w3, w4, rfl, w5, w6, w7, rfl, i64w (by omega) (by omega), i64w (by omega) (by omega), trivial⟩ hz.pz
 exact ⟨p, (p.2 _ _ _ _ hz).1 ⟨hi, hx⟩⟩
theorem LZ.cancel {i e : Int} (hz : LZ S now bu le mo T h ln vn D c d a B) (hi : 0 <= i /\ i < c)
 (ho : Aj z19.fn [S, now, bu, le, mo, T, h, ln, vn, D, i] 0 [.x, .i .i64, .i .i64, .i .i64, .i .i64, .x, .i .i64, .i .i64, .i .i64, .x, .i .i64] [S', now', bu', le', mo', T', h', ln', vn', D', e]) :
 LZ S' now' bu' le' mo' T' h' ln' vn' D' c (upD d i.toNat 0) (upD a i.toNat 0) (B.erase i.toNat) /\ e = (if d i.toNat = 0 then 6 else 0) /\ now' = now /\ bu' = bu /\ mo' = mo /\ h' = h /\ vn' = vn := by
 have hc := hz.w.ct
 obtain ⟨w1, w2, w3, w4, w5, w6, w7⟩ := hz.ws
 have p := PostOK.use (ks := [.x, .i .i64, .i .i64, .i .i64, .i .i64, .x, .i .i64, .i .i64, .i .i64, .x, .i .i64]) V9.2 rfl rfl ho ⟨rfl, w1, w2, w3, w4, rfl, w5, w6, w7, rfl, i64w (by omega) (by omega), trivial⟩ hz.pz
 exact (p _ _ _ _ hz).1 hi
theorem LZ.tickP {O : Int} (hz : LZ S now bu le mo T h ln vn D c d a B) (hm : mo + bu <= 1125899906842624) (hv : vn + 4096 <= 1125899906842624)
 (ho : Aj z14.fn [S, now, bu, le, mo, T, h, ln, vn, D] 0 [.x, .i .i64, .i .i64, .i .i64, .i .i64, .x, .i .i64, .i .i64, .i .i64, .x, .x] [S', now', bu', le', mo', T', h', ln', vn', D', O]) :
 IP [S, now, bu, le, mo, T, h, ln, vn, D] [S', now', bu', le', mo', T', h', ln', vn', D', O] := by
 obtain ⟨w1, w2, w3, w4, w5, w6, w7⟩ := hz.ws
 exact PostOK.use (ks := [.x, .i .i64, .i .i64, .i .i64, .i .i64, .x, .i .i64, .i .i64, .i .i64, .x]) Tb.2 rfl rfl ho ⟨rfl, w1, w2, w3, w4, rfl, w5, w6, w7, rfl, trivial⟩ ⟨hz.pz, hm, hv⟩
theorem LZ.tickZ {O : Int} (hz : LZ S now bu le mo T h ln vn D c d a B) (hm : mo + bu <= 1125899906842624) (hv : vn + 4096 <= 1125899906842624)
 (ho : Aj z14.fn [S, now, bu, le, mo, T, h, ln, vn, D] 0 [.x, .i .i64, .i .i64, .i .i64, .i .i64, .x, .i .i64, .i .i64, .i .i64, .x, .x] [S', now', bu', le', mo', T', h', ln', vn', D', O]) :
 ∃ N P : List Nat, (∀ i, i ∈ N ↔ now < 1099511627776 /\ (i : Int) < c /\ a i = now + 1) /\ P = (B ++ N).take h.toNat /\
   LZ S' now' bu' le' mo' T' h' ln' vn' D' c (cmD (nowT now) d P) (cmA (nowT now) d a P) ((B ++ N).drop h.toNat) /\ dc O = idR (cmO (nowT now) d P) /\ now' = nowT now /\ bu' = bu /\ (mo <= mo' /\ mo' <= mo + bu) /\ h' = h /\ vn' = vn + cmV (nowT now) d P := by
 obtain ⟨L, _, q⟩ := hz.tickP hm hv ho
 obtain ⟨N, P, _, n1, n2, n3, n4, n5, n6, n7, n8, n9⟩ := q c d a B hz
 exact ⟨N, P, n1, n2, n3, n4, n5, n6, n7, n8, n9⟩
theorem LZ.p13 (hz : LZ S now bu le mo T h ln vn D c d a B) (i x : Int) : z13.pre [S, now, bu, le, mo, T, h, ln, vn, D, i, x] := hz.pz
theorem LZ.p19 (hz : LZ S now bu le mo T h ln vn D c d a B) (i : Int) : z19.pre [S, now, bu, le, mo, T, h, ln, vn, D, i] := hz.pz
theorem LZ.p14 (hz : LZ S now bu le mo T h ln vn D c d a B) (hm : mo + bu <= 1125899906842624) (hv : vn + 4096 <= 1125899906842624) : z14.pre [S, now, bu, le, mo, T, h, ln, vn, D] := ⟨hz.pz, hm, hv⟩
theorem pz22 {r : Int} (hp : preZ [S, now, bu, le, mo, T, h, ln, vn, D]) : z22.pre [S, now, bu, le, mo, T, h, ln, vn, D, r] /\ z23.pre [S, now, bu, le, mo, T, h, ln, vn, D] := by
 obtain ⟨c, d, a, B, hz⟩ := hp
 replace hz : LZ S now bu le mo T _ ln vn D c d a B := hz
 exact ⟨hz.p22 r, hz.p23⟩
theorem Fl {x : Int} (hx : x < 1099511627776) : nowT x = x + 1 := by unfold nowT; rw [if_neg (by omega)]
theorem WQ {now : Int} {d : Nat -> Int} {R : List Nat} {j : Nat} (h : j ∉ R) : cmD now d R j = d j := if_neg fun hh => h hh.1
theorem RK {now : Int} {d a : Nat -> Int} {R : List Nat} {j : Nat} (h : j ∉ R) : cmA now d a R j = a j := if_neg h
theorem cm1 {now : Int} {d a : Nat -> Int} {r : Nat} (h : d r <= now) : cmD now d [r] r = 0 /\ cmA now d a [r] r = 0 /\ cmO now d [r] = [r] /\ cmV now d [r] = 0 := by
 refine ⟨if_pos ⟨by simp, h⟩, (if_pos (by simp)).trans (if_pos h), ?_, ?_⟩
 ·exact List.filter_cons_of_pos (p := fun j => decide (d j <= now)) (decide_eq_true h)
 ·unfold cmV
  rw [List.filter_cons_of_neg (p := fun j => decide (now < d j)) (by rw [decide_eq_true_iff]; omega)]; rfl
end
end
end Go.Proofs.Ytnockichpnaoeaa.Ew
namespace Go.Proofs.Ytnockichpnaoeaa.Ew.Q
open Go Go.RowKit Go.Lib
theorem KS (g : Nat) (t : TypeId) : ∀ (vs : List Value) (o : Nat) (cur : Array Value) (w : World), w.heap[g]? = some (.cells cur t (0, 0)) -> o + vs.length <= cur.size ->
 w.setCells g o vs = w.setRow g (cur.toList.take o ++ vs ++ cur.toList.drop (o + vs.length)).toArray
 | [], o, cur, w, hg, _ => by
   simp only [World.setCells, List.append_nil, List.length_nil, Nat.add_zero, List.take_append_drop, Array.toArray_toList]
   exact (setRow_self w g cur t (0, 0) hg).symm
 | v :: r, o, cur, w, hg, hl => by
   have hi : o < cur.size := by simp at hl; omega
   have h1 : w.setCell ⟨g, o, none⟩ v = w.setRow g (cur.setIfInBounds o v) := setCell_eq_setRow w g o cur t (0, 0) v hg
   simp only [World.setCells, h1]
   rw [KS g t r (o + 1) (cur.setIfInBounds o v) _ (setRow_heap w g cur _ t _ hg) (by simp at hl ⊢; omega), setRow_setRow]
   congr 2
   apply List.ext_getElem?
   intro j
   simp only [Array.toList_setIfInBounds, List.getElem?_append, List.getElem?_take, List.getElem?_set, List.length_take, List.length_set, Array.length_toList, List.length_append, List.length_cons, List.getElem?_drop, List.getElem?_cons]
   have hm1 : min (o + 1) cur.size = o + 1 := by omega
   have hm2 : min o cur.size = o := by omega
   simp only [hm1, hm2]
   by_cases a : j < o
   ·simp [a, show j < o + 1 by omega, show ¬ o = j by omega, show j < o + 1 + r.length by omega, show j < o + (r.length + 1) by omega]
   ·by_cases b : j = o
    ·subst b; simp [hi]; intro h; omega
    ·by_cases c : j < o + (r.length + 1)
     ·simp [a, show ¬ j < o + 1 by omega, c, show j < o + 1 + r.length by omega, show ¬ j - o = 0 by omega, show j - (o + 1) = j - o - 1 by omega]
     ·simp [a, show ¬ j < o + 1 by omega, c, show ¬ j < o + 1 + r.length by omega, show ¬ o = o + 1 + r.length + (j - (o + 1 + r.length)) by omega]
      congr 1; omega
def JH (xs : List Value) (i j : Nat) : List Value := xs.take i ++ xs.drop j
set_option maxHeartbeats 4000000 in
set_option maxRecDepth 1000000 in
theorem Ri (v : Value) (i : Nat) (w : World) (g n cap : Nat) (hv : v = .slice (some ⟨g, 0, none⟩) n cap) (hi : i <= n) (hn : n <= cap) (hc : cap <= maxLen) :
 Calls Try.prog 70 #[.slice (some ⟨g, 0, none⟩) n cap, .int .i64 i, .int .i64 i] w fun e w' => e = .returned (.slice (some ⟨g, 0, none⟩) n cap) /\ w' = w := by
 unfold maxLen at hc
 go_enter Try.func70, Try.ntmps70
 go_wp2
 all_goals (go_ret; exact ⟨rfl, rfl⟩)
theorem El (b o k : Nat) : (⟨b, o, none⟩ : Addr).add k = ⟨b, o + k, none⟩ := Addr.add_none b o k
theorem U7 : ∃ inf z, Try.prog.info? 65 = some inf /\ inf.zero = some z /\ inf.size = 2 /\ z.cells = #[.int .i64 0, .int .i64 0] := by
 have h : (Try.prog.info? 65).map (fun i => (i.zero, i.size)) = some (some (.agg #[.int .i64 0, .int .i64 0]), 2) := by kernel_rfl
 obtain ⟨inf, h1, h2⟩ := Option.map_eq_some_iff.1 h
 simp only [pJ] at h2
 exact ⟨inf, _, h1, h2.1, h2.2, rfl⟩
set_option maxHeartbeats 4000000 in
set_option maxRecDepth 1000000 in
theorem Rj (i j : Nat) (w : World) (g n cap : Nat) (cur : Array Value) (hij : i < j) (hj : j <= n) (hn : n <= cap) (hc : cap <= maxLen) (hg : w.heap[g]? = some (.cells cur 65 (0, 0))) (hcur : cur.size = cap * 2) (hone : ∀ v ∈ cur.toList.take (n * 2), v.oneCell' = true) :
 Calls Try.prog 70 #[.slice (some ⟨g, 0, none⟩) n cap, .int .i64 i, .int .i64 j] w fun e w' => e = .returned (.slice (some ⟨g, 0, none⟩) (i + (n - j)) cap) /\ ∃ cur' : Array Value, cur'.size = cur.size /\ cur'.toList.take ((i + (n - j)) * 2) = JH (cur.toList.take (n * 2)) (i * 2) (j * 2) /\ w' = w.drew.setRow g cur' := by
 unfold maxLen at hc
 obtain ⟨news, hnews⟩ : ∃ news, news = (cur.toList.take (n * 2)).drop (j * 2) := ⟨_, rfl⟩
 have hlen : news.length = (n - j) * 2 := by rw [hnews]; simp; omega
 have hcell : ∀ k u, cur.toList[k]? = some u -> w.cell? ⟨g, k, none⟩ = some u := fun k u h => by rw [Bj hg]; simpa using h
 have hget : ∀ t u, news[t]? = some u -> cur.toList[j * 2 + t]? = some u := fun t u h => by
  rw [hnews, List.getElem?_drop, List.getElem?_take] at h
  split at h
  ·exact h
  ·cases h
 obtain ⟨A, hA, hsrc⟩ : ∃ A : Addr, (if cap = j then some (⟨g, 0, none⟩ : Addr) else some ⟨g, j * 2, none⟩) = some A /\ Hid (∀ t u, news[t]? = some u -> w.drew.cell? (A.add t) = some u) := by
  by_cases h : cap = j
  ·refine ⟨⟨g, 0, none⟩, by simp [h], fun t u hu => ?_⟩
   have h0 : news.length = 0 := by rw [hlen]; omega
   rw [List.length_eq_zero_iff.1 h0] at hu
   simp at hu
  ·refine ⟨⟨g, j * 2, none⟩, by simp [h], fun t u hu => ?_⟩
   rw [El]
   exact hcell _ _ (hget t u hu)
 have s1 : Hid (news.length = (n - j) * 2) := hlen
 have s2 : Hid (∀ u ∈ news, u.oneCell' = true) := fun u hu => hone u (by rw [hnews] at hu; exact List.mem_of_mem_drop hu)
 have s3 : Hid (∀ t, t < news.length -> (w.drew.cell? ⟨g, 0 + i * 2 + t, none⟩).isSome = true /\ w.drew.frozen? ⟨g, 0 + i * 2 + t, none⟩ = false) := fun t ht => by
  rw [hlen] at ht
  have hlt : 0 + i * 2 + t < cur.size := by omega
  have hg' : w.drew.heap[g]? = some (.cells cur 65 (0, 0)) := hg
  refine ⟨by rw [Bj hg']; simp; omega, by simp [World.frozen?, hg']⟩
 obtain ⟨W1, hW1⟩ : ∃ W1, W1 = w.drew.setCells g (0 + i * 2) news := ⟨_, rfl⟩
 obtain ⟨cur1, hcur1⟩ : ∃ cur1 : Array Value, cur1 = (cur.toList.take (i * 2) ++ news ++ cur.toList.drop (i * 2 + news.length)).toArray := ⟨_, rfl⟩
 have hW1' : W1 = w.drew.setRow g cur1 := by
  rw [hW1, hcur1, Nat.zero_add]
  exact KS g 65 news (i * 2) cur w.drew hg (by rw [hlen]; omega)
 have hsz1 : cur1.size = cur.size := by rw [hcur1]; simp [hlen]; omega
 have hg1 : W1.heap[g]? = some (.cells cur1 65 (0, 0)) := by rw [hW1']; exact setRow_heap w.drew g cur _ 65 _ hg
 obtain ⟨inf, z, hz1, hz2, hz3, hz4⟩ := U7
 have hu : Try.prog.underlying 60 = some (.slice 65) := by kernel_rfl
 have hzv : ∀ w, (zeroValue 65).run Try.prog w = .ok z w := fun w => by simp [zeroValue, typeInfo, hz1, hz2]
 obtain ⟨X, hX⟩ : ∃ X : Array Value, X = (cur1.toList.take ((i + (n - j)) * 2) ++ (Builtin.zeroCells z.cells (n - (i + (n - j)))).toList ++ cur1.toList.drop ((i + (n - j)) * 2 + (Builtin.zeroCells z.cells (n - (i + (n - j)))).toList.length)).toArray := ⟨_, rfl⟩
 have hzl : (Builtin.zeroCells z.cells (n - (i + (n - j)))).toList.length = (n - (i + (n - j))) * 2 := by rw [hz4]; simp [Builtin.zeroCells]
 have hcl : ∀ ty, (Builtin.clear_ #[60] ty #[.slice (some ⟨g, (i + (n - j)) * 2, none⟩) (n - (i + (n - j))) (cap - (i + (n - j)))]).run Try.prog W1 = .ok (.tuple #[]) (W1.setRow g X) := fun ty => by
  have hst := run_storeCells_at (P := Try.prog) g ((i + (n - j)) * 2) 65 (Builtin.zeroCells z.cells (n - (i + (n - j)))).toList 0 cur1 W1 hg1 (by rw [hzl, hsz1]; omega) (fun v hv => by
   rw [hz4] at hv
   simp only [Builtin.zeroCells, Array.toList_map, List.mem_map] at hv
   obtain ⟨k, _, rfl⟩ := hv
   have : k % 2 = 0 \/ k % 2 = 1 := by omega
   rcases this with h | h <;> simp [h, Value.oneCell'])
  simp only [Nat.add_zero] at hst
  rw [<- hX] at hst
  obtain ⟨m, hm⟩ : ∃ m, n - (i + (n - j)) = m + 1 := ⟨n - (i + (n - j)) - 1, by omega⟩
  rw [hm] at hst ⊢
  simp [Builtin.clear_, run_underlying hu, hzv, Result.andThen, hst]
 have hW : Hid (W1 = w.drew.setCells g (0 + i * 2) news) := hW1
 have XW : Hid (W1 = w.drew.setRow g cur1) := hW1'
 have hic : i <= cap := by omega
 have hjc : j <= cap := by omega
 have fin : Hid (∃ cur' : Array Value, cur'.size = cur.size /\ cur'.toList.take ((i + (n - j)) * 2) = JH (cur.toList.take (n * 2)) (i * 2) (j * 2) /\ W1.setRow g X = w.drew.setRow g cur') := by
  refine ⟨X, ?_, ?_, ?_⟩
  ·rw [hX, List.size_toArray, List.length_append, List.length_append, hzl, List.length_take, List.length_drop, Array.length_toList, hsz1]; omega
  ·rw [hX, List.toList_toArray, List.append_assoc, List.take_append_of_le_length (by simp [hsz1]; omega), List.take_take, Nat.min_self, hcur1, List.toList_toArray]
   unfold JH
   rw [<- hnews, List.take_append_of_le_length (by simp [hlen]; omega), List.take_of_length_le (by simp [hlen]; omega), List.take_take, Nat.min_eq_left (by omega)]
  ·rw [hW1', setRow_setRow]
 clear hW1 hW1' hget hnews hlen hcell hg1 hX hcur1 hsz1 hzl hzv hz4 hz2 hone hg hcur
 go_enter Try.func70, Try.ntmps70
 go_wp2_with fail
 go_region_law (refine step_append_room rfl (.tmp 22) (.tmp 25) 60 rfl 65 inf 2 hu hz1 hz3 g 0 i cap (by simp [Act.eval, Act.put]) A (n - j) (cap - j) news (by simp [Act.eval, Act.put]) s1.out hsrc.out s2.out (by omega) s3.out ?_; rw [<- hW.out])
 go_wp2
 go_ret
 exact ⟨rfl, fin.out⟩
theorem EV {P : Program} (w : World) (dT sT ty elem : TypeId) (inf : TypeInfo) (sz g o dLen dCap : Nat) (cur : Array Value) (a : Addr) (sLen sCap m : Nat) (cs : List Value)
 (hu : P.underlying dT = some (.slice elem)) (hi : P.info? elem = some inf) (hs : inf.size = sz) (hm : m = Nat.min sLen dLen) (hn : cs.length = m * sz)
 (hsrc : ∀ j v, cs[j]? = some v -> w.cell? (a.add j) = some v) (hg : w.heap[g]? = some (.cells cur elem (0, 0))) (hfit : o + cs.length <= cur.size) (h1 : ∀ v ∈ cs, v.oneCell' = true) :
 (Builtin.copy_ #[dT, sT] ty #[.slice (some ⟨g, o, none⟩) dLen dCap, .slice (some a) sLen sCap]).run P w = .ok (goInt m) (w.setRow g (cur.toList.take o ++ cs ++ cur.toList.drop (o + cs.length)).toArray) := by
 have hl := run_firstCells_some (P := P) w sz m a sLen sCap cs hn hsrc
 have hst := run_storeCells_at P g o elem cs 0 cur w hg (by simpa using hfit) h1
 simp only [Nat.add_zero] at hst
 simp [Builtin.copy_, run_underlying hu, Builtin.lenOf, sizeOf, typeInfo, hi, hs, <- hm, hl, hst]
theorem Oc (w : World) (g b m vc lb cb o : Nat) (vcur cur : Array Value) (hne : g ≠ b) (hv : w.heap[g]? = some (.cells vcur 65 (0, 0))) (hg : w.heap[b]? = some (.cells cur 65 (0, 0))) (hc : cur.size ≠ 0) :
 (callFunc 83 #[.slice (some ⟨g, 0, none⟩) m vc, .slice (some ⟨b, o, none⟩) lb cb]).run Try.prog w = .ok (.value (.bool false)) w := by
 have hz : ∀ w, (Go.sizeOf 65).run Try.prog w = .ok 2 w := fun w => by
  obtain ⟨inf, z, h1, h2, h3, h4⟩ := U7
  simp [Go.sizeOf, typeInfo, h1, h3]
 rw [run_callFunc_extern Try.func83 (by kernel_rfl) (by kernel_rfl) (by kernel_rfl) (e := Extern.SlicesOverlaps.overlaps #[60, 60] #[4]) (by kernel_rfl),
  Lib.run_overlaps_apart w 60 4 65 (by kernel_rfl) 2 hz ⟨g, 0, none⟩ ⟨b, o, none⟩ m vc lb cb hne 65 65 vcur.size cur.size (by simp [World.shape?, hv]) (by simp [World.shape?, hg]) hc (by simp [World.frozen?, hv]) (by simp [World.frozen?, hv])]
 rfl
theorem Ly : ∃ inf z, Try.prog.info? 65 = some inf /\ inf.zero = some z /\ inf.size = 2 /\ inf.bytes = 16 /\ z = .agg #[.int .i64 0, .int .i64 0] := by
 have h : (Try.prog.info? 65).map (fun i => (i.zero, i.size, i.bytes)) = some (some (.agg #[.int .i64 0, .int .i64 0]), 2, 16) := by kernel_rfl
 obtain ⟨inf, h1, h2⟩ := Option.map_eq_some_iff.1 h
 simp only [pJ] at h2
 exact ⟨inf, _, h1, h2.1, h2.2.1, h2.2.2, rfl⟩
theorem ED : Try.prog.underlying 60 = some (.slice 65) := by kernel_rfl
set_option maxHeartbeats 4000000 in
set_option maxRecDepth 1000000 in
theorem Te (w : World) (v : Value) (n : Nat) (xs : List Value) (hown : w.ownsRow 0 65 2 v n xs) (g vc : Nat) (news : List Value) (hl : news.length = 2) (hsrc : ∀ j u, news[j]? = some u -> w.cell? ⟨g, j, none⟩ = some u)
 (h1 : ∀ u ∈ news, u.oneCell' = true) (hb : (n + 1) * 16 <= 140737488355328) :
 Calls Try.prog 54 #[v, .int .i64 n, .slice (some ⟨g, 0, none⟩) 1 vc] w fun e w' => ∃ v', e = .returned v' /\ w'.ownsRow 0 65 2 v' (n + 1) (xs ++ news) /\ w.grownBy w' v.ownBlock /\ (v'.ownBlock = v.ownBlock \/ v'.ownBlock = some w.heap.size) := by
 obtain ⟨inf, z, z1, z2, z3, z4, z5⟩ := Ly
 have key : ∀ ty, ∃ v' w', (Builtin.append_ #[60, 60] ty #[v, .slice (some ⟨g, 0, none⟩) 1 vc]).run Try.prog w = .ok v' w' /\ w'.ownsRow 0 65 2 v' (n + 1) (xs ++ news) /\ w.grownBy w' v.ownBlock /\ (v'.ownBlock = v.ownBlock \/ v'.ownBlock = some w.heap.size) := fun ty =>
  H1 (P := Try.prog) w 60 ty 65 inf z 2 16 ED z1 z2 z3 z4 (by rw [z5]; rfl) (by omega) v n xs hown ⟨g, 0, none⟩ 1 vc news (by omega) (fun j u hj => by rw [El, Nat.zero_add]; exact hsrc j u hj) h1 (by unfold maxLen; omega) (by omega)
 obtain ⟨ty, hty⟩ : ∃ ty : TypeId, ty = 60 := ⟨60, rfl⟩
 obtain ⟨v', w', r1, r2⟩ := key 60
 have r2 := Lib.hid r2
 clear key h1 hsrc
 have hn63 : n <= 9223372036854775807 := by omega
 obtain ⟨hx, hf⟩ := hown
 rcases hf with ⟨rfl, rfl⟩ | ⟨b, cap, cur, rfl, hbb, hg, hnc, hcm, hcs, htk⟩
 ·clear hx hb
  go_enter Try.func54, Try.ntmps54
  go_wp2_with (at_builtin; refine Lib.wpList_append_run _ rfl _ _ _ _ rfl _ _ rfl rfl _ _ r1 ?_)
  go_ret
  exact ⟨v', rfl, r2.out⟩
 ·have hcm' : cap <= 9223372036854775807 := by unfold maxLen at hcm; omega
  clear hx hb hg hcs htk hcm hbb
  go_enter Try.func54, Try.ntmps54
  go_wp2_with (at_builtin; refine Lib.wpList_append_run _ rfl _ _ _ _ rfl _ _ rfl rfl _ _ r1 ?_)
  all_goals (go_ret; exact ⟨v', rfl, r2.out⟩)
set_option maxHeartbeats 4000000 in
set_option maxRecDepth 1000000 in
theorem QH (w : World) (b n cap i : Nat) (cur : Array Value) (hi : i < n) (hnc : n + 1 <= cap) (hcm : cap <= maxLen) (hg : w.heap[b]? = some (.cells cur 65 (0, 0))) (hcs : cur.size = cap * 2) (hone : ∀ v ∈ cur.toList.take (n * 2), v.oneCell' = true)
 (g vc : Nat) (vcur : Array Value) (hv : w.heap[g]? = some (.cells vcur 65 (0, 0))) (hgb : g ≠ b) (news : List Value) (hl : news.length = 2) (hsrc : ∀ j u, news[j]? = some u -> w.cell? ⟨g, j, none⟩ = some u) (h1 : ∀ u ∈ news, u.oneCell' = true) :
 Calls Try.prog 54 #[.slice (some ⟨b, 0, none⟩) n cap, .int .i64 i, .slice (some ⟨g, 0, none⟩) 1 vc] w fun e w' => e = .returned (.slice (some ⟨b, 0, none⟩) (n + 1) cap) /\ ∃ cur' : Array Value, cur'.size = cur.size /\
  cur'.toList.take ((n + 1) * 2) = (cur.toList.take (n * 2)).take (i * 2) ++ news ++ (cur.toList.take (n * 2)).drop (i * 2) /\ w' = w.drew.setRow b cur' := by
 obtain ⟨inf, z, z1, z2, z3, z4, z5⟩ := Ly
 have hcm' : cap <= 9223372036854775807 := by unfold maxLen at hcm; omega
 obtain ⟨cs, hcs1⟩ : ∃ cs, cs = (cur.toList.take (n * 2)).drop (i * 2) := ⟨_, rfl⟩
 have hcl : cs.length = (n - i) * 2 := by rw [hcs1]; simp; omega
 have hov : ∀ o lb cb, (callFunc 83 #[.slice (some ⟨g, 0, none⟩) 1 vc, .slice (some ⟨b, o, none⟩) lb cb]).run Try.prog w = .ok (.value (.bool false)) w := fun o lb cb => Oc w g b 1 vc lb cb o vcur cur hgb hv hg (by omega)
 have hgd : w.drew.heap[b]? = some (.cells cur 65 (0, 0)) := hg
 obtain ⟨c1, hc1⟩ : ∃ c1 : Array Value, c1 = (cur.toList.take ((i + 1) * 2) ++ cs ++ cur.toList.drop ((i + 1) * 2 + cs.length)).toArray := ⟨_, rfl⟩
 have hs1 : c1.size = cur.size := by rw [hc1]; simp [hcl]; omega
 obtain ⟨W1, hW1⟩ : ∃ W1, W1 = w.drew.setRow b c1 := ⟨_, rfl⟩
 have hgw : W1.heap[b]? = some (.cells c1 65 (0, 0)) := by rw [hW1]; exact setRow_heap w.drew b cur _ 65 _ hgd
 have hcp1 : ∀ ty dc sc, (Builtin.copy_ #[60, 60] ty #[.slice (some ⟨b, (i + 1) * 2, none⟩) (n + 1 - (i + 1)) dc, .slice (some ⟨b, i * 2, none⟩) (n + 1 - i) sc]).run Try.prog w.drew = .ok (goInt (n - i : Nat)) W1 := fun ty dc sc => by
  rw [hW1, hc1]
  exact EV w.drew 60 60 ty 65 inf 2 b ((i + 1) * 2) (n + 1 - (i + 1)) dc cur ⟨b, i * 2, none⟩ (n + 1 - i) sc (n - i) cs ED z1 z3 (by simp only [Nat.min_def]; split <;> omega) hcl
   (fun j u hj => by
    rw [El, Bj hgd]
    rw [hcs1, List.getElem?_drop, List.getElem?_take] at hj
    split at hj
    ·simpa using hj
    ·cases hj) hgd (by rw [hcl]; omega) (fun v hv => hone v (by rw [hcs1] at hv; exact List.mem_of_mem_drop hv))
 obtain ⟨c2, hc2⟩ : ∃ c2 : Array Value, c2 = (c1.toList.take (i * 2) ++ news ++ c1.toList.drop (i * 2 + news.length)).toArray := ⟨_, rfl⟩
 obtain ⟨W2, hW2⟩ : ∃ W2, W2 = W1.setRow b c2 := ⟨_, rfl⟩
 have hcp2 : ∀ ty dc, (Builtin.copy_ #[60, 60] ty #[.slice (some ⟨b, i * 2, none⟩) (n + 1 - i) dc, .slice (some ⟨g, 0, none⟩) 1 vc]).run Try.prog W1 = .ok (goInt (1 : Nat)) W2 := fun ty dc => by
  rw [hW2, hc2]
  exact EV W1 60 60 ty 65 inf 2 b (i * 2) (n + 1 - i) dc c1 ⟨g, 0, none⟩ 1 vc 1 news ED z1 z3 (by simp only [Nat.min_def]; split <;> omega) (by omega)
   (fun j u hj => by
    rw [El, Nat.zero_add, hW1]
    have := hsrc j u hj
    simp only [World.cell?] at this ⊢
    rw [setRow_other w.drew b g c1 hgb]
    exact this) hgw (by omega) h1
 have fin : Hid (∃ cur' : Array Value, cur'.size = cur.size /\ cur'.toList.take ((n + 1) * 2) = (cur.toList.take (n * 2)).take (i * 2) ++ news ++ (cur.toList.take (n * 2)).drop (i * 2) /\ W2 = w.drew.setRow b cur') := by
  refine ⟨c2, ?_, ?_, ?_⟩
  ·rw [hc2, List.size_toArray, List.length_append, List.length_append, List.length_take, List.length_drop, Array.length_toList, hs1, hl]; omega
  ·have e1 : c1.toList.take (i * 2) = (cur.toList.take (n * 2)).take (i * 2) := by
    rw [hc1, List.toList_toArray, List.append_assoc, List.take_append_of_le_length (by simp; omega), List.take_take, List.take_take]
    congr 1; omega
   have e2 : (c1.toList.drop (i * 2 + 2)).take ((n - i) * 2) = cs := by
    have h2 : (cur.toList.take ((i + 1) * 2)).length = i * 2 + 2 := by rw [List.length_take, Array.length_toList]; omega
    rw [hc1, List.toList_toArray, List.append_assoc, <- h2, List.drop_left, List.take_append_of_le_length (by omega), List.take_of_length_le (by omega)]
   rw [hc2, List.toList_toArray, <- hcs1, <- e1, <- e2, hl]
   have h3 : (c1.toList.take (i * 2) ++ news).length = i * 2 + 2 := by rw [List.length_append, List.length_take, Array.length_toList, hl]; omega
   rw [List.take_append, List.take_of_length_le (by omega), h3]
   congr 2; omega
  ·rw [hW2, hW1, setRow_setRow]
 have hz2 : ¬ ((i : Int) = (n : Int)) := by omega
 have hw1 : IntKind.i64.wrap ((i : Int) + 1) = (i : Int) + 1 := by rw [IntKind.wrap_i64]; omega
 have hw2 : IntKind.i64.wrap ((n : Int) + 1) = (n : Int) + 1 := by rw [IntKind.wrap_i64]; omega
 have hb1 : (0 : Int) <= (i : Int) + 1 := by omega
 have hin : i <= n := by omega
 have htn : ((i : Int) + 1).toNat = i + 1 := by omega
 have htn2 : ((n : Int) + 1).toNat = n + 1 := by omega
 have hb2 : ¬ (cap = i + 1) := by omega
 have hb3 : (i : Int) <= (n : Int) + 1 := by omega
 have hb4 : ¬ (cap = i) := by omega
 have hb5 : ¬ ((cap : Int) < (n : Int) + 1) := by omega
 clear hc1 hs1 hW1 hgw hc2 hW2 hcs1 hcl h1 hsrc hone hgd hg hv z1 z2 z3 z4 z5
 have mixed : Try.prog.follows Departure.mixedOrders = true := by kernel_rfl
 go_enter Try.func54, Try.ntmps54
 go_wp2_with (simp only [hov])
 go_region_law_o (refine step_copy_runI rfl _ _ 60 60 rfl (.slice (some ⟨b, (i + 1) * 2, none⟩) (n + 1 - (i + 1)) (cap - (i + 1))) (.slice (some ⟨b, i * 2, none⟩) (n + 1 - i) (cap - i)) (by simp [Act.eval, Act.put]) (by simp [Act.eval, Act.put]) (hcp1 _ _ _) ?_)
 go_wp2_with (at_builtin; refine wpList_copy_runI _ rfl _ _ 60 60 rfl _ _ rfl rfl (hcp2 _ _) ?_)
 go_ret
 exact ⟨rfl, fin.out⟩
theorem QJ (w : World) (r c : Array Value) (t : TypeId) : (w.alloc (.cells r t)).setRow w.heap.size c = w.alloc (.cells c t) := by
 simp only [World.setRow, World.alloc, World.mk.injEq, and_true, true_and]
 apply Array.ext_getElem?
 intro k
 rw [Array.getElem?_modify, Array.getElem?_push, Array.getElem?_push]
 by_cases hk : w.heap.size = k
 ·subst hk; simp
 ·have : ¬ k = w.heap.size := fun e => hk e.symm
  simp [hk, this]
set_option maxHeartbeats 4000000 in
set_option maxRecDepth 1000000 in
theorem Rk (w : World) (b n cap i : Nat) (cur : Array Value) (hi : i < n) (hnc : n <= cap) (hroom : cap < n + 1) (hcm : cap <= maxLen) (hg : w.heap[b]? = some (.cells cur 65 (0, 0))) (hcs : cur.size = cap * 2) (hone : ∀ v ∈ cur.toList.take (n * 2), v.oneCell' = true)
 (g vc : Nat) (hgb : g < w.heap.size) (news : List Value) (hl : news.length = 2) (hsrc : ∀ j u, news[j]? = some u -> w.cell? ⟨g, j, none⟩ = some u) (h1 : ∀ u ∈ news, u.oneCell' = true) (hbig : (n + 1) * 16 <= 140737488355328) :
 Calls Try.prog 54 #[.slice (some ⟨b, 0, none⟩) n cap, .int .i64 i, .slice (some ⟨g, 0, none⟩) 1 vc] w fun e w' => ∃ G, e = .returned (.slice (some ⟨w.heap.size, 0, none⟩) (n + 1) G) /\ n + 1 <= G /\ G <= maxLen /\ ∃ cur' : Array Value, cur'.size = G * 2 /\
  cur'.toList.take ((n + 1) * 2) = (cur.toList.take (n * 2)).take (i * 2) ++ news ++ (cur.toList.take (n * 2)).drop (i * 2) /\ w' = ((w.drew.alloc (.cells cur' 65))).drew := by
 obtain ⟨inf, z, z1, z2, z3, z4, z5⟩ := Ly
 have hcm' : cap <= 9223372036854775807 := by unfold maxLen at hcm; omega
 have hbw : b < w.heap.size := (Array.getElem?_eq_some_iff.1 hg).1
 obtain ⟨cs, hcs1⟩ : ∃ cs, cs = (cur.toList.take (n * 2)).drop (i * 2) := ⟨_, rfl⟩
 obtain ⟨hd, hhd⟩ : ∃ hd, hd = (cur.toList.take (n * 2)).take (i * 2) := ⟨_, rfl⟩
 have hcl : cs.length = (n - i) * 2 := by rw [hcs1]; simp; omega
 have hhl : hd.length = i * 2 := by rw [hhd]; simp; omega
 have hcell : ∀ k u, (cur.toList.take (n * 2))[k]? = some u -> w.cell? ⟨b, k, none⟩ = some u := fun k u h => by
  rw [Bj hg]
  rw [List.getElem?_take] at h
  split at h
  ·simpa using h
  ·cases h
 have hkk : (n : Int) + 1 - (i : Int) = ((n + 1 - i : Nat) : Int) := by omega
 have hik : i + (n + 1 - i) = n + 1 := by omega
 have hzc : z.cells.size = 2 := by rw [z5]; rfl
 have hold : (Builtin.firstCells inf.size i (.slice (some ⟨b, 0, none⟩) i cap)).run Try.prog w.drew = .ok hd.toArray w.drew := by
  rw [z3]
  exact run_firstCells_some w.drew 2 i ⟨b, 0, none⟩ i cap hd (by rw [hhl]) (fun j v hj => by
   rw [El, Nat.zero_add]
   rw [hhd, List.getElem?_take] at hj
   split at hj
   ·exact hcell j v hj
   ·cases hj)
 obtain ⟨G, hG⟩ : ∃ G, G = grownCap w (n + 1) cap 65 := ⟨_, rfl⟩
 obtain ⟨ROW, hROW⟩ : ∃ ROW : Array Value, ROW = hd.toArray ++ Builtin.zeroCells z.cells (n + 1 - i) ++ Builtin.zeroCells z.cells (G - (n + 1)) := ⟨_, rfl⟩
 obtain ⟨W1, hW1⟩ : ∃ W1, W1 = w.drew.alloc (.cells ROW 65) := ⟨_, rfl⟩
 have hGn : n + 1 <= G := by rw [hG]; exact grownCap_ge w _ _ _
 have hGm : G <= maxLen := by rw [hG]; exact grownCap_le_maxLen w (n + 1) cap 65 (by unfold maxLen; omega)
 have hG63 : G <= 9223372036854775807 := by unfold maxLen at hGm; omega
 have hrz : ∀ ty, (Builtin.append_ #[60, 3] ty #[.slice (some ⟨b, 0, none⟩) i cap, .int .i64 ((n : Int) + 1 - (i : Int))]).run Try.prog w = .ok (.slice (some ⟨w.heap.size, 0, none⟩) (n + 1) G) W1 := fun ty => by
  have h := Lib.run_append_grow_zeros w 60 3 ty 65 inf z .i64 .i64 ED (by kernel_rfl) z1 z2 (some ⟨b, 0, none⟩) i cap hd hold (n + 1 - i) (by omega) (by omega) (by omega) (by omega) (by rw [z4]; omega) (by rw [z4, hik]; exact growslice_fits hroom hbig)
  rw [hik, <- hG, <- hROW, <- hW1] at h
  rw [hkk]
  exact h
 have hRl : ROW.size = G * 2 := by
  rw [hROW]
  simp only [Array.size_append, List.size_toArray, hhl, size_zeroCells, hzc]
  omega
 have hgN : W1.heap[w.heap.size]? = some (.cells ROW 65 (0, 0)) := by rw [hW1]; exact heap_alloc_new w.drew _
 have hgO : ∀ k, k < w.heap.size -> W1.heap[k]? = w.heap[k]? := fun k hk => by rw [hW1]; exact heap_alloc_old w.drew _ hk
 obtain ⟨c1, hc1⟩ : ∃ c1 : Array Value, c1 = (ROW.toList.take (i * 2) ++ news ++ ROW.toList.drop (i * 2 + news.length)).toArray := ⟨_, rfl⟩
 have hs1 : c1.size = ROW.size := by rw [hc1]; simp [hl]; omega
 obtain ⟨W2, hW2⟩ : ∃ W2, W2 = W1.setRow w.heap.size c1 := ⟨_, rfl⟩
 have hcpA : ∀ ty dc, (Builtin.copy_ #[60, 60] ty #[.slice (some ⟨w.heap.size, i * 2, none⟩) (n + 1 - i) dc, .slice (some ⟨g, 0, none⟩) 1 vc]).run Try.prog W1 = .ok (goInt (1 : Nat)) W2 := fun ty dc => by
  rw [hW2, hc1]
  exact EV W1 60 60 ty 65 inf 2 w.heap.size (i * 2) (n + 1 - i) dc ROW ⟨g, 0, none⟩ 1 vc 1 news ED z1 z3 (by simp only [Nat.min_def]; split <;> omega) (by omega)
   (fun j u hj => by
    rw [El, Nat.zero_add]
    have := hsrc j u hj
    simp only [World.cell?] at this ⊢
    rw [hgO g hgb]
    exact this) hgN (by omega) h1
 have hgN2 : W2.drew.heap[w.heap.size]? = some (.cells c1 65 (0, 0)) := by rw [hW2]; exact setRow_heap W1 w.heap.size ROW _ 65 _ hgN
 obtain ⟨c2, hc2⟩ : ∃ c2 : Array Value, c2 = (c1.toList.take ((i + 1) * 2) ++ cs ++ c1.toList.drop ((i + 1) * 2 + cs.length)).toArray := ⟨_, rfl⟩
 obtain ⟨W3, hW3⟩ : ∃ W3, W3 = W2.drew.setRow w.heap.size c2 := ⟨_, rfl⟩
 have hcpB : ∀ ty dc sc, (Builtin.copy_ #[60, 60] ty #[.slice (some ⟨w.heap.size, (i + 1) * 2, none⟩) (n + 1 - (i + 1)) dc, .slice (some ⟨b, i * 2, none⟩) (n - i) sc]).run Try.prog W2.drew = .ok (goInt (n - i : Nat)) W3 := fun ty dc sc => by
  rw [hW3, hc2]
  exact EV W2.drew 60 60 ty 65 inf 2 w.heap.size ((i + 1) * 2) (n + 1 - (i + 1)) dc c1 ⟨b, i * 2, none⟩ (n - i) sc (n - i) cs ED z1 z3 (by simp only [Nat.min_def]; split <;> omega) hcl
   (fun j u hj => by
    rw [El]
    have := hcell (i * 2 + j) u (by rw [hcs1, List.getElem?_drop] at hj; exact hj)
    have hb2 : W2.drew.heap[b]? = w.heap[b]? := by
     show W2.heap[b]? = _
     rw [hW2, setRow_other W1 w.heap.size b c1 (by omega), hgO b hbw]
    simp only [World.cell?] at this ⊢
    rw [hb2]
    exact this) hgN2 (by rw [hcl]; omega) (fun v hv => hone v (by rw [hcs1] at hv; exact List.mem_of_mem_drop hv))
 have fin : Hid (∃ cur' : Array Value, cur'.size = G * 2 /\ cur'.toList.take ((n + 1) * 2) = (cur.toList.take (n * 2)).take (i * 2) ++ news ++ (cur.toList.take (n * 2)).drop (i * 2) /\ W3 = (w.drew.alloc (.cells cur' 65)).drew) := by
  refine ⟨c2, ?_, ?_, ?_⟩
  ·rw [hc2, List.size_toArray, List.length_append, List.length_append, List.length_take, List.length_drop, Array.length_toList, hs1, hcl]; omega
  ·rw [<- hhd, <- hcs1, hc2, List.toList_toArray]
   have e1 : c1.toList.take ((i + 1) * 2) = hd ++ news := by
    rw [hc1, List.toList_toArray]
    have e2 : ROW.toList.take (i * 2) = hd := by
     rw [hROW]
     simp only [Array.toList_append, List.append_assoc]
     rw [<- hhl, List.take_left]
    rw [e2, show (i + 1) * 2 = (hd ++ news).length by simp [hhl, hl]; omega, List.take_left]
   rw [e1, show (n + 1) * 2 = (hd ++ news ++ cs).length by simp [hhl, hl, hcl]; omega, List.take_left]
  ·rw [hW3, hW2]
   have : (W1.setRow w.heap.size c1).drew.setRow w.heap.size c2 = (W1.setRow w.heap.size c2).drew := by
    rw [<- setRow_setRow W1 w.heap.size c1 c2]; rfl
   rw [this, hW1]
   exact congrArg World.drew (QJ w.drew ROW c2 65)
 have hz2 : ¬ ((i : Int) = (n : Int)) := by omega
 have hw1 : IntKind.i64.wrap ((i : Int) + 1) = (i : Int) + 1 := by rw [IntKind.wrap_i64]; omega
 have hw2 : IntKind.i64.wrap ((n : Int) + 1) = (n : Int) + 1 := by rw [IntKind.wrap_i64]; omega
 have hw3 : IntKind.i64.wrap ((n : Int) + 1 - (i : Int)) = (n : Int) + 1 - (i : Int) := by rw [IntKind.wrap_i64]; omega
 have hb1 : (0 : Int) <= (i : Int) + 1 := by omega
 have hin : i <= n := by omega
 have htn : ((i : Int) + 1).toNat = i + 1 := by omega
 have htn2 : ((n : Int) + 1).toNat = n + 1 := by omega
 have hb2 : ¬ (G = i + 1) := by omega
 have hb3 : (i : Int) <= (n : Int) := by omega
 have hb4 : ¬ (G = i) := by omega
 have hb6 : ¬ (cap = i) := by omega
 have hb5 : (cap : Int) < (n : Int) + 1 := by omega
 have hGn := Lib.hid hGn
 have hGm := Lib.hid hGm
 clear hc1 hs1 hW1 hgN hgO hgN2 hW3 hc2 hW2 hcs1 hcl h1 hsrc hone hg z1 z2 z3 z4 z5 hkk hik hold hROW hG hRl hcell hhd hhl
 have mixed : Try.prog.follows Departure.mixedOrders = true := by kernel_rfl
 go_enter Try.func54, Try.ntmps54
 go_wp2_with (first
  | (at_builtin; refine Lib.wpList_append_run _ rfl _ _ _ _ rfl _ _ rfl rfl _ _ (hrz _) ?_)
  | (at_builtin; refine wpList_copy_runI _ rfl _ _ 60 60 rfl _ _ rfl rfl (hcpA _ _) ?_)
  | (at_builtin; refine wpList_copy_runI _ rfl _ _ 60 60 rfl _ _ rfl rfl (hcpB _ _ _) ?_))
 go_region_law_o (refine step_copy_runI rfl _ _ 60 60 rfl (.slice (some ⟨w.heap.size, (i + 1) * 2, none⟩) (n + 1 - (i + 1)) (G - (i + 1))) (.slice (some ⟨b, i * 2, none⟩) (n - i) (cap - i)) (by simp [Act.eval, Act.put]) (by simp [Act.eval, Act.put]) (hcpB _ _ _) ?_)
 go_wp2
 go_ret
 exact ⟨G, rfl, hGn.out, hGm.out, fin.out⟩
def tmK : List K := [.i .i64, .i .i64]
def tmR : Row := .ofKs tmK
section
variable {w w' : World} {Im Im' : Nat -> Prop} {q : Row}
theorem _root_.Go.Proofs.Ytnockichpnaoeaa.Ew.RowsV.takeN : ∀ {l : RL} {xs : List Value}, RowsV w Im q l xs -> ∀ i, RowsV w Im q (l.take i) (xs.take (i * q.size))
 | [], xs, h, i => by simp only [RowsV] at h; subst h; simp [RowsV]
 | r :: l, xs, h, 0 => by simp [RowsV]
 | r :: l, xs, h, i + 1 => by
   obtain ⟨us, ys, rfl, h2, h3⟩ := h
   refine ⟨us, ys.take (i * q.size), ?_, h2, RowsV.takeN h3 i⟩
   have e1 : (i + 1) * q.size = us.length + i * q.size := by rw [Nat.succ_mul, h2.len.1]; omega
   rw [e1, List.take_append, List.take_of_length_le (by omega)]; simp
theorem _root_.Go.Proofs.Ytnockichpnaoeaa.Ew.RowsV.dropN : ∀ {l : RL} {xs : List Value}, RowsV w Im q l xs -> ∀ i, RowsV w Im q (l.drop i) (xs.drop (i * q.size))
 | [], xs, h, i => by simp only [RowsV] at h; subst h; simp [RowsV]
 | r :: l, xs, h, 0 => by simpa using h
 | r :: l, xs, h, i + 1 => by
   obtain ⟨us, ys, rfl, h2, h3⟩ := h
   have e1 : (i + 1) * q.size = us.length + i * q.size := by rw [Nat.succ_mul, h2.len.1]; omega
   have e2 : (us ++ ys).drop (us.length + i * q.size) = ys.drop (i * q.size) := by
    rw [List.drop_append, List.drop_of_length_le (by omega)]; simp
   rw [e1, e2, List.drop_succ_cons]
   exact RowsV.dropN h3 i
end
theorem GA {w w' : World} {Im Im' : Nat -> Prop} {l : RL} {xs : List Value} (h : RowsV w Im tmR l xs) : RowsV w' Im' tmR l xs :=
 RowsV.fr (Im := fun _ => False) (fun _ h => h.elim) (Gn (ks := tmK) (Im' := fun _ => False) h)
theorem Me {w w' : World} {M0 Im0 : Nat -> Prop} {hs : Nat -> Hd} {ty : Nat} {q : Row} (hM : ∀ b, M0 b -> ¬ Im0 b /\ b < w.heap.size) (hI : ∀ b, Im0 b -> b < w.heap.size) (hf : Fr M0 w w') {nn k : Nat} {ys : List Int} {hd' : Hd}
 (hc : isCd (env ys k)) (ho : OwL w' Im0 ty q hd' (dc (env ys k))) (hb : ∀ b, (hd'.sl (dc (env ys k)).length).ownBlock = some b -> M0 b \/ w.heap.size <= b) :
 RelE F0 (env ys) w M0 Im0 (upd hs nn hd') [(nn, mkB true, .lst ty q true (LEN (.var .x k)) (.var .x k))] w' := by
 have hl : (LEN (.var .x k)).den F0 (env ys) = ((dc (env ys k)).length : Int) := by
  rw [Et.len]
  exact BJ ho.1
 have hd : (E.var .x k).den F0 (env ys) = env ys k := rfl
 refine ⟨fun x hx _ => ?_, fun x hx y hy _ _ b _ _ => ?_, fun b hb' => Nat.lt_of_lt_of_le (hI b hb') hf.size, hf⟩
 ·simp only [List.mem_singleton] at hx
  subst hx
  have hm : mutB F0 (env ys) (upd hs nn hd') nn (.lst ty q true (LEN (.var .x k)) (.var .x k)) = (hd'.sl (dc (env ys k)).length).ownBlock := by
   simp only [mutB, AH, hl, Int.toNat_natCast]
  refine ⟨⟨by rw [hd]; exact hc, by rw [hd]; exact hl, ?_⟩, fun b hb' => ?_⟩
  ·rw [hd]; simp only [cond_true, AH]; exact ho
  ·rw [hm] at hb'
   refine ⟨hb b hb', fun hi => ?_, (ho.2.choose_spec.1.lt b hb').2⟩
   rcases hb b hb' with h | h
   ·exact (hM b h).1 hi
   ·have := hI b hi; omega
 ·simp only [List.mem_singleton] at hx hy
  subst hx; subst hy; rfl
def cap8 : Int := 8796093022000
noncomputable def insertE (key : Nat) : Ent := ⟨key, 54, [.lst 65 tmR true, .sc kJ, .lst 65 tmR true], [], [], .lst 65 tmR true,
 fun _ xs => cd (((dc (env xs 0)).take (env xs 1).toNat) ++ (dc (env xs 2)) ++ ((dc (env xs 0)).drop (env xs 1).toNat)),
 fun xs => 0 <= env xs 1 /\ env xs 1 <= ((dc (env xs 0)).length : Int) /\ (dc (env xs 2)).length = 1 /\ ((dc (env xs 0)).length : Int) < cap8⟩
theorem Tf (w : World) (v : Value) (n i : Nat) (xs : List Value) (hown : w.ownsRow 0 65 2 v n xs) (hi : i <= n) (hone : ∀ u ∈ xs, u.oneCell' = true) (u : Value) (news : List Value) (hu : w.ownsRow 0 65 2 u 1 news) (h1 : ∀ u ∈ news, u.oneCell' = true)
 (hne : ∀ b, v.ownBlock = some b -> u.ownBlock ≠ some b) (hbig : (n + 1) * 16 <= 140737488355328) :
 Calls Try.prog 54 #[v, .int .i64 i, u] w fun e w' => ∃ v', e = .returned v' /\ w'.ownsRow 0 65 2 v' (n + 1) (xs.take (i * 2) ++ news ++ xs.drop (i * 2)) /\ Fr (fun b => v.ownBlock = some b) w w' /\ (v'.ownBlock = v.ownBlock \/ v'.ownBlock = some w.heap.size) := by
 obtain ⟨hul, hur⟩ := hu
 rcases hur with ⟨rfl, h⟩ | ⟨g, vc, vcur, rfl, _, hvg, hvn, hvm, hvs, hvt⟩
 ·omega
 have hsrc : ∀ j u, news[j]? = some u -> w.cell? ⟨g, j, none⟩ = some u := fun j u hj => by
  rw [Bj hvg]
  rw [<- hvt, List.getElem?_take] at hj
  split at hj
  ·simpa using hj
  ·cases hj
 by_cases he : i = n
 ·subst he
  refine Calls.mono (Te w v i xs hown g vc news (by omega) hsrc h1 hbig) fun e w' h => ?_
  obtain ⟨v', e1, e2, e3, e4⟩ := h
  have hl := hown.1
  refine ⟨v', e1, ?_, Fr.grown e3, e4⟩
  rw [List.take_of_length_le (by omega), List.drop_of_length_le (by omega), List.append_nil]
  exact e2
 ·obtain ⟨hl, hr⟩ := hown
  rcases hr with ⟨rfl, h⟩ | ⟨b, cap, cur, rfl, _, hg, hnc, hcm, hcs, ht⟩
  ·omega
  have hgb : g ≠ b := fun e => hne b rfl (by rw [e]; rfl)
  by_cases hroom : n + 1 <= cap
  ·refine Calls.mono (QH w b n cap i cur (by omega) hroom hcm hg hcs (by rw [ht]; exact hone) g vc vcur hvg hgb news (by omega) hsrc h1) fun e w' h => ?_
   obtain ⟨e1, cur', e2, e3, rfl⟩ := h
   rw [ht] at e3
   refine ⟨_, e1, ⟨?_, .inr ⟨b, cap, cur', rfl, Nat.zero_le _, setRow_heap w.drew b cur _ 65 _ hg, hroom, hcm, by omega, e3⟩⟩, ?_, Or.inl rfl⟩
   ·rw [List.length_append, List.length_append, List.length_take, List.length_drop, hl, hul]; omega
   ·exact ((Fr.drew _ w).trans (Fr.setRow b cur') (fun k _ e => by rw [e]; rfl))
  ·refine Calls.mono (Rk w b n cap i cur (by omega) hnc (by omega) hcm hg hcs (by rw [ht]; exact hone) g vc (Array.getElem?_eq_some_iff.1 hvg).1 news (by omega) hsrc h1 hbig) fun e w' h => ?_
   obtain ⟨G, e1, e2, e3, cur', e4, e5, rfl⟩ := h
   rw [ht] at e5
   refine ⟨_, e1, ⟨?_, .inr ⟨w.heap.size, G, cur', rfl, Nat.zero_le _, heap_alloc_new w.drew _, e2, e3, e4, e5⟩⟩, ?_, Or.inr rfl⟩
   ·rw [List.length_append, List.length_append, List.length_take, List.length_drop, hl, hul]; omega
   ·exact ((Fr.drew (fun b' => (Value.slice (some ⟨b, 0, none⟩) n cap).ownBlock = some b') w).trans (Fr.alloc _ w.drew _) (fun _ _ h => h)).trans (Fr.drew _ _) (fun _ _ h => h)
theorem Mf {w w0 : World} {M0 Im0 : Nat -> Prop} {hs : Nat -> Hd} {ty : Nat} {q : Row} {n k : Nat} {ys : List Int} {l : Ents} (hR : RelE F0 (env ys) w0 M0 Im0 hs l w) (hm : (n, mkB true, .lst ty q true (LEN (.var .x k)) (.var .x k)) ∈ l) :
 isCd (env ys k) /\ OwL w Im0 ty q (hs n) (dc (env ys k)) /\ (∀ b, ((hs n).sl (dc (env ys k)).length).ownBlock = some b -> M0 b \/ w0.heap.size <= b) /\
 SV.conc F0 (env ys) hs (.ls n (LEN (.var .x k))) = (hs n).sl (dc (env ys k)).length /\ mutB F0 (env ys) hs n (.lst ty q true (LEN (.var .x k)) (.var .x k)) = ((hs n).sl (dc (env ys k)).length).ownBlock := by
 obtain ⟨h1, h2⟩ := hR.ent _ hm (by simp)
 obtain ⟨a1, a2, a3⟩ := h1
 have hd : (E.var .x k).den F0 (env ys) = env ys k := rfl
 rw [hd] at a1 a2 a3
 simp only [cond_true] at a3
 have hm : mutB F0 (env ys) hs n (.lst ty q true (LEN (.var .x k)) (.var .x k)) = ((hs n).sl (dc (env ys k)).length).ownBlock := by simp only [mutB, a2, Int.toNat_natCast]
 refine ⟨a1, a3, fun b hb => (h2 b (by rw [hm]; exact hb)).1, by simp only [SV.conc, a2, Int.toNat_natCast], hm⟩
theorem U8 (G : Glob) (key : Nat) : EntryOK Try.prog G (insertE key) := by
 intro xs hf hp w M0 Im0 hs hM hG hR
 match xs, hf with
 | [a, i, c], hf =>
   obtain ⟨_, hi, _, _⟩ := hf
   obtain ⟨p1, p2, p3, p4⟩ := hp
   have e0 : env [a, i, c] 0 = a := rfl
   have e1 : env [a, i, c] 1 = i := rfl
   have e2 : env [a, i, c] 2 = c := rfl
   obtain ⟨o1, o2, o3, o4, o5⟩ := Mf (n := 0) (k := 0) hR (List.mem_cons_self ..)
   obtain ⟨u1, u2, u3, u4, u5⟩ := Mf (n := 1) (k := 2) hR (List.mem_cons_of_mem _ (List.mem_cons_self ..))
   rw [e0, e1] at p2
   rw [e1] at p1
   rw [e2] at p3
   rw [e0] at p4 o1 o2 o3 o4 o5
   rw [e2] at u1 u2 u3 u4 u5
   obtain ⟨q1, xs', q2, q3⟩ := o2
   obtain ⟨v1, us', v2, v3⟩ := u2
   rw [p3] at v2 u4 u5
   unfold cap8 at p4
   have hne : ∀ b, ((hs 0).sl (dc a).length).ownBlock = some b -> ((hs 1).sl 1).ownBlock ≠ some b := fun b h h' => by
    have := hR.inj _ (List.mem_cons_self ..) _ (List.mem_cons_of_mem _ (List.mem_cons_self ..)) (by simp) (by simp) b (o5 ▸ h) (u5 ▸ h')
    exact absurd (show (0 : Nat) = 1 from this) (by omega)
   have hin : (i.toNat : Int) = i := Int.toNat_of_nonneg p1
   have H := Tf w _ (dc a).length i.toNat xs' q2 (by omega) q3.one _ us' v2 v3.one hne (by omega)
   have hargs : (SV.concL F0 (env [a, i, c]) hs (insertE key).pgen.1).toArray = #[(hs 0).sl (dc a).length, .int .i64 i.toNat, (hs 1).sl 1] := by
    show #[SV.conc F0 (env [a, i, c]) hs (.ls 0 (LEN (.var .x 0))), (E.var kJ 1).val F0 (env [a, i, c]), SV.conc F0 (env [a, i, c]) hs (.ls 1 (LEN (.var .x 2)))] = _
    rw [o4, u4, hin]
    have : (E.var kJ 1).val F0 (env [a, i, c]) = .int .i64 i := by
     show Value.int .i64 (IntKind.i64.wrap i) = _
     exact congrArg _ hi
    rw [this]
   rw [hargs]
   refine Calls.mono H fun e w' h => ?_
   obtain ⟨v', r1, r2, r3, r4⟩ := h
   obtain ⟨hd', rfl⟩ := GK r2
   obtain ⟨z, hz⟩ : ∃ z, z = cd (((dc a).take i.toNat) ++ (dc c) ++ ((dc a).drop i.toNat)) := ⟨_, rfl⟩
   have hzl : (dc z).length = (dc a).length + 1 := by
    rw [hz, Ac, List.length_append, List.length_append, List.length_take, List.length_drop, p3]; omega
   have hz3 : env ([a, i, c] ++ Ai (insertE key).fn [a, i, c] 0 (insertE key).oks) 3 = z := by rw [hz]; rfl
   have hT : Fr M0 w w' := by
    refine ⟨r3.os, r3.tape, r3.output, r3.size, fun k hk hn => r3.block k hk fun e => ?_⟩
    rcases o3 k e with h | h
    ·exact hn h
    ·omega
   have hO : OwL w' Im0 65 tmR hd' (dc z) := by
    refine ⟨by rw [hzl]; unfold maxLen; omega, _, by rw [hzl]; exact r2, ?_⟩
    rw [hz, Ac]
    have hq3 : RowsV w' Im0 tmR (dc a) xs' := GA q3
    exact ((hq3.takeN _).append (GA v3)).append (hq3.dropN _)
   refine ⟨upd hs 2 hd', Im0, fun j hj => CJ hs hd' (by have : j < 2 := hj; omega), fun _ h => h, fun b h => Or.inl h, ?_, ?_⟩
   ·rw [r1]
    show _ = Ending.returned (SV.conc F0 _ (upd hs 2 hd') (.ls 2 (LEN (.var .x 3))))
    have : (LEN (.var .x 3)).den F0 (env ([a, i, c] ++ Ai (insertE key).fn [a, i, c] 0 (insertE key).oks)) = ((dc a).length + 1 : Nat) := by
     rw [Et.len]
     have : (E.var .x 3).den F0 (env ([a, i, c] ++ Ai (insertE key).fn [a, i, c] 0 (insertE key).oks)) = z := hz3
     rw [this, hzl]
     exact BJ (by unfold maxLen; omega)
    simp only [SV.conc, AH, this, Int.toNat_natCast]
   ·have := Me (hs := hs) (nn := 2) (k := 3) (ys := [a, i, c] ++ Ai (insertE key).fn [a, i, c] 0 (insertE key).oks) hM hR.im hT (hd' := hd') (by rw [hz3, hz]; exact Bb _) (by rw [hz3]; exact hO) (by
     rw [hz3, hzl]
     intro b hb
     rcases r4 with r4 | r4
     ·rw [r4] at hb; exact o3 b hb
     ·rw [r4] at hb; simp only [oJ] at hb; exact Or.inr (by omega))
    exact this
end Go.Proofs.Ytnockichpnaoeaa.Ew.Q
namespace Go.Proofs.Ytnockichpnaoeaa.Ew.Q
open Go Go.RowKit Go.Lib
set_option maxHeartbeats 4000000 in
set_option maxRecDepth 1000000 in
theorem Tg (w : World) : Calls Try.prog 70 #[.slice none 0 0, .int .i64 0, .int .i64 0] w fun e w' => e = .returned (.slice none 0 0) /\ w' = w := by
 go_enter Try.func70, Try.ntmps70
 go_wp2
 all_goals (go_ret; exact ⟨rfl, rfl⟩)
set_option maxHeartbeats 4000000 in
set_option maxRecDepth 1000000 in
theorem U9 (w : World) : Calls Try.prog 71 #[.slice none 0 0] w fun e w' => e = .returned (.slice none 0 0) /\ w' = w := by
 have eqn := fun (w : World) a n c => Lib.run_eql_slice_nil (P := Try.prog) w 60 65 a n c 0 0 ED
 go_enter Try.func71, Try.ntmps71
 go_wp2
 all_goals (go_ret; exact ⟨rfl, rfl⟩)
set_option maxHeartbeats 4000000 in
set_option maxRecDepth 1000000 in
theorem Th (w : World) (b o n cap : Nat) (xs : List Value) (hl : xs.length = n * 2) (hsrc : ∀ j u, xs[j]? = some u -> w.cell? ⟨b, o + j, none⟩ = some u) (h1 : ∀ u ∈ xs, u.oneCell' = true) (hb : n * 16 <= 140737488355328) :
 Calls Try.prog 71 #[.slice (some ⟨b, o, none⟩) n cap] w fun e w' => ∃ v', e = .returned v' /\ w'.ownsRow 0 65 2 v' n xs /\ Fr (fun _ => False) w w' /\ ∀ k, v'.ownBlock = some k -> w.heap.size <= k := by
 obtain ⟨inf, z, z1, z2, z3, z4, z5⟩ := Ly
 obtain ⟨W, hW⟩ : ∃ W, W = w.alloc (.cells #[] 65) := ⟨_, rfl⟩
 have key : ∃ v' w', (Builtin.append_ #[60, 60] 60 #[.slice (some ⟨w.heap.size, 0, none⟩) 0 0, .slice (some ⟨b, o, none⟩) n cap]).run Try.prog W = .ok v' w' /\ w'.ownsRow 0 65 2 v' (0 + n) ([] ++ xs) /\ W.grownBy w' (some w.heap.size) /\ (v'.ownBlock = some w.heap.size \/ v'.ownBlock = some W.heap.size) :=
  H1 (P := Try.prog) W 60 60 65 inf z 2 16 ED z1 z2 z3 z4 (by rw [z5]; rfl) (by omega) (.slice (some ⟨w.heap.size, 0, none⟩) 0 0) 0 [] (by rw [hW]; exact World.ownsRow_made w #[] 0 (Nat.zero_le _) (by unfold maxLen; omega) (by simp)) ⟨b, o, none⟩ n cap xs hl (fun j u hj => by
   rw [El]
   have hc := hsrc j u hj
   have hbl : b < w.heap.size := World.block_lt_of_cell? w _ hc
   simp only [World.cell?] at hc ⊢
   rw [hW, heap_alloc_old w _ hbl]; exact hc) h1 (by unfold maxLen; omega) (by omega)
 rw [Nat.zero_add, List.nil_append] at key
 have hWs : W.heap.size = w.heap.size + 1 := by rw [hW]; simp
 obtain ⟨v', w', r1, r2, r3, r4⟩ := key
 have fin : Hid (w'.ownsRow 0 65 2 v' n xs /\ Fr (fun _ => False) w w' /\ ∀ k, v'.ownBlock = some k -> w.heap.size <= k) := by
  refine ⟨r2, ?_, fun k hk => ?_⟩
  ·rw [hW] at r3
   exact (Fr.alloc (fun _ => False) w _).trans (Fr.grown r3) (fun b hb e => by simp only [oJ] at e; omega)
  ·rcases r4 with r4 | r4 <;> rw [r4] at hk <;> simp only [oJ] at hk <;> omega
 rw [hW] at r1
 clear r2 r3 r4 hsrc h1 hW hWs
 have eqn := fun (w : World) a n c => Lib.run_eql_slice_nil (P := Try.prog) w 60 65 a n c 0 0 ED
 go_enter Try.func71, Try.ntmps71
 go_wp2_with (at_builtin; refine Lib.wpList_append_run _ rfl _ _ _ _ rfl _ _ rfl rfl _ _ r1 ?_)
 go_ret
 exact ⟨v', rfl, fin.out⟩
theorem Ti (w : World) (v : Value) (n i j : Nat) (xs : List Value) (hown : w.ownsRow 0 65 2 v n xs) (hij : i <= j) (hj : j <= n) (hone : ∀ u ∈ xs, u.oneCell' = true) :
 Calls Try.prog 70 #[v, .int .i64 i, .int .i64 j] w fun e w' => ∃ v', e = .returned v' /\ w'.ownsRow 0 65 2 v' (i + (n - j)) (xs.take (i * 2) ++ xs.drop (j * 2)) /\ Fr (fun b => v.ownBlock = some b) w w' /\ v'.ownBlock = v.ownBlock := by
 obtain ⟨hl, hr⟩ := hown
 rcases hr with ⟨rfl, rfl⟩ | ⟨b, cap, cur, rfl, _, hg, hnc, hcm, hcs, ht⟩
 ·have h0 : i = 0 := by omega
  have h1 : j = 0 := by omega
  subst h0; subst h1
  refine Calls.mono (Tg w) fun e w' h => ?_
  obtain ⟨e1, rfl⟩ := h
  have : xs = [] := List.length_eq_zero_iff.1 (by omega)
  subst this
  exact ⟨_, e1, World.ownsRow_nil w' 0 65 2, Fr.refl _ _, rfl⟩
 ·by_cases he : i = j
  ·subst he
   refine Calls.mono (Ri (.slice (some ⟨b, 0, none⟩) n cap) i w b n cap rfl hj hnc hcm) fun e w' h => ?_
   obtain ⟨e1, rfl⟩ := h
   refine ⟨_, e1, ⟨?_, .inr ⟨b, cap, cur, by rw [show i + (n - i) = n by omega], Nat.zero_le _, hg, by omega, hcm, hcs, ?_⟩⟩, Fr.refl _ _, rfl⟩
   ·rw [List.take_append_drop]; omega
   ·rw [List.take_append_drop, show i + (n - i) = n by omega]; exact ht
  ·refine Calls.mono (Rj i j w b n cap cur (by omega) hj hnc hcm hg hcs (by rw [ht]; exact hone)) fun e w' h => ?_
   obtain ⟨e1, cur', e2, e3, rfl⟩ := h
   rw [ht] at e3
   unfold JH at e3
   refine ⟨_, e1, ⟨?_, .inr ⟨b, cap, cur', rfl, Nat.zero_le _, setRow_heap w.drew b cur _ 65 _ hg, by omega, hcm, by omega, e3⟩⟩, ?_, rfl⟩
   ·rw [List.length_append, List.length_take, List.length_drop]; omega
   ·exact ((Fr.drew _ w).trans (Fr.setRow b cur') (fun k _ e => by rw [e]; rfl))
noncomputable def deleteE (key : Nat) : Ent := ⟨key, 70, [.lst 65 tmR true, .sc kJ, .sc kJ], [], [], .lst 65 tmR true,
 fun _ xs => cd (((dc (env xs 0)).take (env xs 1).toNat) ++ ((dc (env xs 0)).drop (env xs 2).toNat)),
 fun xs => 0 <= env xs 1 /\ env xs 1 <= env xs 2 /\ env xs 2 <= ((dc (env xs 0)).length : Int)⟩
noncomputable def cloneE (key : Nat) : Ent := ⟨key, 71, [.lst 65 tmR false], [], [], .lst 65 tmR true, fun _ xs => env xs 0, fun xs => ((dc (env xs 0)).length : Int) < cap8⟩
theorem Va (G : Glob) (key : Nat) : EntryOK Try.prog G (deleteE key) := by
 intro xs hf hp w M0 Im0 hs hM hG hR
 match xs, hf with
 | [a, i, j], hf =>
   obtain ⟨_, hi, hj, _⟩ := hf
   obtain ⟨p1, p2, p3⟩ := hp
   have e0 : env [a, i, j] 0 = a := rfl
   have e1 : env [a, i, j] 1 = i := rfl
   have e2 : env [a, i, j] 2 = j := rfl
   obtain ⟨o1, o2, o3, o4, o5⟩ := Mf (n := 0) (k := 0) hR (List.mem_cons_self ..)
   rw [e1] at p1 p2
   rw [e2] at p2 p3
   rw [e0] at p3 o1 o2 o3 o4 o5
   obtain ⟨q1, xs', q2, q3⟩ := o2
   have hin : (i.toNat : Int) = i := Int.toNat_of_nonneg p1
   have hjn : (j.toNat : Int) = j := Int.toNat_of_nonneg (by omega)
   have H := Ti w _ (dc a).length i.toNat j.toNat xs' q2 (by omega) (by omega) q3.one
   have hargs : (SV.concL F0 (env [a, i, j]) hs (deleteE key).pgen.1).toArray = #[(hs 0).sl (dc a).length, .int .i64 i.toNat, .int .i64 j.toNat] := by
    show #[SV.conc F0 (env [a, i, j]) hs (.ls 0 (LEN (.var .x 0))), (E.var kJ 1).val F0 (env [a, i, j]), (E.var kJ 2).val F0 (env [a, i, j])] = _
    rw [o4, hin, hjn]
    have t1 : (E.var kJ 1).val F0 (env [a, i, j]) = .int .i64 i := by
     show Value.int .i64 (IntKind.i64.wrap i) = _
     exact congrArg _ hi
    have t2 : (E.var kJ 2).val F0 (env [a, i, j]) = .int .i64 j := by
     show Value.int .i64 (IntKind.i64.wrap j) = _
     exact congrArg _ hj
    rw [t1, t2]
   rw [hargs]
   refine Calls.mono H fun e w' h => ?_
   obtain ⟨v', r1, r2, r3, r4⟩ := h
   obtain ⟨hd', rfl⟩ := GK r2
   obtain ⟨z, hz⟩ : ∃ z, z = cd (((dc a).take i.toNat) ++ ((dc a).drop j.toNat)) := ⟨_, rfl⟩
   have hzl : (dc z).length = i.toNat + ((dc a).length - j.toNat) := by
    rw [hz, Ac, List.length_append, List.length_take, List.length_drop]; omega
   have hz3 : env ([a, i, j] ++ Ai (deleteE key).fn [a, i, j] 0 (deleteE key).oks) 3 = z := by rw [hz]; rfl
   have hT : Fr M0 w w' := by
    refine ⟨r3.os, r3.tape, r3.output, r3.size, fun k hk hn => r3.block k hk fun e => ?_⟩
    rcases o3 k e with h | h
    ·exact hn h
    ·omega
   have hO : OwL w' Im0 65 tmR hd' (dc z) := by
    refine ⟨by rw [hzl]; omega, _, by rw [hzl]; exact r2, ?_⟩
    rw [hz, Ac]
    have hq3 : RowsV w' Im0 tmR (dc a) xs' := GA q3
    exact (hq3.takeN _).append (hq3.dropN _)
   refine ⟨upd hs 1 hd', Im0, fun j hj => CJ hs hd' (by have : j < 1 := hj; omega), fun _ h => h, fun b h => Or.inl h, ?_, ?_⟩
   ·rw [r1]
    show _ = Ending.returned (SV.conc F0 _ (upd hs 1 hd') (.ls 1 (LEN (.var .x 3))))
    have : (LEN (.var .x 3)).den F0 (env ([a, i, j] ++ Ai (deleteE key).fn [a, i, j] 0 (deleteE key).oks)) = (i.toNat + ((dc a).length - j.toNat) : Nat) := by
     rw [Et.len]
     have : (E.var .x 3).den F0 (env ([a, i, j] ++ Ai (deleteE key).fn [a, i, j] 0 (deleteE key).oks)) = z := hz3
     rw [this, hzl]
     exact BJ (by omega)
    simp only [SV.conc, AH, this, Int.toNat_natCast]
   ·have := Me (hs := hs) (nn := 1) (k := 3) (ys := [a, i, j] ++ Ai (deleteE key).fn [a, i, j] 0 (deleteE key).oks) hM hR.im hT (hd' := hd') (by rw [hz3, hz]; exact Bb _) (by rw [hz3]; exact hO) (by
     rw [hz3, hzl]
     intro b hb
     rw [r4] at hb; exact o3 b hb)
    exact this
theorem RM {w : World} {Im : Nat -> Prop} {q : Row} : ∀ (l : RL) (b o : Nat), (∀ i r', l[i]? = some r' -> ∃ us, RowV w Im q r' us /\ ∀ j u, us[j]? = some u -> w.cell? ⟨b, o + i * q.size + j, none⟩ = some u) ->
 ∃ xs, RowsV w Im q l xs /\ ∀ j u, xs[j]? = some u -> w.cell? ⟨b, o + j, none⟩ = some u
 | [], b, o, _ => ⟨[], rfl, fun j u h => by simp at h⟩
 | r :: l, b, o, h => by
   obtain ⟨us, u1, u2⟩ := h 0 r rfl
   obtain ⟨ys, y1, y2⟩ := RM l b (o + q.size) fun i r' hi => by
    obtain ⟨vs, v1, v2⟩ := h (i + 1) r' (by simpa using hi)
    refine ⟨vs, v1, fun j u hu => ?_⟩
    have := v2 j u hu
    rwa [Nat.succ_mul, show o + (i * q.size + q.size) + j = o + q.size + i * q.size + j by omega] at this
   refine ⟨us ++ ys, ⟨us, ys, rfl, u1, y1⟩, fun j u hu => ?_⟩
   have hl := u1.len.1
   by_cases hj : j < us.length
   ·rw [List.getElem?_append_left hj] at hu
    have := u2 j u hu
    rwa [Nat.zero_mul, Nat.add_zero] at this
   ·rw [List.getElem?_append_right (by omega)] at hu
    have := y2 (j - us.length) u hu
    rwa [show o + q.size + (j - us.length) = o + j by omega] at this
theorem Vb (w : World) (Im : Nat -> Prop) (h : Hd) (l : RL) (hsh : ShL w Im tmR h l) (hb : l.length * 16 <= 140737488355328) :
 Calls Try.prog 71 #[h.sl l.length] w fun e w' => ∃ v' xs, e = .returned v' /\ w'.ownsRow 0 65 2 v' l.length xs /\ RowsV w' Im tmR l xs /\ Fr (fun _ => False) w w' /\ ∀ k, v'.ownBlock = some k -> w.heap.size <= k := by
 rcases K5 h l.length with ⟨h1, h2⟩ | h1
 ·rw [h1]
  have : l = [] := List.length_eq_zero_iff.1 h2
  subst this
  refine Calls.mono (U9 w) fun e w' hh => ?_
  obtain ⟨e1, rfl⟩ := hh
  exact ⟨_, [], e1, World.ownsRow_nil _ _ _ _, rfl, Fr.refl _ _, fun k hk => by simp [Value.ownBlock] at hk⟩
 ·rw [h1]
  obtain ⟨xs, x1, x2⟩ := RM l h.blk h.off hsh.2.2.2
  have hl := x1.len
  refine Calls.mono (Th w h.blk h.off l.length h.cap xs hl x2 x1.one hb) fun e w' hh => ?_
  obtain ⟨v', e1, e2, e3, e4⟩ := hh
  exact ⟨v', xs, e1, e2, GA x1, e3, e4⟩
theorem VM (G : Glob) (key : Nat) : EntryOK Try.prog G (cloneE key) := by
 intro xs hf hp w M0 Im0 hs hM hG hR
 obtain ⟨a, rfl⟩ := List.length_eq_one_iff.1 (show xs.length = 1 from Ao hf)
 ·have e0 : env [a] 0 = a := rfl
  have hp : ((dc a).length : Int) < cap8 := hp
  unfold cap8 at hp
  obtain ⟨h1, _⟩ := hR.ent (0, mkB true, .lst 65 tmR false (LEN (.var .x 0)) (.var .x 0)) (List.mem_cons_self ..) (by simp)
  obtain ⟨a1, a2, a3⟩ := h1
  have hd : (E.var .x 0).den F0 (env [a]) = a := rfl
  rw [hd] at a1 a2 a3
  simp only [cond_false] at a3
  have H := Vb w Im0 (hs 0) (dc a) a3 (by omega)
  have hargs : (SV.concL F0 (env [a]) hs (cloneE key).pgen.1).toArray = #[(hs 0).sl (dc a).length] := by
   show #[SV.conc F0 (env [a]) hs (.ls 0 (LEN (.var .x 0)))] = _
   simp only [SV.conc, a2, Int.toNat_natCast]
  rw [hargs]
  refine Calls.mono H fun e w' h => ?_
  obtain ⟨v', xs', r1, r2, r3, r4, r5⟩ := h
  obtain ⟨hd', rfl⟩ := GK r2
  have hz3 : env ([a] ++ Ai (cloneE key).fn [a] 0 (cloneE key).oks) 1 = a := rfl
  refine ⟨upd hs 1 hd', Im0, fun j hj => CJ hs hd' (by have : j < 1 := hj; omega), fun _ h => h, fun b h => Or.inl h, ?_, ?_⟩
  ·rw [r1]
   show _ = Ending.returned (SV.conc F0 _ (upd hs 1 hd') (.ls 1 (LEN (.var .x 1))))
   have : (LEN (.var .x 1)).den F0 (env ([a] ++ Ai (cloneE key).fn [a] 0 (cloneE key).oks)) = ((dc a).length : Nat) := by
    rw [Et.len]
    exact BJ a3.1
   simp only [SV.conc, AH, this, Int.toNat_natCast]
  ·have := Me (hs := hs) (nn := 1) (k := 1) (ys := [a] ++ Ai (cloneE key).fn [a] 0 (cloneE key).oks) hM hR.im (r4.mono fun _ h => h.elim) (hd' := hd') (by rw [hz3]; exact a1)
    (by rw [hz3]; exact ⟨a3.1, xs', r2, GA r3⟩) (by
     rw [hz3]
     intro b hb
     exact Or.inr (r5 b hb))
   exact this
end Go.Proofs.Ytnockichpnaoeaa.Ew.Q
namespace Go.Proofs.Ytnockichpnaoeaa.Ew.Q
open Go Go.RowKit
def G0 : Glob := fun _ _ => none
def i64 : Sh := .sc kJ
def tm : Sh := .agg [i64, i64]
def cmpI (a b : Int) : Int := if a < b then -1 else if b < a then 1 else 0
noncomputable def e44 : Ent := ⟨44, 88, [i64, i64], [], [], i64, fun _ xs => cmpI (env xs 0) (env xs 1), fun _ => True⟩
def c0 : Ctx := ⟨[], []⟩
theorem mixed : Try.prog.follows Departure.mixedOrders = true := by kernel_rfl
theorem c0ok : c0.OK Try.prog G0 := Ctx.OK.nil
def Wb : E := (.lit .b 1)
def Wc : List E := [(.ite (.cmp .lss (vI 0) (vI 1)) (lI (-1)) (.ite (.cmp .gtr (vI 0) (vI 1)) (lI 1) (lI 0)))]
theorem ev_44 : evE Try.prog G0 (Af c0.fs) (ltOf c0.ls) 40 10 e44 = some (Wb, Wc) := by kernel_rfl
theorem ok44 : EntryOK Try.prog G0 e44 := c0ok.entryP mixed ev_44 _ rfl _ rfl fun xs hf _ => by
 match xs, hf with
 | [a, b], hf =>
   obtain ⟨h0, h1, _⟩ := hf
   simp only [Ad, A0] at h0 h1
   refine ⟨by simp only [Wb, ewA, ewL, preC, binI, dvI, shI, cmpB, env, bi, List.headD, List.tail, List.map, Nat.reduceAdd]; simp, ?_, trivial⟩
   simp only [Wc, e44, cmpI, ewA, ewL, preC, binI, dvI, shI, cmpB, env, bi, List.headD, List.tail, List.map, Nat.reduceAdd, h0, h1]
   have w1 : IntKind.i64.wrap (-1) = -1 := i64w (by decide) (by decide)
   have w2 : IntKind.i64.wrap 1 = 1 := i64w (by decide) (by decide)
   have w3 : IntKind.i64.wrap 0 = 0 := i64w (by decide) (by decide)
   by_cases l1 : a < b
   ·simp [l1, w1, w2, w3]
   ·by_cases l2 : b < a <;> simp [l1, l2, w1, w2, w3]
noncomputable def orF (l : RL) : Int := match l with
 | [] => 0
 | r :: l => if r.getD 0 0 ≠ 0 then r.getD 0 0 else orF l
def rowsOK (ks : List K) (l : RL) : Prop := ∀ r ∈ l, fits ks r
def pre43 (xs : List Int) : Prop := env xs 0 = 0 /\ env xs 1 = 0 /\ env xs 3 = ((dc (env xs 2)).length : Int) /\ 0 <= env xs 4 /\ env xs 4 <= env xs 3 /\ env xs 3 <= 100 /\ rowsOK [.i .i64] (dc (env xs 2))
noncomputable def fn43 (j : Nat) (xs : List Int) : Int := let o := orF ((dc (env xs 2)).drop (env xs 4).toNat); if j = 0 then b2i (o == 0) else o
noncomputable def le43 : LEnt := ⟨⟨9043, 999999, [i64, i64, .lst 3 (Row.ofKs [.i .i64]) false, i64, i64], [], [0], .tup [.sc .b, i64], fn43, pre43⟩, [2, 3, 6, 7, 8], [2], [5, 8] ++ (List.range 8).map (· + 9), [.ex 0, .ret], 18, [6]⟩
def Fm : E := (.cmp .neq (aI 0 1 [(vX 2), (vI 4), (.lit .x 0)]) (vI 1))
def Fn : E := (.and (.cmp .lss (vI 4) (vI 3)) (.not Fm))
def Fo : E := (.or (.not (.cmp .lss (vI 4) (vI 3))) (.and Fn (.app .b 9043 0 [(vI 0), (vI 1), (vX 2), (vI 3), (.bin .add .i64 (vI 4) (lI 1))])))
def Fp : E := (aI 9043 1 [(vI 0), (vI 1), (vX 2), (vI 3), (.bin .add .i64 (vI 4) (lI 1))])
def QK : E := (.and (.or (.not (.cmp .lss (vI 4) (vI 3))) (.and (.cmp .geq (vI 4) (lI 0)) (.cmp .lss (vI 4) (aI 0 0 [(vX 2)])))) (.or (.not Fn) (.app .b 9043 1000000 [(vI 0), (vI 1), (vX 2), (vI 3), (.bin .add .i64 (vI 4) (lI 1))])))
def KT : List E := [(.ite Fo (.lit .b 1) (.lit .b 0)), (.ite Fo (.ite (.not (.cmp .lss (vI 4) (vI 3))) (vI 0) Fp) (.ite (.and (.cmp .lss (vI 4) (vI 3)) Fm) (aI 0 1 [(vX 2), (vI 4), (.lit .x 0)]) Fp))]
theorem Xy : evL Try.prog G0 (Af c0.fs) (evFn Try.prog G0 (Af c0.fs) (ltOf c0.ls) 40 10) 40 (subL c0.ls 87 [true,true,false,true,false]) le43 (BQ Try.prog 87 [true,true,false,true,false]) = some (QK, KT) := by kernel_rfl
def mu43 (xs : List Int) : Nat := (env xs 3 - env xs 4).toNat
theorem lo43 : Bc Try.prog G0 87 [true,true,false,true,false] le43 := by
 refine c0ok.loopP mixed mu43 rfl ?_ Xy _ rfl _ rfl ?_
 ·exact ⟨_, _, _, Try.func87, rfl, rfl⟩
 intro n xs hf hp hmu
 obtain ⟨l, hl, S, Sp, -⟩ := M4 le43 mu43 n c0.l (by decide)
 rw [hl]
 match xs, hf with
 | [v, z, c, m, i], hf =>
   obtain ⟨h0, h1, h2, h3, h4, _⟩ := hf
   simp only [Ad, A0] at h0 h1 h2 h3 h4
   obtain ⟨p1, p2, p3, p4, p5, p6, p7⟩ := hp
   simp only [ewA, ewL, preC, binI, dvI, shI, cmpB, env, bi, List.headD, List.tail, List.map, Nat.reduceAdd] at p1 p2 p3 p4 p5 p6 p7
   unfold mu43 at hmu
   simp only [ewA, ewL, preC, binI, dvI, shI, cmpB, env, bi, List.headD, List.tail, List.map, Nat.reduceAdd] at hmu
   subst p1; subst p2
   have w0 : IntKind.i64.wrap 0 = 0 := i64w (by decide) (by decide)
   have w1 : IntKind.i64.wrap 1 = 1 := i64w (by decide) (by decide)
   have hw : IntKind.i64.wrap (dc c).length = (dc c).length := i64w (by omega) (by omega)
   by_cases hlt : i < m
   ·have hs : IntKind.i64.wrap (i + 1) = i + 1 := i64w (by omega) (by omega)
    obtain ⟨r, hr, hm, hd⟩ : ∃ r, (dc c).getD i.toNat [] = r /\ r ∈ dc c /\ (dc c).drop i.toNat = r :: (dc c).drop (i + 1).toNat := by
     have hl : i.toNat < (dc c).length := by omega
     refine ⟨(dc c)[i.toNat], by simp [List.getD, hl], List.getElem_mem hl, ?_⟩
     rw [List.drop_eq_getElem_cons hl, show (i + 1).toNat = i.toNat + 1 by omega]
    have hrw : IntKind.i64.wrap (r.getD 0 0) = r.getD 0 0 := CU (p7 r hm) 0 kJ rfl
    have hS : i2b (K.b.norm (l.F 9043 1000000 [0, 0, c, m, i + 1])) = true := Sp _ ⟨⟨rfl, rfl, p3, by show 0 <= i + 1; omega, by show i + 1 <= m; omega, p6, p7⟩, by show (m - (i + 1)).toNat < n; omega⟩
    have hf : ∀ j x, fn43 j [0, 0, c, m, x] = if j = 0 then b2i (orF ((dc c).drop x.toNat) == 0) else orF ((dc c).drop x.toNat) := fun j x => rfl
    have hp1 : l.F 9043 0 [0, 0, c, m, i + 1] = fn43 0 [0, 0, c, m, i + 1] := S 0 rfl _
    have hp2 : l.F 9043 1 [0, 0, c, m, i + 1] = fn43 1 [0, 0, c, m, i + 1] := S 1 rfl _
    have e1 : le43.ent.fn = fn43 := rfl
    refine ⟨?_, ?_, ?_, trivial⟩
    ·simp only [QK, Fm, Fn, Fo, Fp, ewA, ewL, preC, binI, dvI, shI, cmpB, env, bi, List.headD, List.tail, List.map, Nat.reduceAdd, h3, h4, w0, w1, hs, hr, hS, hw, hrw]
     simp [hlt, p4]; omega
    ·simp only [KT, Fm, Fn, Fo, Fp, ewA, ewL, preC, binI, dvI, shI, cmpB, env, bi, List.headD, List.tail, List.map, Nat.reduceAdd, h3, h4, w0, w1, hs, hr, hrw, hp1, hp2, hf, e1, hd, orF, Nat.zero_add]
     generalize r.getD 0 0 = a
     generalize orF (List.drop (i + 1).toNat (dc c)) = o
     by_cases hz : a = 0
     ·subst hz
      by_cases ho : o = 0
      ·subst ho; simp [hlt, bt, nb1, i2b1]
      ·have e1 : (o == 0) = false := by simpa using ho
       simp [hlt, e1, bf, nb0, i2b0]
     ·have e1 : (a == 0) = false := by simpa using hz
      have e2 : (a != 0) = true := by simpa using hz
      simp [hlt, hz, e1, e2, bf, nb0]
    ·simp only [KT, Fm, Fn, Fo, Fp, ewA, ewL, preC, binI, dvI, shI, cmpB, env, bi, List.headD, List.tail, List.map, Nat.reduceAdd, h3, h4, w0, w1, hs, hr, hrw, hp1, hp2, hf, e1, hd, orF, Nat.zero_add]
     generalize r.getD 0 0 = a at hrw ⊢
     generalize orF (List.drop (i + 1).toNat (dc c)) = o
     by_cases hz : a = 0
     ·subst hz
      by_cases ho : o = 0
      ·subst ho; simp [hlt, bt, nb1, i2b1, w0]
      ·have e1 : (o == 0) = false := by simpa using ho
       simp [hlt, e1, bf, nb0, i2b0]
     ·have e1 : (a == 0) = false := by simpa using hz
      have e2 : (a != 0) = true := by simpa using hz
      simp [hlt, hz, e1, e2, bf, nb0, hrw]
   ·have hd : (dc c).drop i.toNat = [] := List.drop_of_length_le (by omega)
    refine ⟨?_, ?_, ?_, trivial⟩
    ·simp only [QK, Fm, Fn, Fo, Fp, ewA, ewL, preC, binI, dvI, shI, cmpB, env, bi, List.headD, List.tail, List.map, Nat.reduceAdd, h3, h4]
     simp [hlt, b2i, nb1]
    ·simp only [KT, Fm, Fn, Fo, Fp, le43, fn43, orF, hd, ewA, ewL, preC, binI, dvI, shI, cmpB, env, bi, List.headD, List.tail, List.map, Nat.reduceAdd, h3, h4]
     simp [hlt, b2i, nb1]
    ·simp only [KT, Fm, Fn, Fo, Fp, le43, fn43, orF, hd, ewA, ewL, preC, binI, dvI, shI, cmpB, env, bi, List.headD, List.tail, List.map, Nat.reduceAdd, h3, h4]
     simp [hlt, b2i, nb1]
noncomputable def e43 : Ent := ⟨43, 87, [.lst 3 (Row.ofKs [.i .i64]) true], [], [], i64, fun _ xs => orF (dc (env xs 0)), fun xs => (dc (env xs 0)).length <= 100 /\ rowsOK [.i .i64] (dc (env xs 0))⟩
noncomputable def c1 : Ctx := ⟨[e44], [(87, [true,true,false,true,false], le43)]⟩
noncomputable def e42 : Ent := ⟨42, 86, [tm, tm], [], [], i64, fun _ xs => orF [[cmpI (env xs 1) (env xs 3)], [cmpI (env xs 0) (env xs 2)]], fun _ => True⟩
noncomputable def c2 : Ctx := ⟨[e43, e44], [(87, [true,true,false,true,false], le43)]⟩
theorem c1ok : c1.OK Try.prog G0 := (c0ok.addL lo43 rfl).addF ok44 rfl
def Wd : E := (.app .b 9043 1000000 [(lI 0), (lI 0), (vX 0), (aI 0 0 [(vX 0)]), (lI 0)])
def We : List E := [(.ite (.not (.app .b 9043 0 [(lI 0), (lI 0), (vX 0), (aI 0 0 [(vX 0)]), (lI 0)])) (aI 9043 1 [(lI 0), (lI 0), (vX 0), (aI 0 0 [(vX 0)]), (lI 0)]) (lI 0))]
theorem ev_43 : evE Try.prog G0 (Af c1.fs) (ltOf c1.ls) 40 10 e43 = some (Wd, We) := by kernel_rfl
def NF : E := (aX 0 3 [(aX 0 3 [(aX 0 2 []), (aI 44 0 [(vI 1), (vI 3)])]), (aI 44 0 [(vI 0), (vI 2)])])
def Tj : E := (.and (.app .b 44 1000000 [(vI 1), (vI 3)]) (.and (.app .b 44 1000000 [(vI 0), (vI 2)]) (.app .b 43 1000000 [NF])))
def Wf : List E := [(aI 43 0 [NF])]
theorem ev_42 : evE Try.prog G0 (Af c2.fs) (ltOf c2.ls) 40 10 e42 = some (Tj, Wf) := by kernel_rfl
theorem ok43 : EntryOK Try.prog G0 e43 := c1ok.entryP mixed ev_43 _ rfl _ rfl fun xs hf hp => by
 obtain ⟨l, hl, hF⟩ := EU (l0 := c1.l)
 obtain ⟨S, Sp⟩ := hF le43.ent (by rfl) (by decide)
 rw [hl]
 match xs, hf with
 | [c], hf =>
   obtain ⟨p1, p2⟩ := hp
   simp only [ewA, ewL, preC, binI, dvI, shI, cmpB, env, bi, List.headD, List.tail, List.map, Nat.reduceAdd] at p1 p2
   have w0 : IntKind.i64.wrap 0 = 0 := i64w (by decide) (by decide)
   have hw : IntKind.i64.wrap (dc c).length = (dc c).length := i64w (by omega) (by omega)
   have hp : i2b (K.b.norm (l.F 9043 1000000 [0, 0, c, ((dc c).length : Int), 0])) = true := Sp _ ⟨rfl, rfl, rfl, by show (0 : Int) <= 0; omega, by show (0 : Int) <= ((dc c).length : Int); omega, by show ((dc c).length : Int) <= 100; omega, p2⟩
   have f0 : l.F 9043 0 [0, 0, c, ((dc c).length : Int), 0] = b2i (orF (dc c) == 0) := S 0 rfl _
   have f1 : l.F 9043 1 [0, 0, c, ((dc c).length : Int), 0] = orF (dc c) := S 1 rfl _
   refine ⟨?_, ?_, trivial⟩
   ·simp only [Wd, ewA, ewL, preC, binI, dvI, shI, cmpB, env, bi, List.headD, List.tail, List.map, Nat.reduceAdd, w0, hw, hp]
   ·simp only [We, e43, ewA, ewL, preC, binI, dvI, shI, cmpB, env, bi, List.headD, List.tail, List.map, Nat.reduceAdd, w0, hw, f0, f1]
    by_cases ho : orF (dc c) = 0
    ·simp [ho, w0]
    ·have e1 : (orF (dc c) == 0) = false := by simpa using ho
     simp [e1]
theorem ok42 : EntryOK Try.prog G0 e42 := (c1ok.addF ok43 rfl).entryP mixed ev_42 _ rfl _ rfl fun xs hf hp => by
 obtain ⟨l, hl, hF⟩ := EU (l0 := c2.l)
 obtain ⟨S, Sp⟩ := hF e43 (by rfl) (by decide)
 obtain ⟨R, Rp⟩ := hF e44 (by rfl) (by decide)
 show Tj.tt c2.l.F _ = true /\ Aq _ _ c2.l.F _ _ _ _
 rw [hl]
 match xs, hf with
 | [a, b, c, d], hf =>
   obtain ⟨h0, h1, h2, h3, _⟩ := hf
   simp only [Ad] at h0 h1 h2 h3
   refine ⟨?_, ?_, trivial⟩
   ·have g1 : ∀ xs, i2b (K.b.norm (l.F 44 1000000 xs)) = true := fun xs => Rp xs trivial
    have w : ∀ x y, IntKind.i64.wrap (cmpI x y) = cmpI x y := fun x y => by
     unfold cmpI; split
     ·exact i64w (by decide) (by decide)
     ·split <;> exact i64w (by decide) (by decide)
    have g2 : ∀ xs, l.F 44 0 xs = cmpI (env xs 0) (env xs 1) := fun xs => R 0 rfl xs
    have g3 : ∀ x y, i2b (K.b.norm (l.F 43 1000000 [cd [[cmpI a b], [cmpI x y]]])) = true := fun x y => Sp _ ⟨by simp [env], by simp [env, rowsOK, fits, K.norm, w]⟩
    simp only [Tj, NF, ewA, ewL, preC, binI, dvI, shI, cmpB, env, bi, List.headD, List.tail, List.map, Nat.reduceAdd, g1, g2, g3, w, h0, h1, h2, h3, Bool.and_self]
    exact Sp _ ⟨by simp [env], by simp [env, rowsOK, fits, K.norm, w]⟩
   ·have w : ∀ x y, IntKind.i64.wrap (cmpI x y) = cmpI x y := fun x y => by
     unfold cmpI; split
     ·exact i64w (by decide) (by decide)
     ·split <;> exact i64w (by decide) (by decide)
    have g2 : ∀ xs, l.F 44 0 xs = cmpI (env xs 0) (env xs 1) := fun xs => R 0 rfl xs
    have g3 : ∀ xs, l.F 43 0 xs = orF (dc (env xs 0)) := fun xs => S 0 rfl xs
    simp only [Wf, NF, e42, ewA, ewL, preC, binI, dvI, shI, cmpB, env, bi, List.headD, List.tail, List.map, Nat.reduceAdd, g2, g3, w, h0, h1, h2, h3]
end Go.Proofs.Ytnockichpnaoeaa.Ew.Q
namespace Go.Proofs.Ytnockichpnaoeaa.Ew.Q
open Go Go.RowKit
noncomputable section
def cmpT (a b : List Int) : Int := orF [[cmpI (a.getD 1 0) (b.getD 1 0)], [cmpI (a.getD 0 0) (b.getD 0 0)]]
def ltT (a b : List Int) : Bool := decide (a.getD 1 0 < b.getD 1 0) || (decide (a.getD 1 0 = b.getD 1 0) && decide (a.getD 0 0 < b.getD 0 0))
def srtT (l : RL) : Prop := l.Pairwise fun a b => ltT a b = true
def cnt (l : RL) (t : List Int) : Nat := (l.filter fun r => ltT r t).length
def tgt (xs : List Int) (i : Nat) : List Int := [env xs i, env xs (i + 1)]
def pre41 (xs : List Int) : Prop := srtT (dc (env xs 0)) /\ rowsOK tmK (dc (env xs 0)) /\ ((dc (env xs 0)).length : Int) < cap8
def preL41 (xs : List Int) : Prop := pre41 xs /\ 0 <= env xs 3 /\ env xs 3 <= cnt (dc (env xs 0)) (tgt xs 1) /\ (cnt (dc (env xs 0)) (tgt xs 1) : Int) <= env xs 4 /\ env xs 4 <= ((dc (env xs 0)).length : Int)
noncomputable def fnL41 (_ : Nat) (xs : List Int) : Int := (cnt (dc (env xs 0)) (tgt xs 1) : Int)
noncomputable def le41 : LEnt := ⟨⟨9041, 999999, [.lst 65 tmR false, .fnc 86 [], .obj 65 [i64, i64], i64, i64], [], [0, 1], .tup [i64], fnL41, preL41⟩, [0, 2, 4, 9, 10], [9], [10, 11] ++ (List.range 20).map (· + 15), [.ex 0], 49, [0]⟩
noncomputable def fn41 (j : Nat) (xs : List Int) : Int := let l := dc (env xs 0); let k := cnt l (tgt xs 1); if j = 0 then (k : Int) else b2i (decide (k < l.length) && decide (cmpT (l.getD k []) (tgt xs 1) = 0))
noncomputable def e41 : Ent := ⟨41, 85, [.lst 65 tmR false, tm, .fnc 86 []], [], [0], .tup [i64, .sc .b], fn41, pre41⟩
noncomputable def c3 : Ctx := ⟨[e42], []⟩
noncomputable def c4 : Ctx := ⟨[e42], [(85, [true,true,true,false,false], le41)]⟩
def qo : Sh := .obj 89 [.lt .b 1, i64, .lst 65 tmR true, .mp [.i .i64] [.i .i64] false false]
noncomputable def c5 : Ctx := ⟨[e41], []⟩
noncomputable def e33 : Ent := ⟨33, 55, [qo, tm], [], [0, 1, 2], i64, fun j xs => fn41 0 [env xs 1, env xs 3, env xs 4], fun xs => pre41 [env xs 1, env xs 3, env xs 4]⟩
theorem HW {a b c : List Int} (h1 : ltT a b = true) (h2 : ltT b c = true) : ltT a c = true := by
 simp only [ltT, Bool.or_eq_true, Bool.and_eq_true, decide_eq_true_eq] at *
 omega
theorem QL (r : List Int) (l : RL) (t : List Int) : cnt (r :: l) t = (if ltT r t then 1 else 0) + cnt l t := by
 unfold cnt
 rw [List.filter_cons]
 split
 ·simp; omega
 ·simp
theorem Gt (l : RL) (t : List Int) : cnt l t <= l.length := List.length_filter_le _ _
theorem QM {t : List Int} : ∀ {l : RL}, srtT l -> ∀ h, h < l.length -> (ltT (l.getD h []) t = true ↔ h < cnt l t)
 | [], _, h, hh => by simp at hh
 | r :: l, hs, h, hh => by
   obtain ⟨s1, s2⟩ := List.pairwise_cons.1 hs
   rw [QL]
   by_cases hr : ltT r t = true
   ·cases h with
    | zero => exact ⟨fun _ => by rw [if_pos hr]; omega, fun _ => by simpa using hr⟩
    | succ h =>
      have := QM (t := t) s2 h (by simpa using hh)
      simp only [List.getD_cons_succ, hr, if_true]
      rw [this]; omega
   ·have hz : ∀ x ∈ l, ¬ ltT x t = true := fun x hx h' => hr (HW (s1 x hx) h')
    have h0 : cnt l t = 0 := by
     unfold cnt
     rw [List.filter_eq_nil_iff.2 hz]; rfl
    rw [h0]
    cases h with
    | zero => simp [hr]
    | succ h =>
      have hl : h < l.length := by simpa using hh
      have := hz (l.getD h []) (by simp [List.getD, hl])
      exact ⟨fun h' => absurd (by simpa using h') this, fun h' => by rw [if_neg hr] at h'; omega⟩
theorem QN (a b : Int) : cmpI a b < 0 ↔ a < b := by unfold cmpI; split <;> (try split) <;> omega
theorem Vc (a b : Int) : cmpI a b = 0 ↔ a = b := by unfold cmpI; split <;> (try split) <;> omega
theorem orF2 (x y : Int) : orF [[x], [y]] = if x ≠ 0 then x else y := by
 simp only [orF, List.getD_cons_zero]
 by_cases h : x = 0
 ·by_cases g : y = 0 <;> simp [h, g]
 ·simp [h]
theorem VN (a b : List Int) : cmpT a b < 0 ↔ ltT a b = true := by
 unfold cmpT ltT
 rw [orF2]
 simp only [Bool.or_eq_true, Bool.and_eq_true, decide_eq_true_eq]
 have h1 := Vc (a.getD 1 0) (b.getD 1 0)
 have h2 := QN (a.getD 1 0) (b.getD 1 0)
 have h3 := QN (a.getD 0 0) (b.getD 0 0)
 split
 ·rename_i h
  rw [h2]
  have : ¬ (a.getD 1 0 = b.getD 1 0) := fun e => h (h1.2 e)
  omega
 ·rename_i h
  have := h1.1 (by simpa using h)
  rw [h3]; omega
theorem QO (a b : List Int) : IntKind.i64.wrap (cmpT a b) = cmpT a b := by
 have w : ∀ x y, -1 <= cmpI x y /\ cmpI x y <= 1 := fun x y => by unfold cmpI; split <;> (try split) <;> omega
 unfold cmpT; rw [orF2]
 have := w (a.getD 1 0) (b.getD 1 0)
 have := w (a.getD 0 0) (b.getD 0 0)
 split <;> exact i64w (by omega) (by omega)
theorem Xz {i j : Int} (h1 : 0 <= i) (h2 : i <= j) (h3 : j < 4000000000000000000) : IntKind.i64.wrap (shI .shr .u64 (IntKind.u64.wrap (IntKind.i64.wrap (i + j))) (IntKind.u64.wrap 1)) = (i + j) / 2 := by
 rw [i64w (z := i + j) (by omega) (by omega)]
 have e1 : IntKind.u64.wrap (i + j) = i + j := by
  simp only [IntKind.wrap, IntKind.signed, IntKind.bits]; simp; omega
 have e2 : IntKind.u64.wrap 1 = 1 := by decide
 rw [e1, e2]
 show IntKind.i64.wrap ((i + j).fdiv (2 ^ 1)) = _
 rw [Int.fdiv_eq_ediv_of_nonneg _ (by decide)]
 exact i64w (by simp; omega) (by simp; omega)
def DU : E := (.conv .i64 (.sh .shr .u64 (.conv .u64 (.bin .add .i64 (vI 3) (vI 4))) (.lit (.i .u64) 1)))
def Hg : E := (.and (.cmp .geq DU (lI 0)) (.cmp .lss DU (aI 0 0 [(vX 0)])))
def Hh : E := (aI 0 1 [(vX 0), DU, (.lit .x 0)])
def Hi : E := (aI 0 1 [(vX 0), DU, (.lit .x 1)])
def Hj : E := (.cmp .lss (aI 42 0 [Hh, Hi, (vI 1), (vI 2)]) (lI 0))
def Hk : E := (.ite Hj (.bin .add .i64 DU (lI 1)) (vI 3))
def Hl : E := (.ite Hj (vI 4) DU)
def QP : E := (.and (.or (.not (.cmp .lss (vI 3) (vI 4))) (.and Hg (.and Hg (.app .b 42 1000000 [Hh, Hi, (vI 1), (vI 2)])))) (.or (.not (.cmp .lss (vI 3) (vI 4))) (.app .b 9041 1000000 [(vX 0), (vI 1), (vI 2), Hk, Hl])))
def QQ : List E := [(.ite (.not (.cmp .lss (vI 3) (vI 4))) (vI 3) (aI 9041 0 [(vX 0), (vI 1), (vI 2), Hk, Hl]))]
theorem XA : evL Try.prog G0 (Af c3.fs) (evFn Try.prog G0 (Af c3.fs) (ltOf c3.ls) 40 10) 40 (subL c3.ls 85 [true,true,true,false,false]) le41 (BQ Try.prog 85 [true,true,true,false,false]) = some (QP, QQ) := by kernel_rfl
def GB : E := (aI 9041 0 [(vX 0), (vI 1), (vI 2), (lI 0), (aI 0 0 [(vX 0)])])
def IQ : E := (.cmp .lss GB (aI 0 0 [(vX 0)]))
def KU : E := (.not IQ)
def KV : E := (.or KU (.and (.cmp .geq GB (lI 0)) IQ))
def KW : E := (aI 0 1 [(vX 0), GB, (.lit .x 0)])
def KX : E := (aI 0 1 [(vX 0), GB, (.lit .x 1)])
def Tk : E := (.and (.app .b 9041 1000000 [(vX 0), (vI 1), (vI 2), (lI 0), (aI 0 0 [(vX 0)])]) (.and KV (.and KV (.or KU (.app .b 42 1000000 [KW, KX, (vI 1), (vI 2)])))))
def Tp : List E := [GB, (.and IQ (.cmp .eql (aI 42 0 [KW, KX, (vI 1), (vI 2)]) (lI 0)))]
theorem ev_41 : evE Try.prog G0 (Af c4.fs) (ltOf c4.ls) 40 10 e41 = some (Tk, Tp) := by kernel_rfl
def Wg : E := (.app .b 41 1000000 [(vX 1), (vI 3), (vI 4)])
def Wh : List E := [(aI 41 0 [(vX 1), (vI 3), (vI 4)])]
theorem ev_33 : evE Try.prog G0 (Af c5.fs) (ltOf c5.ls) 40 10 e33 = some (Wg, Wh) := by kernel_rfl
theorem c2ok : c2.OK Try.prog G0 := c1ok.addF ok43 rfl
theorem c3ok : c3.OK Try.prog G0 := (c2ok.addF ok42 rfl).sub rfl (by simp [c3]) (by simp [c3])
theorem lo41 : Bc Try.prog G0 85 [true,true,true,false,false] le41 := by
 refine c3ok.loopP mixed (fun xs => (env xs 4 - env xs 3).toNat) rfl ?_ XA _ rfl _ rfl ?_
 ·exact ⟨_, _, _, Try.func85, rfl, rfl⟩
 intro n xs hf hp hmu
 obtain ⟨l, hl, S, Sp, hF⟩ := M4 le41 (fun xs => (env xs 4 - env xs 3).toNat) n c3.l (by decide)
 obtain ⟨R, Rp⟩ := hF e42 (by rfl) (by decide) (by decide)
 rw [hl]
 match xs, hf with
 | [c, a, b, i, j], hf =>
   obtain ⟨h0, h1, h2, h3, h4, _⟩ := hf
   simp only [Ad, A0] at h0 h1 h2 h3 h4
   obtain ⟨⟨p1, p2, p3⟩, p4, p5, p6, p7⟩ := hp
   simp only [ewA, ewL, preC, binI, dvI, shI, cmpB, env, bi, List.headD, List.tail, List.map, Nat.reduceAdd, tgt] at p1 p2 p3 p4 p5 p6 p7 hmu
   unfold cap8 at p3
   have w0 : IntKind.i64.wrap 0 = 0 := i64w (by decide) (by decide)
   have w1 : IntKind.i64.wrap 1 = 1 := i64w (by decide) (by decide)
   have hw : IntKind.i64.wrap (dc c).length = (dc c).length := i64w (by omega) (by omega)
   have f9 : ∀ xs, l.F 9041 0 xs = (cnt (dc (env xs 0)) (tgt xs 1) : Int) := fun xs => S 0 rfl xs
   have f42 : ∀ xs, l.F 42 0 xs = orF [[cmpI (env xs 1) (env xs 3)], [cmpI (env xs 0) (env xs 2)]] := fun xs => R 0 rfl xs
   have e1 : le41.ent.fn = fnL41 := rfl
   by_cases hlt : i < j
   ·obtain ⟨h, hh⟩ : ∃ h, h = (i + j) / 2 := ⟨_, rfl⟩
    have hm := Xz p4 (by omega : i <= j) (by omega)
    have hs : IntKind.i64.wrap (h + 1) = h + 1 := i64w (by omega) (by omega)
    have hsh : IntKind.i64.wrap h = h := i64w (by omega) (by omega)
    obtain ⟨r, hr, hrm⟩ : ∃ r, (dc c).getD h.toNat [] = r /\ r ∈ dc c := by
     have hl : h.toNat < (dc c).length := by omega
     exact ⟨(dc c)[h.toNat], by simp [List.getD, hl], List.getElem_mem hl⟩
    have hr0 : IntKind.i64.wrap (r.getD 0 0) = r.getD 0 0 := CU (p2 r hrm) 0 kJ rfl
    have hr1 : IntKind.i64.wrap (r.getD 1 0) = r.getD 1 0 := CU (p2 r hrm) 1 kJ rfl
    have hspec := QM (t := [a, b]) p1 h.toNat (by omega)
    rw [hr, <- VN] at hspec
    have hc : orF [[cmpI (r.getD 1 0) b], [cmpI (r.getD 0 0) a]] = cmpT r [a, b] := rfl
    simp only [shI] at hm
    refine ⟨?_, ?_, trivial⟩
    ·simp only [QP, DU, Hg, Hh, Hi, Hj, Hk, Hl, ewA, ewL, preC, binI, dvI, shI, cmpB, env, bi, List.headD, List.tail, List.map, Nat.reduceAdd, h0, h1, h2, h3, h4, w0, w1, hw, hm, <- hh, hs, hr, hr0, hr1, f9, f42, tgt, Int.toNat_natCast, hsh, hc, QO]
     have h42 : i2b (K.b.norm (l.F 42 1000000 [r.getD 0 0, r.getD 1 0, a, b])) = true := Rp _ trivial
     have hx : ∀ x y, 0 <= x -> x <= (cnt (dc c) [a, b] : Int) -> (cnt (dc c) [a, b] : Int) <= y -> y <= ((dc c).length : Int) -> (y - x).toNat < n -> i2b (K.b.norm (l.F 9041 1000000 [c, a, b, x, y])) = true := fun x y g1 g2 g3 g4 g5 =>
      Sp _ ⟨⟨⟨p1, p2, by show ((dc c).length : Int) < cap8; unfold cap8; omega⟩, g1, g2, g3, g4⟩, g5⟩
     have hb1 : decide (h >= 0) = true := by simp; omega
     have hb2 : decide (h < ((dc c).length : Int)) = true := by simp; omega
     simp only [h42, hb1, hb2, Bool.and_self, Bool.or_true, Bool.true_and, Bool.or_eq_true]
     right
     by_cases hq : cmpT r [a, b] < 0
     ·have := hspec.1 hq
      simp only [hq, decide_true, cond_true]
      exact hx _ _ (by omega) (by omega) p6 p7 (by omega)
     ·have : ¬ h.toNat < cnt (dc c) [a, b] := fun e => hq (hspec.2 e)
      simp only [hq, decide_false, cond_false]
      exact hx _ _ p4 p5 (by omega) (by omega) (by omega)
    ·simp only [QQ, DU, Hg, Hh, Hi, Hj, Hk, Hl, e1, fnL41, ewA, ewL, preC, binI, dvI, shI, cmpB, env, bi, List.headD, List.tail, List.map, Nat.reduceAdd, h0, h1, h2, h3, h4, w0, w1, hw, hm, <- hh, hs, hr, hr0, hr1, f9, f42, tgt, Int.toNat_natCast, hsh, hc, QO]
     simp [hlt]
   ·refine ⟨?_, ?_, trivial⟩
    ·simp only [QP, DU, Hg, Hh, Hi, Hj, Hk, Hl, ewA, ewL, preC, binI, dvI, shI, cmpB, env, bi, List.headD, List.tail, List.map, Nat.reduceAdd, h3, h4]
     simp [hlt]
    ·simp only [QQ, DU, Hg, Hh, Hi, Hj, Hk, Hl, e1, fnL41, ewA, ewL, preC, binI, dvI, shI, cmpB, env, bi, List.headD, List.tail, List.map, Nat.reduceAdd, h3, h4, tgt]
     have : (cnt (dc c) [a, b] : Int) = i := by omega
     simp [hlt, this, h3]
theorem ok41 : EntryOK Try.prog G0 e41 := (c3ok.addL lo41 rfl).entryP mixed ev_41 _ rfl _ rfl fun xs hf hp => by
 obtain ⟨l, hl, hF⟩ := EU (l0 := c4.l)
 obtain ⟨S, Sp⟩ := hF le41.ent (by rfl) (by decide)
 obtain ⟨R, Rp⟩ := hF e42 (by rfl) (by decide)
 show Tk.tt c4.l.F _ = true /\ Aq _ _ c4.l.F _ _ _ _
 rw [hl]
 match xs, hf with
 | [c, a, b], hf =>
   obtain ⟨h0, h1, h2, _⟩ := hf
   simp only [Ad] at h0 h1 h2
   obtain ⟨p1, p2, p3⟩ := hp
   simp only [ewA, ewL, preC, binI, dvI, shI, cmpB, env, bi, List.headD, List.tail, List.map, Nat.reduceAdd] at p1 p2 p3
   unfold cap8 at p3
   have w0 : IntKind.i64.wrap 0 = 0 := i64w (by decide) (by decide)
   have hw : IntKind.i64.wrap (dc c).length = (dc c).length := i64w (by omega) (by omega)
   obtain ⟨k, hkk⟩ : ∃ k, cnt (dc c) [a, b] = k := ⟨_, rfl⟩
   have hkl : k <= (dc c).length := hkk ▸ Gt _ _
   have hkt : IntKind.i64.wrap (k : Int) = (k : Int) := i64w (by omega) (by omega)
   have f9 : l.F 9041 0 [c, a, b, 0, ((dc c).length : Int)] = (k : Int) := by rw [<- hkk]; exact S 0 rfl _
   have hp9 : i2b (K.b.norm (l.F 9041 1000000 [c, a, b, 0, ((dc c).length : Int)])) = true := Sp _ ⟨⟨p1, p2, by show ((dc c).length : Int) < cap8; unfold cap8; omega⟩, by show (0 : Int) <= 0; omega, by show (0 : Int) <= (cnt (dc c) [a, b] : Int); omega, by show (cnt (dc c) [a, b] : Int) <= ((dc c).length : Int); omega, by show ((dc c).length : Int) <= ((dc c).length : Int); omega⟩
   have f42 : ∀ xs, l.F 42 0 xs = orF [[cmpI (env xs 1) (env xs 3)], [cmpI (env xs 0) (env xs 2)]] := fun xs => R 0 rfl xs
   have hge : decide ((k : Int) >= 0) = true := by simp
   refine ⟨?_, ?_, ?_, trivial⟩
   ·simp only [Tk, GB, IQ, KU, KV, KW, KX, ewA, ewL, preC, binI, dvI, shI, cmpB, env, bi, List.headD, List.tail, List.map, Nat.reduceAdd, h0, h1, h2, w0, hw, f9, hkt, hp9, hge, f42]
    by_cases hlt : (k : Int) < ((dc c).length : Int)
    ·have h42 : ∀ xs, i2b (K.b.norm (l.F 42 1000000 xs)) = true := fun xs => Rp xs trivial
     simp [hlt, h42]
    ·simp [hlt]
   ·simp only [Tp, GB, IQ, KU, KV, KW, KX, e41, ewA, ewL, preC, binI, dvI, shI, cmpB, env, bi, List.headD, List.tail, List.map, Nat.reduceAdd, h0, h1, h2, w0, hw, f9, hkt, fn41, tgt, hkk]
    simp [hkt]
   ·simp only [Tp, GB, IQ, KU, KV, KW, KX, e41, ewA, ewL, preC, binI, dvI, shI, cmpB, env, bi, List.headD, List.tail, List.map, Nat.reduceAdd, h0, h1, h2, w0, hw, f9, hkt, fn41, tgt, f42, hkk]
    by_cases hlt : k < (dc c).length
    ·obtain ⟨r, hr, hrm⟩ : ∃ r, (dc c).getD k [] = r /\ r ∈ dc c := ⟨(dc c)[k], by simp [List.getD, hlt], List.getElem_mem hlt⟩
     have hr0 : IntKind.i64.wrap (r.getD 0 0) = r.getD 0 0 := CU (p2 r hrm) 0 kJ rfl
     have hr1 : IntKind.i64.wrap (r.getD 1 0) = r.getD 1 0 := CU (p2 r hrm) 1 kJ rfl
     have hc : orF [[cmpI (r.getD 1 0) b], [cmpI (r.getD 0 0) a]] = cmpT r [a, b] := rfl
     simp only [hr, hr0, hr1, hc, QO, hkt, Nat.zero_add, if_neg (show ¬ (1 : Nat) = 0 by decide)]
     simp only [DY, hlt, decide_true, Bool.true_and, Int.ofNat_lt]
     by_cases hz : cmpT r [a, b] = 0
     ·simp [hz]
     ·have e : (cmpT r [a, b] == 0) = false := by simpa using hz
      simp [hz, e]
    ·simp [hlt, bf, nb0]
theorem c5ok : c5.OK Try.prog G0 := (c3ok.addF ok41 rfl).sub rfl (by simp [c5]) (by simp [c5])
theorem ok33 : EntryOK Try.prog G0 e33 := c5ok.entryP mixed ev_33 _ rfl _ rfl fun xs hf hp => by
 obtain ⟨l, hl, hF⟩ := EU (l0 := c5.l)
 obtain ⟨S, Sp⟩ := hF e41 (by rfl) (by decide)
 rw [hl]
 match xs, hf with
 | [now, tc, mc, a, b], hf =>
   obtain ⟨h0, h1, h2, h3, h4, _⟩ := hf
   simp only [Ad] at h0 h1 h2 h3 h4
   refine ⟨?_, ?_, trivial⟩
   ·simp only [Wg, ewA, ewL, preC, binI, dvI, shI, cmpB, env, bi, List.headD, List.tail, List.map, Nat.reduceAdd, h3, h4]
    exact Sp _ hp
   ·have f0 : ∀ xs, l.F 41 0 xs = fn41 0 xs := fun xs => S 0 rfl xs
    simp only [Wh, e33, ewA, ewL, preC, binI, dvI, shI, cmpB, env, bi, List.headD, List.tail, List.map, Nat.reduceAdd, h3, h4, f0]
def idR (r : List Int) : Int := r.getD 0 0
def dlR (r : List Int) : Int := r.getD 1 0
theorem ltT_irr (a : List Int) : ltT a a = false := by simp [ltT]
theorem ltT_iff {a b : List Int} : ltT a b = true ↔ dlR a < dlR b \/ (dlR a = dlR b /\ idR a < idR b) := by
 simp only [ltT, dlR, idR, Bool.or_eq_true, Bool.and_eq_true, decide_eq_true_eq]
theorem Hy {t : List Int} : ∀ {l : RL}, srtT l -> l.take (cnt l t) = l.filter (fun r => ltT r t) /\ l.drop (cnt l t) = l.filter (fun r => !ltT r t)
 | [], _ => ⟨rfl, rfl⟩
 | r :: l, h => by
   obtain ⟨s1, s2⟩ := List.pairwise_cons.1 h
   obtain ⟨i1, i2⟩ := Hy (t := t) s2
   rw [QL]
   by_cases hr : ltT r t = true
   ·rw [if_pos hr, Nat.add_comm, List.take_succ_cons, List.drop_succ_cons, i1, i2]
    simp [List.filter_cons, hr]
   ·have hz : ∀ x ∈ l, ¬ ltT x t = true := fun x hx h' => hr (HW (s1 x hx) h')
    have h0 : cnt l t = 0 := by
     unfold cnt
     rw [List.filter_eq_nil_iff.2 hz]; rfl
    rw [if_neg hr, h0]
    refine ⟨?_, ?_⟩
    ·simp only [Nat.add_zero, List.take_zero]
     symm
     rw [List.filter_eq_nil_iff]
     intro x hx
     rcases List.mem_cons.1 hx with rfl | hx
     ·exact hr
     ·exact hz x hx
    ·simp only [Nat.add_zero, List.drop_zero]
     symm
     rw [List.filter_eq_self]
     intro x hx
     rcases List.mem_cons.1 hx with rfl | hx
     ·simpa using hr
     ·simpa using hz x hx
theorem Vd : ∀ {a b : RL}, srtT a -> srtT b -> a.Perm b -> a = b
 | [], b, _, _, h => (List.nil_perm.1 h).symm
 | x :: a, [], _, _, h => absurd h.length_eq (by simp)
 | x :: a, y :: b, ha, hb, h => by
   obtain ⟨a1, a2⟩ := List.pairwise_cons.1 ha
   obtain ⟨b1, b2⟩ := List.pairwise_cons.1 hb
   have hxy : x = y := by
    rcases List.mem_cons.1 (h.subset (List.mem_cons_self ..)) with e | hx
    ·exact e
    ·rcases List.mem_cons.1 (h.symm.subset (List.mem_cons_self ..)) with e | hy
     ·exact e.symm
     ·have := HW (a1 y hy) (b1 x hx)
      rw [ltT_irr] at this; cases this
   subst hxy
   rw [Vd a2 b2 (List.Perm.cons_inv h)]
def delT (i : Int) (T : RL) : RL := T.filter fun r => idR r != i
def insT (t : List Int) (T : RL) : RL := T.take (cnt T t) ++ [t] ++ T.drop (cnt T t)
structure QI (now : Int) (T M : RL) : Prop where
 srt : srtT T
 row : rowsOK tmK T
 mrt : SortedR 1 M
 perm : T.Perm M
 rng : ∀ r ∈ T, 0 <= idR r /\ idR r < 4096 /\ now < dlR r /\ dlR r <= now + 2147483648
 tim : 0 <= now /\ now <= 1099511627776
theorem row_eq {r : List Int} (h : fits tmK r) : ∃ i d, r = [i, d] /\ IntKind.i64.wrap i = i /\ IntKind.i64.wrap d = d := by
 match r, h with
 | [i, d], h => exact ⟨i, d, rfl, h.1, h.2.1⟩
theorem QI.uid {now : Int} {T M : RL} (h : QI now T M) : ∀ {a b : List Int}, a ∈ T -> b ∈ T -> idR a = idR b -> a = b := by
 intro a b ha hb hab
 have hne := h.mrt.ne
 obtain ⟨i, d, rfl, _⟩ := row_eq (h.row a ha)
 obtain ⟨j, e, rfl, _⟩ := row_eq (h.row b hb)
 have hij : i = j := hab
 subst hij
 by_cases hde : d = e
 ·rw [hde]
 ·exfalso
  have ha' := h.perm.subset ha
  have hb' := h.perm.subset hb
  have : ∀ {l : RL}, l.Pairwise (fun a b => a.take 1 ≠ b.take 1) -> [i, d] ∈ l -> [i, e] ∈ l -> False := by
   intro l hl h1 h2
   induction l with
   | nil => cases h1
   | cons x l ih =>
     obtain ⟨p1, p2⟩ := List.pairwise_cons.1 hl
     rcases List.mem_cons.1 h1 with g1 | g1
     ·rcases List.mem_cons.1 h2 with g2 | g2
      ·rw [<- g1] at g2; simp at g2; exact hde g2.symm
      ·exact p1 _ g2 (by rw [<- g1]; rfl)
     ·rcases List.mem_cons.1 h2 with g2 | g2
      ·exact p1 _ g1 (by rw [<- g2]; rfl)
      ·exact ih p2 g1 g2
  exact this hne ha' hb'
theorem Ve : ∀ {l : RL} {a b : Int}, SortedR 1 l -> rowsOK tmK l -> (∀ r ∈ l, a <= idR r /\ idR r < b) -> a <= b -> (l.length : Int) <= b - a
 | [], a, b, _, _, _, h => by simp; omega
 | r :: l, a, b, hs, hr, hb, hab => by
   obtain ⟨s1, s2⟩ := SortedR.cons.1 hs
   obtain ⟨r1, r2⟩ := hb r (List.mem_cons_self ..)
   have := Ve (a := idR r + 1) (b := b) s2 (fun x hx => hr x (List.mem_cons_of_mem _ hx)) (fun x hx => by
    obtain ⟨i, d, rfl, _⟩ := row_eq (hr r (List.mem_cons_self ..))
    obtain ⟨j, e, rfl, _⟩ := row_eq (hr x (List.mem_cons_of_mem _ hx))
    have h1 := s1 _ hx
    have h2 := (hb _ (List.mem_cons_of_mem _ hx)).2
    refine ⟨?_, h2⟩
    simp only [List.take, ltR] at h1
    show i + 1 <= j
    by_cases hij : i < j
    ·omega
    ·simp [hij] at h1) (by omega)
   simp only [List.length_cons]; omega
theorem QI.len {now : Int} {T M : RL} (h : QI now T M) : (T.length : Int) <= 4096 := by
 have := Ve (a := 0) (b := 4096) h.mrt (fun r hr => h.row r (h.perm.symm.subset hr)) (fun r hr => by
  have := h.rng r (h.perm.symm.subset hr); omega) (by omega)
 rw [h.perm.length_eq]; omega
theorem QI.has {now : Int} {T M : RL} (h : QI now T M) (i : Int) : (M.any fun r => r.take [i].length == [i]) = true ↔ ∃ d, [i, d] ∈ T := by
 rw [List.any_eq_true]
 constructor
 ·rintro ⟨r, hr, he⟩
  obtain ⟨j, d, rfl, _⟩ := row_eq (h.row r (h.perm.symm.subset hr))
  simp at he
  subst he
  exact ⟨d, h.perm.symm.subset hr⟩
 ·rintro ⟨d, hd⟩
  exact ⟨_, h.perm.subset hd, by simp⟩
theorem QI.val {now : Int} {T M : RL} (h : QI now T M) {i d : Int} (hd : [i, d] ∈ T) (x : List Int) : ((M.find? fun r => r.take [i].length == [i]).getD x) = [i, d] := by
 cases hf : M.find? (fun r => r.take [i].length == [i]) with
 | none =>
   rw [List.find?_eq_none] at hf
   exact absurd (by simp) (hf _ (h.perm.subset hd))
 | some r =>
   have h1 := List.mem_of_find?_eq_some hf
   have h2 := List.find?_some hf
   have h3 := h.perm.symm.subset h1
   obtain ⟨j, e, rfl, _⟩ := row_eq (h.row r h3)
   have : j = i := by simpa using h2
   subst this
   simp only [Option.getD_some]
   exact h.uid h3 hd rfl
theorem RN {T : RL} (h : srtT T) (i : Int) : srtT (delT i T) := List.Pairwise.filter _ h
theorem WR {now : Int} {T M : RL} (h : QI now T M) {i d : Int} (hd : [i, d] ∈ T) : T.take (cnt T [i, d]) ++ T.drop (cnt T [i, d] + 1) = delT i T := by
 obtain ⟨t1, t2⟩ := Hy (t := [i, d]) h.srt
 have hk : cnt T [i, d] < T.length := by
  have hm : [i, d] ∈ T.drop (cnt T [i, d]) := by rw [t2]; exact List.mem_filter.2 ⟨hd, by simp [ltT_irr]⟩
  have := List.length_pos_of_mem hm
  rw [List.length_drop] at this; omega
 have hc : T.drop (cnt T [i, d]) = T[cnt T [i, d]] :: T.drop (cnt T [i, d] + 1) := List.drop_eq_getElem_cons hk
 have hsd : srtT (T.drop (cnt T [i, d])) := List.Pairwise.sublist (List.drop_sublist _ _) h.srt
 have hfirst : T[cnt T [i, d]] = [i, d] := by
  have hm : [i, d] ∈ T.drop (cnt T [i, d]) := by rw [t2]; exact List.mem_filter.2 ⟨hd, by simp [ltT_irr]⟩
  rw [hc] at hm hsd
  rcases List.mem_cons.1 hm with e | hm
  ·exact e.symm
  ·have h1 := (List.pairwise_cons.1 hsd).1 _ hm
   have h2 : T[cnt T [i, d]] ∈ T.drop (cnt T [i, d]) := by rw [hc]; exact List.mem_cons_self ..
   rw [t2] at h2
   have := (List.mem_filter.1 h2).2
   simp [h1] at this
 apply Vd
 ·refine List.Pairwise.sublist ?_ h.srt
  have := (List.sublist_cons_self (T[cnt T [i, d]]) (T.drop (cnt T [i, d] + 1)))
  rw [<- hc] at this
  have := List.Sublist.append (List.Sublist.refl (T.take (cnt T [i, d]))) this
  rwa [List.take_append_drop] at this
 ·exact RN h.srt i
 ·have hT : T.Perm ([i, d] :: (T.take (cnt T [i, d]) ++ T.drop (cnt T [i, d] + 1))) := by
   conv => lhs; rw [<- List.take_append_drop (cnt T [i, d]) T, hc, hfirst]
   exact List.perm_middle
  have hnd : ∀ x ∈ T.take (cnt T [i, d]) ++ T.drop (cnt T [i, d] + 1), idR x ≠ i := by
   intro x hx e
   have hxT : x ∈ T := hT.symm.subset (List.mem_cons_of_mem _ hx)
   have hxe : x = [i, d] := h.uid hxT hd e
   subst hxe
   have hs : srtT ([i, d] :: T.drop (cnt T [i, d] + 1)) := by rw [hc, hfirst] at hsd; exact hsd
   rcases List.mem_append.1 hx with hx | hx
   ·rw [t1] at hx
    have := (List.mem_filter.1 hx).2
    rw [ltT_irr] at this; cases this
   ·have := (List.pairwise_cons.1 hs).1 _ hx
    rw [ltT_irr] at this; cases this
  have := hT.filter (fun r => idR r != i)
  rw [List.filter_cons_of_neg (by simp [idR])] at this
  have hself : (T.take (cnt T [i, d]) ++ T.drop (cnt T [i, d] + 1)).filter (fun r => idR r != i) = T.take (cnt T [i, d]) ++ T.drop (cnt T [i, d] + 1) := List.filter_eq_self.2 (fun x hx => by simpa using hnd x hx)
  rw [hself] at this
  exact this.symm
theorem QI.del {now : Int} {T M : RL} (h : QI now T M) (i : Int) : QI now (delT i T) (delR [i] M) := by
 have hd : delR [i] M = M.filter fun r => idR r != i := by
  rw [DR (n := 1) rfl h.mrt]
  apply List.filter_congr
  intro r hr
  obtain ⟨j, e, rfl, _⟩ := row_eq (h.row r (h.perm.symm.subset hr))
  simp only [List.take, idR, List.getD_cons_zero, bne]
  congr 1
  by_cases hj : j = i <;> simp [hj]
 refine ⟨RN h.srt i, fun r hr => h.row r (List.mem_filter.1 hr).1, Gb (k := [i]) (n := 1) rfl h.mrt, by rw [hd]; exact h.perm.filter _, fun r hr => h.rng r (List.mem_filter.1 hr).1, h.tim⟩
theorem WT {T : RL} (h : srtT T) {t : List Int} (hn : ∀ x ∈ T, ltT x t = true \/ ltT t x = true) : srtT (insT t T) := by
 obtain ⟨t1, t2⟩ := Hy (t := t) h
 unfold insT srtT
 rw [t1, t2]
 rw [List.append_assoc, List.pairwise_append]
 refine ⟨List.Pairwise.filter _ h, ?_, ?_⟩
 ·rw [List.singleton_append, List.pairwise_cons]
  refine ⟨fun x hx => ?_, List.Pairwise.filter _ h⟩
  have hx' := List.mem_filter.1 hx
  rcases hn x hx'.1 with h1 | h1
  ·simp [h1] at hx'
  ·exact h1
 ·intro a ha b hb
  have ha' := (List.mem_filter.1 ha).2
  rcases List.mem_append.1 hb with hb | hb
  ·rw [List.mem_singleton.1 hb]; exact ha'
  ·have hb' := List.mem_filter.1 hb
   rcases hn b hb'.1 with h1 | h1
   ·simp [h1] at hb'
   ·exact HW ha' h1
theorem perm_ins (t : List Int) (T : RL) : (insT t T).Perm (t :: T) := by
 unfold insT
 rw [List.append_assoc, List.singleton_append]
 exact List.perm_middle.trans (by rw [List.take_append_drop])
theorem XB {i d : Int} {x : List Int} (hx : fits tmK x) (h : idR x ≠ i) : ltT x [i, d] = true \/ ltT [i, d] x = true := by
 obtain ⟨j, e, rfl, _⟩ := row_eq hx
 simp only [ltT_iff, dlR, idR, List.getD_cons_succ, List.getD_cons_zero] at h ⊢
 omega
theorem QI.ins {now : Int} {T M : RL} (h : QI now T M) {i d : Int} (hi : ∀ x ∈ T, idR x ≠ i) (h1 : 0 <= i) (h2 : i < 4096) (h3 : now < d) (h4 : d <= now + 2147483648) : QI now (insT [i, d] T) (putR 1 [i, d] M) := by
 have ht := h.tim
 have hp := perm_ins [i, d] T
 have hf : M.filter (fun r => !(r.take 1 == ([i, d] : List Int).take 1)) = M := by
  rw [List.filter_eq_self]
  intro r hr
  have hrT := h.perm.symm.subset hr
  obtain ⟨j, e, rfl, _⟩ := row_eq (h.row r hrT)
  have := hi _ hrT
  simp only [idR, List.getD_cons_zero] at this
  simp [this]
 refine ⟨WT h.srt fun x hx => XB (h.row x hx) (hi x hx), fun r hr => ?_, Ga h.mrt, ?_, fun r hr => ?_, h.tim⟩
 ·rcases List.mem_cons.1 (hp.subset hr) with rfl | hr
  ·exact ⟨i64w (by omega) (by omega), i64w (by omega) (by omega), trivial⟩
  ·exact h.row r hr
 ·have := J2 (n := 1) (row := [i, d]) h.mrt
  rw [hf] at this
  exact hp.trans ((h.perm.cons _).trans this.symm)
 ·rcases List.mem_cons.1 (hp.subset hr) with rfl | hr
  ·exact ⟨h1, h2, h3, h4⟩
  ·exact h.rng r hr
def delAll (l : RL) (M : RL) : RL := l.foldl (fun m r => delR [idR r] m) M
theorem LQ : ∀ {l M : RL}, SortedR 1 M -> rowsOK tmK M -> SortedR 1 (delAll l M) /\ delAll l M = M.filter fun r => l.all fun x => idR r != idR x
 | [], M, h, _ => ⟨h, (List.filter_eq_self.2 fun _ _ => rfl).symm⟩
 | x :: l, M, h, hr => by
   have hd : delR [idR x] M = M.filter fun r => idR r != idR x := by
    rw [DR (n := 1) rfl h]
    apply List.filter_congr
    intro r hrm
    obtain ⟨j, e, rfl, _⟩ := row_eq (hr r hrm)
    generalize idR x = y
    simp only [List.take, idR, List.getD_cons_zero, bne]
    congr 1
    by_cases hj : j = y <;> simp [hj]
   have hs := Gb (k := [idR x]) (n := 1) rfl h
   obtain ⟨i1, i2⟩ := LQ (l := l) hs (fun r hrm => hr r (by rw [hd] at hrm; exact (List.mem_filter.1 hrm).1))
   refine ⟨i1, ?_⟩
   show delAll l (delR [idR x] M) = _
   rw [i2, hd, List.filter_filter]
   apply List.filter_congr
   intro r _
   simp only [List.all_cons, Bool.and_comm]
def dueT (now : Int) (T : RL) : RL := T.filter fun r => decide (dlR r <= now)
def leftT (now : Int) (T : RL) : RL := T.filter fun r => decide (now < dlR r)
theorem QI.split {now : Int} {T M : RL} (h : QI now T M) (t : Int) : T.take (cnt T [0, t + 1]) = dueT t T /\ T.drop (cnt T [0, t + 1]) = leftT t T := by
 obtain ⟨t1, t2⟩ := Hy (t := [0, t + 1]) h.srt
 rw [t1, t2]
 have key : ∀ r ∈ T, ltT r [0, t + 1] = decide (dlR r <= t) := fun r hr => by
  have hr' := h.rng r hr
  rw [Bool.eq_iff_iff, ltT_iff, decide_eq_true_eq]
  simp only [dlR, idR, List.getD_cons_succ, List.getD_cons_zero] at hr' ⊢
  omega
 refine ⟨List.filter_congr fun r hr => key r hr, List.filter_congr fun r hr => ?_⟩
 rw [key r hr]
 by_cases hc : dlR r <= t
 ·simp [hc]
 ·simp [hc]; omega
theorem QI.to {now : Int} {T M : RL} (h : QI now T M) {t : Int} (h1 : now <= t) (h2 : t <= 1099511627776) : QI t (leftT t T) (delAll (dueT t T) M) := by
 have hrM : rowsOK tmK M := fun r hr => h.row r (h.perm.symm.subset hr)
 obtain ⟨d1, d2⟩ := LQ (l := dueT t T) h.mrt hrM
 have ht := h.tim
 refine ⟨List.Pairwise.filter _ h.srt, fun r hr => h.row r (List.mem_filter.1 hr).1, d1, ?_, fun r hr => ?_, by omega⟩
 ·rw [d2]
  have : leftT t T = T.filter fun r => (dueT t T).all fun x => idR r != idR x := by
   apply List.filter_congr
   intro r hr
   rw [Bool.eq_iff_iff, decide_eq_true_eq, List.all_eq_true]
   constructor
   ·intro hlt x hx
    have hx' := List.mem_filter.1 hx
    have hx2 := hx'.2
    simp only [decide_eq_true_eq] at hx2
    simp only [bne_iff_ne, ne_eq]
    intro e
    have := h.uid hr hx'.1 e
    subst this
    omega
   ·intro hall
    by_cases hle : t < dlR r
    ·exact hle
    ·have := hall r (List.mem_filter.2 ⟨hr, by simp; omega⟩)
     simp at this
  rw [this]
  exact h.perm.filter _
 ·have hr' := List.mem_filter.1 hr
  have := h.rng r hr'.1
  have h3 := hr'.2
  simp only [decide_eq_true_eq] at h3
  omega
def qcs : List Sh := [.lt .b 1, i64, .lst 65 tmR true, .mp [.i .i64] [.i .i64] false false]
def qob : Ob := { j := 0, ty := 89, cs := qcs }
def ltm : Sh := .lst 65 tmR true
def QIx (xs : List Int) : Prop := QI (env xs 0) (dc (env xs 1)) (dc (env xs 2))
def hasM (M : RL) (i : Int) : Bool := M.any fun r => r.take [i].length == [i]
def e28 : Ent := ⟨28, 48, [qo], [], [0, 1, 2], .lt .b 0, fun _ _ => 0, fun _ => True⟩
def rightB (i : Int) : Bool := decide (i >= 0) && decide (i < 4096)
def e30 : Ent := ⟨30, 49, [i64], [], [], .sc .b, fun _ xs => b2i (rightB (env xs 0)), fun _ => True⟩
def fn31 : Nat -> List Int -> Int
 | 0, xs => env xs 0
 | 1, xs => bif hasM (dc (env xs 2)) (env xs 3) then cd (delT (env xs 3) (dc (env xs 1))) else env xs 1
 | 2, xs => bif hasM (dc (env xs 2)) (env xs 3) then cd (delR [env xs 3] (dc (env xs 2))) else env xs 2
 | _, xs => b2i (hasM (dc (env xs 2)) (env xs 3))
def e31 : Ent := ⟨31, 50, [qo, i64], [qob], [], .sc .b, fn31, QIx⟩
def c60 : Ctx := ⟨[e33, insertE 32, deleteE 34, cloneE 29], []⟩
def c6 : Ctx := ⟨[e33, e28, e30, insertE 32, deleteE 34, cloneE 29], []⟩
def Wi : E := (.lit .b 1)
def es_28 : List E := []
theorem ev_28 : evE Try.prog G0 (Af c60.fs) (ltOf c60.ls) 40 10 e28 = some (Wi, es_28) := by kernel_rfl
def Wj : E := (.lit .b 1)
def Wk : List E := [(.and (.cmp .geq (vI 0) (lI 0)) (.cmp .lss (vI 0) (lI 4096)))]
theorem ev_30 : evE Try.prog G0 (Af c60.fs) (ltOf c60.ls) 40 10 e30 = some (Wj, Wk) := by kernel_rfl
def DE : E := (aI 0 9 [(vX 2), (.lit .x 1), (.lit .x 1), (vI 3)])
def Dk : E := (aI 33 0 [(vI 0), (vX 1), (vX 2), (vI 3), DE])
def DF : E := (.bin .add .i64 Dk (lI 1))
def Tq : E := (.and (.or (.not (.app .b 0 8 [(vX 2), (vI 3)])) (.and (.app .b 33 1000000 [(vI 0), (vX 1), (vX 2), (vI 3), DE]) (.app .b 34 1000000 [(vX 1), Dk, DF]))) (.ite (.app .b 0 8 [(vX 2), (vI 3)]) (.app .b 0 8 [(vX 2), (vI 3)]) (.not (.app .b 0 8 [(vX 2), (vI 3)]))))
def GX : List E := [(vI 0), (.ite (.app .b 0 8 [(vX 2), (vI 3)]) (aX 34 0 [(vX 1), Dk, DF]) (vX 1)), (.ite (.app .b 0 8 [(vX 2), (vI 3)]) (aX 0 11 [(vX 2), (vI 3)]) (vX 2)), (.app .b 0 8 [(vX 2), (vI 3)])]
theorem ev_31 : evE Try.prog G0 (Af c6.fs) (ltOf c6.ls) 40 10 e31 = some (Tq, GX) := by kernel_rfl
theorem Ts : c60.OK Try.prog G0 := by
 have h0 : Ctx.OK Try.prog G0 ⟨[cloneE 29], []⟩ := c0ok.addF (VM G0 29) rfl
 have h1 : Ctx.OK Try.prog G0 ⟨[deleteE 34, cloneE 29], []⟩ := h0.addF (Va G0 34) rfl
 have h2 : Ctx.OK Try.prog G0 ⟨[insertE 32, deleteE 34, cloneE 29], []⟩ := h1.addF (U8 G0 32) rfl
 exact h2.addF ok33 rfl
theorem ok28 : EntryOK Try.prog G0 e28 := Ts.entryP mixed ev_28 _ rfl _ rfl fun xs hf hp => ⟨by simp only [Wi, ewA, ewL, preC, binI, dvI, shI, cmpB, env, bi, List.headD, List.tail, List.map, Nat.reduceAdd]; rfl, trivial⟩
theorem ok30 : EntryOK Try.prog G0 e30 := Ts.entryP mixed ev_30 _ rfl _ rfl fun xs hf hp => by
 match xs, hf with
 | [i], hf =>
   obtain ⟨h0, _⟩ := hf
   simp only [Ad] at h0
   have w0 : IntKind.i64.wrap 0 = 0 := i64w (by decide) (by decide)
   have w1 : IntKind.i64.wrap 4096 = 4096 := i64w (by decide) (by decide)
   refine ⟨by simp only [Wj, ewA, ewL, preC, binI, dvI, shI, cmpB, env, bi, List.headD, List.tail, List.map, Nat.reduceAdd]; rfl, ?_, trivial⟩
   simp only [Wk, e30, rightB, ewA, ewL, preC, binI, dvI, shI, cmpB, env, bi, List.headD, List.tail, List.map, Nat.reduceAdd, h0, w0, w1]
theorem c6ok : c6.OK Try.prog G0 := ((Ts.addF ok28 rfl).addF ok30 rfl).sub rfl (by simp [c6, c60]) (by simp [c6, c60])
theorem ok31 : EntryOK Try.prog G0 e31 := c6ok.entryP mixed ev_31 _ rfl _ rfl fun xs hf hp => by
 obtain ⟨l, hl, hF⟩ := EU (l0 := c6.l)
 obtain ⟨S, Sp⟩ := hF e33 (by rfl) (by decide)
 obtain ⟨R, Rp⟩ := hF (deleteE 34) (by rfl) (by decide)
 rw [hl]
 match xs, hf with
 | [now, tc, mc, i], hf =>
   obtain ⟨h0, h1, h2, h3, _⟩ := hf
   simp only [Ad] at h0 h3
   have hq : QI now (dc tc) (dc mc) := hp
   have hlen := hq.len
   have w1 : IntKind.i64.wrap 1 = 1 := i64w (by decide) (by decide)
   have hH : (List.any (dc mc) fun r => List.take [i].length r == [i]) = hasM (dc mc) i := rfl
   cases hh : hasM (dc mc) i
   ·refine ⟨?_, ?_, ?_, ?_, ?_, trivial⟩
    ·simp only [Tq, DE, Dk, DF, ewA, ewL, preC, binI, dvI, shI, cmpB, env, bi, List.headD, List.tail, List.map, Nat.reduceAdd, h0, h3, hH, hh]; simp
    ·simp only [GX, DE, Dk, DF, e31, fn31, ewA, ewL, preC, binI, dvI, shI, cmpB, env, bi, List.headD, List.tail, List.map, Nat.reduceAdd, h0]
    ·simp only [GX, DE, Dk, DF, e31, fn31, ewA, ewL, preC, binI, dvI, shI, cmpB, env, bi, List.headD, List.tail, List.map, Nat.reduceAdd, h0, h3, hH, hh, cond_false]
    ·simp only [GX, DE, Dk, DF, e31, fn31, ewA, ewL, preC, binI, dvI, shI, cmpB, env, bi, List.headD, List.tail, List.map, Nat.reduceAdd, h0, h3, hH, hh, cond_false]
    ·simp only [GX, DE, Dk, DF, e31, fn31, ewA, ewL, preC, binI, dvI, shI, cmpB, env, bi, List.headD, List.tail, List.map, Nat.reduceAdd, h0, h3, hH, hh]
   ·obtain ⟨d, hd⟩ := (hq.has i).1 hh
    have hv := hq.val hd (i :: List.replicate 1 0)
    have hwd : IntKind.i64.wrap d = d := CU (hq.row _ hd) 1 kJ rfl
    obtain ⟨k, hk⟩ : ∃ k, k = cnt (dc tc) [i, d] := ⟨_, rfl⟩
    have hkl : k <= (dc tc).length := hk ▸ Gt _ _
    have hk1 : k < (dc tc).length := by
     obtain ⟨t1, t2⟩ := Hy (t := [i, d]) hq.srt
     have hm : [i, d] ∈ (dc tc).drop k := by rw [hk, t2]; exact List.mem_filter.2 ⟨hd, by simp [ltT_irr]⟩
     have := List.length_pos_of_mem hm
     rw [List.length_drop] at this; omega
    have f33 : l.F 33 0 [now, tc, mc, i, d] = (k : Int) := by rw [hk]; exact S 0 rfl _
    have p33 : i2b (K.b.norm (l.F 33 1000000 [now, tc, mc, i, d])) = true := Sp _ ⟨hq.srt, hq.row, by show ((dc tc).length : Int) < cap8; unfold cap8; omega⟩
    have wk : IntKind.i64.wrap (k : Int) = (k : Int) := i64w (by omega) (by omega)
    have wk1 : IntKind.i64.wrap ((k : Int) + 1) = (k : Int) + 1 := i64w (by omega) (by omega)
    have p34 : i2b (K.b.norm (l.F 34 1000000 [tc, (k : Int), (k : Int) + 1])) = true := Rp _ ⟨by show (0 : Int) <= (k : Int); omega, by show (k : Int) <= (k : Int) + 1; omega, by show (k : Int) + 1 <= ((dc tc).length : Int); omega⟩
    have f34 : l.F 34 0 [tc, (k : Int), (k : Int) + 1] = cd (delT i (dc tc)) := by
     rw [<- WR hq hd, <- hk]
     exact R 0 rfl _
    refine ⟨?_, ?_, ?_, ?_, ?_, trivial⟩
    ·simp only [Tq, DE, Dk, DF, ewA, ewL, preC, binI, dvI, shI, cmpB, env, bi, List.headD, List.tail, List.map, Nat.reduceAdd, h0, h3, hH, hh, hv, hwd, w1, f33, p33, wk, wk1, p34]; rfl
    ·simp only [GX, DE, Dk, DF, e31, fn31, ewA, ewL, preC, binI, dvI, shI, cmpB, env, bi, List.headD, List.tail, List.map, Nat.reduceAdd, h0]
    ·simp only [GX, DE, Dk, DF, e31, fn31, ewA, ewL, preC, binI, dvI, shI, cmpB, env, bi, List.headD, List.tail, List.map, Nat.reduceAdd, h0, h3, hH, hh, hv, hwd, w1, f33, wk, wk1, f34, cond_true]
    ·simp only [GX, DE, Dk, DF, e31, fn31, ewA, ewL, preC, binI, dvI, shI, cmpB, env, bi, List.headD, List.tail, List.map, Nat.reduceAdd, h0, h3, hH, hh, cond_true]
    ·simp only [GX, DE, Dk, DF, e31, fn31, ewA, ewL, preC, binI, dvI, shI, cmpB, env, bi, List.headD, List.tail, List.map, Nat.reduceAdd, h0, h3, hH, hh]
def armB (now i d : Int) : Bool := rightB i && !decide (d <= now) && !decide (d > now + 2147483648)
def fn21 : Nat -> List Int -> Int
 | 0, xs => env xs 0
 | 1, xs => bif armB (env xs 0) (env xs 3) (env xs 4) then cd (insT [env xs 3, env xs 4] (delT (env xs 3) (dc (env xs 1)))) else env xs 1
 | 2, xs => bif armB (env xs 0) (env xs 3) (env xs 4) then cd (putR 1 [env xs 3, env xs 4] (delR [env xs 3] (dc (env xs 2)))) else env xs 2
 | _, xs => bif armB (env xs 0) (env xs 3) (env xs 4) then 0 else 2
def e21 : Ent := ⟨21, 29, [qo, i64, i64], [qob], [], i64, fn21, QIx⟩
def fn22 : Nat -> List Int -> Int
 | 0, xs => env xs 0
 | 1, xs => bif rightB (env xs 3) && hasM (dc (env xs 2)) (env xs 3) then cd (delT (env xs 3) (dc (env xs 1))) else env xs 1
 | 2, xs => bif rightB (env xs 3) && hasM (dc (env xs 2)) (env xs 3) then cd (delR [env xs 3] (dc (env xs 2))) else env xs 2
 | _, xs => bif rightB (env xs 3) then (bif hasM (dc (env xs 2)) (env xs 3) then 0 else 6) else 2
def e22 : Ent := ⟨22, 26, [qo, i64], [qob], [], i64, fn22, QIx⟩
def e17 : Ent := ⟨17, 31, [qo], [], [0, 1, 2], i64, fun _ xs => env xs 0, fun _ => True⟩
def e19 : Ent := ⟨19, 30, [qo], [], [0, 1, 2], i64, fun _ xs => ((dc (env xs 1)).length : Int), fun _ => True⟩
def fn20 : Nat -> List Int -> Int
 | 0, xs => env xs 0
 | _, xs => cd []
def timB (t : Int) : Prop := 0 <= t /\ t <= 1099511627776
def e20 : Ent := ⟨20, 25, [i64], [], [], .tup [qo, .lt kJ 0], fn20, fun xs => timB (env xs 0)⟩
def c7 : Ctx := ⟨[e31, e33, e28, e30, insertE 32, deleteE 34, cloneE 29], []⟩
def c8 : Ctx := ⟨[e19, e31, e33, e28, e30, insertE 32, deleteE 34, cloneE 29], []⟩
theorem c7ok : c7.OK Try.prog G0 := (c6ok.addF ok31 rfl).sub rfl (by simp [c7, c6]) (by simp [c7, c6])
def Dl : E := (.or (.or (.not (.app .b 30 0 [(vI 3)])) (.cmp .leq (vI 4) (vI 0))) (.cmp .gtr (vI 4) (.bin .add .i64 (vI 0) (lI 2147483648))))
def GC : E := (aI 31 0 [(vI 0), (vX 1), (vX 2), (vI 3)])
def FH : E := (aX 31 1 [(vI 0), (vX 1), (vX 2), (vI 3)])
def GD : E := (aX 31 2 [(vI 0), (vX 1), (vX 2), (vI 3)])
def Hz : E := (aI 33 0 [GC, FH, GD, (vI 3), (vI 4)])
def Wl : E := (.and (.and (.and (.app .b 28 1000000 [(vI 0), (vX 1), (vX 2)]) (.app .b 30 1000000 [(vI 3)])) (.or Dl (.and (.app .b 31 1000000 [(vI 0), (vX 1), (vX 2), (vI 3)]) (.and (.app .b 33 1000000 [GC, FH, GD, (vI 3), (vI 4)]) (.app .b 32 1000000 [FH, Hz, (aX 0 3 [(aX 0 2 []), (vI 3), (vI 4)])]))))) (.ite Dl Dl (.not Dl)))
def NG : List E := [(.ite Dl (vI 0) GC), (.ite Dl (vX 1) (aX 32 0 [FH, Hz, (aX 0 3 [(aX 0 2 []), (vI 3), (vI 4)])])), (.ite Dl (vX 2) (aX 0 10 [GD, (.lit .x 1), (vI 3), (vI 4)])), (.ite Dl (lI 2) (lI 0))]
theorem ev_21 : evE Try.prog G0 (Af c7.fs) (ltOf c7.ls) 40 10 e21 = some (Wl, NG) := by kernel_rfl
def DG : E := (.or (.not (.app .b 30 0 [(vI 3)])) (.not (.app .b 31 3 [(vI 0), (vX 1), (vX 2), (vI 3)])))
def HA : E := (.or (.not DG) (.app .b 30 0 [(vI 3)]))
def HB : E := (aI 31 0 [(vI 0), (vX 1), (vX 2), (vI 3)])
def HC : E := (aX 31 1 [(vI 0), (vX 1), (vX 2), (vI 3)])
def HD : E := (aX 31 2 [(vI 0), (vX 1), (vX 2), (vI 3)])
def Wm : E := (.and (.and (.app .b 28 1000000 [(vI 0), (vX 1), (vX 2)]) (.and (.app .b 30 1000000 [(vI 3)]) (.or (.not (.app .b 30 0 [(vI 3)])) (.app .b 31 1000000 [(vI 0), (vX 1), (vX 2), (vI 3)])))) (.ite DG (.ite (.not (.app .b 30 0 [(vI 3)])) (.and DG (.not (.app .b 30 0 [(vI 3)]))) HA) HA))
def NH : List E := [(.ite DG (.ite (.not (.app .b 30 0 [(vI 3)])) (vI 0) HB) HB), (.ite DG (.ite (.not (.app .b 30 0 [(vI 3)])) (vX 1) HC) HC), (.ite DG (.ite (.not (.app .b 30 0 [(vI 3)])) (vX 2) HD) HD), (.ite DG (.ite (.not (.app .b 30 0 [(vI 3)])) (lI 2) (lI 6)) (lI 0))]
theorem ev_22 : evE Try.prog G0 (Af c7.fs) (ltOf c7.ls) 40 10 e22 = some (Wm, NH) := by kernel_rfl
def JC : E := (.app .b 28 1000000 [(vI 0), (vX 1), (vX 2)])
def Ls : List E := [(vI 0)]
theorem SX : evE Try.prog G0 (Af c7.fs) (ltOf c7.ls) 40 10 e17 = some (JC, Ls) := by kernel_rfl
def JD : E := (.app .b 28 1000000 [(vI 0), (vX 1), (vX 2)])
def Lu : List E := [(aI 0 0 [(vX 1)])]
theorem S5 : evE Try.prog G0 (Af c7.fs) (ltOf c7.ls) 40 10 e19 = some (JD, Lu) := by kernel_rfl
def IR : E := (.or (.cmp .lss (vI 0) (lI 0)) (.cmp .gtr (vI 0) (lI 1099511627776)))
def IT : E := (.not IR)
def Wn : E := (.and (.and IT (.cmp .eql (.ite IR (lI 2) (lI 0)) (lI 0))) IT)
def Pr : List E := [(vI 0), (aX 0 2 []), (aX 0 2 [])]
theorem ev_20 : evE Try.prog G0 (Af c7.fs) (ltOf c7.ls) 40 10 e20 = some (Wn, Pr) := by kernel_rfl
theorem ok22 : EntryOK Try.prog G0 e22 := c7ok.entryP mixed ev_22 _ rfl _ rfl fun xs hf hp => by
 obtain ⟨l, hl, hF⟩ := EU (l0 := c7.l)
 obtain ⟨S, Sp⟩ := hF e30 (by rfl) (by decide)
 obtain ⟨R, Rp⟩ := hF e31 (by rfl) (by decide)
 obtain ⟨_, Np⟩ := hF e28 (by rfl) (by decide)
 rw [hl]
 match xs, hf with
 | [now, tc, mc, i], hf =>
   obtain ⟨h0, h1, h2, h3, _⟩ := hf
   simp only [Ad] at h0 h3
   have n28 : ∀ xs, i2b (K.b.norm (l.F 28 1000000 xs)) = true := fun xs => Np xs trivial
   have n30 : ∀ xs, i2b (K.b.norm (l.F 30 1000000 xs)) = true := fun xs => Sp xs trivial
   have n31 : i2b (K.b.norm (l.F 31 1000000 [now, tc, mc, i])) = true := Rp _ hp
   have f30 : ∀ xs, l.F 30 0 xs = b2i (rightB (env xs 0)) := fun xs => S 0 rfl xs
   have f0 : l.F 31 0 [now, tc, mc, i] = now := R 0 rfl _
   have f1 : l.F 31 1 [now, tc, mc, i] = _ := R 1 rfl _
   have f2 : l.F 31 2 [now, tc, mc, i] = _ := R 2 rfl _
   have f3 : l.F 31 3 [now, tc, mc, i] = b2i (hasM (dc mc) i) := R 3 rfl _
   have w0 : IntKind.i64.wrap 0 = 0 := i64w (by decide) (by decide)
   have w2 : IntKind.i64.wrap 2 = 2 := i64w (by decide) (by decide)
   have w6 : IntKind.i64.wrap 6 = 6 := i64w (by decide) (by decide)
   simp only [e31, fn31, env, List.getD_cons_succ, List.getD_cons_zero] at f1 f2
   refine ⟨?_, ?_, ?_, ?_, ?_, trivial⟩
   ·simp only [Wm, DG, HA, HB, HC, HD, ewA, ewL, preC, binI, dvI, shI, cmpB, env, bi, List.headD, List.tail, List.map, Nat.reduceAdd, h0, h3, n28, n30, n31, f30, f3]
    cases rightB i <;> cases hasM (dc mc) i <;> rfl
   ·simp only [NH, DG, HA, HB, HC, HD, e22, fn22, ewA, ewL, preC, binI, dvI, shI, cmpB, env, bi, List.headD, List.tail, List.map, Nat.reduceAdd, h0, h3, f30, f3, f0]
    cases rightB i <;> cases hasM (dc mc) i <;> simp [h0]
   ·simp only [NH, DG, HA, HB, HC, HD, e22, fn22, ewA, ewL, preC, binI, dvI, shI, cmpB, env, bi, List.headD, List.tail, List.map, Nat.reduceAdd, h0, h3, f30, f3, f1]
    cases rightB i <;> cases hasM (dc mc) i <;> rfl
   ·simp only [NH, DG, HA, HB, HC, HD, e22, fn22, ewA, ewL, preC, binI, dvI, shI, cmpB, env, bi, List.headD, List.tail, List.map, Nat.reduceAdd, h0, h3, f30, f3, f2]
    cases rightB i <;> cases hasM (dc mc) i <;> rfl
   ·simp only [NH, DG, HA, HB, HC, HD, e22, fn22, ewA, ewL, preC, binI, dvI, shI, cmpB, env, bi, List.headD, List.tail, List.map, Nat.reduceAdd, h0, h3, f30, f3, w0, w2, w6]
    cases rightB i <;> cases hasM (dc mc) i <;> simp [w0, w2, w6]
theorem QI.del_none {now : Int} {T M : RL} (h : QI now T M) {i : Int} (hh : hasM M i = false) : delT i T = T /\ delR [i] M = M := by
 have hn : ∀ r ∈ T, idR r ≠ i := fun r hr e => by
  obtain ⟨j, d, rfl, _⟩ := row_eq (h.row r hr)
  have : j = i := e
  subst this
  have := (h.has j).2 ⟨d, hr⟩
  unfold hasM at hh
  rw [hh] at this; cases this
 refine ⟨List.filter_eq_self.2 fun r hr => by simpa using hn r hr, ?_⟩
 rw [DR (n := 1) rfl h.mrt, List.filter_eq_self]
 intro r hr
 have hrT := h.perm.symm.subset hr
 obtain ⟨j, d, rfl, _⟩ := row_eq (h.row r hrT)
 have := hn _ hrT
 simp only [idR, List.getD_cons_zero] at this
 simp [this]
theorem ok21 : EntryOK Try.prog G0 e21 := c7ok.entryP mixed ev_21 _ rfl _ rfl fun xs hf hp => by
 obtain ⟨l, hl, hF⟩ := EU (l0 := c7.l)
 obtain ⟨S, Sp⟩ := hF e30 (by rfl) (by decide)
 obtain ⟨R, Rp⟩ := hF e31 (by rfl) (by decide)
 obtain ⟨_, Np⟩ := hF e28 (by rfl) (by decide)
 obtain ⟨U, Up⟩ := hF e33 (by rfl) (by decide)
 obtain ⟨V, Vp⟩ := hF (insertE 32) (by rfl) (by decide)
 rw [hl]
 match xs, hf with
 | [now, tc, mc, i, d], hf =>
   obtain ⟨h0, h1, h2, h3, h4, _⟩ := hf
   simp only [Ad] at h0 h3 h4
   have hq : QI now (dc tc) (dc mc) := hp
   have ht := hq.tim
   have n28 : ∀ xs, i2b (K.b.norm (l.F 28 1000000 xs)) = true := fun xs => Np xs trivial
   have n30 : ∀ xs, i2b (K.b.norm (l.F 30 1000000 xs)) = true := fun xs => Sp xs trivial
   have n31 : i2b (K.b.norm (l.F 31 1000000 [now, tc, mc, i])) = true := Rp _ hp
   have f30 : ∀ xs, l.F 30 0 xs = b2i (rightB (env xs 0)) := fun xs => S 0 rfl xs
   have f0 : l.F 31 0 [now, tc, mc, i] = now := R 0 rfl _
   obtain ⟨t1, ht1, hT⟩ : ∃ t1, l.F 31 1 [now, tc, mc, i] = t1 /\ dc t1 = delT i (dc tc) := by
    refine ⟨_, R 1 rfl _, ?_⟩
    show dc (bif hasM (dc mc) i then cd (delT i (dc tc)) else tc) = _
    cases hh : hasM (dc mc) i
    ·exact (hq.del_none hh).1.symm
    ·exact Ac _
   obtain ⟨m1, hm1, hM⟩ : ∃ m1, l.F 31 2 [now, tc, mc, i] = m1 /\ dc m1 = delR [i] (dc mc) := by
    refine ⟨_, R 2 rfl _, ?_⟩
    show dc (bif hasM (dc mc) i then cd (delR [i] (dc mc)) else mc) = _
    cases hh : hasM (dc mc) i
    ·exact (hq.del_none hh).2.symm
    ·exact Ac _
   have hq1 : QI now (dc t1) (dc m1) := by rw [hT, hM]; exact hq.del i
   have hlen := hq1.len
   have w0 : IntKind.i64.wrap 0 = 0 := i64w (by decide) (by decide)
   have w2 : IntKind.i64.wrap 2 = 2 := i64w (by decide) (by decide)
   have wS : IntKind.i64.wrap 2147483648 = 2147483648 := i64w (by decide) (by decide)
   have wN : IntKind.i64.wrap (now + 2147483648) = now + 2147483648 := i64w (by omega) (by omega)
   obtain ⟨k, hk⟩ : ∃ k, k = cnt (dc t1) [i, d] := ⟨_, rfl⟩
   have hkl : k <= (dc t1).length := hk ▸ Gt _ _
   have wk : IntKind.i64.wrap (k : Int) = (k : Int) := i64w (by omega) (by omega)
   have n33 : i2b (K.b.norm (l.F 33 1000000 [now, t1, m1, i, d])) = true := Up _ ⟨hq1.srt, hq1.row, by show ((dc t1).length : Int) < cap8; unfold cap8; omega⟩
   have f33 : l.F 33 0 [now, t1, m1, i, d] = (k : Int) := by rw [hk]; exact U 0 rfl _
   have n32 : i2b (K.b.norm (l.F 32 1000000 [t1, (k : Int), cd [[i, d]]])) = true := Vp _ ⟨by show (0 : Int) <= (k : Int); omega, by show (k : Int) <= ((dc t1).length : Int); omega, by show (dc (cd [[i, d]])).length = 1; rw [Ac]; rfl, by show ((dc t1).length : Int) < cap8; unfold cap8; omega⟩
   have f32 : l.F 32 0 [t1, (k : Int), cd [[i, d]]] = cd (insT [i, d] (delT i (dc tc))) := by
    rw [<- hT]
    unfold insT
    rw [<- hk]
    refine (V 0 rfl _).trans ?_
    show cd ((dc t1).take ((k : Int)).toNat ++ dc (cd [[i, d]]) ++ (dc t1).drop ((k : Int)).toNat) = _
    rw [Ac, Int.toNat_natCast]
   have hc : (!rightB i || decide (d <= now) || decide (d > now + 2147483648)) = !armB now i d := by
    unfold armB; cases rightB i <;> cases decide (d <= now) <;> cases decide (d > now + 2147483648) <;> rfl
   refine ⟨?_, ?_, ?_, ?_, ?_, trivial⟩
   ·simp only [Wl, Dl, GC, FH, GD, Hz, ewA, ewL, preC, binI, dvI, shI, cmpB, env, bi, List.headD, List.tail, List.map, Nat.reduceAdd, h0, h3, h4, n28, n30, n31, f30, f0, ht1, hm1, wS, wN, n33, f33, wk, n32, hc]
    cases armB now i d <;> rfl
   ·simp only [NG, Dl, GC, FH, GD, Hz, e21, fn21, ewA, ewL, preC, binI, dvI, shI, cmpB, env, bi, List.headD, List.tail, List.map, Nat.reduceAdd, h0, h3, h4, f30, f0, wS, wN, hc]
    cases armB now i d <;> rfl
   ·simp only [NG, Dl, GC, FH, GD, Hz, e21, fn21, ewA, ewL, preC, binI, dvI, shI, cmpB, env, bi, List.headD, List.tail, List.map, Nat.reduceAdd, h0, h3, h4, f30, f0, ht1, hm1, wS, wN, f33, wk, f32, hc]
    cases armB now i d <;> rfl
   ·simp only [NG, Dl, GC, FH, GD, Hz, e21, fn21, ewA, ewL, preC, binI, dvI, shI, cmpB, env, bi, List.headD, List.tail, List.map, Nat.reduceAdd, h0, h3, h4, f30, f0, hm1, hM, wS, wN, hc]
    cases armB now i d <;> rfl
   ·simp only [NG, Dl, GC, FH, GD, Hz, e21, fn21, ewA, ewL, preC, binI, dvI, shI, cmpB, env, bi, List.headD, List.tail, List.map, Nat.reduceAdd, h0, h3, h4, f30, wS, wN, hc, w0, w2]
    cases armB now i d <;> simp [w0, w2]
theorem ok17 : EntryOK Try.prog G0 e17 := c7ok.entryP mixed SX _ rfl _ rfl fun xs hf hp => by
 obtain ⟨l, hl, hF⟩ := EU (l0 := c7.l)
 obtain ⟨_, Np⟩ := hF e28 (by rfl) (by decide)
 rw [hl]
 match xs, hf with
 | [now, tc, mc], hf =>
   obtain ⟨h0, h1, h2, _⟩ := hf
   simp only [Ad] at h0
   refine ⟨?_, ?_, trivial⟩
   ·simp only [JC, ewA, ewL, preC, binI, dvI, shI, cmpB, env, bi, List.headD, List.tail, List.map, Nat.reduceAdd, h0]
    exact Np _ trivial
   ·simp only [Ls, e17, ewA, ewL, preC, binI, dvI, shI, cmpB, env, bi, List.headD, List.tail, List.map, Nat.reduceAdd, h0]
theorem ok19 : EntryOK Try.prog G0 e19 := c7ok.entryP mixed S5 _ rfl _ rfl fun xs hf hp => by
 obtain ⟨l, hl, hF⟩ := EU (l0 := c7.l)
 obtain ⟨_, Np⟩ := hF e28 (by rfl) (by decide)
 rw [hl]
 match xs, hf with
 | [now, tc, mc], hf =>
   obtain ⟨h0, h1, h2, _⟩ := hf
   simp only [Ad] at h0
   refine ⟨?_, ?_, trivial⟩
   ·simp only [JD, ewA, ewL, preC, binI, dvI, shI, cmpB, env, bi, List.headD, List.tail, List.map, Nat.reduceAdd, h0]
    exact Np _ trivial
   ·simp only [Lu, e19, ewA, ewL, preC, binI, dvI, shI, cmpB, env, bi, List.headD, List.tail, List.map, Nat.reduceAdd, h0]
theorem ok20 : EntryOK Try.prog G0 e20 := c7ok.entryP mixed ev_20 _ rfl _ rfl fun xs hf hp => by
 match xs, hf with
 | [n], hf =>
   obtain ⟨h0, _⟩ := hf
   simp only [Ad] at h0
   obtain ⟨p1, p2⟩ := hp
   simp only [ewA, ewL, preC, binI, dvI, shI, cmpB, env, bi, List.headD, List.tail, List.map, Nat.reduceAdd] at p1 p2
   have w0 : IntKind.i64.wrap 0 = 0 := i64w (by decide) (by decide)
   have w2 : IntKind.i64.wrap 2 = 2 := i64w (by decide) (by decide)
   have wM : IntKind.i64.wrap 1099511627776 = 1099511627776 := i64w (by decide) (by decide)
   have d1 : decide (n < 0) = false := by simp; omega
   have d2 : decide (n > 1099511627776) = false := by simp; omega
   refine ⟨?_, ?_, ?_, ?_, trivial⟩
   ·simp only [Wn, IR, IT, ewA, ewL, preC, binI, dvI, shI, cmpB, env, bi, List.headD, List.tail, List.map, Nat.reduceAdd, h0, w0, w2, wM, d1, d2]; rfl
   ·simp only [Pr, IR, IT, e20, fn20, ewA, ewL, preC, binI, dvI, shI, cmpB, env, bi, List.headD, List.tail, List.map, Nat.reduceAdd, h0]
   ·simp only [Pr, IR, IT, e20, fn20, ewA, ewL, preC, binI, dvI, shI, cmpB, env, bi, List.headD, List.tail, List.map, Nat.reduceAdd, h0]
   ·simp only [Pr, IR, IT, e20, fn20, ewA, ewL, preC, binI, dvI, shI, cmpB, env, bi, List.headD, List.tail, List.map, Nat.reduceAdd, h0]
def delC (l : RL) (c : Int) : Int := l.foldl (fun m r => cd (delR [idR r] (dc m))) c
def fnTo : Nat -> List Int -> Int
 | 0, xs => env xs 0
 | 1, xs => env xs 1
 | _, xs => delC ((dc (env xs 3)).drop (env xs 5).toNat) (env xs 2)
def preTo (xs : List Int) : Prop := env xs 4 = ((dc (env xs 3)).length : Int) /\ 0 <= env xs 5 /\ env xs 5 <= env xs 4 /\ rowsOK tmK (dc (env xs 3)) /\ env xs 4 < cap8
def leTo : LEnt := ⟨⟨9024, 999999, [qo, ltm, i64, i64], [qob], [3], .tup [], fnTo, preTo⟩, [0, 40, 41, 42], [], [9] ++ (List.range 11).map (· + 42), [.ex 1], 63, []⟩
def toB (now t : Int) : Bool := !decide (t < now) && !decide (t > 1099511627776)
def fn24 : Nat -> List Int -> Int
 | 0, xs => bif toB (env xs 0) (env xs 3) then env xs 3 else env xs 0
 | 1, xs => bif toB (env xs 0) (env xs 3) then cd (leftT (env xs 3) (dc (env xs 1))) else env xs 1
 | 2, xs => bif toB (env xs 0) (env xs 3) then delC (dueT (env xs 3) (dc (env xs 1))) (env xs 2) else env xs 2
 | 3, xs => bif toB (env xs 0) (env xs 3) then cd (dueT (env xs 3) (dc (env xs 1))) else cd []
 | _, xs => bif toB (env xs 0) (env xs 3) then 0 else 2
def e24 : Ent := ⟨24, 51, [qo, i64], [qob], [], .tup [ltm, i64], fn24, QIx⟩
def tickT (now : Int) : Int := if now + 1 < 1099511627776 then now + 1 else 1099511627776
def fn16 (j : Nat) (xs : List Int) : Int := fn24 j [env xs 0, env xs 1, env xs 2, tickT (env xs 0)]
def e16 : Ent := ⟨16, 27, [qo], [qob], [], .tup [ltm, i64], fn16, QIx⟩
def c9 : Ctx := ⟨c7.fs, [(51, [true,true,true,true,true,false,true,false], leTo)]⟩
def cA : Ctx := ⟨[e24, e28], []⟩
def Cu : E := (aX 0 11 [(vX 2), (aI 0 1 [(vX 3), (vI 5), (.lit .x 0)])])
def QS : E := (.and (.and (.or (.not (.cmp .lss (vI 5) (vI 4))) (.and (.cmp .geq (vI 5) (lI 0)) (.cmp .lss (vI 5) (aI 0 0 [(vX 3)])))) (.or (.not (.cmp .lss (vI 5) (vI 4))) (.app .b 9024 1000000 [(vI 0), (vX 1), Cu, (vX 3), (vI 4), (.bin .add .i64 (vI 5) (lI 1))]))) (.or (.not (.or (.not (.cmp .lss (vI 5) (vI 4))) (.cmp .lss (vI 5) (vI 4)))) (.ite (.not (.cmp .lss (vI 5) (vI 4))) (.not (.cmp .lss (vI 5) (vI 4))) (.cmp .lss (vI 5) (vI 4)))))
def HE : List E := [(.ite (.not (.cmp .lss (vI 5) (vI 4))) (vI 0) (aI 9024 0 [(vI 0), (vX 1), Cu, (vX 3), (vI 4), (.bin .add .i64 (vI 5) (lI 1))])), (.ite (.not (.cmp .lss (vI 5) (vI 4))) (vX 1) (aX 9024 1 [(vI 0), (vX 1), Cu, (vX 3), (vI 4), (.bin .add .i64 (vI 5) (lI 1))])), (.ite (.not (.cmp .lss (vI 5) (vI 4))) (vX 2) (aX 9024 2 [(vI 0), (vX 1), Cu, (vX 3), (vI 4), (.bin .add .i64 (vI 5) (lI 1))]))]
theorem XC : evL Try.prog G0 (Af c7.fs) (evFn Try.prog G0 (Af c7.fs) (ltOf c7.ls) 40 10) 40 (subL c7.ls 51 [true,true,true,true,true,false,true,false]) leTo (BQ Try.prog 51 [true,true,true,true,true,false,true,false]) = some (QS, HE) := by kernel_rfl
def AJ : E := (.or (.cmp .lss (vI 3) (vI 0)) (.cmp .gtr (vI 3) (lI 1099511627776)))
def A1 : E := (aI 33 0 [(vI 3), (vX 1), (vX 2), (lI 0), (.bin .add .i64 (vI 3) (lI 1))])
def Bq : E := (.and (.cmp .leq (lI 0) A1) (.cmp .leq A1 (aI 0 0 [(vX 1)])))
def AK : E := (aX 0 5 [(vX 1), (lI 0), A1])
def BH : E := (aX 29 0 [AK])
def BZ : E := (aI 0 0 [BH])
def CM : E := (aX 9024 1 [(vI 3), (vX 1), (vX 2), BH, BZ, (lI 0)])
def CN : E := (.not AJ)
def CO : E := (.ite AJ AJ CN)
def Gk : E := (.and (.and (.app .b 28 1000000 [(vI 0), (vX 1), (vX 2)]) (.or AJ (.and (.app .b 33 1000000 [(vI 3), (vX 1), (vX 2), (lI 0), (.bin .add .i64 (vI 3) (lI 1))]) (.and (.and Bq (.and Bq (.app .b 29 1000000 [AK]))) (.and (.app .b 9024 1000000 [(vI 3), (vX 1), (vX 2), BH, BZ, (lI 0)]) (.app .b 34 1000000 [CM, (lI 0), A1])))))) (.and CO (.and CO (.or AJ CN))))
def CY : List E := [(.ite AJ (vI 0) (aI 9024 0 [(vI 3), (vX 1), (vX 2), BH, BZ, (lI 0)])), (.ite AJ (vX 1) (aX 34 0 [CM, (lI 0), A1])), (.ite AJ (vX 2) (aX 9024 2 [(vI 3), (vX 1), (vX 2), BH, BZ, (lI 0)])), (.ite AJ (aX 0 2 []) BH), (.ite AJ (lI 2) (lI 0))]
theorem SN : evE Try.prog G0 (Af c9.fs) (ltOf c9.ls) 40 10 e24 = some (Gk, CY) := by kernel_rfl
def DH : E := (.ite (.cmp .lss (lI 1099511627776) (.bin .add .i64 (vI 0) (lI 1))) (lI 1099511627776) (.bin .add .i64 (vI 0) (lI 1)))
def Lq : E := (.and (.app .b 28 1000000 [(vI 0), (vX 1), (vX 2)]) (.app .b 24 1000000 [(vI 0), (vX 1), (vX 2), DH]))
def GW : List E := [(aI 24 0 [(vI 0), (vX 1), (vX 2), DH]), (aX 24 1 [(vI 0), (vX 1), (vX 2), DH]), (aX 24 2 [(vI 0), (vX 1), (vX 2), DH]), (aX 24 3 [(vI 0), (vX 1), (vX 2), DH]), (aI 24 4 [(vI 0), (vX 1), (vX 2), DH])]
theorem SL : evE Try.prog G0 (Af cA.fs) (ltOf cA.ls) 40 10 e16 = some (Lq, GW) := by kernel_rfl
theorem loTo : Bc Try.prog G0 51 [true,true,true,true,true,false,true,false] leTo := by
 refine c7ok.loopP mixed (fun xs => (env xs 4 - env xs 5).toNat) rfl ?_ XC _ rfl _ rfl ?_
 ·exact ⟨_, _, _, Try.func51, rfl, rfl⟩
 intro n xs hf hp hmu
 obtain ⟨l, hl, S, Sp, hF⟩ := M4 leTo (fun xs => (env xs 4 - env xs 5).toNat) n c7.l (by decide)
 rw [hl]
 match xs, hf with
 | [now, tc, mc, c, m, i], hf =>
   obtain ⟨h0, h1, h2, h3, h4, h5, _⟩ := hf
   simp only [Ad, A0] at h0 h4 h5
   obtain ⟨p1, p2, p3, p4, p5⟩ := hp
   simp only [ewA, ewL, preC, binI, dvI, shI, cmpB, env, bi, List.headD, List.tail, List.map, Nat.reduceAdd] at p1 p2 p3 p4 p5 hmu
   unfold cap8 at p5
   have w0 : IntKind.i64.wrap 0 = 0 := i64w (by decide) (by decide)
   have w1 : IntKind.i64.wrap 1 = 1 := i64w (by decide) (by decide)
   have wl : IntKind.i64.wrap ((dc c).length : Int) = ((dc c).length : Int) := i64w (by omega) (by omega)
   have e1 : leTo.ent.fn = fnTo := rfl
   by_cases hlt : i < m
   ·have hs : IntKind.i64.wrap (i + 1) = i + 1 := i64w (by omega) (by omega)
    obtain ⟨r, hr, hm, hd⟩ : ∃ r, (dc c).getD i.toNat [] = r /\ r ∈ dc c /\ (dc c).drop i.toNat = r :: (dc c).drop (i + 1).toNat := by
     have hl : i.toNat < (dc c).length := by omega
     refine ⟨(dc c)[i.toNat], by simp [List.getD, hl], List.getElem_mem hl, ?_⟩
     rw [List.drop_eq_getElem_cons hl, show (i + 1).toNat = i.toNat + 1 by omega]
    have hr0 : IntKind.i64.wrap (r.getD 0 0) = idR r := CU (p4 r hm) 0 kJ rfl
    have nS : i2b (K.b.norm (l.F 9024 1000000 [now, tc, cd (delR [idR r] (dc mc)), c, m, i + 1])) = true :=
     Sp _ ⟨⟨p1, by show 0 <= i + 1; omega, by show i + 1 <= m; omega, p4, by show m < cap8; unfold cap8; omega⟩, by show (m - (i + 1)).toNat < n; omega⟩
    have f0 : l.F 9024 0 [now, tc, cd (delR [idR r] (dc mc)), c, m, i + 1] = now := S 0 rfl _
    have f1 : l.F 9024 1 [now, tc, cd (delR [idR r] (dc mc)), c, m, i + 1] = tc := S 1 rfl _
    have f2 : l.F 9024 2 [now, tc, cd (delR [idR r] (dc mc)), c, m, i + 1] = delC ((dc c).drop (i + 1).toNat) (cd (delR [idR r] (dc mc))) := S 2 rfl _
    have b1 : decide (i >= 0) = true := by simp; omega
    have b2 : decide (i < ((dc c).length : Int)) = true := by simp; omega
    refine ⟨?_, ?_, ?_, ?_, trivial⟩
    ·simp only [QS, Cu, ewA, ewL, preC, binI, dvI, shI, cmpB, env, bi, List.headD, List.tail, List.map, Nat.reduceAdd, h0, h4, h5, w0, w1, wl, hs, hr, hr0, nS, b1, b2, hlt, decide_true]; rfl
    ·simp only [HE, Cu, ewA, ewL, preC, binI, dvI, shI, cmpB, env, bi, List.headD, List.tail, List.map, Nat.reduceAdd, h0, h4, h5, w1, hs, hr, hr0, f0, hlt, decide_true, e1, fnTo]; rfl
    ·simp only [HE, Cu, ewA, ewL, preC, binI, dvI, shI, cmpB, env, bi, List.headD, List.tail, List.map, Nat.reduceAdd, h0, h4, h5, w1, hs, hr, hr0, f1, hlt, decide_true, e1, fnTo]; rfl
    ·simp only [HE, Cu, ewA, ewL, preC, binI, dvI, shI, cmpB, env, bi, List.headD, List.tail, List.map, Nat.reduceAdd, h0, h4, h5, w1, hs, hr, hr0, f2, hlt, decide_true, e1, fnTo, hd]; rfl
   ·have hd : (dc c).drop i.toNat = [] := List.drop_of_length_le (by omega)
    refine ⟨?_, ?_, ?_, ?_, trivial⟩
    ·simp only [QS, Cu, ewA, ewL, preC, binI, dvI, shI, cmpB, env, bi, List.headD, List.tail, List.map, Nat.reduceAdd, h0, h4, h5, hlt, decide_false]; rfl
    ·simp only [HE, Cu, ewA, ewL, preC, binI, dvI, shI, cmpB, env, bi, List.headD, List.tail, List.map, Nat.reduceAdd, h0, h4, h5, hlt, decide_false, e1, fnTo]; rfl
    ·simp only [HE, Cu, ewA, ewL, preC, binI, dvI, shI, cmpB, env, bi, List.headD, List.tail, List.map, Nat.reduceAdd, h0, h4, h5, hlt, decide_false, e1, fnTo]; rfl
    ·simp only [HE, Cu, ewA, ewL, preC, binI, dvI, shI, cmpB, env, bi, List.headD, List.tail, List.map, Nat.reduceAdd, h0, h4, h5, hlt, decide_false, e1, fnTo, hd]; rfl
theorem dc_delC : ∀ (l : RL) (c : Int), dc (delC l c) = delAll l (dc c)
 | [], _ => rfl
 | r :: l, c => by
   show dc (delC l (cd (delR [idR r] (dc c)))) = delAll l (delR [idR r] (dc c))
   rw [dc_delC l, Ac]
theorem ok24 : EntryOK Try.prog G0 e24 := (c7ok.addL loTo rfl).entryP mixed SN _ rfl _ rfl fun xs hf hp => by
 obtain ⟨l, hl, hF⟩ := EU (l0 := c9.l)
 show Gk.tt c9.l.F _ = true /\ Aq _ _ c9.l.F _ _ _ _
 rw [hl]
 match xs, hf with
 | [now, tc, mc, t], hf =>
   obtain ⟨h0, h1, h2, h3, _⟩ := hf
   simp only [Ad] at h0 h3
   have hq : QI now (dc tc) (dc mc) := hp
   obtain ⟨S, Sp⟩ := hF leTo.ent (by rfl) (by decide)
   obtain ⟨_, Np⟩ := hF e28 (by rfl) (by decide)
   obtain ⟨U, Up⟩ := hF e33 (by rfl) (by decide)
   obtain ⟨D, Dp⟩ := hF (deleteE 34) (by rfl) (by decide)
   obtain ⟨C, Cp⟩ := hF (cloneE 29) (by rfl) (by decide)
   have hlen := hq.len
   have htm := hq.tim
   have n28 : ∀ xs, i2b (K.b.norm (l.F 28 1000000 xs)) = true := fun xs => Np xs trivial
   have w0 : IntKind.i64.wrap 0 = 0 := i64w (by decide) (by decide)
   have w1 : IntKind.i64.wrap 1 = 1 := i64w (by decide) (by decide)
   have w2 : IntKind.i64.wrap 2 = 2 := i64w (by decide) (by decide)
   have wM : IntKind.i64.wrap 1099511627776 = 1099511627776 := i64w (by decide) (by decide)
   have wl : IntKind.i64.wrap ((dc tc).length : Int) = ((dc tc).length : Int) := i64w (by omega) (by omega)
   have hc : (decide (t < now) || decide (t > 1099511627776)) = !toB now t := by
    unfold toB; cases decide (t < now) <;> cases decide (t > 1099511627776) <;> rfl
   cases hb : toB now t
   ·have hc' : (decide (t < now) || decide (t > 1099511627776)) = true := by rw [hc, hb]; rfl
    refine ⟨?_, ?_, ?_, ?_, ?_, ?_, trivial⟩
    ·simp only [Gk, AJ, A1, Bq, AK, BH, BZ, CM, CN, CO, ewA, ewL, preC, binI, dvI, shI, cmpB, env, bi, List.headD, List.tail, List.map, Nat.reduceAdd, h0, h3, n28, wM, hc']; rfl
    ·simp only [CY, AJ, A1, Bq, AK, BH, BZ, CM, CN, CO, e24, fn24, ewA, ewL, preC, binI, dvI, shI, cmpB, env, bi, List.headD, List.tail, List.map, Nat.reduceAdd, h0, h3, wM, hc', hb, cond_true, cond_false]
    ·simp only [CY, AJ, A1, Bq, AK, BH, BZ, CM, CN, CO, e24, fn24, ewA, ewL, preC, binI, dvI, shI, cmpB, env, bi, List.headD, List.tail, List.map, Nat.reduceAdd, h0, h3, wM, hc', hb, cond_true, cond_false]
    ·simp only [CY, AJ, A1, Bq, AK, BH, BZ, CM, CN, CO, e24, fn24, ewA, ewL, preC, binI, dvI, shI, cmpB, env, bi, List.headD, List.tail, List.map, Nat.reduceAdd, h0, h3, wM, hc', hb, cond_true, cond_false]
    ·simp only [CY, AJ, A1, Bq, AK, BH, BZ, CM, CN, CO, e24, fn24, ewA, ewL, preC, binI, dvI, shI, cmpB, env, bi, List.headD, List.tail, List.map, Nat.reduceAdd, h0, h3, wM, hc', hb, cond_true, cond_false]
    ·simp only [CY, AJ, A1, Bq, AK, BH, BZ, CM, CN, CO, e24, fn24, ewA, ewL, preC, binI, dvI, shI, cmpB, env, bi, List.headD, List.tail, List.map, Nat.reduceAdd, h0, h3, wM, w2, hc', hb, cond_true, cond_false]
   ·have hc' : (decide (t < now) || decide (t > 1099511627776)) = false := by rw [hc, hb]; rfl
    have ht : now <= t /\ t <= 1099511627776 := by simpa using hc'
    have wt : IntKind.i64.wrap (t + 1) = t + 1 := i64w (by omega) (by omega)
    obtain ⟨k, hk⟩ : ∃ k, k = cnt (dc tc) [0, t + 1] := ⟨_, rfl⟩
    obtain ⟨hs1, hs2⟩ := hq.split t
    rw [<- hk] at hs1 hs2
    have hkl : k <= (dc tc).length := hk ▸ Gt _ _
    have wk : IntKind.i64.wrap (k : Int) = (k : Int) := i64w (by omega) (by omega)
    have n33 : i2b (K.b.norm (l.F 33 1000000 [t, tc, mc, 0, t + 1])) = true := Up _ ⟨hq.srt, hq.row, by show ((dc tc).length : Int) < cap8; unfold cap8; omega⟩
    have f33 : l.F 33 0 [t, tc, mc, 0, t + 1] = (k : Int) := by rw [hk]; exact U 0 rfl _
    have hdl : (dueT t (dc tc)).length <= (dc tc).length := List.length_filter_le _ _
    have f29 : l.F 29 0 [cd (dueT t (dc tc))] = cd (dueT t (dc tc)) := C 0 rfl _
    have n29 : i2b (K.b.norm (l.F 29 1000000 [cd (dueT t (dc tc))])) = true := Cp _ (by show ((dc (cd (dueT t (dc tc)))).length : Int) < cap8; rw [Ac]; unfold cap8; omega)
    obtain ⟨L, hL⟩ : ∃ L, L = (dueT t (dc tc)).length := ⟨_, rfl⟩
    rw [<- hL] at hdl
    have wL : IntKind.i64.wrap (L : Int) = (L : Int) := i64w (by omega) (by omega)
    have nTo : i2b (K.b.norm (l.F 9024 1000000 [t, tc, mc, cd (dueT t (dc tc)), (L : Int), 0])) = true :=
     Sp _ ⟨by show (L : Int) = ((dc (cd (dueT t (dc tc)))).length : Int); rw [Ac, hL], by show (0 : Int) <= 0; omega, by show (0 : Int) <= (L : Int); omega, by show rowsOK tmK (dc (cd (dueT t (dc tc)))); rw [Ac]; exact fun r hr => hq.row r (List.mem_filter.1 hr).1, by show (L : Int) < cap8; unfold cap8; omega⟩
    have g0 : l.F 9024 0 [t, tc, mc, cd (dueT t (dc tc)), (L : Int), 0] = t := S 0 rfl _
    have g1 : l.F 9024 1 [t, tc, mc, cd (dueT t (dc tc)), (L : Int), 0] = tc := S 1 rfl _
    have g2 : l.F 9024 2 [t, tc, mc, cd (dueT t (dc tc)), (L : Int), 0] = delC (dueT t (dc tc)) mc := by
     refine (S 2 rfl _).trans ?_
     show delC ((dc (cd (dueT t (dc tc)))).drop (0 : Int).toNat) mc = _
     rw [Ac]; rfl
    have n34 : i2b (K.b.norm (l.F 34 1000000 [tc, 0, (k : Int)])) = true := Dp _ ⟨by show (0 : Int) <= 0; omega, by show (0 : Int) <= (k : Int); omega, by show (k : Int) <= ((dc tc).length : Int); omega⟩
    have f34 : l.F 34 0 [tc, 0, (k : Int)] = cd (leftT t (dc tc)) := by
     rw [<- hs2]
     refine (D 0 rfl _).trans ?_
     show cd ((dc tc).take (0 : Int).toNat ++ (dc tc).drop ((k : Int)).toNat) = _
     rw [Int.toNat_natCast]; rfl
    have b1 : decide ((0 : Int) <= (k : Int)) = true := by simp
    have b2 : decide ((k : Int) <= ((dc tc).length : Int)) = true := by simp; omega
    have hlc : ((dc (cd (dueT t (dc tc)))).length : Int) = (L : Int) := by rw [Ac, hL]
    refine ⟨?_, ?_, ?_, ?_, ?_, ?_, trivial⟩
    ·simp only [Gk, AJ, A1, Bq, AK, BH, BZ, CM, CN, CO, ewA, ewL, preC, binI, dvI, shI, cmpB, env, bi, List.headD, List.tail, List.map, Nat.reduceAdd, h0, h3, n28, wM, w0, w1, wt, hc', n33, f33, wk, List.drop_zero, hs1, f29, n29, <- hL, wL, nTo, g1, n34, wl, b1, b2]; rfl
    ·simp only [CY, AJ, A1, Bq, AK, BH, BZ, CM, CN, CO, e24, fn24, ewA, ewL, preC, binI, dvI, shI, cmpB, env, bi, List.headD, List.tail, List.map, Nat.reduceAdd, h0, h3, wM, w0, w1, wt, hc', hb, f33, wk, List.drop_zero, hs1, f29, <- hL, wL, g0, cond_true, cond_false]
    ·simp only [CY, AJ, A1, Bq, AK, BH, BZ, CM, CN, CO, e24, fn24, ewA, ewL, preC, binI, dvI, shI, cmpB, env, bi, List.headD, List.tail, List.map, Nat.reduceAdd, h0, h3, wM, w0, w1, wt, hc', hb, f33, wk, List.drop_zero, hs1, f29, <- hL, wL, g1, f34, cond_true, cond_false]
    ·simp only [CY, AJ, A1, Bq, AK, BH, BZ, CM, CN, CO, e24, fn24, ewA, ewL, preC, binI, dvI, shI, cmpB, env, bi, List.headD, List.tail, List.map, Nat.reduceAdd, h0, h3, wM, w0, w1, wt, hc', hb, f33, wk, List.drop_zero, hs1, f29, <- hL, wL, g2, cond_true, cond_false]
    ·simp only [CY, AJ, A1, Bq, AK, BH, BZ, CM, CN, CO, e24, fn24, ewA, ewL, preC, binI, dvI, shI, cmpB, env, bi, List.headD, List.tail, List.map, Nat.reduceAdd, h0, h3, wM, w0, w1, wt, hc', hb, f33, wk, List.drop_zero, hs1, f29, cond_true, cond_false]
    ·simp only [CY, AJ, A1, Bq, AK, BH, BZ, CM, CN, CO, e24, fn24, ewA, ewL, preC, binI, dvI, shI, cmpB, env, bi, List.headD, List.tail, List.map, Nat.reduceAdd, h0, h3, wM, w0, w2, hc', hb, cond_true, cond_false]
theorem cAok : cA.OK Try.prog G0 := (c7ok.addF ok24 rfl).sub rfl (by simp [cA, c7]) (by simp [cA])
theorem ok16 : EntryOK Try.prog G0 e16 := cAok.entryP mixed SL _ rfl _ rfl fun xs hf hp => by
 obtain ⟨l, hl, hF⟩ := EU (l0 := cA.l)
 obtain ⟨S, Sp⟩ := hF e24 (by rfl) (by decide)
 obtain ⟨_, Np⟩ := hF e28 (by rfl) (by decide)
 rw [hl]
 match xs, hf with
 | [now, tc, mc], hf =>
   obtain ⟨h0, h1, h2, _⟩ := hf
   simp only [Ad] at h0
   have hq : QI now (dc tc) (dc mc) := hp
   have htm := hq.tim
   have n28 : ∀ xs, i2b (K.b.norm (l.F 28 1000000 xs)) = true := fun xs => Np xs trivial
   have w1 : IntKind.i64.wrap 1 = 1 := i64w (by decide) (by decide)
   have wM : IntKind.i64.wrap 1099511627776 = 1099511627776 := i64w (by decide) (by decide)
   have wn : IntKind.i64.wrap (now + 1) = now + 1 := i64w (by omega) (by omega)
   have hn : (bif decide (1099511627776 < now + 1) then 1099511627776 else now + 1) = tickT now := by
    unfold tickT
    by_cases h : 1099511627776 < now + 1
    ·rw [if_neg (by omega)]; simp [h]
    ·by_cases g : now + 1 < 1099511627776
     ·rw [if_pos g]; simp [h]
     ·rw [if_neg g]; simp [h]; omega
   have n24 : i2b (K.b.norm (l.F 24 1000000 [now, tc, mc, tickT now])) = true := Sp _ hp
   have f : ∀ j, (j == preC) = false -> l.F 24 j [now, tc, mc, tickT now] = fn24 j [now, tc, mc, tickT now] := fun j hj => S j hj _
   have e : ∀ j, fn16 j [now, tc, mc] = fn24 j [now, tc, mc, tickT now] := fun j => rfl
   refine ⟨?_, ?_, ?_, ?_, ?_, ?_, trivial⟩
   ·simp only [Lq, DH, ewA, ewL, preC, binI, dvI, shI, cmpB, env, bi, List.headD, List.tail, List.map, Nat.reduceAdd, h0, w1, wM, wn, hn, n28, n24]; rfl
   ·simp only [GW, DH, e16, e, ewA, ewL, preC, binI, dvI, shI, cmpB, env, bi, List.headD, List.tail, List.map, Nat.reduceAdd, h0, w1, wM, wn, hn, f 0 rfl]
   ·simp only [GW, DH, e16, e, ewA, ewL, preC, binI, dvI, shI, cmpB, env, bi, List.headD, List.tail, List.map, Nat.reduceAdd, h0, w1, wM, wn, hn, f 1 rfl]
   ·simp only [GW, DH, e16, e, ewA, ewL, preC, binI, dvI, shI, cmpB, env, bi, List.headD, List.tail, List.map, Nat.reduceAdd, h0, w1, wM, wn, hn, f 2 rfl]
   ·simp only [GW, DH, e16, e, ewA, ewL, preC, binI, dvI, shI, cmpB, env, bi, List.headD, List.tail, List.map, Nat.reduceAdd, h0, w1, wM, wn, hn, f 3 rfl]
   ·simp only [GW, DH, e16, e, ewA, ewL, preC, binI, dvI, shI, cmpB, env, bi, List.headD, List.tail, List.map, Nat.reduceAdd, h0, w1, wM, wn, hn, f 4 rfl]
end
end Go.Proofs.Ytnockichpnaoeaa.Ew.Q
namespace Go.Proofs.Ytnockichpnaoeaa.Ew
open Go Go.RowKit Go.Sort Go.Proofs
def sK : List K := [.i .i64]
def sRow : Row := .ofKs sK
def numsR (l : RL) : List Int := l.map fun r => r.headD 0
def srtR (l : RL) : RL := ((numsR l).mergeSort fun x y => decide (x <= y)).map fun z => [z]
noncomputable def A2 (key f ty : Nat) : Ent := ⟨key, f, [.lsn ty sRow], [{ j := 0, ty := ty, tl := some (Tl.lst sRow), cs := [.sc .x] }], [], .tup [], fun _ xs => cd (srtR (dc (env xs 0))), fun xs => ((dc (env xs 0)).length : Int) < 1099511627776⟩
section
variable {w : World} {Im : Nat -> Prop}
theorem O4 : ∀ {l : RL} {xs : List Value}, RowsV w Im sRow l xs -> xs = (numsR l).map (Value.int .i64) /\ ∀ z ∈ numsR l, IntKind.i64.wrap z = z
 | [], xs, h => by simp only [RowsV] at h; subst h; exact ⟨rfl, fun z hz => by cases hz⟩
 | r :: l, xs, h => by
   obtain ⟨us, ys, rfl, h2, h3⟩ := h
   obtain ⟨i1, i2⟩ := O4 h3
   obtain ⟨z, zs', vs', rfl, rfl, hz, h4⟩ := h2
   obtain ⟨rfl, rfl⟩ := h4
   refine ⟨?_, fun y hy => ?_⟩
   ·rw [i1]; rfl
   ·simp only [numsR, List.map_cons, List.mem_cons, List.headD_cons] at hy
    rcases hy with rfl | hy
    ·exact hz
    ·exact i2 y hy
theorem QT : ∀ {zs : List Int}, (∀ z ∈ zs, IntKind.i64.wrap z = z) -> RowsV w Im sRow (zs.map fun z => [z]) (zs.map (Value.int .i64))
 | [], _ => rfl
 | z :: zs, h => ⟨[.int .i64 z], zs.map (Value.int .i64), rfl, ⟨z, [], [], rfl, rfl, h z (by simp), rfl, rfl⟩, QT fun y hy => h y (List.mem_cons_of_mem _ hy)⟩
end
theorem VO (l : RL) : (srtR l).length = l.length := by
 unfold srtR numsR
 rw [List.length_map, List.length_mergeSort, List.length_map]
theorem WU {f ty key : Nat} (G : Glob)
 (h0 : ∀ (p : Option Addr) (cap : Nat) (w : World), Calls Try.prog f #[.slice p 0 cap] w fun e w' => e = .returned (.tuple #[]) /\ w' = w)
 (h1 : ∀ (blk off cap : Nat) (zs : List Int) (w : World), Holds (Value.int .i64) w blk off zs.toArray -> blk < w.heap.size -> zs.length < 4611686018427387904 ->
  Calls Try.prog f #[.slice (some ⟨blk, off, none⟩) zs.length cap] w fun e w' => e = .returned (.tuple #[]) /\ ∃ n os, w' = grow (putRow (Value.int .i64) (Sort.ahead w n) blk off (zs.mergeSort fun x y => decide (x <= y)).toArray) os) :
 EntryOK Try.prog G (A2 key f ty) := by
 intro xs hf hp w M0 Im0 hs hM hG hR
 obtain ⟨a, rfl⟩ : ∃ a, xs = [a] := by
  have h : xs.length = 1 := Ao hf
  exact List.length_eq_one_iff.1 h
 ·skip
  replace hp : ((dc a).length : Int) < 1099511627776 := hp
  have hmem : ((0 : Nat), mkB true, Blk.lst ty sRow true (LEN (.var .x 0)) (.var .x 0)) ∈ (A2 key f ty).pgen.2 := List.mem_cons_self ..
  obtain ⟨b1, b2⟩ := hR.ent _ hmem (by simp)
  obtain ⟨a1, a2, a3⟩ := b1
  have hd : (E.var .x 0).den F0 (env [a]) = a := rfl
  rw [hd] at a1 a2 a3
  simp only [cond_true] at a3
  have hm0 : mutB F0 (env [a]) hs 0 (.lst ty sRow true (LEN (.var .x 0)) (.var .x 0)) = ((hs 0).sl (dc a).length).ownBlock := by simp only [mutB, a2, Int.toNat_natCast]
  have hargs : (SV.concL F0 (env [a]) hs (A2 key f ty).pgen.1).toArray = #[(hs 0).sl (dc a).length] := by
   show #[SV.conc F0 (env [a]) hs (.ls 0 (LEN (.var .x 0)))] = _
   simp only [SV.conc, a2, Int.toNat_natCast]
  rw [hargs]
  obtain ⟨q1, xs', q2, q3⟩ := a3
  obtain ⟨r1, r2⟩ := O4 q3
  obtain ⟨z, hz⟩ : ∃ z, z = cd (srtR (dc a)) := ⟨_, rfl⟩
  have hz1 : env ([a] ++ Ai (A2 key f ty).fn [a] 0 (A2 key f ty).oks) 1 = z := by rw [hz]; rfl
  have hzd : dc z = srtR (dc a) := by rw [hz]; exact Ac _
  have hzl : (dc z).length = (dc a).length := by rw [hzd, VO]
  have hln : (numsR (dc a)).length = (dc a).length := List.length_map ..
  have key' : ∀ w' : World, Fr (fun b => ((hs 0).sl (dc a).length).ownBlock = some b) w w' -> w'.ownsRow 0 ty 1 ((hs 0).sl (dc a).length) (dc a).length (((numsR (dc a)).mergeSort fun x y => decide (x <= y)).map (Value.int .i64)) ->
   RelE F0 (env ([a] ++ Ai (A2 key f ty).fn [a] 0 (A2 key f ty).oks)) w M0 Im0 hs (A2 key f ty).oents w' := by
   intro w' hfr hown
   have hT : Fr M0 w w' := ⟨hfr.os, hfr.tape, hfr.output, hfr.size, fun k hk hn => hfr.block k hk fun e => by
    rcases (b2 k (by rw [hm0]; exact e)).1 with h | h
    ·exact hn h
    ·omega⟩
   have hO : OwL w' Im0 ty sRow (hs 0) (dc z) := by
    refine ⟨by rw [hzl]; exact q1, _, by rw [hzl]; exact hown, ?_⟩
    rw [hzd]
    exact QT fun y hy => r2 y ((List.mergeSort_perm _ _).mem_iff.1 hy)
   have hl : (LEN (.var .x 1)).den F0 (env ([a] ++ Ai (A2 key f ty).fn [a] 0 (A2 key f ty).oks)) = ((dc z).length : Int) := by
    rw [Et.len]
    have : (E.var .x 1).den F0 (env ([a] ++ Ai (A2 key f ty).fn [a] 0 (A2 key f ty).oks)) = z := hz1
    rw [this]
    exact BJ hO.1
   have hd1 : (E.var .x 1).den F0 (env ([a] ++ Ai (A2 key f ty).fn [a] 0 (A2 key f ty).oks)) = z := hz1
   have hoe : (A2 key f ty).oents = [(0, mkB true, .lst ty sRow true (LEN (.var .x 1)) (.var .x 1))] := rfl
   rw [hoe]
   have hmu : mutB F0 (env ([a] ++ Ai (A2 key f ty).fn [a] 0 (A2 key f ty).oks)) hs 0 (.lst ty sRow true (LEN (.var .x 1)) (.var .x 1)) = ((hs 0).sl (dc a).length).ownBlock := by
    simp only [mutB, hl, hzl, Int.toNat_natCast]
   refine ⟨fun x hx _ => ?_, fun x hx y hy _ _ b _ _ => ?_, fun b hb' => Nat.lt_of_lt_of_le (hR.im b hb') hT.size, hT⟩
   ·simp only [List.mem_singleton] at hx
    subst hx
    refine ⟨⟨by rw [hd1, hz]; exact Bb _, by rw [hd1]; exact hl, by rw [hd1]; simp only [cond_true]; exact hO⟩, fun b hb' => ?_⟩
    rw [hmu] at hb'
    have := b2 b (by rw [hm0]; exact hb')
    exact ⟨this.1, this.2.1, Nat.lt_of_lt_of_le this.2.2 hT.size⟩
   ·simp only [List.mem_singleton] at hx hy
    subst hx; subst hy; rfl
  have fin : ∀ w' : World, RelE F0 (env ([a] ++ Ai (A2 key f ty).fn [a] 0 (A2 key f ty).oks)) w M0 Im0 hs (A2 key f ty).oents w' ->
   ∃ (hs' : Nat -> Hd) (Im' : Nat -> Prop), (∀ j, j < (A2 key f ty).nn -> hs' j = hs j) /\ (∀ b, Im0 b -> Im' b) /\ (∀ b, Im' b -> Im0 b \/ M0 b \/ w.heap.size <= b) /\
   Ending.returned (.tuple #[]) = .returned ((B3 (A2 key f ty).ogen.1).conc F0 (env ([a] ++ Ai (A2 key f ty).fn [a] 0 (A2 key f ty).oks)) hs') /\ RelE F0 (env ([a] ++ Ai (A2 key f ty).fn [a] 0 (A2 key f ty).oks)) w M0 Im' hs' (A2 key f ty).oents w' :=
   fun w' h => ⟨hs, Im0, fun _ _ => rfl, fun _ h => h, fun _ h => Or.inl h, rfl, h⟩
  rcases q2.2 with ⟨e1, e2⟩ | ⟨g, cap, cur, hv, _, hg, hnc, hcm, hcs, ht⟩
  ·have hl0 : (dc a).length = 0 := e2
   have e3 : (hs 0).sl (dc a).length = .slice none 0 0 := e1
   rw [e3]
   refine (h0 none 0 w).mono ?_
   rintro e w' ⟨rfl, rfl⟩
   refine fin _ (key' _ (Fr.refl _ _) ?_)
   have hn0 : numsR (dc a) = [] := List.length_eq_zero_iff.1 (hln.trans hl0)
   rw [hn0, List.mergeSort_nil]
   have := q2
   rw [r1, hn0] at this
   exact this
  ·rw [hv]
   have hgl : g < w.heap.size := (Array.getElem?_eq_some_iff.1 hg).1
   have ht' : cur.toList.take (numsR (dc a)).length = (numsR (dc a)).map (Value.int .i64) := by
    rw [hln, <- r1]
    have : (dc a).length * sRow.size = (dc a).length := Nat.mul_one _
    rw [this] at ht
    exact ht
   have H := h1 g 0 cap (numsR (dc a)) w (holds_of_blockI hg ht') hgl (by omega)
   rw [hln] at H
   refine H.mono ?_
   rintro e w' ⟨rfl, n, os, rfl⟩
   refine fin _ (key' _ ?_ ?_)
   ·rw [hv]
    exact Fr.grown (grownBy_sortedI _)
   ·have := ownsRow_sortedI (n := n) (os := os) (base := 0) (cap := cap) (ss := numsR (dc a)) (ts := (numsR (dc a)).mergeSort fun x y => decide (x <= y)) (List.length_mergeSort _) (Nat.zero_le _) hg (by rw [hln]; exact hnc) hcm (by rw [hcs]; rfl)
    rw [hln] at this
    rw [hv]
    exact this
end Go.Proofs.Ytnockichpnaoeaa.Ew
namespace Go.Proofs.Ytnockichpnaoeaa.Ew
open Go Go.RowKit
noncomputable section
def idT (l : RL) : RL := l.map fun r => [r.headD 0]
def QR (c now : Int) (d : Nat -> Int) (T : RL) : Prop := ∀ i x : Int, [i, x] ∈ T ↔ (0 <= i /\ i < c) /\ d i.toNat = x /\ now < x
structure ZQ (S now bu le mo T h ln vn D c qn qt qm : Int) (d a : Nat -> Int) : Prop where
 lz : LZ S now bu le mo T h ln vn D c d a []
 hh : c <= h
 qi : Q.QI qn (dc qt) (dc qm)
 tm : qn = now
 qr : QR c now d (dc qt)
 fa : ∀ r ∈ dc qt, Q.dlR r <= now + 600
def ZW (S now bu le mo T h ln vn D c qn qt qm : Int) : Prop := ∃ d a, ZQ S now bu le mo T h ln vn D c qn qt qm d a
theorem leI : (∀ a b c : Int, decide (a <= b) = true -> decide (b <= c) = true -> decide (a <= c) = true) /\ ∀ a b : Int, (decide (a <= b) || decide (b <= a)) = true :=
 ⟨fun a b c h1 h2 => by simp only [decide_eq_true_eq] at h1 h2 ⊢; omega, fun a b => by simp only [Bool.or_eq_true, decide_eq_true_eq]; omega⟩
theorem Vf {a b : RL} (h : (numsR a).Perm (numsR b)) : srtR a = srtR b := by
 unfold srtR
 congr 1
 exact List.Perm.eq_of_pairwise (le := fun a b => decide (a <= b) = true) (fun a b _ _ h1 h2 => by simp only [decide_eq_true_eq] at h1 h2; omega) (List.pairwise_mergeSort leI.1 leI.2 _) (List.pairwise_mergeSort leI.1 leI.2 _)
  (((List.mergeSort_perm _ _).trans h).trans (List.mergeSort_perm _ _).symm)
theorem WW {l : RL} (h : (numsR (idT l)).Pairwise fun a b => a <= b) : srtR (idT l) = idT l := by
 have e : (numsR (idT l)).mergeSort (fun x y => decide (x <= y)) = numsR (idT l) :=
  List.Perm.eq_of_pairwise (le := fun a b => decide (a <= b) = true) (fun a b _ _ h1 h2 => by simp only [decide_eq_true_eq] at h1 h2; omega) (List.pairwise_mergeSort leI.1 leI.2 _) (h.imp fun h => by simpa using h) (List.mergeSort_perm _ _)
 unfold srtR
 rw [e]
 simp only [numsR, idT, List.map_map]
 exact List.map_congr_left fun _ _ => rfl
theorem HF {now : Int} {T M : RL} (h : Q.QI now T M) {r : List Int} (hr : r ∈ T) : ∃ i x, r = [i, x] := by
 obtain ⟨i, x, e, _⟩ := Q.row_eq (h.row r hr)
 exact ⟨i, x, e⟩
theorem FY {l : RL} {y : Int} : y ∈ numsR (idT l) ↔ ∃ r ∈ l, r.headD 0 = y := by
 simp only [numsR, idT, List.map_map, List.mem_map, Function.comp, List.headD_cons]
theorem QU (l : RL) : (numsR (idT l)).length = l.length := by simp [numsR, idT]
theorem KY {now : Int} {T M : RL} (h : Q.QI now T M) : ∀ {l : RL}, l.Sublist T -> (numsR (idT l)).Nodup
 | [], _ => List.Pairwise.nil
 | r :: l, hs => by
   have hs' := (List.sublist_cons_self r l).trans hs
   refine List.nodup_cons.2 ⟨fun hm => ?_, KY h hs'⟩
   obtain ⟨y, hy, e⟩ := FY.1 hm
   have hyT := hs'.subset hy
   have hrT := hs.subset (List.mem_cons_self ..)
   have hsrt := (h.srt).sublist hs
   have h1 := (List.pairwise_cons.1 hsrt).1 y hy
   obtain ⟨i, x, rfl⟩ := HF h hrT
   obtain ⟨j, z, rfl⟩ := HF h hyT
   have : j = i := e
   subst this
   have := h.uid hrT hyT rfl
   rw [this] at h1
   rw [Q.ltT_irr] at h1; cases h1
theorem QV {now t : Int} {T M : RL} (h : Q.QI now T M) : ∀ {l : RL}, l.Sublist T -> (∀ r ∈ l, Q.dlR r = t) -> (numsR (idT l)).Pairwise fun a b => a <= b
 | [], _, _ => List.Pairwise.nil
 | r :: l, hs, ht => by
   have hs' := (List.sublist_cons_self r l).trans hs
   have hsrt := (h.srt).sublist hs
   refine List.pairwise_cons.2 ⟨fun y hy => ?_, QV h hs' fun r hr => ht r (List.mem_cons_of_mem _ hr)⟩
   obtain ⟨q, hq, rfl⟩ := FY.1 hy
   have h1 := (List.pairwise_cons.1 hsrt).1 q hq
   have t1 := ht r (List.mem_cons_self ..)
   have t2 := ht q (List.mem_cons_of_mem _ hq)
   obtain ⟨i, x, rfl⟩ := HF h (hs.subset (List.mem_cons_self ..))
   obtain ⟨j, z, rfl⟩ := HF h (hs'.subset hq)
   rw [Q.ltT_iff] at h1
   show i <= j
   simp only [Q.dlR, Q.idR, List.getD_cons_succ, List.getD_cons_zero] at h1 t1 t2
   omega
section
variable {S now bu le mo T h ln vn D c qn qt qm : Int} {d a : Nat -> Int} {S' now' bu' le' mo' T' h' ln' vn' D' qn' qt' qm' : Int}
theorem ZQ.fut (z : ZQ S now bu le mo T h ln vn D c qn qt qm d a) {i : Nat} (hi : (i : Int) < c) : (a i = 0 /\ d i = 0) \/ (now < a i /\ a i <= d i) := by
 have h1 := (z.lz.w.mem i)
 have h2 := z.lz.w.dr hi
 obtain ⟨h3, h4, h5⟩ := z.lz.ad i hi
 by_cases h0 : a i = 0
 ·exact Or.inl ⟨h0, h3.1 h0⟩
 ·right
  refine ⟨?_, h4⟩
  by_cases hn : a i <= now
  ·have := h1.2 ⟨hi, by omega, hn⟩
   cases this
  ·omega
theorem ZQ.mem (z : ZQ S now bu le mo T h ln vn D c qn qt qm d a) (i : Int) : (∃ r ∈ dc qt, r.headD 0 = i) ↔ (0 <= i /\ i < c) /\ now < d i.toNat := by
 constructor
 ·rintro ⟨r, hr, rfl⟩
  obtain ⟨i, x, rfl⟩ := HF z.qi hr
  obtain ⟨h1, h2, h3⟩ := (z.qr i x).1 hr
  exact ⟨h1, by rw [show ([i, x] : List Int).headD 0 = i from rfl, h2]; exact h3⟩
 ·rintro ⟨h1, h2⟩
  exact ⟨[i, d i.toNat], (z.qr _ _).2 ⟨h1, rfl, h2⟩, rfl⟩
theorem ZQ.len (z : ZQ S now bu le mo T h ln vn D c qn qt qm d a) : ln = ((dc qt).length : Int) := by
 have hw := z.lz.w
 have hct := hw.ct
 have htm := hw.tm
 rw [z.lz.ln, hw.len]
 have hnd : ((numsR (idT (dc qt))).map Int.toNat).Nodup := by
  have := KY z.qi (List.Sublist.refl (dc qt))
  refine (List.pairwise_map).2 (this.imp_of_mem fun {a b} ha hb hne e => hne ?_)
  have h1 := (z.mem a).1 (FY.1 ha)
  have h2 := (z.mem b).1 (FY.1 hb)
  omega
 have hp : ((numsR (idT (dc qt))).map Int.toNat).Perm ((List.range c.toNat).filter fun i => decide (0 < a i)) := by
  refine (List.perm_ext_iff_of_nodup hnd (List.nodup_range.filter _)).2 fun x => ?_
  rw [List.mem_filter, List.mem_range, List.mem_map, decide_eq_true_eq]
  constructor
  ·rintro ⟨y, hy, rfl⟩
   obtain ⟨h1, h2⟩ := (z.mem y).1 (FY.1 hy)
   have := z.fut (i := y.toNat) (by omega)
   exact ⟨by omega, by omega⟩
  ·rintro ⟨h1, h2⟩
   have := z.fut (i := x) (by omega)
   exact ⟨(x : Int), FY.2 ((z.mem _).2 ⟨by omega, by rw [Int.toNat_natCast]; omega⟩), by simp⟩
 have hl := hp.length_eq
 rw [List.length_map, QU] at hl
 have hcn : cnt c.toNat (fun i => decide (0 < a i)) = ((List.range c.toNat).filter fun i => decide (0 < a i)).length := List.countP_eq_length_filter
 unfold cntP
 rw [hcn, <- hl]
theorem ZQ.lenQ (z : ZQ S now bu le mo T h ln vn D c qn qt qm d a) : ((dc qt).length : Int) <= 4096 := z.qi.len
theorem ZQ.touch {i x e qe : Int} (z : ZQ S now bu le mo T h ln vn D c qn qt qm d a) (hi : 0 <= i /\ i < c) (hx : now < x /\ x <= now + 600)
 (ho : Aj z13.fn [S, now, bu, le, mo, T, h, ln, vn, D, i, x] 0 [.x, .i .i64, .i .i64, .i .i64, .i .i64, .x, .i .i64, .i .i64, .i .i64, .x, .i .i64] [S', now', bu', le', mo', T', h', ln', vn', D', e])
 (hq : Aj Q.fn21 [qn, qt, qm, i, x] 0 [.i .i64, .x, .x, .i .i64] [qn', qt', qm', qe]) :
 ZW S' now' bu' le' mo' T' h' ln' vn' D' c qn' qt' qm' /\ e = 0 /\ qe = 0 /\ now' = now /\ bu' = bu /\ mo' = mo /\ vn' = vn := by
 obtain ⟨_, q1, q2, q3, q4, q5, q6, q7⟩ := z.lz.touch hi ⟨hx.1, by omega⟩ ho
 obtain ⟨o0, o1, o2, o3, _⟩ := hq
 have hct := z.lz.w.ct
 have htm := z.lz.w.tm
 have hm := z.tm
 have hb : Q.armB qn i x = true := by
  unfold Q.armB Q.rightB
  simp; omega
 have hn : qn' = qn := o0.trans (i64w (by show -9223372036854775808 <= qn; omega) (by show qn <= _; omega))
 have ht : dc qt' = Q.insT [i, x] (Q.delT i (dc qt)) := by
  rw [show qt' = _ from o1]
  show dc (bif Q.armB qn i x then _ else _) = _
  rw [hb, cond_true, Ac]; rfl
 have hM : dc qm' = putR 1 [i, x] (delR [i] (dc qm)) := by
  rw [show qm' = _ from o2]
  show dc (bif Q.armB qn i x then _ else _) = _
  rw [hb, cond_true, Ac]; rfl
 have he : qe = 0 := by
  refine Eq.trans o3 ?_
  show IntKind.i64.wrap (bif Q.armB qn i x then 0 else 2) = 0
  rw [hb]; rfl
 have hdel := z.qi.del i
 have hne : ∀ x ∈ Q.delT i (dc qt), Q.idR x ≠ i := fun x hx => by simpa using (List.mem_filter.1 hx).2
 have hmem : ∀ r, r ∈ dc qt' ↔ r = [i, x] \/ (r ∈ dc qt /\ Q.idR r ≠ i) := fun r => by
  rw [ht, (Q.perm_ins [i, x] _).mem_iff, List.mem_cons]
  unfold Q.delT
  rw [List.mem_filter]; simp
 have hins := hdel.ins hne hi.1 (by omega) (show qn < x by omega) (by omega)
 refine ⟨⟨_, _, ⟨q1, by have := z.hh; omega, by rw [ht, hM, hn]; exact hins, by omega, fun j y => ?_, fun r hr => ?_⟩⟩, q2, he, q3, q4, q5, q7⟩
 ·rw [hmem, q3]
  have hqr := z.qr j y
  by_cases hj : j = i
  ·subst hj
   rw [BL]
   constructor
   ·rintro (e1 | ⟨_, e2⟩)
    ·simp only [List.cons.injEq, and_true, true_and] at e1
     subst e1
     exact ⟨hi, rfl, hx.1⟩
    ·exact absurd rfl e2
   ·rintro ⟨_, e2, _⟩
    left; rw [e2]
  ·have hne2 : [j, y] ≠ [i, x] := fun e1 => hj (by simpa using congrArg (fun l => l.headD 0) e1)
   constructor
   ·rintro (e1 | ⟨e1, _⟩)
    ·exact absurd e1 hne2
    ·obtain ⟨e2, e3, e4⟩ := hqr.1 e1
     exact ⟨e2, by rw [AL _ _ (by omega)]; exact e3, e4⟩
   ·rintro ⟨e2, e3, e4⟩
    rw [AL _ _ (by omega)] at e3
    exact Or.inr ⟨hqr.2 ⟨e2, e3, e4⟩, hj⟩
 ·rw [q3]
  rcases (hmem r).1 hr with rfl | ⟨h1, _⟩
  ·exact hx.2
  ·exact z.fa r h1
theorem ZQ.can {i e qe : Int} (z : ZQ S now bu le mo T h ln vn D c qn qt qm d a) (hi : 0 <= i /\ i < c)
 (ho : Aj z19.fn [S, now, bu, le, mo, T, h, ln, vn, D, i] 0 [.x, .i .i64, .i .i64, .i .i64, .i .i64, .x, .i .i64, .i .i64, .i .i64, .x, .i .i64] [S', now', bu', le', mo', T', h', ln', vn', D', e])
 (hq : Aj Q.fn22 [qn, qt, qm, i] 0 [.i .i64, .x, .x, .i .i64] [qn', qt', qm', qe]) :
 ZW S' now' bu' le' mo' T' h' ln' vn' D' c qn' qt' qm' /\ e = qe /\ now' = now /\ bu' = bu /\ mo' = mo /\ vn' = vn := by
 obtain ⟨q1, q2, q3, q4, q5, q6, q7⟩ := z.lz.cancel hi ho
 obtain ⟨o0, o1, o2, o3, _⟩ := hq
 have hct := z.lz.w.ct
 have htm := z.lz.w.tm
 have hm := z.tm
 have hb : Q.rightB i = true := by
  unfold Q.rightB
  simp; omega
 have hn : qn' = qn := o0.trans (i64w (by show -9223372036854775808 <= qn; omega) (by show qn <= _; omega))
 have ht : dc qt' = Q.delT i (dc qt) /\ dc qm' = delR [i] (dc qm) := by
  rw [show qt' = _ from o1, show qm' = _ from o2]
  show dc (bif Q.rightB i && Q.hasM (dc qm) i then _ else _) = _ /\ dc (bif Q.rightB i && Q.hasM (dc qm) i then _ else _) = _
  rw [hb, Bool.true_and]
  cases hh : Q.hasM (dc qm) i
  ·exact ⟨(z.qi.del_none hh).1.symm, (z.qi.del_none hh).2.symm⟩
  ·exact ⟨Ac _, Ac _⟩
 have hf := z.fut (i := i.toNat) (by omega)
 have hhas : Q.hasM (dc qm) i = true ↔ d i.toNat ≠ 0 := by
  show (((dc qm).any fun r => r.take [i].length == [i]) = true) ↔ _
  rw [z.qi.has i]
  constructor
  ·rintro ⟨x, hx⟩
   obtain ⟨_, e1, e2⟩ := (z.qr i x).1 hx
   omega
  ·intro hd
   exact ⟨d i.toNat, (z.qr _ _).2 ⟨hi, rfl, by omega⟩⟩
 have he : e = qe := by
  refine q2.trans (Eq.symm (Eq.trans o3 ?_))
  show IntKind.i64.wrap (bif Q.rightB i then (bif Q.hasM (dc qm) i then 0 else 6) else 2) = _
  rw [hb, cond_true]
  by_cases hd : d i.toNat = 0
  ·rw [if_pos hd]
   cases hh : Q.hasM (dc qm) i
   ·rfl
   ·exact absurd hd (hhas.1 hh)
  ·rw [if_neg hd, hhas.2 hd]; rfl
 have hmem : ∀ r, r ∈ dc qt' ↔ r ∈ dc qt /\ Q.idR r ≠ i := fun r => by
  rw [ht.1]
  unfold Q.delT
  rw [List.mem_filter]; simp
 refine ⟨⟨_, _, ⟨q1, by have := z.hh; omega, by rw [ht.1, ht.2, hn]; exact z.qi.del i, by omega, fun j y => ?_, fun r hr => by rw [q3]; exact z.fa r ((hmem r).1 hr).1⟩⟩, he, q3, q4, q5, q7⟩
 rw [hmem, q3]
 have hqr := z.qr j y
 by_cases hj : j = i
 ·subst hj
  rw [BL]
  constructor
  ·rintro ⟨_, e2⟩; exact absurd rfl e2
  ·rintro ⟨_, e2, e3⟩; omega
 ·constructor
  ·rintro ⟨e1, _⟩
   obtain ⟨e2, e3, e4⟩ := hqr.1 e1
   exact ⟨e2, by rw [AL _ _ (by omega)]; exact e3, e4⟩
  ·rintro ⟨e2, e3, e4⟩
   rw [AL _ _ (by omega)] at e3
   exact ⟨hqr.2 ⟨e2, e3, e4⟩, hj⟩
theorem ZQ.tick {O qd qe : Int} (z : ZQ S now bu le mo T h ln vn D c qn qt qm d a) (hm : mo + bu <= 1125899906842624) (hv : vn + 4096 <= 1125899906842624) (hn : now < 1099511627776)
 (ho : Aj z14.fn [S, now, bu, le, mo, T, h, ln, vn, D] 0 [.x, .i .i64, .i .i64, .i .i64, .i .i64, .x, .i .i64, .i .i64, .i .i64, .x, .x] [S', now', bu', le', mo', T', h', ln', vn', D', O])
 (hq : Aj Q.fn16 [qn, qt, qm] 0 [.i .i64, .x, .x, .x, .i .i64] [qn', qt', qm', qd, qe]) :
 ZW S' now' bu' le' mo' T' h' ln' vn' D' c qn' qt' qm' /\ now' = now + 1 /\ bu' = bu /\ mo' <= mo + bu /\ vn' <= vn + 4096 /\ qe = 0 /\ rowsOK Q.tmK (dc qd) /\ rowsOK intK (dc O) /\ (dc O).length = (dc qd).length /\ ((dc qd).length : Int) <= 4096 /\ srtR (dc O) = idT (dc qd) /\
  ∀ b, (∀ r ∈ dc qt, Q.dlR r <= b) -> ∀ r ∈ dc qt', Q.dlR r <= b := by
 have hw := z.lz.w
 have hct := hw.ct
 have htm := hw.tm
 have hbg := hw.bg
 have hhh := z.hh
 obtain ⟨L, ⟨v1, v2, v3, v4, v5, v6, v7, v8, v9, v10, v11, v12, v13, v15, g1, g2, _⟩, q⟩ := z.lz.tickP hm hv ho
 obtain ⟨N, P, e0, n1, n2, n3, n4, n5, n6, n7, n8, n9⟩ := q c d a [] z.lz
 obtain ⟨N', k1, _⟩ := hw.tick hm g1
 obtain ⟨_, _, _, _, _, t6, _⟩ := k1.take (k := h) (by have := z.lz.hd; omega) g2
 have eP : P = ([] ++ N').take h.toNat := Fk (show idR (List.take h.toNat (([] : List Nat) ++ N')) = idR P from t6.symm.trans e0)
 have nd : P.Nodup := by rw [eP]; exact k1.nd.sublist (List.take_sublist ..)
 have eN : nowT now = now + 1 := Fl hn
 replace n1 : ∀ i, i ∈ N ↔ now < 1099511627776 /\ (i : Int) < c /\ a i = now + 1 := n1
 replace n2 : P = N.take h.toNat := n2
 replace n3 : LZ S' now' bu' le' mo' T' h' ln' vn' D' c (cmD (nowT now) d P) (cmA (nowT now) d a P) (N.drop h.toNat) := n3
 replace n4 : dc O = idR (cmO (nowT now) d P) := n4
 replace n5 : now' = nowT now := n5
 replace n9 : vn' = vn + cmV (nowT now) d P := n9
 rw [eN] at n3 n4 n5 n9
 have hPc : ∀ i ∈ P, i < c.toNat := fun i hi => by
  rw [n2] at hi
  have := (n1 i).1 (List.mem_of_mem_take hi)
  omega
 have hPl : P.length <= c.toNat := by
  have := List.Nodup.length_le_of_subset nd (fun i hi => List.mem_range.2 (hPc i hi) : P ⊆ List.range c.toNat)
  rwa [List.length_range] at this
 have hdrop : N.drop h.toNat = [] := by
  by_cases hl : N.length <= h.toNat
  ·exact List.drop_of_length_le hl
  ·have hPl2 : P.length = h.toNat := by rw [n2, List.length_take]; omega
   have hall : ∀ i, i < c.toNat -> i ∈ P := fun i hi => Classical.byContradiction fun hni => by
    have := List.Nodup.length_le_of_subset (l₁ := i :: P) (l₂ := List.range c.toNat) (List.nodup_cons.2 ⟨hni, nd⟩) (fun x hx => by
     rcases List.mem_cons.1 hx with rfl | hx
     ·exact List.mem_range.2 hi
     ·exact List.mem_range.2 (hPc x hx))
    rw [List.length_range, List.length_cons] at this
    omega
   refine List.eq_nil_iff_forall_not_mem.2 fun i hi => ?_
   obtain ⟨b1, b2, b3⟩ := (n3.w.mem i).1 hi
   have hiP := hall i (by omega)
   unfold cmA at b2 b3
   rw [if_pos hiP] at b2 b3
   rw [n5] at b3
   by_cases hd : d i <= now + 1
   ·rw [if_pos hd] at b2; omega
   ·rw [if_neg hd] at b3; omega
 have hPm : ∀ i, i ∈ P ↔ (i : Int) < c /\ a i = now + 1 := fun i => by
  have : P = N := by
   rw [n2]
   have := List.take_append_drop h.toNat N
   rwa [hdrop, List.append_nil] at this
  rw [this, n1 i]
  exact ⟨fun x => x.2, fun x => ⟨hn, x⟩⟩
 rw [hdrop] at n3
 have hOm : ∀ i, i ∈ cmO (now + 1) d P ↔ (i : Int) < c /\ d i = now + 1 := fun i => by
  unfold cmO
  rw [List.mem_filter, hPm i, decide_eq_true_eq]
  constructor
  ·rintro ⟨⟨h1, h2⟩, h3⟩
   have := z.fut h1
   exact ⟨h1, by omega⟩
  ·rintro ⟨h1, h2⟩
   have := z.fut h1
   exact ⟨⟨h1, by omega⟩, by omega⟩
 obtain ⟨o0, o1, o2, o3, o4, _⟩ := hq
 have hmq := z.tm
 subst hmq
 have et : Q.tickT qn = qn + 1 := by unfold Q.tickT; split <;> omega
 have hb : Q.toB qn (qn + 1) = true := by
  unfold Q.toB
  simp; omega
 have hnq : qn' = qn + 1 := by
  refine Eq.trans o0 ?_
  show IntKind.i64.wrap (bif Q.toB qn (Q.tickT qn) then Q.tickT qn else qn) = _
  rw [et, hb, cond_true]; exact i64w (by omega) (by omega)
 have ht : dc qt' = Q.leftT (qn + 1) (dc qt) := by
  rw [show qt' = _ from o1]
  show dc (bif Q.toB qn (Q.tickT qn) then cd (Q.leftT (Q.tickT qn) (dc qt)) else _) = _
  rw [et, hb, cond_true, Ac]
 have hM : dc qm' = Q.delAll (Q.dueT (qn + 1) (dc qt)) (dc qm) := by
  rw [show qm' = _ from o2]
  show dc (bif Q.toB qn (Q.tickT qn) then Q.delC (Q.dueT (Q.tickT qn) (dc qt)) qm else _) = _
  rw [et, hb, cond_true, Q.dc_delC]
 have hD : dc qd = Q.dueT (qn + 1) (dc qt) := by
  rw [show qd = _ from o3]
  show dc (bif Q.toB qn (Q.tickT qn) then cd (Q.dueT (Q.tickT qn) (dc qt)) else _) = _
  rw [et, hb, cond_true, Ac]
 have he : qe = 0 := by
  refine Eq.trans o4 ?_
  show IntKind.i64.wrap (bif Q.toB qn (Q.tickT qn) then 0 else 2) = 0
  rw [et, hb]; rfl
 have hto := z.qi.to (t := qn + 1) (by omega) (by omega)
 have hdue : ∀ r ∈ dc qd, r ∈ dc qt /\ Q.dlR r = qn + 1 := fun r hr => by
  rw [hD] at hr
  obtain ⟨hr1, hr2⟩ := List.mem_filter.1 hr
  obtain ⟨i, x, rfl⟩ := HF z.qi hr1
  obtain ⟨e1, e2, e3⟩ := (z.qr i x).1 hr1
  refine ⟨hr1, ?_⟩
  simp only [Q.dlR, List.getD_cons_succ, List.getD_cons_zero, decide_eq_true_eq] at hr2 ⊢
  omega
 have hsub : (dc qd).Sublist (dc qt) := by rw [hD]; exact List.filter_sublist ..
 have hmD : ∀ y : Int, y ∈ (cmO (qn + 1) d P).map (fun i : Nat => (i : Int)) ↔ y ∈ numsR (idT (dc qd)) := fun y => by
  rw [FY, List.mem_map]
  constructor
  ·rintro ⟨i, hi, rfl⟩
   obtain ⟨e1, e2⟩ := (hOm i).1 hi
   refine ⟨[(i : Int), d i], ?_, rfl⟩
   rw [hD]
   exact List.mem_filter.2 ⟨(z.qr _ _).2 ⟨by omega, by rw [Int.toNat_natCast], by omega⟩, by simp [Q.dlR]; omega⟩
  ·rintro ⟨r, hr, rfl⟩
   obtain ⟨hr1, hr2⟩ := hdue r hr
   obtain ⟨i, x, rfl⟩ := HF z.qi hr1
   obtain ⟨e1, e2, e3⟩ := (z.qr i x).1 hr1
   have hx : x = qn + 1 := hr2
   exact ⟨i.toNat, (hOm _).2 ⟨by omega, by omega⟩, by show ((i.toNat : Nat) : Int) = i; omega⟩
 have hnd2 : ((cmO (qn + 1) d P).map fun i : Nat => (i : Int)).Nodup := (List.pairwise_map).2 ((nd.filter _).imp fun {a b} hne e => hne (by omega))
 have hperm : ((cmO (qn + 1) d P).map fun i : Nat => (i : Int)).Perm (numsR (idT (dc qd))) := (List.perm_ext_iff_of_nodup hnd2 (KY z.qi hsub)).2 hmD
 have hnum : numsR (dc O) = (cmO (qn + 1) d P).map fun i : Nat => (i : Int) := by
  rw [n4]; simp only [numsR, idR, List.map_map]; rfl
 have hlen := hperm.length_eq
 rw [List.length_map, QU] at hlen
 have hlO : (dc O).length = (cmO (qn + 1) d P).length := by rw [n4]; exact List.length_map ..
 have hql := z.qi.len
 have hdl := hsub.length_le
 have hcv : 0 <= cmV (qn + 1) d P /\ cmV (qn + 1) d P <= 4096 := by
  unfold cmV
  have := List.length_filter_le (fun j => decide (qn + 1 < d j)) P
  omega
 refine ⟨⟨_, _, ⟨n3, by have e8 : h' = h := n8; rw [e8]; exact hhh, by rw [ht, hM, hnq]; exact hto, by rw [hnq, n5], fun i x => ?_, fun r hr => ?_⟩⟩, n5, n6, n7.2, by omega, he, fun r hr => z.qi.row r (hsub.subset hr), fun r hr => ?_, by rw [hlO, hlen], by omega, ?_, fun b hb r hr => ?_⟩
 ·rw [ht]
  unfold Q.leftT
  rw [List.mem_filter, z.qr i x]
  simp only [Q.dlR, List.getD_cons_succ, List.getD_cons_zero, decide_eq_true_eq]
  rw [n5]
  constructor
  ·rintro ⟨⟨e1, e2, e3⟩, e4⟩
   refine ⟨e1, ?_, e4⟩
   unfold cmD
   rw [if_neg (by omega)]; exact e2
  ·rintro ⟨e1, e2, e3⟩
   unfold cmD at e2
   by_cases hc : i.toNat ∈ P /\ d i.toNat <= qn + 1
   ·rw [if_pos hc] at e2; omega
   ·rw [if_neg hc] at e2
    exact ⟨⟨e1, e2, by omega⟩, e3⟩
 ·rw [ht] at hr
  have := z.fa r (List.mem_filter.1 hr).1
  rw [n5]; omega
 ·rw [n4] at hr
  obtain ⟨j, hj, rfl⟩ := List.mem_map.1 hr
  have := (hOm j).1 hj
  exact ⟨i64w (by omega) (by omega), trivial⟩
 ·rw [<- WW (QV z.qi hsub fun r hr => (hdue r hr).2)]
  exact Vf (by rw [hnum]; exact hperm)
 ·rw [ht] at hr
  exact hb r (List.mem_filter.1 hr).1
end
end
end Go.Proofs.Ytnockichpnaoeaa.Ew
namespace Go.Proofs
open Go.Shelf
def Try.sortA_ren : Go.Shelf.Ren := ⟨fun | 5 => 28 | 8 => 53 | 7 => 52 | 19 => 81 | 20 => 82 | 10 => 72 | 11 => 73 | 12 => 74 | 13 => 75 | 14 => 76 | 15 => 77 | 16 => 78 | 17 => 79 | 18 => 80 | 30 => 98 | 31 => 99 | 32 => 100 | 33 => 101 | 34 => 102 | 35 => 103 | 40 => 110 | n => n, fun | 23 => 29 | 25 => 3 | 3 => 3 | 32 => 93 | 22 => 29 | 0 => 0 | 44 => 128 | 46 => 130 | 4 => 4 | 36 => 121 | 35 => 120 | 41 => 51 | 5 => 5 | 9 => 9 | 53 => 147 | 57 => 151 | 63 => 161 | 64 => 162 | n => n, fun | n => n⟩
theorem Try.sortA : Go.Proofs.SlLaysM.n5 Try.prog Try.sortA_ren := {
 mixed := by kernel_rfl
 f5 := ⟨Try.f28.name, by decide, Try.func28.trans (congrArg some (by kernel_rfl))⟩
 f7 := ⟨Try.f52.name, by decide, Try.func52.trans (congrArg some (by kernel_rfl))⟩
 f8 := Try.func53.trans (congrArg some (by kernel_rfl))
 f10 := ⟨Try.f72.name, by decide, Try.func72.trans (congrArg some (by kernel_rfl))⟩
 f11 := ⟨Try.f73.name, by decide, Try.func73.trans (congrArg some (by kernel_rfl))⟩
 f12 := ⟨Try.f74.name, by decide, Try.func74.trans (congrArg some (by kernel_rfl))⟩
 f13 := ⟨Try.f75.name, by decide, Try.func75.trans (congrArg some (by kernel_rfl))⟩
 f14 := ⟨Try.f76.name, by decide, Try.func76.trans (congrArg some (by kernel_rfl))⟩
 f15 := ⟨Try.f77.name, by decide, Try.func77.trans (congrArg some (by kernel_rfl))⟩
 f16 := ⟨Try.f78.name, by decide, Try.func78.trans (congrArg some (by kernel_rfl))⟩
 f17 := ⟨Try.f79.name, by decide, Try.func79.trans (congrArg some (by kernel_rfl))⟩
 f18 := ⟨Try.f80.name, by decide, Try.func80.trans (congrArg some (by kernel_rfl))⟩
 f19 := Try.func81.trans (congrArg some (by kernel_rfl))
 f20 := Try.func82.trans (congrArg some (by kernel_rfl))
 f30 := ⟨Try.f98.name, by decide, Try.func98.trans (congrArg some (by kernel_rfl))⟩
 f31 := Try.func99.trans (congrArg some (by kernel_rfl))
 f32 := Try.func100.trans (congrArg some (by kernel_rfl))
 f33 := ⟨Try.f101.name, by decide, Try.func101.trans (congrArg some (by kernel_rfl))⟩
 f34 := ⟨Try.f102.name, by decide, Try.func102.trans (congrArg some (by kernel_rfl))⟩
 f35 := ⟨Try.f103.name, by decide, Try.func103.trans (congrArg some (by kernel_rfl))⟩
 f40 := ⟨Try.f110.name, by decide, Try.func110.trans (congrArg some (by kernel_rfl))⟩
 t0 := Try.underlying0
 a0 := Try.isAgg0
 z0 := Try.sizeOf0
 v0 := Try.zeroValue0
 t3 := Try.underlying3
 a3 := Try.isAgg3
 z3 := Try.sizeOf3
 v3 := Try.zeroValue3
 t4 := Try.underlying4
 a4 := Try.isAgg4
 z4 := Try.sizeOf4
 v4 := Try.zeroValue4
 t5 := Try.underlying5
 a5 := Try.isAgg5
 z5 := Try.sizeOf5
 v5 := Try.zeroValue5
 t9 := Try.underlying9
 a9 := Try.isAgg9
 z9 := Try.sizeOf9
 v9 := Try.zeroValue9
 t22 := Try.underlying29
 a22 := Try.isAgg29
 z22 := Try.sizeOf29
 v22 := Try.zeroValue29
 t23 := Try.underlying29
 a23 := Try.isAgg29
 z23 := Try.sizeOf29
 v23 := Try.zeroValue29
 t25 := Try.underlying3
 a25 := Try.isAgg3
 z25 := Try.sizeOf3
 v25 := Try.zeroValue3
 t32 := Try.underlying93
 a32 := Try.isAgg93
 z32 := Try.sizeOf93
 v32 := Try.zeroValue93
 t35 := Try.underlying120
 a35 := Try.isAgg120
 z35 := Try.sizeOf120
 v35 := Try.zeroValue120
 t36 := Try.underlying121
 a36 := Try.isAgg121
 z36 := Try.sizeOf121
 v36 := Try.zeroValue121
 t41 := Try.underlying51
 a41 := Try.isAgg51
 z41 := Try.sizeOf51
 v41 := Try.zeroValue51
 t44 := Try.underlying128
 a44 := Try.isAgg128
 z44 := Try.sizeOf128
 v44 := Try.zeroValue128
 t46 := Try.underlying130
 a46 := Try.isAgg130
 z46 := Try.sizeOf130
 v46 := Try.zeroValue130
 t53 := Try.underlying147
 a53 := Try.isAgg147
 z53 := Try.sizeOf147
 v53 := Try.zeroValue147
 t57 := Try.underlying151
 a57 := Try.isAgg151
 z57 := Try.sizeOf151
 v57 := Try.zeroValue151
 t63 := Try.underlying161
 a63 := Try.isAgg161
 z63 := Try.sizeOf161
 v63 := Try.zeroValue161
 t64 := Try.underlying162
 a64 := Try.isAgg162
 z64 := Try.sizeOf162
 v64 := Try.zeroValue162 }
end Go.Proofs
namespace Go.Proofs.Ytnockichpnaoeaa.Ew
open Go Go.RowKit Go.Sort Go.Proofs
noncomputable def z28 : Ent := A2 328 28 3
theorem okz28 : EntryOK Try.prog G0 z28 :=
 WU _ (fun p cap w => AnyM.slices_Sort_int_none Try.sortA p cap w) (fun blk off cap zs w a b c => AnyM.slices_Sort_int Try.sortA blk off cap zs w a b c)
end Go.Proofs.Ytnockichpnaoeaa.Ew

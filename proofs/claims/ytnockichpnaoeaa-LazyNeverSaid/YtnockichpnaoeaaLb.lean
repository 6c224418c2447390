/- Layer 19: a lazy object seen from outside; New, Touch, Cancel. -/
import Derived.Test.YtnockichpnaoeaaLa
import Derived.Test.YtnockichpnaoeaaHz
set_option linter.unusedVariables false
set_option linter.unusedSimpArgs false
namespace Go.Proofs.Ytnockichpnaoeaa.Ew
open Go Go.RowKit
noncomputable section
--P Try.prog G0

/-- A lazy object at rest: its capacity, its deadlines, its alarms, its backlog. -/
structure LZ (S now bu le mo T h ln vn D c : Int) (d a : Nat → Int) (B : List Nat) : Prop where
  w : WV S now bu le mo T c a B
  hd : 1 ≤ h ∧ h ≤ 4096
  ln : ln = le
  rD : rowsOK intK (dc D)
  cp : ((dc D).length : Int) = c
  dl : ∀ i : Nat, (i : Int) < c → gC (dc D) i 0 = d i
  ad : ∀ i : Nat, (i : Int) < c → (a i = 0 ↔ d i = 0) ∧ a i ≤ d i ∧ d i ≤ now + 2147483648
  vb : 0 ≤ vn ∧ vn ≤ 1125899906842624
def LVx (xs : List Int) (c : Int) (d a : Nat → Int) (B : List Nat) : Prop := LZ (env xs 0) (env xs 1) (env xs 2) (env xs 3) (env xs 4) (env xs 5) (env xs 6) (env xs 7) (env xs 8) (env xs 9) c d a B
def preZ (xs : List Int) : Prop := ∃ c d a B, LVx xs c d a B
/-- Nothing has changed. -/
def sameZ (xs ys : List Int) : Prop := ∀ j, j < 10 → env ys j = env xs j
def newZ (n c b h : Int) : Prop := newW n c b ∧ 1 ≤ h ∧ h ≤ 4096
def pre12 (xs : List Int) : Prop := newZ (env xs 0) (env xs 1) (env xs 2) (env xs 3)
def kW6 : List K := [.x, .i .i64, .i .i64, .i .i64, .i .i64, .x]
def kW7 : List K := [.x, .i .i64, .i .i64, .i .i64, .i .i64, .x, .i .i64]
def wp6 (ys : List Int) : List Int := [env ys 0, env ys 1, env ys 2, env ys 3, env ys 4, env ys 5]
def post12 (xs ys : List Int) : Prop := isOut e13.fn [env xs 0, env xs 1, env xs 2] 0 kW6 (wp6 ys) ∧ LVx ys (env xs 1) (fun _ => 0) (fun _ => 0) [] ∧ env ys 1 = env xs 0 ∧ env ys 2 = env xs 2 ∧ env ys 4 = 0 ∧ env ys 6 = env xs 3 ∧ env ys 8 = 0
def b12 : Ent := ⟨312, 12, [i64, i64, i64, i64], [], [], .tup [lzS, .lt (.i .i64) 0], z0, pre12⟩
/-- What Touch does, to the wheel in full. -/
def ex13 (xs ys : List Int) : Prop := (0 ≤ env xs 10 ∧ env xs 10 < lenD xs) ∧ env xs 1 < env xs 11 ∧ env xs 11 ≤ env xs 1 + 2147483648 → if gC (TW xs) (env xs 10).toNat 4 = 0 ∨ env xs 11 < gC (TW xs) (env xs 10).toNat 4 then ∃ e, isOut e14.fn (wp6 xs ++ [env xs 10, env xs 11]) 0 kW7 (wp6 ys ++ [e]) else wp6 ys = wp6 xs
/-- What Touch does. -/
def post13 (xs ys : List Int) : Prop := ex13 xs ys ∧ ∀ c d a B, LVx xs c d a B →
  (((0 ≤ env xs 10 ∧ env xs 10 < c) ∧ env xs 1 < env xs 11 ∧ env xs 11 ≤ env xs 1 + 2147483648 →
    LVx ys c (upD d (env xs 10).toNat (env xs 11)) (if a (env xs 10).toNat = 0 ∨ env xs 11 < a (env xs 10).toNat then upD a (env xs 10).toNat (env xs 11) else a) B ∧ env ys 10 = 0 ∧ env ys 1 = env xs 1 ∧ env ys 2 = env xs 2 ∧ env ys 4 = env xs 4 ∧ env ys 6 = env xs 6 ∧ env ys 8 = env xs 8) ∧
  (¬ ((0 ≤ env xs 10 ∧ env xs 10 < c) ∧ env xs 1 < env xs 11 ∧ env xs 11 ≤ env xs 1 + 2147483648) → env ys 10 = 2 ∧ sameZ xs ys))
def b13 : Ent := ⟨313, 13, [lzS, i64, i64], [wobL, lzO], [], i64, z0, preZ⟩
/-- What Cancel does. -/
def post19 (xs ys : List Int) : Prop := ∀ c d a B, LVx xs c d a B →
  ((0 ≤ env xs 10 ∧ env xs 10 < c →
    LVx ys c (upD d (env xs 10).toNat 0) (upD a (env xs 10).toNat 0) (B.erase (env xs 10).toNat) ∧ env ys 10 = (if d (env xs 10).toNat = 0 then 6 else 0) ∧ env ys 1 = env xs 1 ∧ env ys 2 = env xs 2 ∧ env ys 4 = env xs 4 ∧ env ys 6 = env xs 6 ∧ env ys 8 = env xs 8) ∧
  (¬ (0 ≤ env xs 10 ∧ env xs 10 < c) → env ys 10 = 2 ∧ sameZ xs ys))
def b19z : Ent := ⟨319, 19, [lzS, i64], [wobL, lzO], [], i64, z0, preZ⟩
def cZ2 : Ctx := ⟨[z34, z36, e18, e29, e14, e24, e13], []⟩
def cZ2n : Ctx := cZ2.nm

def a_z12_0 : List E := [(vI 0), (vI 1), (vI 2)]
def defs_z12 : List (Nat × E) := [(640000083200000, (aX 100000013 0 a_z12_0)),
  (640000083200001, (aI 100000013 1 a_z12_0)),
  (640000083200002, (aI 100000013 2 a_z12_0)),
  (640000083200003, (aI 100000013 3 a_z12_0)),
  (640000083200004, (aI 100000013 4 a_z12_0)),
  (640000083200005, (aX 100000013 5 a_z12_0))]
def q_z12_0 : E := (.or (.cmp .lss (vI 3) (lI 1)) (.cmp .gtr (vI 3) (lI 4096)))
def q_z12_1 : E := (.not q_z12_0)
def ob_z12 : E := (.and (.or q_z12_0 (.and (.and (.app .b 100000013 1000000 [(vI 0), (vI 1), (vI 2)]) (dE defs_z12 0 6)) (.and (.cmp .geq (vI 1) (lI 0)) (.cmp .leq (vI 1) (.lit .x 17592186044416))))) (.and (.and q_z12_1 (.cmp .eql (.ite q_z12_0 (lI 2) (lI 0)) (lI 0))) q_z12_1))
def es_z12 : List E := [(vX 640000083200000), (vI 640000083200001), (vI 640000083200002), (vI 640000083200003), (vI 640000083200004), (vX 640000083200005), (vI 3), (lI 0), (lI 0), (aX 0 7 [(vI 1), (lI 0)])]
def z12 : Ent := b12.fw (fnR cZ2n.l.F b12.np ob_z12 es_z12 post12)
theorem ev_z12 : evE Try.prog G0 (tabOf cZ2n.fs) (ltOf cZ2n.ls) 40 10 z12 = some (ob_z12, es_z12) := by kernel_rfl

def a_z13_0 : List E := [(vX 0), (vI 1), (vI 2), (vI 3), (vI 4), (vX 5), (vI 10)]
def a_z13_1 : List E := [(vX 0), (vI 1), (vI 2), (vI 3), (vI 4), (vX 5), (vI 10), (vI 11)]
def defs_z13 : List (Nat × E) := [(640000115200256, (aI 100000018 0 [(vX 0), (vI 1), (vI 2), (vI 3), (vI 4), (vX 5)])),
  (640002150400256, (.app .b 100000336 0 [(vX 0), (vI 1), (vI 2), (vI 3), (vI 4), (vX 5), (vI 6), (vI 7), (vI 8), (vX 9), (vI 10)])),
  (640000185600256, (aI 100000029 0 a_z13_0)),
  (640000185600257, (.app .b 100000029 1 a_z13_0)),
  (640000089600256, (aX 100000014 0 a_z13_1)),
  (640000089600257, (aI 100000014 1 a_z13_1)),
  (640000089600258, (aI 100000014 2 a_z13_1)),
  (640000089600259, (aI 100000014 3 a_z13_1)),
  (640000089600260, (aI 100000014 4 a_z13_1)),
  (640000089600261, (aX 100000014 5 a_z13_1)),
  (640000089600262, (aI 100000014 6 a_z13_1))]
def q_z13_0 : E := (.or (.or (.not (.var .b 640002150400256)) (.cmp .leq (vI 11) (vI 640000115200256))) (.cmp .gtr (vI 11) (.bin .add .i64 (vI 640000115200256) (lI 2147483648))))
def q_z13_1 : E := (.or (.not (.var .b 640000185600257)) (.cmp .gtr (vI 640000185600256) (vI 11)))
def q_z13_2 : E := (.not q_z13_1)
def q_z13_3 : E := (.or q_z13_0 q_z13_2)
def ob_z13 : E := (.and (.and (.app .b 100000334 1000000 [(vX 0), (vI 1), (vI 2), (vI 3), (vI 4), (vX 5), (vI 6), (vI 7), (vI 8), (vX 9)]) (.and (.and (.and (.app .b 100000018 1000000 [(vX 0), (vI 1), (vI 2), (vI 3), (vI 4), (vX 5)]) (dE defs_z13 0 1)) (.and (.app .b 100000336 1000000 [(vX 0), (vI 1), (vI 2), (vI 3), (vI 4), (vX 5), (vI 6), (vI 7), (vI 8), (vX 9), (vI 10)]) (dE defs_z13 1 1))) (.or q_z13_0 (.and (.and (.app .b 100000029 1000000 [(vX 0), (vI 1), (vI 2), (vI 3), (vI 4), (vX 5), (vI 10)]) (dE defs_z13 2 2)) (.and (.or q_z13_2 (.and (.app .b 100000014 1000000 [(vX 0), (vI 1), (vI 2), (vI 3), (vI 4), (vX 5), (vI 10), (vI 11)]) (dE defs_z13 4 7))) (.and (.cmp .geq (vI 10) (lI 0)) (.cmp .lss (vI 10) (aI 0 0 [(vX 9)])))))))) (.ite q_z13_0 q_z13_3 (.ite q_z13_1 (.and (.not q_z13_0) q_z13_1) q_z13_3)))
def es_z13 : List E := [(.ite q_z13_0 (vX 0) (.ite q_z13_1 (vX 640000089600256) (vX 0))), (.ite q_z13_0 (vI 1) (.ite q_z13_1 (vI 640000089600257) (vI 1))), (.ite q_z13_0 (vI 2) (.ite q_z13_1 (vI 640000089600258) (vI 2))), (.ite q_z13_0 (vI 3) (.ite q_z13_1 (vI 640000089600259) (vI 3))), (.ite q_z13_0 (vI 4) (.ite q_z13_1 (vI 640000089600260) (vI 4))), (.ite q_z13_0 (vX 5) (.ite q_z13_1 (vX 640000089600261) (vX 5))), (vI 6), (.bin .add .i64 (vI 7) (.ite q_z13_0 (lI 0) (.ite (.not (.var .b 640000185600257)) (lI 1) (lI 0)))), (vI 8), (.ite q_z13_0 (vX 9) (aX 0 6 [(vX 9), (vI 10), (.lit .x 0), (vI 11)])), (.ite q_z13_0 (lI 2) (lI 0))]
def z13 : Ent := b13.fw (fnR cZ2n.l.F b13.np ob_z13 es_z13 post13)
theorem ev_z13 : evE Try.prog G0 (tabOf cZ2n.fs) (ltOf cZ2n.ls) 40 10 z13 = some (ob_z13, es_z13) := by kernel_rfl

def a_z19_0 : List E := [(vX 0), (vI 1), (vI 2), (vI 3), (vI 4), (vX 5), (vI 10)]
def defs_z19 : List (Nat × E) := [(640000153600256, (aX 100000024 0 a_z19_0)),
  (640000153600257, (aI 100000024 1 a_z19_0)),
  (640000153600258, (aI 100000024 2 a_z19_0)),
  (640000153600259, (aI 100000024 3 a_z19_0)),
  (640000153600260, (aI 100000024 4 a_z19_0)),
  (640000153600261, (aX 100000024 5 a_z19_0)),
  (640000153600262, (aI 100000024 6 a_z19_0))]
def ob_z19 : E := (.and (.app .b 100000334 1000000 [(vX 0), (vI 1), (vI 2), (vI 3), (vI 4), (vX 5), (vI 6), (vI 7), (vI 8), (vX 9)]) (.and (.and (.app .b 100000024 1000000 [(vX 0), (vI 1), (vI 2), (vI 3), (vI 4), (vX 5), (vI 10)]) (dE defs_z19 0 7)) (.or (.cmp .neq (vI 640000153600262) (lI 0)) (.and (.cmp .geq (vI 10) (lI 0)) (.cmp .lss (vI 10) (aI 0 0 [(vX 9)]))))))
def es_z19 : List E := [(vX 640000153600256), (vI 640000153600257), (vI 640000153600258), (vI 640000153600259), (vI 640000153600260), (vX 640000153600261), (vI 6), (.ite (.cmp .neq (vI 640000153600262) (lI 0)) (vI 7) (.bin .sub .i64 (vI 7) (lI 1))), (vI 8), (.ite (.cmp .neq (vI 640000153600262) (lI 0)) (vX 9) (aX 0 6 [(vX 9), (vI 10), (.lit .x 0), (lI 0)])), (.ite (.cmp .neq (vI 640000153600262) (lI 0)) (vI 640000153600262) (lI 0))]
def z19 : Ent := b19z.fw (fnR cZ2n.l.F b19z.np ob_z19 es_z19 post19)
theorem ev_z19 : evE Try.prog G0 (tabOf cZ2n.fs) (ltOf cZ2n.ls) 40 10 z19 = some (ob_z19, es_z19) := by kernel_rfl

theorem cZ2ok : cZ2.OK Try.prog G0 := by
  have h : Ctx.OK Try.prog G0 ⟨[z34, z36, e18, e29, e14, e24, e13], []⟩ := ((((((Ctx.OK.nil.addF ok13 rfl).addF ok24 rfl).addF ok14 rfl).addF ok29 rfl).addF ok18 rfl).addF okz36 rfl).addF okz34 rfl
  exact h
theorem rowsOK.set {T : RL} {i : Nat} {v : Int} (h : rowsOK intK T) (hi : i < T.length) (hv : IntKind.i64.wrap v = v) : rowsOK intK (setC T i 0 [v]) := by
  intro r hr
  obtain ⟨k, hk, rfl⟩ := List.mem_iff_getElem.1 hr
  have e : (setC T i 0 [v]).getD k [] = (setC T i 0 [v])[k] := by rw [List.getD_eq_getElem?_getD, List.getElem?_eq_getElem hk]; rfl
  rw [← e, setC_row T k 0 [v] hi]
  have hl := hk
  rw [setC_len] at hl
  by_cases hh : k = i
  · subst hh
    rw [if_pos rfl]
    have : T.getD k [] = T[k] := by rw [List.getD_eq_getElem?_getD, List.getElem?_eq_getElem hl]; rfl
    obtain ⟨a, ha, _⟩ := row_1 (h _ (List.getElem_mem hl))
    rw [this, ha]
    exact ⟨hv, trivial⟩
  · rw [if_neg hh, List.getD_eq_getElem?_getD, List.getElem?_eq_getElem hl]
    exact h _ (List.getElem_mem hl)
theorem gC_set0 {T : RL} {i : Nat} {v : Int} (h : rowsOK intK T) (hi : i < T.length) (y : Nat) : gC (setC T i 0 [v]) y 0 = if y = i then v else gC T y 0 := by
  have hl : (T.getD i []).length = 1 := by
    obtain ⟨a, ha, _⟩ := row_1 (h _ (List.getElem_mem hi))
    rw [List.getD_eq_getElem?_getD, List.getElem?_eq_getElem hi, Option.getD_some, ha]; rfl
  rw [gC_set1 hi (by omega)]
  by_cases h : y = i <;> simp [h]
section
variable {S now bu le mo T h ln vn D c : Int} {d a : Nat → Int} {B : List Nat}
theorem LZ.dr (hz : LZ S now bu le mo T h ln vn D c d a B) {i : Nat} (hi : (i : Int) < c) : 0 ≤ d i ∧ d i ≤ now + 2147483648 := by
  have := hz.ad i hi
  have := hz.w.dr hi
  omega
theorem LZ.lnr (hz : LZ S now bu le mo T h ln vn D c d a B) : 0 ≤ ln ∧ ln ≤ 4096 := by
  have := hz.ln
  have := hz.w.ler
  omega
theorem LZ.eqs {c' : Int} {d' a' : Nat → Int} {B' : List Nat} (hz : LZ S now bu le mo T h ln vn D c d a B) (hz' : LZ S now bu le mo T h ln vn D c' d' a' B') : c' = c ∧ ∀ i : Nat, (i : Int) < c → a' i = a i ∧ d' i = d i := by
  have e : c' = c := hz'.cp.symm.trans hz.cp
  subst e
  exact ⟨rfl, fun i hi => ⟨(hz'.w.dl i hi).symm.trans (hz.w.dl i hi), (hz'.dl i hi).symm.trans (hz.dl i hi)⟩⟩
/-- A deadline is set, and the alarm perhaps. -/
theorem LZ.put {S' bu' le' mo' T' h ln' D' vn' x e : Int} {i : Nat} {B' : List Nat} (hz : LZ S now bu le mo T h ln vn D c d a B) (hi : (i : Int) < c) (hD : D' = cd (setC (dc D) i 0 [x])) (hw : WV S' now bu' le' mo' T' c (upD a i e) B') (hl : ln' = le') (hx : x ≤ now + 2147483648) (h0 : e = 0 ↔ x = 0) (h1 : e ≤ x) (hv : 0 ≤ vn' ∧ vn' ≤ 1125899906842624) : LZ S' now bu' le' mo' T' h ln' vn' D' c (upD d i x) (upD a i e) B' := by
  have htm := hz.w.tm
  have hcp := hz.cp
  have hwd := hw.dr hi
  rw [upD_same] at hwd
  have hl' : i < (dc D).length := by omega
  subst hD
  refine ⟨hw, hz.hd, hl, ?_, ?_, fun y hy => ?_, fun y hy => ?_, hv⟩
  · rw [dc_cd]; exact hz.rD.set hl' (i64w (by omega) (by omega))
  · rw [dc_cd, setC_len]; exact hcp
  · rw [dc_cd, gC_set0 hz.rD hl']; unfold upD; split
    · rfl
    · exact hz.dl y hy
  · by_cases hh : y = i
    · subst hh
      rw [upD_same, upD_same]
      exact ⟨h0, h1, hx⟩
    · rw [upD_ne _ _ hh, upD_ne _ _ hh]; exact hz.ad y hy
theorem upD_self {d : Nat → Int} {i : Nat} {v : Int} (h : d i = v) : upD d i v = d := by
  funext y
  by_cases e : y = i
  · subst e; rw [upD_same, h]
  · exact upD_ne _ _ e
end
theorem okz12 : EntryOK Try.prog G0 z12 ∧ PostOK z12 post12 := by
  refine cZ2ok.nm.entryH mixed ev_z12 (by kernel_rfl) _ rfl fun xs hf hp => ?_
  obtain ⟨l, hl, hF⟩ := ctx_P (l0 := cZ2n.l)
  show ∃ ρ : Nat → Int, _ ∧ ob_z12.tt cZ2n.l.F ρ = true ∧ post12 xs (es_z12.map (E.den cZ2n.l.F ρ))
  rw [hl]
  have F13 := FC (k := 100000013) rfl (hF e13.nm (by rfl) (by decide))
  replace hf : fits [(.i .i64), (.i .i64), (.i .i64), (.i .i64)] xs := hf
  obtain ⟨n, xs0, hx0, hn, hf0⟩ := fits_cons hf
  obtain ⟨c, xs1, hx1, hc, hf1⟩ := fits_cons hf0
  obtain ⟨b, xs2, hx2, hb, hf2⟩ := fits_cons hf1
  obtain ⟨h, xs3, hx3, hh, hf3⟩ := fits_cons hf2
  have hxn := fits_nil hf3
  subst hxn hx3 hx2 hx1 hx0
  simp only [norm_i] at hn hc hb hh
  obtain ⟨ρ, hρ, hd⟩ := solve (F := l.F) 4 defs_z12 (by kernel_rfl) [n, c, b, h]
  have hDf := dE_tt (by kernel_rfl) hd
  refine ⟨ρ, hρ, ?_⟩
  have r0 : ρ 0 = n := hρ 0 (by decide)
  have r1 : ρ 1 = c := hρ 1 (by decide)
  have r2 : ρ 2 = b := hρ 2 (by decide)
  have r3 : ρ 3 = h := hρ 3 (by decide)
  obtain ⟨v1, hv1, hd1, hn1⟩ := nmd hd 0 rfl
  obtain ⟨v2, hv2, hd2, hn2⟩ := nmd hd 1 rfl
  obtain ⟨v3, hv3, hd3, hn3⟩ := nmd hd 2 rfl
  obtain ⟨v4, hv4, hd4, hn4⟩ := nmd hd 3 rfl
  obtain ⟨v5, hv5, hd5, hn5⟩ := nmd hd 4 rfl
  obtain ⟨v6, hv6, hd6, hn6⟩ := nmd hd 5 rfl
  simp only [norm_i] at hn2 hn3 hn4 hn5
  simp (disch := omega) only [norm_i, a_z12_0, F13, Ent.nm_fn, r0, hn, r1, hc, r2, hb, r3, hh, hv1, hv2, hn2, hv3, hn3, hv4, hn4, hv5, hn5, hv6, ewA, ewL, preC, binI, dvI, shI, cmpB, env, bi, List.headD, List.tail, List.map, Nat.reduceAdd, ewR, ewB, ewM, if_true, if_false, implies_true, forall_const, ne_eq, reduceCtorEq, Int.reduceEq, Int.reduceLT, Int.reduceLE, Int.reduceToNat, Int.reduceAdd, Int.reduceSub, Int.reduceMul, Int.reduceNeg, Int.reduceBEq, Nat.reduceLT, Nat.reduceEqDiff] at hd1 hd2 hd3 hd4 hd5 hd6
  have hSS := And.intro (And.intro (And.intro (And.intro F13 r0) (And.intro hn (And.intro r1 hc))) (And.intro (And.intro r2 hb) (And.intro r3 (And.intro hh hv1)))) (And.intro (And.intro (And.intro hv2 hn2) (And.intro hv3 (And.intro hn3 hv4))) (And.intro (And.intro hn4 hv5) (And.intro hn5 (And.intro hv6 hDf))))
  obtain ⟨p1, p2, p3⟩ := hp
  replace p1 : newW n c b := p1
  replace p2 : 1 ≤ h := p2
  replace p3 : h ≤ 4096 := p3
  have q := WV.new p1 ⟨hd1, hd2, hd3, hd4, hd5, hd6, trivial⟩
  have y : e13.pre [n, c, b] := p1
  refine ⟨?_, ?_⟩
  · simp (disch := omega) only [ob_z12, q_z12_0, q_z12_1, ewA, ewL, preC, binI, dvI, shI, cmpB, env, bi, List.headD, List.tail, List.map, Nat.reduceAdd, ewR, ewB, ewM, if_true, if_false, implies_true, forall_const, ne_eq, reduceCtorEq, Int.reduceEq, Int.reduceLT, Int.reduceLE, Int.reduceToNat, Int.reduceAdd, Int.reduceSub, Int.reduceMul, Int.reduceNeg, Int.reduceBEq, Nat.reduceLT, Nat.reduceEqDiff, hSS, y]
    refine ⟨fun _ => by unfold newW at p1; omega, ⟨⟨p2, p3⟩, if_neg (by omega)⟩, p2, p3⟩
  · simp (disch := omega) only [es_z12, q_z12_0, q_z12_1, ewA, ewL, preC, binI, dvI, shI, cmpB, env, bi, List.headD, List.tail, List.map, Nat.reduceAdd, ewR, ewB, ewM, if_true, if_false, implies_true, forall_const, ne_eq, reduceCtorEq, Int.reduceEq, Int.reduceLT, Int.reduceLE, Int.reduceToNat, Int.reduceAdd, Int.reduceSub, Int.reduceMul, Int.reduceNeg, Int.reduceBEq, Nat.reduceLT, Nat.reduceEqDiff, hSS]
    obtain ⟨q1, q2, q3, q4, q5, q6⟩ := q
    unfold newW at p1
    have hw : LZ v1 v2 v3 v4 v5 v6 h 0 0 (cd (List.replicate c.toNat [0])) c (fun _ => 0) (fun _ => 0) [] := by
      refine ⟨q1, ⟨p2, p3⟩, q4.symm, ?_, ?_, fun i hi => ?_, fun i hi => ⟨Iff.rfl, Int.le_refl _, by rw [q2]; show (0 : Int) ≤ n + 2147483648; omega⟩, by decide⟩
      · rw [dc_cd]
        intro r hr
        rw [List.eq_of_mem_replicate hr]
        exact ⟨rfl, trivial⟩
      · rw [dc_cd, List.length_replicate]; omega
      · rw [dc_cd]
        unfold gC
        rw [show (List.replicate c.toNat [0] : RL).getD i [] = [0] by rw [List.getD_eq_getElem?_getD, List.getElem?_replicate, if_pos (by omega)]; rfl]; rfl
    exact ⟨⟨hd1, hd2, hd3, hd4, hd5, hd6, trivial⟩, hw, q2, q3, q5, rfl, rfl⟩

theorem okz13 : EntryOK Try.prog G0 z13 ∧ PostOK z13 post13 := by
  refine cZ2ok.nm.entryH mixed ev_z13 (by kernel_rfl) _ rfl fun xs hf hp => ?_
  obtain ⟨l, hl, hF⟩ := ctx_P (l0 := cZ2n.l)
  show ∃ ρ : Nat → Int, _ ∧ ob_z13.tt cZ2n.l.F ρ = true ∧ post13 xs (es_z13.map (E.den cZ2n.l.F ρ))
  rw [hl]
  have F14 := FC (k := 100000014) rfl (hF e14.nm (by rfl) (by decide))
  have F18 := FC (k := 100000018) rfl (hF e18.nm (by rfl) (by decide))
  have F29 := FC (k := 100000029) rfl (hF e29.nm (by rfl) (by decide))
  have F334 := FC (k := 100000334) rfl (hF z34.nm (by rfl) (by decide))
  have F336 := FC (k := 100000336) rfl (hF z36.nm (by rfl) (by decide))
  replace hf : fits [.x, (.i .i64), (.i .i64), (.i .i64), (.i .i64), .x, (.i .i64), (.i .i64), (.i .i64), .x, (.i .i64), (.i .i64)] xs := hf
  obtain ⟨S, xs0, hx0, hS, hf0⟩ := fits_cons hf
  obtain ⟨now, xs1, hx1, hnow, hf1⟩ := fits_cons hf0
  obtain ⟨bu, xs2, hx2, hbu, hf2⟩ := fits_cons hf1
  obtain ⟨le, xs3, hx3, hle, hf3⟩ := fits_cons hf2
  obtain ⟨mo, xs4, hx4, hmo, hf4⟩ := fits_cons hf3
  obtain ⟨T, xs5, hx5, hT, hf5⟩ := fits_cons hf4
  obtain ⟨h, xs6, hx6, hh, hf6⟩ := fits_cons hf5
  obtain ⟨ln, xs7, hx7, hln, hf7⟩ := fits_cons hf6
  obtain ⟨vn, xs8, hx8, hvn, hf8⟩ := fits_cons hf7
  obtain ⟨D, xs9, hx9, hD, hf9⟩ := fits_cons hf8
  obtain ⟨i, xs10, hx10, hi, hf10⟩ := fits_cons hf9
  obtain ⟨x, xs11, hx11, hx, hf11⟩ := fits_cons hf10
  have hxn := fits_nil hf11
  subst hxn hx11 hx10 hx9 hx8 hx7 hx6 hx5 hx4 hx3 hx2 hx1 hx0
  simp only [norm_i] at hnow hbu hle hmo hh hln hvn hi hx
  obtain ⟨ρ, hρ, hd⟩ := solve (F := l.F) 12 defs_z13 (by kernel_rfl) [S, now, bu, le, mo, T, h, ln, vn, D, i, x]
  have hDf := dE_tt (by kernel_rfl) hd
  refine ⟨ρ, hρ, ?_⟩
  have r0 : ρ 0 = S := hρ 0 (by decide)
  have r1 : ρ 1 = now := hρ 1 (by decide)
  have r2 : ρ 2 = bu := hρ 2 (by decide)
  have r3 : ρ 3 = le := hρ 3 (by decide)
  have r4 : ρ 4 = mo := hρ 4 (by decide)
  have r5 : ρ 5 = T := hρ 5 (by decide)
  have r6 : ρ 6 = h := hρ 6 (by decide)
  have r7 : ρ 7 = ln := hρ 7 (by decide)
  have r8 : ρ 8 = vn := hρ 8 (by decide)
  have r9 : ρ 9 = D := hρ 9 (by decide)
  have r10 : ρ 10 = i := hρ 10 (by decide)
  have r11 : ρ 11 = x := hρ 11 (by decide)
  obtain ⟨v1, hv1, hd1, hn1⟩ := nmd hd 0 rfl
  obtain ⟨v2, hv2, hd2, hn2⟩ := nmd hd 1 rfl
  obtain ⟨v3, hv3, hd3, hn3⟩ := nmd hd 2 rfl
  obtain ⟨v4, hv4, hd4, hn4⟩ := nmd hd 3 rfl
  obtain ⟨v5, hv5, hd5, hn5⟩ := nmd hd 4 rfl
  obtain ⟨v6, hv6, hd6, hn6⟩ := nmd hd 5 rfl
  obtain ⟨v7, hv7, hd7, hn7⟩ := nmd hd 6 rfl
  obtain ⟨v8, hv8, hd8, hn8⟩ := nmd hd 7 rfl
  obtain ⟨v9, hv9, hd9, hn9⟩ := nmd hd 8 rfl
  obtain ⟨v10, hv10, hd10, hn10⟩ := nmd hd 9 rfl
  obtain ⟨v11, hv11, hd11, hn11⟩ := nmd hd 10 rfl
  simp only [norm_i] at hn1 hn3 hn6 hn7 hn8 hn9 hn11
  simp (disch := omega) only [norm_i, a_z13_0, a_z13_1, F14, F18, F29, F336, Ent.nm_fn, r0, r1, hnow, r2, hbu, r3, hle, r4, hmo, r5, r6, hh, r7, hln, r8, hvn, r9, r10, hi, r11, hx, hv1, hn1, hv2, hn2, hv3, hn3, hv4, hn4, hv5, hv6, hn6, hv7, hn7, hv8, hn8, hv9, hn9, hv10, hv11, hn11, ewA, ewL, preC, binI, dvI, shI, cmpB, env, bi, List.headD, List.tail, List.map, Nat.reduceAdd, ewR, ewB, ewM, if_true, if_false, implies_true, forall_const, ne_eq, reduceCtorEq, Int.reduceEq, Int.reduceLT, Int.reduceLE, Int.reduceToNat, Int.reduceAdd, Int.reduceSub, Int.reduceMul, Int.reduceNeg, Int.reduceBEq, Nat.reduceLT, Nat.reduceEqDiff] at hd1 hd2 hd3 hd4 hd5 hd6 hd7 hd8 hd9 hd10 hd11
  have hSS := And.intro (And.intro (And.intro (And.intro (And.intro F14 F18) (And.intro F29 (And.intro F334 F336))) (And.intro (And.intro r0 (And.intro r1 hnow)) (And.intro r2 (And.intro hbu r3)))) (And.intro (And.intro (And.intro hle (And.intro r4 hmo)) (And.intro r5 (And.intro r6 hh))) (And.intro (And.intro r7 (And.intro hln r8)) (And.intro hvn (And.intro r9 r10))))) (And.intro (And.intro (And.intro (And.intro hi (And.intro r11 hx)) (And.intro hv1 (And.intro hn1 hv2))) (And.intro (And.intro hn2 (And.intro hv3 hn3)) (And.intro hv4 (And.intro hn4 hv5)))) (And.intro (And.intro (And.intro hv6 (And.intro hn6 hv7)) (And.intro hn7 (And.intro hv8 hn8))) (And.intro (And.intro hv9 (And.intro hn9 hv10)) (And.intro hv11 (And.intro hn11 hDf)))))
  obtain ⟨c, d, a, B, hz⟩ := hp
  replace hz : LZ S now bu le mo T h ln vn D c d a B := hz
  have hw := hz.w
  have htm := hw.tm
  have hct := hw.ct
  have hcp := hz.cp
  have hln := hz.lnr
  have y34 : z34.pre [S, now, bu, le, mo, T, h, ln, vn, D] := trivial
  have y18 : e18.pre [S, now, bu, le, mo, T] := hw.lenOK []
  have y36 : z36.pre [S, now, bu, le, mo, T, h, ln, vn, D, i] := by
    show ((dc D).length : Int) ≤ 4096; omega
  have y29 : e29.pre [S, now, bu, le, mo, T, i] := hw.preR i
  have y14 : e14.pre [S, now, bu, le, mo, T, i, x] := hw.wx2 _ _
  have z1 := hw.nowV hd1
  have z2 : v2 = b2i (decide (0 ≤ i) && decide (i < ((dc D).length : Int))) := hd2.trans (by show K.b.norm (b2i (decide (0 ≤ i) && decide (i < ((dc D).length : Int)))) = _; cases (decide (0 ≤ i) && decide (i < ((dc D).length : Int))) <;> rfl)
  have b2 : i2b v2 = true ↔ (0 ≤ i ∧ i < c) := by rw [z2, i2b_b2i, Bool.and_eq_true, decide_eq_true_iff, decide_eq_true_iff, hcp]
  have wx : IntKind.i64.wrap (now + 2147483648) = now + 2147483648 := i64w (by omega) (by omega)
  have wD : IntKind.i64.wrap (((dc D).length : Nat) : Int) = c := by rw [hcp]; exact i64w (by omega) (by omega)
  subst z1
  by_cases hb : (0 ≤ i ∧ i < c) ∧ v1 < x ∧ x ≤ v1 + 2147483648
  · obtain ⟨hi, hx1, hx2⟩ := hb
    obtain ⟨z3, z4⟩ := hw.dead hi ⟨hd3, hd4, trivial⟩
    have hic : (i.toNat : Int) < c := by omega
    obtain ⟨ad1, ad2, ad3⟩ := hz.ad i.toNat hic
    have hadr := hw.dr hic
    have b4 : i2b v4 = true ↔ a i.toNat ≠ 0 := by rw [z4, i2b_b2i, decide_eq_true_iff]
    have b4' : i2b v4 = false ↔ a i.toNat = 0 := by rw [← Bool.not_eq_true, b4]; simp
    subst z3
    obtain ⟨q1, q2, q3, q4, q5, q6, _⟩ := hw.arm hi ⟨hx1, hx2⟩ ⟨hd5, hd6, hd7, hd8, hd9, hd10, hd11, trivial⟩
    have hB : a i.toNat = 0 ∨ x < a i.toNat → B.erase i.toNat = B := fun hh => List.erase_of_not_mem fun hm => by
      have := (hw.mem i.toNat).1 hm
      omega
    have hn : ¬ v1 + 2147483648 < x := by omega
    refine ⟨?_, ?_⟩
    · simp (disch := omega) only [ob_z13, q_z13_0, q_z13_1, q_z13_2, q_z13_3, ewA, ewL, preC, binI, dvI, shI, cmpB, env, bi, List.headD, List.tail, List.map, Nat.reduceAdd, ewR, ewB, ewM, if_true, if_false, implies_true, forall_const, ne_eq, reduceCtorEq, Int.reduceEq, Int.reduceLT, Int.reduceLE, Int.reduceToNat, Int.reduceAdd, Int.reduceSub, Int.reduceMul, Int.reduceNeg, Int.reduceBEq, Nat.reduceLT, Nat.reduceEqDiff, hSS, y34, y18, y36, y29, y14, wx, b2, b4, b4', wD, hi, hx1, hx2]
      exact ⟨fun h => absurd h hn, id, id⟩
    · simp (disch := omega) only [es_z13, q_z13_0, q_z13_1, q_z13_2, q_z13_3, ewA, ewL, preC, binI, dvI, shI, cmpB, env, bi, List.headD, List.tail, List.map, Nat.reduceAdd, ewR, ewB, ewM, if_true, if_false, implies_true, forall_const, ne_eq, reduceCtorEq, Int.reduceEq, Int.reduceLT, Int.reduceLE, Int.reduceToNat, Int.reduceAdd, Int.reduceSub, Int.reduceMul, Int.reduceNeg, Int.reduceBEq, Nat.reduceLT, Nat.reduceEqDiff, hSS, wx, b2, b4, b4', hi, hx1, hx2]
      simp only [if_neg hn]
      have hle := hz.ln
      by_cases hc : a i.toNat = 0 ∨ x < a i.toNat
      · have hcc : ¬a i.toNat = 0 → x < a i.toNat := fun h => hc.resolve_left h
        simp only [if_pos hcc]
        refine ⟨fun _ => ?_, ?_⟩
        · have ce : gC (dc T) i.toNat 4 = a i.toNat := hw.dl i.toNat hic
          show if gC (dc T) i.toNat 4 = 0 ∨ x < gC (dc T) i.toNat 4 then _ else _
          rw [ce, if_pos hc]
          exact ⟨v11, ⟨hd5, hd6, hd7, hd8, hd9, hd10, hd11, trivial⟩⟩
        intro c' d' a' B' hz'
        replace hz' : LZ S v1 bu le mo T h ln vn D c' d' a' B' := hz'
        obtain ⟨rfl, hea⟩ := hz.eqs hz'
        obtain ⟨ea, ed⟩ := hea i.toNat hic
        refine ⟨fun _ => ?_, fun hh => absurd ⟨hi, hx1, hx2⟩ hh⟩
        obtain ⟨q1, q2, q3, q4, q5, q6, _⟩ := hz'.w.arm hi ⟨hx1, hx2⟩ ⟨hd5, hd6, hd7, hd8, hd9, hd10, hd11, trivial⟩
        have hB : B'.erase i.toNat = B' := List.erase_of_not_mem fun hm => by
          have := (hz'.w.mem i.toNat).1 hm
          omega
        rw [hB] at q1
        show LZ v5 v6 v7 v8 v9 v10 h (ln + if a i.toNat = 0 then 1 else 0) vn _ c' (upD d' i.toNat x) (if a' i.toNat = 0 ∨ x < a' i.toNat then upD a' i.toNat x else a') B' ∧ (0 : Int) = 0 ∧ v6 = v1 ∧ v7 = bu ∧ v9 = mo ∧ h = h ∧ vn = vn
        rw [if_pos (show a' i.toNat = 0 ∨ x < a' i.toNat by rw [ea]; exact hc)]
        have q1' := q1
        rw [q2] at q1'
        refine ⟨?_, rfl, q2, q3, q4, rfl, rfl⟩
        rw [q2]
        refine hz'.put hic rfl q1' ?_ hx2 Iff.rfl (Int.le_refl _) hz'.vb
        rw [q6, hle, ea]
        by_cases ha : a i.toNat = 0
        · rw [if_pos ha, if_neg (by omega)]
        · rw [if_neg ha, if_pos (by omega)]; omega
      · have hcc : ¬ (¬a i.toNat = 0 → x < a i.toNat) := fun h => hc (by omega)
        simp only [if_neg hcc, if_neg (show ¬ a i.toNat = 0 by omega)]
        refine ⟨fun _ => ?_, ?_⟩
        · have ce : gC (dc T) i.toNat 4 = a i.toNat := hw.dl i.toNat hic
          show if gC (dc T) i.toNat 4 = 0 ∨ x < gC (dc T) i.toNat 4 then _ else _
          rw [ce, if_neg hc]; rfl
        intro c' d' a' B' hz'
        replace hz' : LZ S v1 bu le mo T h ln vn D c' d' a' B' := hz'
        obtain ⟨rfl, hea⟩ := hz.eqs hz'
        obtain ⟨ea, ed⟩ := hea i.toNat hic
        refine ⟨fun _ => ?_, fun hh => absurd ⟨hi, hx1, hx2⟩ hh⟩
        show LZ S v1 bu le mo T h (ln + 0) vn _ c' (upD d' i.toNat x) (if a' i.toNat = 0 ∨ x < a' i.toNat then upD a' i.toNat x else a') B' ∧ (0 : Int) = 0 ∧ v1 = v1 ∧ bu = bu ∧ mo = mo ∧ h = h ∧ vn = vn
        rw [if_neg (show ¬ (a' i.toNat = 0 ∨ x < a' i.toNat) by rw [ea]; exact hc), Int.add_zero]
        refine ⟨?_, rfl, rfl, rfl, rfl, rfl, rfl⟩
        have q := hz'.put (x := x) (e := a' i.toNat) hic rfl (by rw [upD_self rfl]; exact hz'.w) hle hx2 (by omega) (by omega) hz'.vb
        rw [upD_self rfl] at q
        exact q
  · have hb' : (0 ≤ i ∧ i < c) ∧ v1 < x → v1 + 2147483648 < x := by omega
    refine ⟨?_, ?_⟩
    · simp (disch := omega) only [ob_z13, q_z13_0, q_z13_1, q_z13_2, q_z13_3, ewA, ewL, preC, binI, dvI, shI, cmpB, env, bi, List.headD, List.tail, List.map, Nat.reduceAdd, ewR, ewB, ewM, if_true, if_false, implies_true, forall_const, ne_eq, reduceCtorEq, Int.reduceEq, Int.reduceLT, Int.reduceLE, Int.reduceToNat, Int.reduceAdd, Int.reduceSub, Int.reduceMul, Int.reduceNeg, Int.reduceBEq, Nat.reduceLT, Nat.reduceEqDiff, hSS, y34, y18, y36, y29, y14, wx, b2, wD]
      refine ⟨fun hh => absurd hh.2 (by omega), fun _ hh => absurd hh.2 (by omega), fun hh => absurd hh.2 (by omega)⟩
    · simp (disch := omega) only [es_z13, q_z13_0, q_z13_1, q_z13_2, q_z13_3, ewA, ewL, preC, binI, dvI, shI, cmpB, env, bi, List.headD, List.tail, List.map, Nat.reduceAdd, ewR, ewB, ewM, if_true, if_false, implies_true, forall_const, ne_eq, reduceCtorEq, Int.reduceEq, Int.reduceLT, Int.reduceLE, Int.reduceToNat, Int.reduceAdd, Int.reduceSub, Int.reduceMul, Int.reduceNeg, Int.reduceBEq, Nat.reduceLT, Nat.reduceEqDiff, hSS, wx, b2, if_pos hb']
      refine ⟨fun hh => absurd (show (0 ≤ i ∧ i < c) ∧ v1 < x ∧ x ≤ v1 + 2147483648 from ⟨⟨hh.1.1, by rw [← hcp]; exact hh.1.2⟩, hh.2⟩) hb, ?_⟩
      intro c' d' a' B' hz'
      replace hz' : LZ S v1 bu le mo T h ln vn D c' d' a' B' := hz'
      obtain ⟨rfl, hea⟩ := hz.eqs hz'
      refine ⟨fun hh => absurd hh hb, fun _ => ⟨rfl, fun j hj => ?_⟩⟩
      have e : IntKind.i64.wrap (ln + 0) = ln := by rw [Int.add_zero]; exact i64w (by omega) (by omega)
      match j, hj with
      | 0, _ | 1, _ | 2, _ | 3, _ | 4, _ | 5, _ | 6, _ | 8, _ | 9, _ => rfl
      | 7, _ => first | exact e | exact Int.add_zero ln

theorem okz19 : EntryOK Try.prog G0 z19 ∧ PostOK z19 post19 := by
  refine cZ2ok.nm.entryH mixed ev_z19 (by kernel_rfl) _ rfl fun xs hf hp => ?_
  obtain ⟨l, hl, hF⟩ := ctx_P (l0 := cZ2n.l)
  show ∃ ρ : Nat → Int, _ ∧ ob_z19.tt cZ2n.l.F ρ = true ∧ post19 xs (es_z19.map (E.den cZ2n.l.F ρ))
  rw [hl]
  have F24 := FC (k := 100000024) rfl (hF e24.nm (by rfl) (by decide))
  have F334 := FC (k := 100000334) rfl (hF z34.nm (by rfl) (by decide))
  replace hf : fits [.x, (.i .i64), (.i .i64), (.i .i64), (.i .i64), .x, (.i .i64), (.i .i64), (.i .i64), .x, (.i .i64)] xs := hf
  obtain ⟨S, xs0, hx0, hS, hf0⟩ := fits_cons hf
  obtain ⟨now, xs1, hx1, hnow, hf1⟩ := fits_cons hf0
  obtain ⟨bu, xs2, hx2, hbu, hf2⟩ := fits_cons hf1
  obtain ⟨le, xs3, hx3, hle, hf3⟩ := fits_cons hf2
  obtain ⟨mo, xs4, hx4, hmo, hf4⟩ := fits_cons hf3
  obtain ⟨T, xs5, hx5, hT, hf5⟩ := fits_cons hf4
  obtain ⟨h, xs6, hx6, hh, hf6⟩ := fits_cons hf5
  obtain ⟨ln, xs7, hx7, hln, hf7⟩ := fits_cons hf6
  obtain ⟨vn, xs8, hx8, hvn, hf8⟩ := fits_cons hf7
  obtain ⟨D, xs9, hx9, hD, hf9⟩ := fits_cons hf8
  obtain ⟨i, xs10, hx10, hi, hf10⟩ := fits_cons hf9
  have hxn := fits_nil hf10
  subst hxn hx10 hx9 hx8 hx7 hx6 hx5 hx4 hx3 hx2 hx1 hx0
  simp only [norm_i] at hnow hbu hle hmo hh hln hvn hi
  obtain ⟨ρ, hρ, hd⟩ := solve (F := l.F) 11 defs_z19 (by kernel_rfl) [S, now, bu, le, mo, T, h, ln, vn, D, i]
  have hDf := dE_tt (by kernel_rfl) hd
  refine ⟨ρ, hρ, ?_⟩
  have r0 : ρ 0 = S := hρ 0 (by decide)
  have r1 : ρ 1 = now := hρ 1 (by decide)
  have r2 : ρ 2 = bu := hρ 2 (by decide)
  have r3 : ρ 3 = le := hρ 3 (by decide)
  have r4 : ρ 4 = mo := hρ 4 (by decide)
  have r5 : ρ 5 = T := hρ 5 (by decide)
  have r6 : ρ 6 = h := hρ 6 (by decide)
  have r7 : ρ 7 = ln := hρ 7 (by decide)
  have r8 : ρ 8 = vn := hρ 8 (by decide)
  have r9 : ρ 9 = D := hρ 9 (by decide)
  have r10 : ρ 10 = i := hρ 10 (by decide)
  obtain ⟨v1, hv1, hd1, hn1⟩ := nmd hd 0 rfl
  obtain ⟨v2, hv2, hd2, hn2⟩ := nmd hd 1 rfl
  obtain ⟨v3, hv3, hd3, hn3⟩ := nmd hd 2 rfl
  obtain ⟨v4, hv4, hd4, hn4⟩ := nmd hd 3 rfl
  obtain ⟨v5, hv5, hd5, hn5⟩ := nmd hd 4 rfl
  obtain ⟨v6, hv6, hd6, hn6⟩ := nmd hd 5 rfl
  obtain ⟨v7, hv7, hd7, hn7⟩ := nmd hd 6 rfl
  simp only [norm_i] at hn2 hn3 hn4 hn5 hn7
  simp (disch := omega) only [norm_i, a_z19_0, F24, Ent.nm_fn, r0, r1, hnow, r2, hbu, r3, hle, r4, hmo, r5, r6, hh, r7, hln, r8, hvn, r9, r10, hi, hv1, hv2, hn2, hv3, hn3, hv4, hn4, hv5, hn5, hv6, hv7, hn7, ewA, ewL, preC, binI, dvI, shI, cmpB, env, bi, List.headD, List.tail, List.map, Nat.reduceAdd, ewR, ewB, ewM, if_true, if_false, implies_true, forall_const, ne_eq, reduceCtorEq, Int.reduceEq, Int.reduceLT, Int.reduceLE, Int.reduceToNat, Int.reduceAdd, Int.reduceSub, Int.reduceMul, Int.reduceNeg, Int.reduceBEq, Nat.reduceLT, Nat.reduceEqDiff] at hd1 hd2 hd3 hd4 hd5 hd6 hd7
  have hSS := And.intro (And.intro (And.intro (And.intro (And.intro F24 F334) (And.intro r0 r1)) (And.intro (And.intro hnow r2) (And.intro hbu r3))) (And.intro (And.intro (And.intro hle r4) (And.intro hmo r5)) (And.intro (And.intro r6 hh) (And.intro r7 (And.intro hln r8))))) (And.intro (And.intro (And.intro (And.intro hvn r9) (And.intro r10 hi)) (And.intro (And.intro hv1 hv2) (And.intro hn2 hv3))) (And.intro (And.intro (And.intro hn3 hv4) (And.intro hn4 hv5)) (And.intro (And.intro hn5 hv6) (And.intro hv7 (And.intro hn7 hDf)))))
  obtain ⟨c, d, a, B, hz⟩ := hp
  replace hz : LZ S now bu le mo T h ln vn D c d a B := hz
  have hw := hz.w
  have htm := hw.tm
  have hct := hw.ct
  have hcp := hz.cp
  have hln := hz.lnr
  have wD : IntKind.i64.wrap (((dc D).length : Nat) : Int) = c := by rw [hcp]; exact i64w (by omega) (by omega)
  have y34 : z34.pre [S, now, bu, le, mo, T, h, ln, vn, D] := trivial
  have y24 : e24.pre [S, now, bu, le, mo, T, i] := hw.wx1 _
  by_cases hi : 0 ≤ i ∧ i < c
  · have hic : (i.toNat : Int) < c := by omega
    obtain ⟨ad1, ad2, ad3⟩ := hz.ad i.toNat hic
    obtain ⟨q1, q2, q3, q4, q5, q6, _⟩ := hw.can hi ⟨hd1, hd2, hd3, hd4, hd5, hd6, hd7, trivial⟩
    by_cases hd : a i.toNat = 0
    · have z7 : v7 = 6 := by rw [q5, if_pos hd]
      refine ⟨?_, ?_⟩
      · simp (disch := omega) only [ob_z19, ewA, ewL, preC, binI, dvI, shI, cmpB, env, bi, List.headD, List.tail, List.map, Nat.reduceAdd, ewR, ewB, ewM, if_true, if_false, implies_true, forall_const, ne_eq, reduceCtorEq, Int.reduceEq, Int.reduceLT, Int.reduceLE, Int.reduceToNat, Int.reduceAdd, Int.reduceSub, Int.reduceMul, Int.reduceNeg, Int.reduceBEq, Nat.reduceLT, Nat.reduceEqDiff, hSS, y34, y24, wD, z7, hi]
      · simp (disch := omega) only [es_z19, ewA, ewL, preC, binI, dvI, shI, cmpB, env, bi, List.headD, List.tail, List.map, Nat.reduceAdd, ewR, ewB, ewM, if_true, if_false, implies_true, forall_const, ne_eq, reduceCtorEq, Int.reduceEq, Int.reduceLT, Int.reduceLE, Int.reduceToNat, Int.reduceAdd, Int.reduceSub, Int.reduceMul, Int.reduceNeg, Int.reduceBEq, Nat.reduceLT, Nat.reduceEqDiff, hSS, z7]
        intro c' d' a' B' hz'
        replace hz' : LZ S now bu le mo T h ln vn D c' d' a' B' := hz'
        obtain ⟨rfl, hea⟩ := hz.eqs hz'
        obtain ⟨ea, ed⟩ := hea i.toNat hic
        refine ⟨fun _ => ?_, fun hh => absurd hi hh⟩
        obtain ⟨q1, q2, q3, q4, q5, q6, _⟩ := hz'.w.can hi ⟨hd1, hd2, hd3, hd4, hd5, hd6, hd7, trivial⟩
        show LZ _ _ _ _ _ _ _ _ _ _ c' (upD d' i.toNat 0) (upD a' i.toNat 0) (B'.erase i.toNat) ∧ (6 : Int) = (if d' i.toNat = 0 then 6 else 0) ∧ _
        rw [upD_self (d := d') (by rw [ed]; exact ad1.1 hd), if_pos (by rw [ed]; exact ad1.1 hd)]
        refine ⟨⟨q1, hz'.hd, ?_, hz'.rD, hz'.cp, hz'.dl, ?_, hz'.vb⟩, rfl, q2, q3, q4, rfl, rfl⟩
        · rw [q6, if_pos (by rw [ea]; exact hd)]; exact hz'.ln
        · show ∀ y : Nat, (y : Int) < c' → (upD a' i.toNat 0 y = 0 ↔ d' y = 0) ∧ upD a' i.toNat 0 y ≤ d' y ∧ d' y ≤ v2 + 2147483648
          rw [upD_self (by rw [ea]; exact hd), q2]; exact hz'.ad
    · have z7 : v7 = 0 := by rw [q5, if_neg hd]
      refine ⟨?_, ?_⟩
      · simp (disch := omega) only [ob_z19, ewA, ewL, preC, binI, dvI, shI, cmpB, env, bi, List.headD, List.tail, List.map, Nat.reduceAdd, ewR, ewB, ewM, if_true, if_false, implies_true, forall_const, ne_eq, reduceCtorEq, Int.reduceEq, Int.reduceLT, Int.reduceLE, Int.reduceToNat, Int.reduceAdd, Int.reduceSub, Int.reduceMul, Int.reduceNeg, Int.reduceBEq, Nat.reduceLT, Nat.reduceEqDiff, hSS, y34, y24, wD, z7, hi]
      · simp (disch := omega) only [es_z19, ewA, ewL, preC, binI, dvI, shI, cmpB, env, bi, List.headD, List.tail, List.map, Nat.reduceAdd, ewR, ewB, ewM, if_true, if_false, implies_true, forall_const, ne_eq, reduceCtorEq, Int.reduceEq, Int.reduceLT, Int.reduceLE, Int.reduceToNat, Int.reduceAdd, Int.reduceSub, Int.reduceMul, Int.reduceNeg, Int.reduceBEq, Nat.reduceLT, Nat.reduceEqDiff, hSS, z7]
        intro c' d' a' B' hz'
        replace hz' : LZ S now bu le mo T h ln vn D c' d' a' B' := hz'
        obtain ⟨rfl, hea⟩ := hz.eqs hz'
        obtain ⟨ea, ed⟩ := hea i.toNat hic
        refine ⟨fun _ => ?_, fun hh => absurd hi hh⟩
        obtain ⟨q1, q2, q3, q4, q5, q6, _⟩ := hz'.w.can hi ⟨hd1, hd2, hd3, hd4, hd5, hd6, hd7, trivial⟩
        have hdn : ¬ d' i.toNat = 0 := by rw [ed]; exact fun h => hd (ad1.2 h)
        show LZ v1 v2 v3 v4 v5 v6 h (ln - 1) vn _ c' (upD d' i.toNat 0) (upD a' i.toNat 0) (B'.erase i.toNat) ∧ (0 : Int) = (if d' i.toNat = 0 then 6 else 0) ∧ v2 = now ∧ v3 = bu ∧ v5 = mo ∧ h = h ∧ vn = vn
        rw [if_neg hdn]
        have q1' := q1
        rw [q2] at q1'
        refine ⟨?_, rfl, q2, q3, q4, rfl, rfl⟩
        rw [q2]
        refine hz'.put hic rfl q1' ?_ (by omega) Iff.rfl (Int.le_refl _) hz'.vb
        rw [q6, hz'.ln, if_neg (by rw [ea]; exact hd)]
  · obtain ⟨q1, q2⟩ := hw.canB hi ⟨hd1, hd2, hd3, hd4, hd5, hd6, hd7, trivial⟩
    refine ⟨?_, ?_⟩
    · simp (disch := omega) only [ob_z19, ewA, ewL, preC, binI, dvI, shI, cmpB, env, bi, List.headD, List.tail, List.map, Nat.reduceAdd, ewR, ewB, ewM, if_true, if_false, implies_true, forall_const, ne_eq, reduceCtorEq, Int.reduceEq, Int.reduceLT, Int.reduceLE, Int.reduceToNat, Int.reduceAdd, Int.reduceSub, Int.reduceMul, Int.reduceNeg, Int.reduceBEq, Nat.reduceLT, Nat.reduceEqDiff, hSS, y34, y24, wD, q2]
    · simp (disch := omega) only [es_z19, ewA, ewL, preC, binI, dvI, shI, cmpB, env, bi, List.headD, List.tail, List.map, Nat.reduceAdd, ewR, ewB, ewM, if_true, if_false, implies_true, forall_const, ne_eq, reduceCtorEq, Int.reduceEq, Int.reduceLT, Int.reduceLE, Int.reduceToNat, Int.reduceAdd, Int.reduceSub, Int.reduceMul, Int.reduceNeg, Int.reduceBEq, Nat.reduceLT, Nat.reduceEqDiff, hSS, q2]
      intro c' d' a' B' hz'
      replace hz' : LZ S now bu le mo T h ln vn D c' d' a' B' := hz'
      obtain ⟨rfl, hea⟩ := hz.eqs hz'
      obtain ⟨rfl, rfl, rfl, rfl, rfl, rfl⟩ := q1
      refine ⟨fun hh => absurd hh hi, fun _ => ⟨rfl, fun j hj => ?_⟩⟩
      match j, hj with
      | 0, _ | 1, _ | 2, _ | 3, _ | 4, _ | 5, _ | 6, _ | 7, _ | 8, _ | 9, _ => rfl

end
end Go.Proofs.Ytnockichpnaoeaa.Ew

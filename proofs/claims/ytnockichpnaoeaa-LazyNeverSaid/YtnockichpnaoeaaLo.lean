/- Layer 19: an object with a list of its deadlines; ticks with it. -/
import Derived.Test.YtnockichpnaoeaaLn
set_option linter.unusedVariables false
set_option linter.unusedSimpArgs false
namespace Go.Proofs.Ytnockichpnaoeaa.Ew
open Go Go.RowKit
noncomputable section
--P Try.prog G0

/-- How many alarms are earlier than the deadline. -/
def early (c : Int) (d a : Nat → Int) : Int := (cnt c.toNat (fun j => decide (a j < d j)) : Nat)
/-- An object at rest, and a list of its deadlines; at most so many deadlines were moved later. -/
structure PZ (S now bu le mo T h ln vn D E lt c : Int) (d a : Nat → Int) (B : List Nat) : Prop where
  z : LZ S now bu le mo T h ln vn D c d a B
  rE : rowsOK intK (dc E)
  lE : ((dc E).length : Int) = c
  eE : ∀ j : Nat, (j : Int) < c → gC (dc E) j 0 = d j
  vl : vn + early c d a ≤ lt
def PZx (xs : List Int) (lt c : Int) (d a : Nat → Int) (B : List Nat) : Prop := PZ (env xs 0) (env xs 1) (env xs 2) (env xs 3) (env xs 4) (env xs 5) (env xs 6) (env xs 7) (env xs 8) (env xs 9) (env xs 10) lt c d a B
def preTy (xs : List Int) : Prop := (∃ c d a B lt, PZx xs lt c d a B ∧ lt ≤ 4096) ∧ (0 ≤ env xs 12 ∧ env xs 12 ≤ env xs 11 ∧ env xs 11 ≤ 40) ∧ env xs 4 + 4096 * (env xs 11 - env xs 12) ≤ 1125899906842624 ∧ env xs 1 + (env xs 11 - env xs 12) < 1099511627776
/-- What ticks do: no deadline is later; and if all are reached, a timer goes with each. -/
def tkd (now le n c : Int) (d : Nat → Int) (le' : Int) (d' : Nat → Int) : Prop := (∀ j : Nat, (j : Int) < c → d' j ≤ d j) ∧ ∀ W, (∀ j : Nat, (j : Int) < c → d j ≤ W) → W ≤ now → le' ≤ le - n ∨ le' = 0
def postTy (xs ys : List Int) : Prop := ∀ lt c d a B, PZx xs lt c d a B → lt ≤ 4096 → ∃ d' a' B', PZx ys lt c d' a' B' ∧ env ys 1 = env xs 1 + (env xs 11 - env xs 12) ∧ env ys 2 = env xs 2 ∧ (env xs 4 ≤ env ys 4 ∧ env ys 4 ≤ env xs 4 + 4096 * (env xs 11 - env xs 12)) ∧ env ys 6 = env xs 6 ∧ tkd (env xs 1) (env xs 3) (env xs 11 - env xs 12) c d (env ys 3) d'
def muTy (xs : List Int) : Nat := (env xs 11 - env xs 12).toNat
def pTy : List Bool := [true,true,true,false,true,false,false,true,false,false,true,true,true,true,false,true,true,true,false,true,false]
def lbTy : LEnt := ⟨⟨9024, 999999, [lzS, lnI, i64, i64], [wobL, lzO, obL 4], [], .tup [], z0, preTy⟩, [0, 8, 110, 111], [], [14, 15] ++ (List.range 20).map (· + 111), [.ex 3], 135, []⟩
def cTy : Ctx := ⟨[z14, z16, z23, z47], []⟩
def cTyn : Ctx := cTy.nm

def a_Ty_0 : List E := [(vX 0), (vI 1), (vI 2), (vI 3), (vI 4), (vX 5), (vI 6), (vI 7), (vI 8), (vX 9)]
def a_Ty_1 : List E := [(vX 640002009608960), (vI 640002009608961), (vI 640002009608962), (vI 640002009608963), (vI 640002009608964), (vX 640002009608965), (vI 640002009608966), (vI 640002009608967), (vI 640002009608968), (vX 640002009608969)]
def defs_Ty : List (Nat × E) := [(640002009608960, (aX 100000314 0 a_Ty_0)),
  (640002009608961, (aI 100000314 1 a_Ty_0)),
  (640002009608962, (aI 100000314 2 a_Ty_0)),
  (640002009608963, (aI 100000314 3 a_Ty_0)),
  (640002009608964, (aI 100000314 4 a_Ty_0)),
  (640002009608965, (aX 100000314 5 a_Ty_0)),
  (640002009608966, (aI 100000314 6 a_Ty_0)),
  (640002009608967, (aI 100000314 7 a_Ty_0)),
  (640002009608968, (aI 100000314 8 a_Ty_0)),
  (640002009608969, (aX 100000314 9 a_Ty_0)),
  (640002009608970, (aX 100000314 10 a_Ty_0)),
  (640002022409472, (aI 100000316 0 a_Ty_1)),
  (640002067209472, (aI 100000323 0 a_Ty_1)),
  (640002220809472, (aX 100000347 0 [(vX 10), (vX 640002009608970), (vI 640002022409472), (vI 640002067209472)]))]
def q_Ty_0 : E := (aX 9024 10 [(vX 640002009608960), (vI 640002009608961), (vI 640002009608962), (vI 640002009608963), (vI 640002009608964), (vX 640002009608965), (vI 640002009608966), (vI 640002009608967), (vI 640002009608968), (vX 640002009608969), (vX 640002220809472), (vI 11), (.bin .add .i64 (vI 12) (lI 1))])
def ob_Ty : E := (.and (.and (.or (.not (.cmp .lss (vI 12) (vI 11))) (.and (.and (.app .b 100000314 1000000 [(vX 0), (vI 1), (vI 2), (vI 3), (vI 4), (vX 5), (vI 6), (vI 7), (vI 8), (vX 9)]) (dE defs_Ty 0 11)) (.and (.and (.app .b 100000316 1000000 [(vX 640002009608960), (vI 640002009608961), (vI 640002009608962), (vI 640002009608963), (vI 640002009608964), (vX 640002009608965), (vI 640002009608966), (vI 640002009608967), (vI 640002009608968), (vX 640002009608969)]) (dE defs_Ty 11 1)) (.and (.and (.app .b 100000323 1000000 [(vX 640002009608960), (vI 640002009608961), (vI 640002009608962), (vI 640002009608963), (vI 640002009608964), (vX 640002009608965), (vI 640002009608966), (vI 640002009608967), (vI 640002009608968), (vX 640002009608969)]) (dE defs_Ty 12 1)) (.and (.and (.app .b 100000347 1000000 [(vX 10), (vX 640002009608970), (vI 640002022409472), (vI 640002067209472)]) (.cmp .eql (aI 0 0 [(vX 640002220809472)]) (aI 0 0 [(vX 10)]))) (dE defs_Ty 13 1)))))) (.or (.not (.cmp .lss (vI 12) (vI 11))) (.and (.app .b 9024 1000000 [(vX 640002009608960), (vI 640002009608961), (vI 640002009608962), (vI 640002009608963), (vI 640002009608964), (vX 640002009608965), (vI 640002009608966), (vI 640002009608967), (vI 640002009608968), (vX 640002009608969), (vX 640002220809472), (vI 11), (.bin .add .i64 (vI 12) (lI 1))]) (.cmp .eql (aI 0 0 [q_Ty_0]) (aI 0 0 [(vX 10)]))))) (.or (.not (.or (.not (.cmp .lss (vI 12) (vI 11))) (.cmp .lss (vI 12) (vI 11)))) (.ite (.not (.cmp .lss (vI 12) (vI 11))) (.not (.cmp .lss (vI 12) (vI 11))) (.cmp .lss (vI 12) (vI 11)))))
def es_Ty : List E := [(.ite (.not (.cmp .lss (vI 12) (vI 11))) (vX 0) (aX 9024 0 [(vX 640002009608960), (vI 640002009608961), (vI 640002009608962), (vI 640002009608963), (vI 640002009608964), (vX 640002009608965), (vI 640002009608966), (vI 640002009608967), (vI 640002009608968), (vX 640002009608969), (vX 640002220809472), (vI 11), (.bin .add .i64 (vI 12) (lI 1))])), (.ite (.not (.cmp .lss (vI 12) (vI 11))) (vI 1) (aI 9024 1 [(vX 640002009608960), (vI 640002009608961), (vI 640002009608962), (vI 640002009608963), (vI 640002009608964), (vX 640002009608965), (vI 640002009608966), (vI 640002009608967), (vI 640002009608968), (vX 640002009608969), (vX 640002220809472), (vI 11), (.bin .add .i64 (vI 12) (lI 1))])), (.ite (.not (.cmp .lss (vI 12) (vI 11))) (vI 2) (aI 9024 2 [(vX 640002009608960), (vI 640002009608961), (vI 640002009608962), (vI 640002009608963), (vI 640002009608964), (vX 640002009608965), (vI 640002009608966), (vI 640002009608967), (vI 640002009608968), (vX 640002009608969), (vX 640002220809472), (vI 11), (.bin .add .i64 (vI 12) (lI 1))])), (.ite (.not (.cmp .lss (vI 12) (vI 11))) (vI 3) (aI 9024 3 [(vX 640002009608960), (vI 640002009608961), (vI 640002009608962), (vI 640002009608963), (vI 640002009608964), (vX 640002009608965), (vI 640002009608966), (vI 640002009608967), (vI 640002009608968), (vX 640002009608969), (vX 640002220809472), (vI 11), (.bin .add .i64 (vI 12) (lI 1))])), (.ite (.not (.cmp .lss (vI 12) (vI 11))) (vI 4) (aI 9024 4 [(vX 640002009608960), (vI 640002009608961), (vI 640002009608962), (vI 640002009608963), (vI 640002009608964), (vX 640002009608965), (vI 640002009608966), (vI 640002009608967), (vI 640002009608968), (vX 640002009608969), (vX 640002220809472), (vI 11), (.bin .add .i64 (vI 12) (lI 1))])), (.ite (.not (.cmp .lss (vI 12) (vI 11))) (vX 5) (aX 9024 5 [(vX 640002009608960), (vI 640002009608961), (vI 640002009608962), (vI 640002009608963), (vI 640002009608964), (vX 640002009608965), (vI 640002009608966), (vI 640002009608967), (vI 640002009608968), (vX 640002009608969), (vX 640002220809472), (vI 11), (.bin .add .i64 (vI 12) (lI 1))])), (.ite (.not (.cmp .lss (vI 12) (vI 11))) (vI 6) (aI 9024 6 [(vX 640002009608960), (vI 640002009608961), (vI 640002009608962), (vI 640002009608963), (vI 640002009608964), (vX 640002009608965), (vI 640002009608966), (vI 640002009608967), (vI 640002009608968), (vX 640002009608969), (vX 640002220809472), (vI 11), (.bin .add .i64 (vI 12) (lI 1))])), (.ite (.not (.cmp .lss (vI 12) (vI 11))) (vI 7) (aI 9024 7 [(vX 640002009608960), (vI 640002009608961), (vI 640002009608962), (vI 640002009608963), (vI 640002009608964), (vX 640002009608965), (vI 640002009608966), (vI 640002009608967), (vI 640002009608968), (vX 640002009608969), (vX 640002220809472), (vI 11), (.bin .add .i64 (vI 12) (lI 1))])), (.ite (.not (.cmp .lss (vI 12) (vI 11))) (vI 8) (aI 9024 8 [(vX 640002009608960), (vI 640002009608961), (vI 640002009608962), (vI 640002009608963), (vI 640002009608964), (vX 640002009608965), (vI 640002009608966), (vI 640002009608967), (vI 640002009608968), (vX 640002009608969), (vX 640002220809472), (vI 11), (.bin .add .i64 (vI 12) (lI 1))])), (.ite (.not (.cmp .lss (vI 12) (vI 11))) (vX 9) (aX 9024 9 [(vX 640002009608960), (vI 640002009608961), (vI 640002009608962), (vI 640002009608963), (vI 640002009608964), (vX 640002009608965), (vI 640002009608966), (vI 640002009608967), (vI 640002009608968), (vX 640002009608969), (vX 640002220809472), (vI 11), (.bin .add .i64 (vI 12) (lI 1))])), (.ite (.not (.cmp .lss (vI 12) (vI 11))) (vX 10) q_Ty_0)]
def leTy : LEnt := lbTy.fw (fnL lbTy cTyn.l ob_Ty es_Ty postTy muTy)
theorem ev_Ty : evL Try.prog G0 (tabOf cTyn.fs) (evFn Try.prog G0 (tabOf cTyn.fs) (ltOf cTyn.ls) 40 10) 40 (subL cTyn.ls 24 pTy) leTy (bodyAt Try.prog 24 pTy) = some (ob_Ty, es_Ty) := by kernel_rfl

theorem cnt_le2 {p1 p2 p : Nat → Bool} : ∀ n, (∀ j, j < n → (if p1 j = true then 1 else 0) + (if p2 j = true then 1 else 0) ≤ if p j = true then 1 else 0) → cnt n p1 + cnt n p2 ≤ cnt n p
  | 0, _ => Nat.le_refl _
  | n + 1, h => by
    have ih := cnt_le2 n fun j hj => h j (by omega)
    have := h n (by omega)
    rw [cnt_succ', cnt_succ', cnt_succ']
    omega
theorem cnt_ge {Q : List Nat} {p : Nat → Bool} {n : Nat} (hn : Q.Nodup) (h : ∀ j ∈ Q, j < n ∧ p j = true) : Q.length ≤ cnt n p := by
  have hs : Q ⊆ (List.range n).filter p := fun j hj => List.mem_filter.2 ⟨List.mem_range.2 (h j hj).1, (h j hj).2⟩
  have := List.Nodup.length_le_of_subset hn hs
  unfold cnt
  rw [List.countP_eq_length_filter]; exact this
section
variable {S now bu le mo T h ln vn D E lt c : Int} {d a : Nat → Int} {B : List Nat} {S' now' bu' le' mo' T' h' ln' vn' D' : Int}
/-- The timers that are handled in a tick are different ones. -/
theorem LZ.tickN {O : Int} (hz : LZ S now bu le mo T h ln vn D c d a B) (hm : mo + bu ≤ 1125899906842624) (hv : vn + 4096 ≤ 1125899906842624) (hn : now < 1099511627776)
    (ho : isOut z14.fn [S, now, bu, le, mo, T, h, ln, vn, D] 0 [.x, .i .i64, .i .i64, .i .i64, .i .i64, .x, .i .i64, .i .i64, .i .i64, .x, .x] [S', now', bu', le', mo', T', h', ln', vn', D', O]) :
    ∃ N P : List Nat, P.Nodup ∧ (∀ i, i ∈ N ↔ (i : Int) < c ∧ a i = now + 1) ∧ P = (B ++ N).take h.toNat ∧
      LZ S' now' bu' le' mo' T' h' ln' vn' D' c (cmD (now + 1) d P) (cmA (now + 1) d a P) ((B ++ N).drop h.toNat) ∧ dc O = idR (cmO (now + 1) d P) ∧ now' = now + 1 ∧ bu' = bu ∧ (mo ≤ mo' ∧ mo' ≤ mo + bu) ∧ h' = h ∧ vn' = vn + cmV (now + 1) d P := by
  have hh := hz.hd
  obtain ⟨L, ⟨v1, v2, v3, v4, v5, v6, v7, v8, v9, v10, v11, v12, v13, v15, o1, o2, _⟩, q⟩ := hz.tickP hm hv ho
  obtain ⟨N, P, e0, n1, n2, n3, n4, n5, n6, n7, n8, n9⟩ := q c d a B hz
  obtain ⟨N', q1, _⟩ := hz.w.tick hm o1
  obtain ⟨_, _, _, _, _, t6, _⟩ := q1.take (k := h) (by omega) o2
  have eP : P = (B ++ N').take h.toNat := idR_inj (R := (B ++ N').take h.toNat) (t6.symm.trans e0)
  have nd : P.Nodup := by rw [eP]; exact q1.nd.sublist (List.take_sublist ..)
  have eN : nowT (env [S, now, bu, le, mo, T, h, ln, vn, D] 1) = now + 1 := nowT_lt hn
  rw [eN] at n3 n4 n5 n9
  exact ⟨N, P, nd, fun i => (n1 i).trans ⟨fun x => x.2, fun x => ⟨hn, x⟩⟩, n2, n3, n4, n5, n6, n7, n8, n9⟩
theorem PZ.tick {O : Int} (p : PZ S now bu le mo T h ln vn D E lt c d a B) (hm : mo + bu ≤ 1125899906842624) (hlt : lt ≤ 4096) (hn : now < 1099511627776)
    (ho : isOut z14.fn [S, now, bu, le, mo, T, h, ln, vn, D] 0 [.x, .i .i64, .i .i64, .i .i64, .i .i64, .x, .i .i64, .i .i64, .i .i64, .x, .x] [S', now', bu', le', mo', T', h', ln', vn', D', O]) :
    ∃ R d' a' B', LZ S' now' bu' le' mo' T' h' ln' vn' D' c d' a' B' ∧ dc O = idR R ∧ mayCome (dc E) now' R ∧ R.length ≤ 4096 ∧ (0 < (B'.length : Int) ∨ ∀ j, j < (dc E).length → j ∉ R → ¬ (0 < gC (dc E) j 0 ∧ gC (dc E) j 0 ≤ now')) ∧
      (∀ E', taken (dc E) (dc E') R → PZ S' now' bu' le' mo' T' h' ln' vn' D' E' lt c d' a' B') ∧ now' = now + 1 ∧ bu' = bu ∧ (mo ≤ mo' ∧ mo' ≤ mo + bu) ∧ h' = h ∧ tkd now le 1 c d le' d' := by
  have hz := p.z
  have hh := hz.hd
  have hct := hz.w.ct
  have hvb := hz.vb
  have hlE := p.lE
  have hvl := p.vl
  have he0 : 0 ≤ early c d a := by unfold early; omega
  obtain ⟨N, P, nd, n1, n2, z1, n4, n5, n6, n7, n8, n9⟩ := hz.tickN hm (by omega) hn ho
  have hP : ∀ j ∈ P, (j : Int) < c ∧ 0 < a j ∧ a j ≤ now + 1 ∧ 0 < d j ∧ a j ≤ d j := fun j hj => by
    rw [n2] at hj
    have hm := List.mem_of_mem_take hj
    have h1 : (j : Int) < c ∧ 0 < a j ∧ a j ≤ now + 1 := by
      have htm := hz.w.tm
      rcases List.mem_append.1 hm with hm | hm
      · have := (hz.w.mem j).1 hm; omega
      · have := (n1 j).1 hm; omega
    have := hz.ad j h1.1
    omega
  have hR : ∀ j, j ∈ cmO (now + 1) d P ↔ j ∈ P ∧ d j ≤ now + 1 := fun j => by
    unfold cmO; rw [List.mem_filter, decide_eq_true_iff]
  have ecD : ∀ j : Nat, (j : Int) < c → cmD (now + 1) d P j = if j ∈ cmO (now + 1) d P then 0 else d j := fun j _ => by
    unfold cmD
    by_cases hh : j ∈ P ∧ d j ≤ now + 1
    · rw [if_pos hh, if_pos ((hR j).2 hh)]
    · rw [if_neg hh, if_neg fun x => hh ((hR j).1 x)]
  refine ⟨cmO (now + 1) d P, _, _, _, z1, n4, ⟨nd.filter _, fun r hr => ?_⟩, ?_, ?_, fun E' ht => ?_, n5, n6, n7, n8, fun j hj => ?_, fun W hW hWn => ?_⟩
  · obtain ⟨r1, r2⟩ := (hR r).1 hr
    have := hP r r1
    have e := p.eE r this.1
    exact ⟨by omega, by rw [e]; exact this.2.2.2.1, by rw [e, n5]; exact r2⟩
  · have h1 : (cmO (now + 1) d P).length ≤ P.length := List.length_filter_le ..
    have h2 : P.length ≤ h.toNat := by rw [n2, List.length_take]; omega
    omega
  · by_cases hb : (List.drop h.toNat (B ++ N)) = []
    · refine Or.inr fun j hj hjR hd => ?_
      have hjc : (j : Int) < c := by omega
      rw [p.eE j hjc, n5] at hd
      have hnP : j ∉ P := fun x => hjR ((hR j).2 ⟨x, hd.2⟩)
      have := z1.ad j hjc
      rw [cmD_out hnP, cmA_out hnP] at this
      have hw := (z1.w.mem j).2 ⟨hjc, by have := hz.w.dr hjc; rw [cmA_out hnP]; omega, by rw [cmA_out hnP, n5]; omega⟩
      rw [hb] at hw
      cases hw
    · refine Or.inl ?_
      have := List.length_pos_iff.2 hb
      omega
  · obtain ⟨t1, t2, t3⟩ := ht
    refine ⟨z1, t1, by rw [t2]; exact hlE, fun j hj => ?_, ?_⟩
    · rw [t3 j (by omega), p.eE j hj, ecD j hj]
    · have h1 : cmV (now + 1) d P ≤ (cnt c.toNat (fun j => decide (j ∈ P ∧ now + 1 < d j)) : Nat) := by
        unfold cmV
        have := cnt_ge (Q := P.filter fun j => decide (now + 1 < d j)) (p := fun j => decide (j ∈ P ∧ now + 1 < d j)) (n := c.toNat) (nd.filter _) fun j hj => by
          obtain ⟨j1, j2⟩ := List.mem_filter.1 hj
          have := (hP j j1).1
          exact ⟨by omega, decide_eq_true ⟨j1, of_decide_eq_true j2⟩⟩
        omega
      have h2 := cnt_le2 (p1 := fun j => decide (cmA (now + 1) d a P j < cmD (now + 1) d P j)) (p2 := fun j => decide (j ∈ P ∧ now + 1 < d j)) (p := fun j => decide (a j < d j)) c.toNat fun j hj => by
        by_cases hjP : j ∈ P
        · have e1 : ¬ (cmA (now + 1) d a P j < cmD (now + 1) d P j) := by
            unfold cmA cmD
            rw [if_pos hjP]
            by_cases hd : d j ≤ now + 1
            · rw [if_pos hd, if_pos ⟨hjP, hd⟩]; omega
            · rw [if_neg hd, if_neg (fun x => hd x.2)]; omega
          rw [decide_eq_false e1]
          by_cases hd : now + 1 < d j
          · have := hP j hjP
            rw [decide_eq_true (show j ∈ P ∧ now + 1 < d j from ⟨hjP, hd⟩), decide_eq_true (show a j < d j by omega)]
            decide
          · rw [decide_eq_false (fun x : j ∈ P ∧ now + 1 < d j => hd x.2)]
            exact Nat.zero_le _
        · rw [cmA_out hjP, cmD_out hjP, decide_eq_false (fun x : j ∈ P ∧ now + 1 < d j => hjP x.1)]
          exact Nat.le_refl _
      show vn' + early c _ _ ≤ lt
      unfold early at hvl ⊢
      omega
  · unfold cmD
    have := hz.dr hj
    split <;> omega
  · have hle := hz.w.len
    have hle' := z1.w.len
    by_cases hPn : P = []
    · have hB : B ++ N = [] := by
        have e2 : h.toNat ≠ 0 := by omega
        rw [hPn] at n2
        rcases List.take_eq_nil_iff.1 n2.symm with x | x
        · exact absurd x e2
        · exact x
      have hB0 : B = [] := (List.append_eq_nil_iff.1 hB).1
      have h0 : cnt c.toNat (fun i => decide (0 < a i)) ≤ cnt c.toNat (fun j => decide (0 < z0D j)) := by
        have := cnt_le2 (p1 := fun i => decide (0 < a i)) (p2 := fun j => decide (0 < z0D j)) (p := fun j => decide (0 < z0D j)) c.toNat fun j hj => by
          have h1 := hz.ad j (by omega)
          have h2 := hW j (by omega)
          have h3 : ¬ 0 < a j := fun hp => by
            have := (hz.w.mem j).2 ⟨by omega, hp, by omega⟩
            rw [hB0] at this
            cases this
          rw [decide_eq_false h3]
          simp
        omega
      rw [cnt_none] at h0
      have h1 : cntP c (cmA (now + 1) d a P) = 0 := by
        rw [hPn, cm_nilA]; unfold cntP; omega
      exact Or.inr (hle'.trans h1)
    · obtain ⟨r, hr⟩ := List.exists_mem_of_ne_nil P hPn
      have hrP := hP r hr
      have h1 : 1 ≤ cnt c.toNat (fun j => decide (j = r)) := cnt_ge (Q := [r]) (by simp) fun j hj => by
        rw [List.mem_singleton] at hj
        subst hj
        exact ⟨by omega, decide_eq_true rfl⟩
      have h2 := cnt_le2 (p1 := fun j => decide (0 < cmA (now + 1) d a P j)) (p2 := fun j => decide (j = r)) (p := fun j => decide (0 < a j)) c.toNat fun j hj => by
        have hdj := hW j (by omega)
        by_cases hjP : j ∈ P
        · have e1 : ¬ 0 < cmA (now + 1) d a P j := by
            unfold cmA
            rw [if_pos hjP, if_pos (by omega)]; decide
          have e2 : (if decide (j = r) = true then 1 else 0) ≤ 1 := by split <;> decide
          rw [decide_eq_false e1, decide_eq_true (hP j hjP).2.1, if_neg (by decide), if_pos rfl]
          omega
        · have : ¬ j = r := fun e => hjP (e ▸ hr)
          rw [cmA_out hjP, decide_eq_false this]
          simp
      refine Or.inl ?_
      rw [hle, hle']
      unfold cntP
      omega
end
theorem cTyok : cTy.OK Try.prog G0 := (((Ctx.OK.nil.addF okz47.1 rfl).addF okz23 rfl).addF okz16 rfl).addF okz14.1 rfl
set_option maxHeartbeats 4000000 in
theorem okTy : ItemOK Try.prog G0 24 pTy leTy ∧ PostOK leTy.ent postTy := by
  refine cTyok.nm.loopH mixed rfl ⟨_, _, _, Try.func24, rfl, rfl⟩ ev_Ty (by kernel_rfl) _ rfl fun xs hf hp φ hφ => ?_
  obtain ⟨l, hl, hS, hF⟩ := self_H lbTy φ muTy (muTy xs) cTyn.l (by decide)
  show ∃ ρ : Nat → Int, _ ∧ ob_Ty.tt (Tabs.F (enH lbTy φ muTy (muTy xs) :: cTyn.l)) ρ = true ∧ postTy xs (es_Ty.map (E.den (Tabs.F (enH lbTy φ muTy (muTy xs) :: cTyn.l)) ρ))
  rw [hl]
  replace hφ : ∀ ys, fits [.x, (.i .i64), (.i .i64), (.i .i64), (.i .i64), .x, (.i .i64), (.i .i64), (.i .i64), .x, .x, (.i .i64), (.i .i64)] ys → lbTy.ent.pre ys → muTy ys < muTy xs → postTy ys (outsE φ ys 0 lbTy.ent.oks) := hφ
  have F9024 := FC (k := 9024) rfl hS
  have F314 := FC (k := 100000314) rfl (hF z14.nm (by rfl) (by decide) (by decide))
  have F316 := FC (k := 100000316) rfl (hF z16.nm (by rfl) (by decide) (by decide))
  have F323 := FC (k := 100000323) rfl (hF z23.nm (by rfl) (by decide) (by decide))
  have F347 := FC (k := 100000347) rfl (hF z47.nm (by rfl) (by decide) (by decide))
  replace hf : fits [.x, (.i .i64), (.i .i64), (.i .i64), (.i .i64), .x, (.i .i64), (.i .i64), (.i .i64), .x, .x, (.i .i64), (.i .i64)] xs := hf
  obtain ⟨S, xs0, hx0, hS, hf0⟩ := fits_cons hf
  obtain ⟨now, xs1, hx1, hnow, hf1⟩ := fits_cons hf0
  obtain ⟨bu, xs2, hx2, hbu, hf2⟩ := fits_cons hf1
  obtain ⟨le, xs3, hx3, hle, hf3⟩ := fits_cons hf2
  obtain ⟨mo, xs4, hx4, hmo, hf4⟩ := fits_cons hf3
  obtain ⟨T, xs5, hx5, hT, hf5⟩ := fits_cons hf4
  obtain ⟨h, xs6, hx6, hh, hf6⟩ := fits_cons hf5
  obtain ⟨ln, xs7, hx7, hln, hf7⟩ := fits_cons hf6
  obtain ⟨vn, xs8, hx8, hvn, hf8⟩ := fits_cons hf7
  obtain ⟨D, xs9, hx9, hD, hf9⟩ := fits_cons hf8
  obtain ⟨E, xs10, hx10, hE, hf10⟩ := fits_cons hf9
  obtain ⟨n, xs11, hx11, hn, hf11⟩ := fits_cons hf10
  obtain ⟨i, xs12, hx12, hi, hf12⟩ := fits_cons hf11
  have hxn := fits_nil hf12
  subst hxn hx12 hx11 hx10 hx9 hx8 hx7 hx6 hx5 hx4 hx3 hx2 hx1 hx0
  simp only [norm_i] at hnow hbu hle hmo hh hln hvn hn hi
  obtain ⟨ρ, hρ, hd⟩ := solve (F := l.F) 13 defs_Ty (by kernel_rfl) [S, now, bu, le, mo, T, h, ln, vn, D, E, n, i]
  have hDf := dE_tt (by kernel_rfl) hd
  refine ⟨ρ, hρ, ?_⟩
  have r0 : ρ 0 = S := hρ 0 (by decide)
  have r1 : ρ 1 = now := hρ 1 (by decide)
  have r2 : ρ 2 = bu := hρ 2 (by decide)
  have r3 : ρ 3 = le := hρ 3 (by decide)
  have r4 : ρ 4 = mo := hρ 4 (by decide)
  have r5 : ρ 5 = T := hρ 5 (by decide)
  have r6 : ρ 6 = h := hρ 6 (by decide)
  have r7 : ρ 7 = ln := hρ 7 (by decide)
  have r8 : ρ 8 = vn := hρ 8 (by decide)
  have r9 : ρ 9 = D := hρ 9 (by decide)
  have r10 : ρ 10 = E := hρ 10 (by decide)
  have r11 : ρ 11 = n := hρ 11 (by decide)
  have r12 : ρ 12 = i := hρ 12 (by decide)
  obtain ⟨v1, hv1, hd1, hn1⟩ := nmd hd 0 rfl
  obtain ⟨v2, hv2, hd2, hn2⟩ := nmd hd 1 rfl
  obtain ⟨v3, hv3, hd3, hn3⟩ := nmd hd 2 rfl
  obtain ⟨v4, hv4, hd4, hn4⟩ := nmd hd 3 rfl
  obtain ⟨v5, hv5, hd5, hn5⟩ := nmd hd 4 rfl
  obtain ⟨v6, hv6, hd6, hn6⟩ := nmd hd 5 rfl
  obtain ⟨v7, hv7, hd7, hn7⟩ := nmd hd 6 rfl
  obtain ⟨v8, hv8, hd8, hn8⟩ := nmd hd 7 rfl
  obtain ⟨v9, hv9, hd9, hn9⟩ := nmd hd 8 rfl
  obtain ⟨v10, hv10, hd10, hn10⟩ := nmd hd 9 rfl
  obtain ⟨v11, hv11, hd11, hn11⟩ := nmd hd 10 rfl
  obtain ⟨v12, hv12, hd12, hn12⟩ := nmd hd 11 rfl
  obtain ⟨v13, hv13, hd13, hn13⟩ := nmd hd 12 rfl
  obtain ⟨v14, hv14, hd14, hn14⟩ := nmd hd 13 rfl
  simp only [norm_i] at hn2 hn3 hn4 hn5 hn7 hn8 hn9 hn12 hn13
  simp (disch := omega) only [norm_i, a_Ty_0, a_Ty_1, F314, F316, F323, F347, Ent.nm_fn, r0, r1, hnow, r2, hbu, r3, hle, r4, hmo, r5, r6, hh, r7, hln, r8, hvn, r9, r10, r11, hn, r12, hi, hv1, hv2, hn2, hv3, hn3, hv4, hn4, hv5, hn5, hv6, hv7, hn7, hv8, hn8, hv9, hn9, hv10, hv11, hv12, hn12, hv13, hn13, hv14, ewA, ewL, preC, binI, dvI, shI, cmpB, env, bi, List.headD, List.tail, List.map, Nat.reduceAdd, ewR, ewB, ewM, if_true, if_false, implies_true, forall_const, ne_eq, reduceCtorEq, Int.reduceEq, Int.reduceLT, Int.reduceLE, Int.reduceToNat, Int.reduceAdd, Int.reduceSub, Int.reduceMul, Int.reduceNeg, Int.reduceBEq, Nat.reduceLT, Nat.reduceEqDiff] at hd1 hd2 hd3 hd4 hd5 hd6 hd7 hd8 hd9 hd10 hd11 hd12 hd13 hd14
  have hSS := And.intro (And.intro (And.intro (And.intro (And.intro F9024 (And.intro F314 F316)) (And.intro F323 (And.intro F347 r0))) (And.intro (And.intro r1 (And.intro hnow r2)) (And.intro hbu (And.intro r3 hle)))) (And.intro (And.intro (And.intro r4 (And.intro hmo r5)) (And.intro r6 (And.intro hh r7))) (And.intro (And.intro hln (And.intro r8 hvn)) (And.intro (And.intro r9 r10) (And.intro r11 hn))))) (And.intro (And.intro (And.intro (And.intro r12 (And.intro hi hv1)) (And.intro hv2 (And.intro hn2 hv3))) (And.intro (And.intro hn3 (And.intro hv4 hn4)) (And.intro (And.intro hv5 hn5) (And.intro hv6 hv7)))) (And.intro (And.intro (And.intro hn7 (And.intro hv8 hn8)) (And.intro hv9 (And.intro hn9 hv10))) (And.intro (And.intro hv11 (And.intro hv12 hn12)) (And.intro (And.intro hv13 hn13) (And.intro hv14 hDf)))))
  obtain ⟨⟨c, d, a, B, lt, hz, hlt⟩, p1, p2, p3⟩ := hp
  replace hz : PZ S now bu le mo T h ln vn D E lt c d a B := hz
  simp only [ewA, ewL, preC, binI, dvI, shI, cmpB, env, bi, List.headD, List.tail, List.map, Nat.reduceAdd] at p1 p2 p3
  have hbg := hz.z.w.bg
  have hct := hz.z.w.ct
  have hvl := hz.vl
  have he0 : 0 ≤ early c d a := by unfold early; omega
  have hlE := hz.lE
  by_cases hi : i < n
  · have w1 : IntKind.i64.wrap (i + 1) = i + 1 := i64w (by omega) (by omega)
    obtain ⟨R, d', a', B', z1, eO, hmc, hRl, hlag, hnx, m2, m3, m5, m7, hk⟩ := hz.tick (by omega) hlt (by omega) ⟨hd1, hd2, hd3, hd4, hd5, hd6, hd7, hd8, hd9, hd10, hd11, trivial⟩
    have n12 := z1.nowV hd12
    have n13 := z1.lag hd13
    have y14 : z14.pre [S, now, bu, le, mo, T, h, ln, vn, D] := hz.z.p14 (by omega) (by omega)
    have y16 : z16.pre [v1, v2, v3, v4, v5, v6, v7, v8, v9, v10] := z1.p16
    have y23 : z23.pre [v1, v2, v3, v4, v5, v6, v7, v8, v9, v10] := z1.p23
    have y47 : z47.pre [E, v11, v12, v13] := ⟨⟨R, eO, hRl, by show mayCome (dc E) v12 R; rw [n12]; exact hmc, by show 0 < v13 ∨ ∀ j, j < (dc E).length → j ∉ R → ¬ (0 < gC (dc E) j 0 ∧ gC (dc E) j 0 ≤ v12); rw [n12, n13]; exact hlag⟩, hz.rE, by show ((dc E).length : Int) ≤ 4096; omega⟩
    have q := (PostOK.use (ks := [.x, .x, (.i .i64), (.i .i64)]) (os := [.x]) (vs := [v14]) okz47.2 rfl rfl ⟨hd14, trivial⟩) ⟨rfl, rfl, hn12, hn13, trivial⟩ y47
    have ht : taken (dc E) (dc v14) R := q R eO
    have hz2 := hnx v14 ht
    have l14 : (dc v14).length = (dc E).length := ht.2.1
    have yp : lbTy.ent.pre [v1, v2, v3, v4, v5, v6, v7, v8, v9, v10, v14, n, i + 1] := ⟨⟨c, d', a', B', lt, hz2, hlt⟩, by show 0 ≤ i + 1 ∧ i + 1 ≤ n ∧ n ≤ 40; omega, by show v5 + 4096 * (n - (i + 1)) ≤ _; omega, by show v2 + (n - (i + 1)) < _; omega⟩
    have ym : muTy [v1, v2, v3, v4, v5, v6, v7, v8, v9, v10, v14, n, i + 1] < muTy [S, now, bu, le, mo, T, h, ln, vn, D, E, n, i] := by show (n - (i + 1)).toNat < (n - i).toNat; omega
    have i1 := hφ [v1, v2, v3, v4, v5, v6, v7, v8, v9, v10, v14, n, i + 1] ⟨rfl, hn2, hn3, hn4, hn5, rfl, hn7, hn8, hn9, rfl, rfl, hn, w1, trivial⟩ yp ym
    obtain ⟨d2, a2, B2, j1, _⟩ := i1 lt c d' a' B' hz2 hlt
    have lf : (dc (φ 10 [v1, v2, v3, v4, v5, v6, v7, v8, v9, v10, v14, n, i + 1])).length = (dc E).length := by
      have := j1.lE
      replace this : ((dc (φ 10 [v1, v2, v3, v4, v5, v6, v7, v8, v9, v10, v14, n, i + 1])).length : Int) = c := this
      omega
    have wE : IntKind.i64.wrap (((dc E).length : Nat) : Int) = (((dc E).length : Nat) : Int) := i64w (by omega) (by omega)
    refine ⟨?_, ?_⟩
    · simp (disch := omega) only [ob_Ty, q_Ty_0, ewA, ewL, preC, binI, dvI, shI, cmpB, env, bi, List.headD, List.tail, List.map, Nat.reduceAdd, ewR, ewB, ewM, if_true, if_false, implies_true, forall_const, ne_eq, reduceCtorEq, Int.reduceEq, Int.reduceLT, Int.reduceLE, Int.reduceToNat, Int.reduceAdd, Int.reduceSub, Int.reduceMul, Int.reduceNeg, Int.reduceBEq, Nat.reduceLT, Nat.reduceEqDiff, hSS, hi, w1, y14, y16, y23, y47, l14, lf, wE]
      exact ⟨yp, ym⟩
    · simp (disch := omega) only [es_Ty, q_Ty_0, ewA, ewL, preC, binI, dvI, shI, cmpB, env, bi, List.headD, List.tail, List.map, Nat.reduceAdd, ewR, ewB, ewM, if_true, if_false, implies_true, forall_const, ne_eq, reduceCtorEq, Int.reduceEq, Int.reduceLT, Int.reduceLE, Int.reduceToNat, Int.reduceAdd, Int.reduceSub, Int.reduceMul, Int.reduceNeg, Int.reduceBEq, Nat.reduceLT, Nat.reduceEqDiff, hSS, hi, w1]
      intro lt' c' d0 a0 B0 hz0 hlt0
      replace hz0 : PZ S now bu le mo T h ln vn D E lt' c' d0 a0 B0 := hz0
      obtain ⟨R', d1, a1, B1, z1', eO', hmc', hRl', hlag', hnx', m2', m3', m5', m7', hk'⟩ := hz0.tick (by omega) hlt0 (by omega) ⟨hd1, hd2, hd3, hd4, hd5, hd6, hd7, hd8, hd9, hd10, hd11, trivial⟩
      obtain ⟨d3, a3, B3, j1, j2, j3, j4, j5, j6⟩ := i1 lt' c' d1 a1 B1 (hnx' v14 (q R' eO')) hlt0
      have hler := j1.z.w.ler
      refine ⟨d3, a3, B3, j1, j2.trans (by show v2 + (n - (i + 1)) = now + (n - i); omega), j3.trans m3', ⟨Int.le_trans (by show mo ≤ v5; omega) j4.1, Int.le_trans j4.2 (by show v5 + 4096 * (n - (i + 1)) ≤ mo + 4096 * (n - i); omega)⟩, j5.trans m7', fun j hj => Int.le_trans (j6.1 j hj) (hk'.1 j hj), fun W hW hWn => ?_⟩
      have k1 := hk'.2 W hW hWn
      have k2 := j6.2 W (fun j hj => Int.le_trans (hk'.1 j hj) (hW j hj)) (by show W ≤ v2; replace hWn : W ≤ now := hWn; omega)
      replace k1 : v4 ≤ le - 1 ∨ v4 = 0 := k1
      replace k2 : IntKind.i64.wrap (φ 3 [v1, v2, v3, v4, v5, v6, v7, v8, v9, v10, v14, n, i + 1]) ≤ v4 - (n - (i + 1)) ∨ IntKind.i64.wrap (φ 3 [v1, v2, v3, v4, v5, v6, v7, v8, v9, v10, v14, n, i + 1]) = 0 := k2
      replace hler : 0 ≤ IntKind.i64.wrap (φ 3 [v1, v2, v3, v4, v5, v6, v7, v8, v9, v10, v14, n, i + 1]) ∧ IntKind.i64.wrap (φ 3 [v1, v2, v3, v4, v5, v6, v7, v8, v9, v10, v14, n, i + 1]) ≤ 4096 := hler
      show IntKind.i64.wrap (φ 3 [v1, v2, v3, v4, v5, v6, v7, v8, v9, v10, v14, n, i + 1]) ≤ le - (n - i) ∨ IntKind.i64.wrap (φ 3 [v1, v2, v3, v4, v5, v6, v7, v8, v9, v10, v14, n, i + 1]) = 0
      generalize IntKind.i64.wrap (φ 3 [v1, v2, v3, v4, v5, v6, v7, v8, v9, v10, v14, n, i + 1]) = w at k2 hler ⊢
      omega
  · have hin : i = n := by omega
    refine ⟨?_, ?_⟩
    · simp (disch := omega) only [ob_Ty, q_Ty_0, ewA, ewL, preC, binI, dvI, shI, cmpB, env, bi, List.headD, List.tail, List.map, Nat.reduceAdd, ewR, ewB, ewM, if_true, if_false, implies_true, forall_const, ne_eq, reduceCtorEq, Int.reduceEq, Int.reduceLT, Int.reduceLE, Int.reduceToNat, Int.reduceAdd, Int.reduceSub, Int.reduceMul, Int.reduceNeg, Int.reduceBEq, Nat.reduceLT, Nat.reduceEqDiff, hSS, hi]
    · simp (disch := omega) only [es_Ty, q_Ty_0, ewA, ewL, preC, binI, dvI, shI, cmpB, env, bi, List.headD, List.tail, List.map, Nat.reduceAdd, ewR, ewB, ewM, if_true, if_false, implies_true, forall_const, ne_eq, reduceCtorEq, Int.reduceEq, Int.reduceLT, Int.reduceLE, Int.reduceToNat, Int.reduceAdd, Int.reduceSub, Int.reduceMul, Int.reduceNeg, Int.reduceBEq, Nat.reduceLT, Nat.reduceEqDiff, hSS, hi]
      intro lt' c' d0 a0 B0 hz0 hlt0
      exact ⟨d0, a0, B0, hz0, by show now = now + (n - i); omega, rfl, ⟨Int.le_refl _, by show mo ≤ mo + 4096 * (n - i); omega⟩, rfl, fun j _ => Int.le_refl _, fun W _ _ => Or.inl (by show le ≤ le - (n - i); omega)⟩

end
end Go.Proofs.Ytnockichpnaoeaa.Ew

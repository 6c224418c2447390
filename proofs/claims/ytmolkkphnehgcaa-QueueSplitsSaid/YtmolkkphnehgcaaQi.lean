/- Layer 17: the queue's functions: Arm, Cancel, what is read. -/
import Derived.Test.YtmolkkphnehgcaaQg
set_option linter.unusedVariables false
set_option linter.unusedSimpArgs false
namespace Go.Proofs.Ytmolkkphnehgcaa.Ew
open Go Go.RowKit
noncomputable section
--P Try.prog G0

def armB (now i d : Int) : Bool := rightB i && !decide (d ≤ now) && !decide (d > now + 2147483648)
def fn21 : Nat → List Int → Int
  | 0, xs => env xs 0
  | 1, xs => bif armB (env xs 0) (env xs 3) (env xs 4) then cd (insT [env xs 3, env xs 4] (delT (env xs 3) (dc (env xs 1)))) else env xs 1
  | 2, xs => bif armB (env xs 0) (env xs 3) (env xs 4) then cd (putR 1 [env xs 3, env xs 4] (delR [env xs 3] (dc (env xs 2)))) else env xs 2
  | _, xs => bif armB (env xs 0) (env xs 3) (env xs 4) then 0 else 2
def e21 : Ent := ⟨21, 21, [qo, i64, i64], [qob], [], i64, fn21, QIx⟩
def fn22 : Nat → List Int → Int
  | 0, xs => env xs 0
  | 1, xs => bif rightB (env xs 3) && hasM (dc (env xs 2)) (env xs 3) then cd (delT (env xs 3) (dc (env xs 1))) else env xs 1
  | 2, xs => bif rightB (env xs 3) && hasM (dc (env xs 2)) (env xs 3) then cd (delR [env xs 3] (dc (env xs 2))) else env xs 2
  | _, xs => bif rightB (env xs 3) then (bif hasM (dc (env xs 2)) (env xs 3) then 0 else 6) else 2
def e22 : Ent := ⟨22, 22, [qo, i64], [qob], [], i64, fn22, QIx⟩
def e17 : Ent := ⟨17, 17, [qo], [], [0, 1, 2], i64, fun _ xs => env xs 0, fun _ => True⟩
def e19 : Ent := ⟨19, 19, [qo], [], [0, 1, 2], i64, fun _ xs => ((dc (env xs 1)).length : Int), fun _ => True⟩
def dlM (M : RL) (i : Int) : Int := ((M.find? fun r => r.take [i].length == [i]).getD (i :: List.replicate 1 0)).getD 1 0
def fn25 : Nat → List Int → Int
  | 0, xs => dlM (dc (env xs 2)) (env xs 3)
  | _, xs => b2i (hasM (dc (env xs 2)) (env xs 3))
def e25 : Ent := ⟨25, 25, [qo, i64], [], [0, 1, 2], .tup [i64, .sc .b], fn25, fun _ => True⟩
def fn23 : Nat → List Int → Int
  | 0, xs => ((dc (env xs 1)).getD 0 []).getD 0 0
  | 1, xs => ((dc (env xs 1)).getD 0 []).getD 1 0
  | _, xs => b2i (decide ((dc (env xs 1)).length ≠ 0))
def e23 : Ent := ⟨23, 23, [qo], [], [0, 1, 2], .tup [tm, .sc .b], fn23, QIx⟩
def e14 : Ent := ⟨14, 14, [qo], [], [0, 1, 2], ltm, fun _ xs => env xs 1, QIx⟩
def fn20 : Nat → List Int → Int
  | 0, xs => env xs 0
  | _, xs => cd []
def timB (t : Int) : Prop := 0 ≤ t ∧ t ≤ 1099511627776
def e20 : Ent := ⟨20, 20, [i64], [], [], .tup [qo, .lt (.i .i64) 0], fn20, fun xs => timB (env xs 0)⟩
def e20b : Ent := ⟨200, 20, [i64], [], [], .tup [.nul .nP, .lt (.i .i64) 2], fun _ _ => 0, fun xs => ¬ timB (env xs 0)⟩
def c7 : Ctx := ⟨[e31, e33, e28, e30, insertE 32, deleteE 34, cloneE 29], []⟩
def c8 : Ctx := ⟨[e19, e31, e33, e28, e30, insertE 32, deleteE 34, cloneE 29], []⟩

theorem c7ok : c7.OK Try.prog G0 := (c6ok.addF ok31 rfl).sub rfl (by simp [c7, c6]) (by simp [c7, c6])

def ob_21 : E := (.and (.and (.and (.app .b 28 1000000 [(.var (.i .i64) 0), (.var .x 1), (.var .x 2)]) (.app .b 30 1000000 [(.var (.i .i64) 3)])) (.or (.or (.or (.not (.app .b 30 0 [(.var (.i .i64) 3)])) (.cmp .leq (.var (.i .i64) 4) (.var (.i .i64) 0))) (.cmp .gtr (.var (.i .i64) 4) (.bin .add .i64 (.var (.i .i64) 0) (.lit (.i .i64) 2147483648)))) (.and (.app .b 31 1000000 [(.var (.i .i64) 0), (.var .x 1), (.var .x 2), (.var (.i .i64) 3)]) (.and (.app .b 33 1000000 [(.app (.i .i64) 31 0 [(.var (.i .i64) 0), (.var .x 1), (.var .x 2), (.var (.i .i64) 3)]), (.app .x 31 1 [(.var (.i .i64) 0), (.var .x 1), (.var .x 2), (.var (.i .i64) 3)]), (.app .x 31 2 [(.var (.i .i64) 0), (.var .x 1), (.var .x 2), (.var (.i .i64) 3)]), (.var (.i .i64) 3), (.var (.i .i64) 4)]) (.app .b 32 1000000 [(.app .x 31 1 [(.var (.i .i64) 0), (.var .x 1), (.var .x 2), (.var (.i .i64) 3)]), (.app (.i .i64) 33 0 [(.app (.i .i64) 31 0 [(.var (.i .i64) 0), (.var .x 1), (.var .x 2), (.var (.i .i64) 3)]), (.app .x 31 1 [(.var (.i .i64) 0), (.var .x 1), (.var .x 2), (.var (.i .i64) 3)]), (.app .x 31 2 [(.var (.i .i64) 0), (.var .x 1), (.var .x 2), (.var (.i .i64) 3)]), (.var (.i .i64) 3), (.var (.i .i64) 4)]), (.app .x 0 3 [(.app .x 0 2 []), (.var (.i .i64) 3), (.var (.i .i64) 4)])]))))) (.ite (.or (.or (.not (.app .b 30 0 [(.var (.i .i64) 3)])) (.cmp .leq (.var (.i .i64) 4) (.var (.i .i64) 0))) (.cmp .gtr (.var (.i .i64) 4) (.bin .add .i64 (.var (.i .i64) 0) (.lit (.i .i64) 2147483648)))) (.or (.or (.not (.app .b 30 0 [(.var (.i .i64) 3)])) (.cmp .leq (.var (.i .i64) 4) (.var (.i .i64) 0))) (.cmp .gtr (.var (.i .i64) 4) (.bin .add .i64 (.var (.i .i64) 0) (.lit (.i .i64) 2147483648)))) (.not (.or (.or (.not (.app .b 30 0 [(.var (.i .i64) 3)])) (.cmp .leq (.var (.i .i64) 4) (.var (.i .i64) 0))) (.cmp .gtr (.var (.i .i64) 4) (.bin .add .i64 (.var (.i .i64) 0) (.lit (.i .i64) 2147483648)))))))
def es_21 : List E := [(.ite (.or (.or (.not (.app .b 30 0 [(.var (.i .i64) 3)])) (.cmp .leq (.var (.i .i64) 4) (.var (.i .i64) 0))) (.cmp .gtr (.var (.i .i64) 4) (.bin .add .i64 (.var (.i .i64) 0) (.lit (.i .i64) 2147483648)))) (.var (.i .i64) 0) (.app (.i .i64) 31 0 [(.var (.i .i64) 0), (.var .x 1), (.var .x 2), (.var (.i .i64) 3)])), (.ite (.or (.or (.not (.app .b 30 0 [(.var (.i .i64) 3)])) (.cmp .leq (.var (.i .i64) 4) (.var (.i .i64) 0))) (.cmp .gtr (.var (.i .i64) 4) (.bin .add .i64 (.var (.i .i64) 0) (.lit (.i .i64) 2147483648)))) (.var .x 1) (.app .x 32 0 [(.app .x 31 1 [(.var (.i .i64) 0), (.var .x 1), (.var .x 2), (.var (.i .i64) 3)]), (.app (.i .i64) 33 0 [(.app (.i .i64) 31 0 [(.var (.i .i64) 0), (.var .x 1), (.var .x 2), (.var (.i .i64) 3)]), (.app .x 31 1 [(.var (.i .i64) 0), (.var .x 1), (.var .x 2), (.var (.i .i64) 3)]), (.app .x 31 2 [(.var (.i .i64) 0), (.var .x 1), (.var .x 2), (.var (.i .i64) 3)]), (.var (.i .i64) 3), (.var (.i .i64) 4)]), (.app .x 0 3 [(.app .x 0 2 []), (.var (.i .i64) 3), (.var (.i .i64) 4)])])), (.ite (.or (.or (.not (.app .b 30 0 [(.var (.i .i64) 3)])) (.cmp .leq (.var (.i .i64) 4) (.var (.i .i64) 0))) (.cmp .gtr (.var (.i .i64) 4) (.bin .add .i64 (.var (.i .i64) 0) (.lit (.i .i64) 2147483648)))) (.var .x 2) (.app .x 0 10 [(.app .x 31 2 [(.var (.i .i64) 0), (.var .x 1), (.var .x 2), (.var (.i .i64) 3)]), (.lit .x 1), (.var (.i .i64) 3), (.var (.i .i64) 4)])), (.ite (.or (.or (.not (.app .b 30 0 [(.var (.i .i64) 3)])) (.cmp .leq (.var (.i .i64) 4) (.var (.i .i64) 0))) (.cmp .gtr (.var (.i .i64) 4) (.bin .add .i64 (.var (.i .i64) 0) (.lit (.i .i64) 2147483648)))) (.lit (.i .i64) 2) (.lit (.i .i64) 0))]
theorem ev_21 : evE Try.prog G0 (tabOf c7.fs) (ltOf c7.ls) 40 10 e21 = some (ob_21, es_21) := by kernel_rfl

def ob_22 : E := (.and (.and (.app .b 28 1000000 [(.var (.i .i64) 0), (.var .x 1), (.var .x 2)]) (.and (.app .b 30 1000000 [(.var (.i .i64) 3)]) (.or (.not (.app .b 30 0 [(.var (.i .i64) 3)])) (.app .b 31 1000000 [(.var (.i .i64) 0), (.var .x 1), (.var .x 2), (.var (.i .i64) 3)])))) (.ite (.or (.not (.app .b 30 0 [(.var (.i .i64) 3)])) (.not (.app .b 31 3 [(.var (.i .i64) 0), (.var .x 1), (.var .x 2), (.var (.i .i64) 3)]))) (.ite (.not (.app .b 30 0 [(.var (.i .i64) 3)])) (.and (.or (.not (.app .b 30 0 [(.var (.i .i64) 3)])) (.not (.app .b 31 3 [(.var (.i .i64) 0), (.var .x 1), (.var .x 2), (.var (.i .i64) 3)]))) (.not (.app .b 30 0 [(.var (.i .i64) 3)]))) (.or (.not (.or (.not (.app .b 30 0 [(.var (.i .i64) 3)])) (.not (.app .b 31 3 [(.var (.i .i64) 0), (.var .x 1), (.var .x 2), (.var (.i .i64) 3)])))) (.app .b 30 0 [(.var (.i .i64) 3)]))) (.or (.not (.or (.not (.app .b 30 0 [(.var (.i .i64) 3)])) (.not (.app .b 31 3 [(.var (.i .i64) 0), (.var .x 1), (.var .x 2), (.var (.i .i64) 3)])))) (.app .b 30 0 [(.var (.i .i64) 3)]))))
def es_22 : List E := [(.ite (.or (.not (.app .b 30 0 [(.var (.i .i64) 3)])) (.not (.app .b 31 3 [(.var (.i .i64) 0), (.var .x 1), (.var .x 2), (.var (.i .i64) 3)]))) (.ite (.not (.app .b 30 0 [(.var (.i .i64) 3)])) (.var (.i .i64) 0) (.app (.i .i64) 31 0 [(.var (.i .i64) 0), (.var .x 1), (.var .x 2), (.var (.i .i64) 3)])) (.app (.i .i64) 31 0 [(.var (.i .i64) 0), (.var .x 1), (.var .x 2), (.var (.i .i64) 3)])), (.ite (.or (.not (.app .b 30 0 [(.var (.i .i64) 3)])) (.not (.app .b 31 3 [(.var (.i .i64) 0), (.var .x 1), (.var .x 2), (.var (.i .i64) 3)]))) (.ite (.not (.app .b 30 0 [(.var (.i .i64) 3)])) (.var .x 1) (.app .x 31 1 [(.var (.i .i64) 0), (.var .x 1), (.var .x 2), (.var (.i .i64) 3)])) (.app .x 31 1 [(.var (.i .i64) 0), (.var .x 1), (.var .x 2), (.var (.i .i64) 3)])), (.ite (.or (.not (.app .b 30 0 [(.var (.i .i64) 3)])) (.not (.app .b 31 3 [(.var (.i .i64) 0), (.var .x 1), (.var .x 2), (.var (.i .i64) 3)]))) (.ite (.not (.app .b 30 0 [(.var (.i .i64) 3)])) (.var .x 2) (.app .x 31 2 [(.var (.i .i64) 0), (.var .x 1), (.var .x 2), (.var (.i .i64) 3)])) (.app .x 31 2 [(.var (.i .i64) 0), (.var .x 1), (.var .x 2), (.var (.i .i64) 3)])), (.ite (.or (.not (.app .b 30 0 [(.var (.i .i64) 3)])) (.not (.app .b 31 3 [(.var (.i .i64) 0), (.var .x 1), (.var .x 2), (.var (.i .i64) 3)]))) (.ite (.not (.app .b 30 0 [(.var (.i .i64) 3)])) (.lit (.i .i64) 2) (.lit (.i .i64) 6)) (.lit (.i .i64) 0))]
theorem ev_22 : evE Try.prog G0 (tabOf c7.fs) (ltOf c7.ls) 40 10 e22 = some (ob_22, es_22) := by kernel_rfl

def ob_17 : E := (.app .b 28 1000000 [(.var (.i .i64) 0), (.var .x 1), (.var .x 2)])
def es_17 : List E := [(.var (.i .i64) 0)]
theorem ev_17 : evE Try.prog G0 (tabOf c7.fs) (ltOf c7.ls) 40 10 e17 = some (ob_17, es_17) := by kernel_rfl

def ob_19 : E := (.app .b 28 1000000 [(.var (.i .i64) 0), (.var .x 1), (.var .x 2)])
def es_19 : List E := [(.app (.i .i64) 0 0 [(.var .x 1)])]
theorem ev_19 : evE Try.prog G0 (tabOf c7.fs) (ltOf c7.ls) 40 10 e19 = some (ob_19, es_19) := by kernel_rfl

def ob_25 : E := (.app .b 28 1000000 [(.var (.i .i64) 0), (.var .x 1), (.var .x 2)])
def es_25 : List E := [(.app (.i .i64) 0 9 [(.var .x 2), (.lit .x 1), (.lit .x 1), (.var (.i .i64) 3)]), (.app .b 0 8 [(.var .x 2), (.var (.i .i64) 3)])]
theorem ev_25 : evE Try.prog G0 (tabOf c7.fs) (ltOf c7.ls) 40 10 e25 = some (ob_25, es_25) := by kernel_rfl

def ob_23 : E := (.and (.app .b 19 1000000 [(.var (.i .i64) 0), (.var .x 1), (.var .x 2)]) (.or (.cmp .eql (.app (.i .i64) 19 0 [(.var (.i .i64) 0), (.var .x 1), (.var .x 2)]) (.lit (.i .i64) 0)) (.cmp .lss (.lit (.i .i64) 0) (.app (.i .i64) 0 0 [(.var .x 1)]))))
def es_23 : List E := [(.ite (.cmp .eql (.app (.i .i64) 19 0 [(.var (.i .i64) 0), (.var .x 1), (.var .x 2)]) (.lit (.i .i64) 0)) (.lit (.i .i64) 0) (.app (.i .i64) 0 1 [(.var .x 1), (.lit (.i .i64) 0), (.lit .x 0)])), (.ite (.cmp .eql (.app (.i .i64) 19 0 [(.var (.i .i64) 0), (.var .x 1), (.var .x 2)]) (.lit (.i .i64) 0)) (.lit (.i .i64) 0) (.app (.i .i64) 0 1 [(.var .x 1), (.lit (.i .i64) 0), (.lit .x 1)])), (.not (.cmp .eql (.app (.i .i64) 19 0 [(.var (.i .i64) 0), (.var .x 1), (.var .x 2)]) (.lit (.i .i64) 0)))]
theorem ev_23 : evE Try.prog G0 (tabOf c8.fs) (ltOf c8.ls) 40 10 e23 = some (ob_23, es_23) := by kernel_rfl

def ob_14 : E := (.and (.app .b 28 1000000 [(.var (.i .i64) 0), (.var .x 1), (.var .x 2)]) (.app .b 29 1000000 [(.var .x 1)]))
def es_14 : List E := [(.app .x 29 0 [(.var .x 1)])]
theorem ev_14 : evE Try.prog G0 (tabOf c7.fs) (ltOf c7.ls) 40 10 e14 = some (ob_14, es_14) := by kernel_rfl

def ob_20 : E := (.and (.and (.not (.or (.cmp .lss (.var (.i .i64) 0) (.lit (.i .i64) 0)) (.cmp .gtr (.var (.i .i64) 0) (.lit (.i .i64) 1099511627776)))) (.cmp .eql (.ite (.or (.cmp .lss (.var (.i .i64) 0) (.lit (.i .i64) 0)) (.cmp .gtr (.var (.i .i64) 0) (.lit (.i .i64) 1099511627776))) (.lit (.i .i64) 2) (.lit (.i .i64) 0)) (.lit (.i .i64) 0))) (.not (.or (.cmp .lss (.var (.i .i64) 0) (.lit (.i .i64) 0)) (.cmp .gtr (.var (.i .i64) 0) (.lit (.i .i64) 1099511627776)))))
def es_20 : List E := [(.var (.i .i64) 0), (.app .x 0 2 []), (.app .x 0 2 [])]
theorem ev_20 : evE Try.prog G0 (tabOf c7.fs) (ltOf c7.ls) 40 10 e20 = some (ob_20, es_20) := by kernel_rfl

def ob_20b : E := (.and (.or (.cmp .lss (.var (.i .i64) 0) (.lit (.i .i64) 0)) (.cmp .gtr (.var (.i .i64) 0) (.lit (.i .i64) 1099511627776))) (.cmp .eql (.ite (.or (.cmp .lss (.var (.i .i64) 0) (.lit (.i .i64) 0)) (.cmp .gtr (.var (.i .i64) 0) (.lit (.i .i64) 1099511627776))) (.lit (.i .i64) 2) (.lit (.i .i64) 0)) (.lit (.i .i64) 2)))
def es_20b : List E := []
theorem ev_20b : evE Try.prog G0 (tabOf c7.fs) (ltOf c7.ls) 40 10 e20b = some (ob_20b, es_20b) := by kernel_rfl

theorem ok22 : EntryOK Try.prog G0 e22 := c7ok.entryP mixed ev_22 _ rfl _ rfl fun xs hf hp => by
  obtain ⟨l, hl, hF⟩ := ctx_F (l0 := c7.l)
  obtain ⟨S, Sp⟩ := hF e30 (by rfl) (by decide)
  obtain ⟨R, Rp⟩ := hF e31 (by rfl) (by decide)
  obtain ⟨_, Np⟩ := hF e28 (by rfl) (by decide)
  rw [hl]
  match xs, hf with
  | [now, tc, mc, i], hf =>
    obtain ⟨h0, h1, h2, h3, _⟩ := hf
    simp only [norm_i] at h0 h3
    have n28 : ∀ xs, i2b (K.b.norm (l.F 28 1000000 xs)) = true := fun xs => Np xs trivial
    have n30 : ∀ xs, i2b (K.b.norm (l.F 30 1000000 xs)) = true := fun xs => Sp xs trivial
    have n31 : i2b (K.b.norm (l.F 31 1000000 [now, tc, mc, i])) = true := Rp _ hp
    have f30 : ∀ xs, l.F 30 0 xs = b2i (rightB (env xs 0)) := fun xs => S 0 rfl xs
    have f0 : l.F 31 0 [now, tc, mc, i] = now := R 0 rfl _
    have f1 : l.F 31 1 [now, tc, mc, i] = _ := R 1 rfl _
    have f2 : l.F 31 2 [now, tc, mc, i] = _ := R 2 rfl _
    have f3 : l.F 31 3 [now, tc, mc, i] = b2i (hasM (dc mc) i) := R 3 rfl _
    have w0 : IntKind.i64.wrap 0 = 0 := i64w (by decide) (by decide)
    have w2 : IntKind.i64.wrap 2 = 2 := i64w (by decide) (by decide)
    have w6 : IntKind.i64.wrap 6 = 6 := i64w (by decide) (by decide)
    simp only [e31, fn31, env, List.getD_cons_succ, List.getD_cons_zero] at f1 f2
    refine ⟨?_, ?_, ?_, ?_, ?_, trivial⟩
    · simp only [ob_22, ewA, ewL, preC, binI, dvI, shI, cmpB, env, bi, List.headD, List.tail, List.map, Nat.reduceAdd, h0, h3, n28, n30, n31, f30, f3]
      cases rightB i <;> cases hasM (dc mc) i <;> rfl
    · simp only [es_22, e22, fn22, ewA, ewL, preC, binI, dvI, shI, cmpB, env, bi, List.headD, List.tail, List.map, Nat.reduceAdd, h0, h3, f30, f3, f0]
      cases rightB i <;> cases hasM (dc mc) i <;> simp [h0]
    · simp only [es_22, e22, fn22, ewA, ewL, preC, binI, dvI, shI, cmpB, env, bi, List.headD, List.tail, List.map, Nat.reduceAdd, h0, h3, f30, f3, f1]
      cases rightB i <;> cases hasM (dc mc) i <;> rfl
    · simp only [es_22, e22, fn22, ewA, ewL, preC, binI, dvI, shI, cmpB, env, bi, List.headD, List.tail, List.map, Nat.reduceAdd, h0, h3, f30, f3, f2]
      cases rightB i <;> cases hasM (dc mc) i <;> rfl
    · simp only [es_22, e22, fn22, ewA, ewL, preC, binI, dvI, shI, cmpB, env, bi, List.headD, List.tail, List.map, Nat.reduceAdd, h0, h3, f30, f3, w0, w2, w6]
      cases rightB i <;> cases hasM (dc mc) i <;> simp [w0, w2, w6]

theorem QI.del_none {now : Int} {T M : RL} (h : QI now T M) {i : Int} (hh : hasM M i = false) : delT i T = T ∧ delR [i] M = M := by
  have hn : ∀ r ∈ T, idR r ≠ i := fun r hr e => by
    obtain ⟨j, d, rfl, _⟩ := row_eq (h.row r hr)
    have : j = i := e
    subst this
    have := (h.has j).2 ⟨d, hr⟩
    unfold hasM at hh
    rw [hh] at this; cases this
  refine ⟨List.filter_eq_self.2 fun r hr => by simpa using hn r hr, ?_⟩
  rw [delR_filter (n := 1) rfl h.mrt, List.filter_eq_self]
  intro r hr
  have hrT := h.perm.symm.subset hr
  obtain ⟨j, d, rfl, _⟩ := row_eq (h.row r hrT)
  have := hn _ hrT
  simp only [idR, List.getD_cons_zero] at this
  simp [this]

theorem ok21 : EntryOK Try.prog G0 e21 := c7ok.entryP mixed ev_21 _ rfl _ rfl fun xs hf hp => by
  obtain ⟨l, hl, hF⟩ := ctx_F (l0 := c7.l)
  obtain ⟨S, Sp⟩ := hF e30 (by rfl) (by decide)
  obtain ⟨R, Rp⟩ := hF e31 (by rfl) (by decide)
  obtain ⟨_, Np⟩ := hF e28 (by rfl) (by decide)
  obtain ⟨U, Up⟩ := hF e33 (by rfl) (by decide)
  obtain ⟨V, Vp⟩ := hF (insertE 32) (by rfl) (by decide)
  rw [hl]
  match xs, hf with
  | [now, tc, mc, i, d], hf =>
    obtain ⟨h0, h1, h2, h3, h4, _⟩ := hf
    simp only [norm_i] at h0 h3 h4
    have hq : QI now (dc tc) (dc mc) := hp
    have ht := hq.tim
    have n28 : ∀ xs, i2b (K.b.norm (l.F 28 1000000 xs)) = true := fun xs => Np xs trivial
    have n30 : ∀ xs, i2b (K.b.norm (l.F 30 1000000 xs)) = true := fun xs => Sp xs trivial
    have n31 : i2b (K.b.norm (l.F 31 1000000 [now, tc, mc, i])) = true := Rp _ hp
    have f30 : ∀ xs, l.F 30 0 xs = b2i (rightB (env xs 0)) := fun xs => S 0 rfl xs
    have f0 : l.F 31 0 [now, tc, mc, i] = now := R 0 rfl _
    obtain ⟨t1, ht1, hT⟩ : ∃ t1, l.F 31 1 [now, tc, mc, i] = t1 ∧ dc t1 = delT i (dc tc) := by
      refine ⟨_, R 1 rfl _, ?_⟩
      show dc (bif hasM (dc mc) i then cd (delT i (dc tc)) else tc) = _
      cases hh : hasM (dc mc) i
      · exact (hq.del_none hh).1.symm
      · exact dc_cd _
    obtain ⟨m1, hm1, hM⟩ : ∃ m1, l.F 31 2 [now, tc, mc, i] = m1 ∧ dc m1 = delR [i] (dc mc) := by
      refine ⟨_, R 2 rfl _, ?_⟩
      show dc (bif hasM (dc mc) i then cd (delR [i] (dc mc)) else mc) = _
      cases hh : hasM (dc mc) i
      · exact (hq.del_none hh).2.symm
      · exact dc_cd _
    have hq1 : QI now (dc t1) (dc m1) := by rw [hT, hM]; exact hq.del i
    have hlen := hq1.len
    have w0 : IntKind.i64.wrap 0 = 0 := i64w (by decide) (by decide)
    have w2 : IntKind.i64.wrap 2 = 2 := i64w (by decide) (by decide)
    have wS : IntKind.i64.wrap 2147483648 = 2147483648 := i64w (by decide) (by decide)
    have wN : IntKind.i64.wrap (now + 2147483648) = now + 2147483648 := i64w (by omega) (by omega)
    obtain ⟨k, hk⟩ : ∃ k, k = cnt (dc t1) [i, d] := ⟨_, rfl⟩
    have hkl : k ≤ (dc t1).length := hk ▸ cnt_le _ _
    have wk : IntKind.i64.wrap (k : Int) = (k : Int) := i64w (by omega) (by omega)
    have n33 : i2b (K.b.norm (l.F 33 1000000 [now, t1, m1, i, d])) = true := Up _ ⟨hq1.srt, hq1.row, by show ((dc t1).length : Int) < cap8; unfold cap8; omega⟩
    have f33 : l.F 33 0 [now, t1, m1, i, d] = (k : Int) := by rw [hk]; exact U 0 rfl _
    have n32 : i2b (K.b.norm (l.F 32 1000000 [t1, (k : Int), cd [[i, d]]])) = true := Vp _ ⟨by show (0 : Int) ≤ (k : Int); omega, by show (k : Int) ≤ ((dc t1).length : Int); omega, by show (dc (cd [[i, d]])).length = 1; rw [dc_cd]; rfl, by show ((dc t1).length : Int) < cap8; unfold cap8; omega⟩
    have f32 : l.F 32 0 [t1, (k : Int), cd [[i, d]]] = cd (insT [i, d] (delT i (dc tc))) := by
      rw [← hT]
      unfold insT
      rw [← hk]
      refine (V 0 rfl _).trans ?_
      show cd ((dc t1).take ((k : Int)).toNat ++ dc (cd [[i, d]]) ++ (dc t1).drop ((k : Int)).toNat) = _
      rw [dc_cd, Int.toNat_natCast]
    have hc : (!rightB i || decide (d ≤ now) || decide (d > now + 2147483648)) = !armB now i d := by
      unfold armB; cases rightB i <;> cases decide (d ≤ now) <;> cases decide (d > now + 2147483648) <;> rfl
    refine ⟨?_, ?_, ?_, ?_, ?_, trivial⟩
    · simp only [ob_21, ewA, ewL, preC, binI, dvI, shI, cmpB, env, bi, List.headD, List.tail, List.map, Nat.reduceAdd, h0, h3, h4, n28, n30, n31, f30, f0, ht1, hm1, wS, wN, n33, f33, wk, n32, hc]
      cases armB now i d <;> rfl
    · simp only [es_21, e21, fn21, ewA, ewL, preC, binI, dvI, shI, cmpB, env, bi, List.headD, List.tail, List.map, Nat.reduceAdd, h0, h3, h4, f30, f0, wS, wN, hc]
      cases armB now i d <;> rfl
    · simp only [es_21, e21, fn21, ewA, ewL, preC, binI, dvI, shI, cmpB, env, bi, List.headD, List.tail, List.map, Nat.reduceAdd, h0, h3, h4, f30, f0, ht1, hm1, wS, wN, f33, wk, f32, hc]
      cases armB now i d <;> rfl
    · simp only [es_21, e21, fn21, ewA, ewL, preC, binI, dvI, shI, cmpB, env, bi, List.headD, List.tail, List.map, Nat.reduceAdd, h0, h3, h4, f30, f0, hm1, hM, wS, wN, hc]
      cases armB now i d <;> rfl
    · simp only [es_21, e21, fn21, ewA, ewL, preC, binI, dvI, shI, cmpB, env, bi, List.headD, List.tail, List.map, Nat.reduceAdd, h0, h3, h4, f30, wS, wN, hc, w0, w2]
      cases armB now i d <;> simp [w0, w2]

theorem ok17 : EntryOK Try.prog G0 e17 := c7ok.entryP mixed ev_17 _ rfl _ rfl fun xs hf hp => by
  obtain ⟨l, hl, hF⟩ := ctx_F (l0 := c7.l)
  obtain ⟨_, Np⟩ := hF e28 (by rfl) (by decide)
  rw [hl]
  match xs, hf with
  | [now, tc, mc], hf =>
    obtain ⟨h0, h1, h2, _⟩ := hf
    simp only [norm_i] at h0
    refine ⟨?_, ?_, trivial⟩
    · simp only [ob_17, ewA, ewL, preC, binI, dvI, shI, cmpB, env, bi, List.headD, List.tail, List.map, Nat.reduceAdd, h0]
      exact Np _ trivial
    · simp only [es_17, e17, ewA, ewL, preC, binI, dvI, shI, cmpB, env, bi, List.headD, List.tail, List.map, Nat.reduceAdd, h0]

theorem ok19 : EntryOK Try.prog G0 e19 := c7ok.entryP mixed ev_19 _ rfl _ rfl fun xs hf hp => by
  obtain ⟨l, hl, hF⟩ := ctx_F (l0 := c7.l)
  obtain ⟨_, Np⟩ := hF e28 (by rfl) (by decide)
  rw [hl]
  match xs, hf with
  | [now, tc, mc], hf =>
    obtain ⟨h0, h1, h2, _⟩ := hf
    simp only [norm_i] at h0
    refine ⟨?_, ?_, trivial⟩
    · simp only [ob_19, ewA, ewL, preC, binI, dvI, shI, cmpB, env, bi, List.headD, List.tail, List.map, Nat.reduceAdd, h0]
      exact Np _ trivial
    · simp only [es_19, e19, ewA, ewL, preC, binI, dvI, shI, cmpB, env, bi, List.headD, List.tail, List.map, Nat.reduceAdd, h0]

theorem ok25 : EntryOK Try.prog G0 e25 := c7ok.entryP mixed ev_25 _ rfl _ rfl fun xs hf hp => by
  obtain ⟨l, hl, hF⟩ := ctx_F (l0 := c7.l)
  obtain ⟨_, Np⟩ := hF e28 (by rfl) (by decide)
  rw [hl]
  match xs, hf with
  | [now, tc, mc, i], hf =>
    obtain ⟨h0, h1, h2, h3, _⟩ := hf
    simp only [norm_i] at h0 h3
    refine ⟨?_, ?_, ?_, trivial⟩
    · simp only [ob_25, ewA, ewL, preC, binI, dvI, shI, cmpB, env, bi, List.headD, List.tail, List.map, Nat.reduceAdd, h0]
      exact Np _ trivial
    · simp only [es_25, e25, fn25, dlM, ewA, ewL, preC, binI, dvI, shI, cmpB, env, bi, List.headD, List.tail, List.map, Nat.reduceAdd, h0, h3]
    · simp only [es_25, e25, fn25, hasM, ewA, ewL, preC, binI, dvI, shI, cmpB, env, bi, List.headD, List.tail, List.map, Nat.reduceAdd, h0, h3, norm_b2i]

theorem ok14 : EntryOK Try.prog G0 e14 := c7ok.entryP mixed ev_14 _ rfl _ rfl fun xs hf hp => by
  obtain ⟨l, hl, hF⟩ := ctx_F (l0 := c7.l)
  obtain ⟨_, Np⟩ := hF e28 (by rfl) (by decide)
  obtain ⟨S, Sp⟩ := hF (cloneE 29) (by rfl) (by decide)
  rw [hl]
  match xs, hf with
  | [now, tc, mc], hf =>
    obtain ⟨h0, h1, h2, _⟩ := hf
    simp only [norm_i] at h0
    have hq : QI now (dc tc) (dc mc) := hp
    have hlen := hq.len
    have n28 : ∀ xs, i2b (K.b.norm (l.F 28 1000000 xs)) = true := fun xs => Np xs trivial
    have n29 : i2b (K.b.norm (l.F 29 1000000 [tc])) = true := Sp _ (by show ((dc tc).length : Int) < cap8; unfold cap8; omega)
    have f29 : l.F 29 0 [tc] = tc := S 0 rfl _
    refine ⟨?_, ?_, trivial⟩
    · simp only [ob_14, ewA, ewL, preC, binI, dvI, shI, cmpB, env, bi, List.headD, List.tail, List.map, Nat.reduceAdd, h0, n28, n29]; rfl
    · simp only [es_14, e14, ewA, ewL, preC, binI, dvI, shI, cmpB, env, bi, List.headD, List.tail, List.map, Nat.reduceAdd, f29]

theorem ok20 : EntryOK Try.prog G0 e20 := c7ok.entryP mixed ev_20 _ rfl _ rfl fun xs hf hp => by
  match xs, hf with
  | [n], hf =>
    obtain ⟨h0, _⟩ := hf
    simp only [norm_i] at h0
    obtain ⟨p1, p2⟩ := hp
    simp only [ewA, ewL, preC, binI, dvI, shI, cmpB, env, bi, List.headD, List.tail, List.map, Nat.reduceAdd] at p1 p2
    have w0 : IntKind.i64.wrap 0 = 0 := i64w (by decide) (by decide)
    have w2 : IntKind.i64.wrap 2 = 2 := i64w (by decide) (by decide)
    have wM : IntKind.i64.wrap 1099511627776 = 1099511627776 := i64w (by decide) (by decide)
    have d1 : decide (n < 0) = false := by simp; omega
    have d2 : decide (n > 1099511627776) = false := by simp; omega
    refine ⟨?_, ?_, ?_, ?_, trivial⟩
    · simp only [ob_20, ewA, ewL, preC, binI, dvI, shI, cmpB, env, bi, List.headD, List.tail, List.map, Nat.reduceAdd, h0, w0, w2, wM, d1, d2]; rfl
    · simp only [es_20, e20, fn20, ewA, ewL, preC, binI, dvI, shI, cmpB, env, bi, List.headD, List.tail, List.map, Nat.reduceAdd, h0]
    · simp only [es_20, e20, fn20, ewA, ewL, preC, binI, dvI, shI, cmpB, env, bi, List.headD, List.tail, List.map, Nat.reduceAdd, h0]
    · simp only [es_20, e20, fn20, ewA, ewL, preC, binI, dvI, shI, cmpB, env, bi, List.headD, List.tail, List.map, Nat.reduceAdd, h0]

theorem ok20b : EntryOK Try.prog G0 e20b := c7ok.entryP mixed ev_20b _ rfl _ rfl fun xs hf hp => by
  match xs, hf with
  | [n], hf =>
    obtain ⟨h0, _⟩ := hf
    simp only [norm_i] at h0
    have hp : ¬ (0 ≤ n ∧ n ≤ 1099511627776) := hp
    have w0 : IntKind.i64.wrap 0 = 0 := i64w (by decide) (by decide)
    have w2 : IntKind.i64.wrap 2 = 2 := i64w (by decide) (by decide)
    have wM : IntKind.i64.wrap 1099511627776 = 1099511627776 := i64w (by decide) (by decide)
    have d1 : (decide (n < 0) || decide (n > 1099511627776)) = true := by simp; omega
    refine ⟨?_, trivial⟩
    simp only [ob_20b, ewA, ewL, preC, binI, dvI, shI, cmpB, env, bi, List.headD, List.tail, List.map, Nat.reduceAdd, h0, w0, w2, wM, d1]; rfl

theorem c8ok : c8.OK Try.prog G0 := c7ok.addF ok19 rfl

theorem ok23 : EntryOK Try.prog G0 e23 := c8ok.entryP mixed ev_23 _ rfl _ rfl fun xs hf hp => by
  obtain ⟨l, hl, hF⟩ := ctx_F (l0 := c8.l)
  obtain ⟨S, Sp⟩ := hF e19 (by rfl) (by decide)
  rw [hl]
  match xs, hf with
  | [now, tc, mc], hf =>
    obtain ⟨h0, h1, h2, _⟩ := hf
    simp only [norm_i] at h0
    have hq : QI now (dc tc) (dc mc) := hp
    have hlen := hq.len
    have n19 : ∀ xs, i2b (K.b.norm (l.F 19 1000000 xs)) = true := fun xs => Sp xs trivial
    have f19 : l.F 19 0 [now, tc, mc] = ((dc tc).length : Int) := S 0 rfl _
    have w0 : IntKind.i64.wrap 0 = 0 := i64w (by decide) (by decide)
    have wl : IntKind.i64.wrap ((dc tc).length : Int) = ((dc tc).length : Int) := i64w (by omega) (by omega)
    by_cases he : (dc tc).length = 0
    · have hnil : dc tc = [] := List.length_eq_zero_iff.1 he
      refine ⟨?_, ?_, ?_, ?_, trivial⟩
      · simp only [ob_23, ewA, ewL, preC, binI, dvI, shI, cmpB, env, bi, List.headD, List.tail, List.map, Nat.reduceAdd, h0, n19, f19, w0, wl, hnil]; rfl
      · simp only [es_23, e23, fn23, ewA, ewL, preC, binI, dvI, shI, cmpB, env, bi, List.headD, List.tail, List.map, Nat.reduceAdd, h0, f19, w0, wl, hnil]; rfl
      · simp only [es_23, e23, fn23, ewA, ewL, preC, binI, dvI, shI, cmpB, env, bi, List.headD, List.tail, List.map, Nat.reduceAdd, h0, f19, w0, wl, hnil]; rfl
      · simp only [es_23, e23, fn23, ewA, ewL, preC, binI, dvI, shI, cmpB, env, bi, List.headD, List.tail, List.map, Nat.reduceAdd, h0, f19, w0, wl, hnil]; rfl
    · have hb : (((dc tc).length : Int) == 0) = false := by simp; exact fun e => he (by rw [e]; rfl)
      have hb2 : decide ((0 : Int) < ((dc tc).length : Int)) = true := by simp; omega
      have hb3 : decide ((dc tc).length ≠ 0) = true := by simpa using he
      obtain ⟨r, hr, hm⟩ : ∃ r, (dc tc).getD 0 [] = r ∧ r ∈ dc tc := by
        have h1 : 0 < (dc tc).length := by omega
        exact ⟨(dc tc)[0], by simp [List.getD, h1], List.getElem_mem h1⟩
      have hr0 : IntKind.i64.wrap (r.getD 0 0) = r.getD 0 0 := fits_get (hq.row r hm) 0 (.i .i64) rfl
      have hr1 : IntKind.i64.wrap (r.getD 1 0) = r.getD 1 0 := fits_get (hq.row r hm) 1 (.i .i64) rfl
      refine ⟨?_, ?_, ?_, ?_, trivial⟩
      · simp only [ob_23, ewA, ewL, preC, binI, dvI, shI, cmpB, env, bi, List.headD, List.tail, List.map, Nat.reduceAdd, h0, n19, f19, w0, wl, hb, hb2]; simp
      · simp only [es_23, e23, fn23, ewA, ewL, preC, binI, dvI, shI, cmpB, env, bi, List.headD, List.tail, List.map, Nat.reduceAdd, h0, f19, w0, wl, hb, hr, hr0, hr1]; simp
      · simp only [es_23, e23, fn23, ewA, ewL, preC, binI, dvI, shI, cmpB, env, bi, List.headD, List.tail, List.map, Nat.reduceAdd, h0, f19, w0, wl, hb, hr, hr0, hr1]; simp
      · simp only [es_23, e23, fn23, ewA, ewL, preC, binI, dvI, shI, cmpB, env, bi, List.headD, List.tail, List.map, Nat.reduceAdd, h0, f19, w0, wl, hb, hb3]; rfl

end
end Go.Proofs.Ytmolkkphnehgcaa.Ew

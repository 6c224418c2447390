/- Layer 17: QueueFirst. -/
import Derived.Test.YtmolkkphnehgcaaQn
set_option linter.unusedVariables false
set_option linter.unusedSimpArgs false
namespace Go.Proofs.Ytmolkkphnehgcaa.Ew
open Go Go.RowKit
noncomputable section
--P Try.prog G0

def preA (xs : List Int) : Prop := rowsOK actK (dc (env xs 1)) ∧ ((dc (env xs 1)).length : Int) ≤ 9223372036854775807
def e5 : Ent := ⟨5, 5, [i64, acts], [], [0], .lt .b 1, fun _ _ => 0, preA⟩
def cQ5 : Ctx := ⟨[e12, e13, e16, e17, e23, e24], []⟩
def cQ5n : Ctx := cQ5.nm

def defs_5 : List (Nat × E) := [(640000083200064, (.app (.i .i64) 100000013 0 [(.var (.i .i64) 0), (.var .x 1)])),
  (640000083200065, (.app .x 100000013 1 [(.var (.i .i64) 0), (.var .x 1)])),
  (640000083200066, (.app .x 100000013 2 [(.var (.i .i64) 0), (.var .x 1)])),
  (640000147200576, (.app (.i .i64) 100000023 0 [(.var (.i .i64) 640000083200064), (.var .x 640000083200065), (.var .x 640000083200066)])),
  (640000147200577, (.app (.i .i64) 100000023 1 [(.var (.i .i64) 640000083200064), (.var .x 640000083200065), (.var .x 640000083200066)])),
  (640000147200578, (.app .b 100000023 2 [(.var (.i .i64) 640000083200064), (.var .x 640000083200065), (.var .x 640000083200066)])),
  (640000153601088, (.app (.i .i64) 100000024 0 [(.var (.i .i64) 640000083200064), (.var .x 640000083200065), (.var .x 640000083200066), (.lit (.i .i64) 1099511627776)])),
  (640000153601089, (.app .x 100000024 1 [(.var (.i .i64) 640000083200064), (.var .x 640000083200065), (.var .x 640000083200066), (.lit (.i .i64) 1099511627776)])),
  (640000153601090, (.app .x 100000024 2 [(.var (.i .i64) 640000083200064), (.var .x 640000083200065), (.var .x 640000083200066), (.lit (.i .i64) 1099511627776)])),
  (640000153601091, (.app .x 100000024 3 [(.var (.i .i64) 640000083200064), (.var .x 640000083200065), (.var .x 640000083200066), (.lit (.i .i64) 1099511627776)])),
  (640000153601092, (.app (.i .i64) 100000024 4 [(.var (.i .i64) 640000083200064), (.var .x 640000083200065), (.var .x 640000083200066), (.lit (.i .i64) 1099511627776)])),
  (640000108801600, (.app (.i .i64) 100000017 0 [(.var (.i .i64) 640000153601088), (.var .x 640000153601089), (.var .x 640000153601090)])),
  (640000153601600, (.app (.i .i64) 100000024 0 [(.var (.i .i64) 640000083200064), (.var .x 640000083200065), (.var .x 640000083200066), (.bin .sub .i64 (.var (.i .i64) 640000147200577) (.lit (.i .i64) 1))])),
  (640000153601601, (.app .x 100000024 1 [(.var (.i .i64) 640000083200064), (.var .x 640000083200065), (.var .x 640000083200066), (.bin .sub .i64 (.var (.i .i64) 640000147200577) (.lit (.i .i64) 1))])),
  (640000153601602, (.app .x 100000024 2 [(.var (.i .i64) 640000083200064), (.var .x 640000083200065), (.var .x 640000083200066), (.bin .sub .i64 (.var (.i .i64) 640000147200577) (.lit (.i .i64) 1))])),
  (640000153601603, (.app .x 100000024 3 [(.var (.i .i64) 640000083200064), (.var .x 640000083200065), (.var .x 640000083200066), (.bin .sub .i64 (.var (.i .i64) 640000147200577) (.lit (.i .i64) 1))])),
  (640000153601604, (.app (.i .i64) 100000024 4 [(.var (.i .i64) 640000083200064), (.var .x 640000083200065), (.var .x 640000083200066), (.bin .sub .i64 (.var (.i .i64) 640000147200577) (.lit (.i .i64) 1))])),
  (640000102402112, (.app (.i .i64) 100000016 0 [(.var (.i .i64) 640000153601600), (.var .x 640000153601601), (.var .x 640000153601602)])),
  (640000102402113, (.app .x 100000016 1 [(.var (.i .i64) 640000153601600), (.var .x 640000153601601), (.var .x 640000153601602)])),
  (640000102402114, (.app .x 100000016 2 [(.var (.i .i64) 640000153601600), (.var .x 640000153601601), (.var .x 640000153601602)])),
  (640000102402115, (.app .x 100000016 3 [(.var (.i .i64) 640000153601600), (.var .x 640000153601601), (.var .x 640000153601602)])),
  (640000102402116, (.app (.i .i64) 100000016 4 [(.var (.i .i64) 640000153601600), (.var .x 640000153601601), (.var .x 640000153601602)]))]
def ob_5 : E := (.and (.and (.app .b 100000012 1000000 []) (.and (.and (.app .b 100000013 1000000 [(.var (.i .i64) 0), (.var .x 1)]) (.and (.cmp .eql (.var (.i .i64) 640000083200064) (.app (.i .i64) 100000013 0 [(.var (.i .i64) 0), (.var .x 1)])) (.and (.cmp .eql (.var .x 640000083200065) (.app .x 100000013 1 [(.var (.i .i64) 0), (.var .x 1)])) (.and (.cmp .eql (.var .x 640000083200066) (.app .x 100000013 2 [(.var (.i .i64) 0), (.var .x 1)])) (.lit .b 1))))) (.and (.and (.app .b 100000023 1000000 [(.var (.i .i64) 640000083200064), (.var .x 640000083200065), (.var .x 640000083200066)]) (.and (.cmp .eql (.var (.i .i64) 640000147200576) (.app (.i .i64) 100000023 0 [(.var (.i .i64) 640000083200064), (.var .x 640000083200065), (.var .x 640000083200066)])) (.and (.cmp .eql (.var (.i .i64) 640000147200577) (.app (.i .i64) 100000023 1 [(.var (.i .i64) 640000083200064), (.var .x 640000083200065), (.var .x 640000083200066)])) (.and (.cmp .eql (.var .b 640000147200578) (.app .b 100000023 2 [(.var (.i .i64) 640000083200064), (.var .x 640000083200065), (.var .x 640000083200066)])) (.lit .b 1))))) (.and (.or (.var .b 640000147200578) (.and (.and (.app .b 100000024 1000000 [(.var (.i .i64) 640000083200064), (.var .x 640000083200065), (.var .x 640000083200066), (.lit (.i .i64) 1099511627776)]) (.and (.cmp .eql (.var (.i .i64) 640000153601088) (.app (.i .i64) 100000024 0 [(.var (.i .i64) 640000083200064), (.var .x 640000083200065), (.var .x 640000083200066), (.lit (.i .i64) 1099511627776)])) (.and (.cmp .eql (.var .x 640000153601089) (.app .x 100000024 1 [(.var (.i .i64) 640000083200064), (.var .x 640000083200065), (.var .x 640000083200066), (.lit (.i .i64) 1099511627776)])) (.and (.cmp .eql (.var .x 640000153601090) (.app .x 100000024 2 [(.var (.i .i64) 640000083200064), (.var .x 640000083200065), (.var .x 640000083200066), (.lit (.i .i64) 1099511627776)])) (.and (.cmp .eql (.var .x 640000153601091) (.app .x 100000024 3 [(.var (.i .i64) 640000083200064), (.var .x 640000083200065), (.var .x 640000083200066), (.lit (.i .i64) 1099511627776)])) (.and (.cmp .eql (.var (.i .i64) 640000153601092) (.app (.i .i64) 100000024 4 [(.var (.i .i64) 640000083200064), (.var .x 640000083200065), (.var .x 640000083200066), (.lit (.i .i64) 1099511627776)])) (.lit .b 1))))))) (.or (.not (.and (.cmp .eql (.var (.i .i64) 640000153601092) (.lit (.i .i64) 0)) (.cmp .eql (.app (.i .i64) 0 0 [(.var .x 640000153601091)]) (.lit (.i .i64) 0)))) (.and (.app .b 100000017 1000000 [(.var (.i .i64) 640000153601088), (.var .x 640000153601089), (.var .x 640000153601090)]) (.and (.cmp .eql (.var (.i .i64) 640000108801600) (.app (.i .i64) 100000017 0 [(.var (.i .i64) 640000153601088), (.var .x 640000153601089), (.var .x 640000153601090)])) (.lit .b 1)))))) (.or (.not (.var .b 640000147200578)) (.and (.and (.app .b 100000024 1000000 [(.var (.i .i64) 640000083200064), (.var .x 640000083200065), (.var .x 640000083200066), (.bin .sub .i64 (.var (.i .i64) 640000147200577) (.lit (.i .i64) 1))]) (.and (.cmp .eql (.var (.i .i64) 640000153601600) (.app (.i .i64) 100000024 0 [(.var (.i .i64) 640000083200064), (.var .x 640000083200065), (.var .x 640000083200066), (.bin .sub .i64 (.var (.i .i64) 640000147200577) (.lit (.i .i64) 1))])) (.and (.cmp .eql (.var .x 640000153601601) (.app .x 100000024 1 [(.var (.i .i64) 640000083200064), (.var .x 640000083200065), (.var .x 640000083200066), (.bin .sub .i64 (.var (.i .i64) 640000147200577) (.lit (.i .i64) 1))])) (.and (.cmp .eql (.var .x 640000153601602) (.app .x 100000024 2 [(.var (.i .i64) 640000083200064), (.var .x 640000083200065), (.var .x 640000083200066), (.bin .sub .i64 (.var (.i .i64) 640000147200577) (.lit (.i .i64) 1))])) (.and (.cmp .eql (.var .x 640000153601603) (.app .x 100000024 3 [(.var (.i .i64) 640000083200064), (.var .x 640000083200065), (.var .x 640000083200066), (.bin .sub .i64 (.var (.i .i64) 640000147200577) (.lit (.i .i64) 1))])) (.and (.cmp .eql (.var (.i .i64) 640000153601604) (.app (.i .i64) 100000024 4 [(.var (.i .i64) 640000083200064), (.var .x 640000083200065), (.var .x 640000083200066), (.bin .sub .i64 (.var (.i .i64) 640000147200577) (.lit (.i .i64) 1))])) (.lit .b 1))))))) (.and (.and (.app .b 100000016 1000000 [(.var (.i .i64) 640000153601600), (.var .x 640000153601601), (.var .x 640000153601602)]) (.and (.cmp .eql (.var (.i .i64) 640000102402112) (.app (.i .i64) 100000016 0 [(.var (.i .i64) 640000153601600), (.var .x 640000153601601), (.var .x 640000153601602)])) (.and (.cmp .eql (.var .x 640000102402113) (.app .x 100000016 1 [(.var (.i .i64) 640000153601600), (.var .x 640000153601601), (.var .x 640000153601602)])) (.and (.cmp .eql (.var .x 640000102402114) (.app .x 100000016 2 [(.var (.i .i64) 640000153601600), (.var .x 640000153601601), (.var .x 640000153601602)])) (.and (.cmp .eql (.var .x 640000102402115) (.app .x 100000016 3 [(.var (.i .i64) 640000153601600), (.var .x 640000153601601), (.var .x 640000153601602)])) (.and (.cmp .eql (.var (.i .i64) 640000102402116) (.app (.i .i64) 100000016 4 [(.var (.i .i64) 640000153601600), (.var .x 640000153601601), (.var .x 640000153601602)])) (.lit .b 1))))))) (.or (.not (.and (.and (.cmp .eql (.bin .add .i64 (.var (.i .i64) 640000153601604) (.var (.i .i64) 640000102402116)) (.lit (.i .i64) 0)) (.cmp .eql (.app (.i .i64) 0 0 [(.var .x 640000153601603)]) (.lit (.i .i64) 0))) (.cmp .gtr (.app (.i .i64) 0 0 [(.var .x 640000102402115)]) (.lit (.i .i64) 0)))) (.cmp .lss (.lit (.i .i64) 0) (.app (.i .i64) 0 0 [(.var .x 640000102402115)])))))))))) (.ite (.not (.var .b 640000147200578)) (.and (.and (.cmp .eql (.var (.i .i64) 640000153601092) (.lit (.i .i64) 0)) (.cmp .eql (.app (.i .i64) 0 0 [(.var .x 640000153601091)]) (.lit (.i .i64) 0))) (.cmp .eql (.var (.i .i64) 640000108801600) (.lit (.i .i64) 1099511627776))) (.and (.and (.and (.cmp .eql (.bin .add .i64 (.var (.i .i64) 640000153601604) (.var (.i .i64) 640000102402116)) (.lit (.i .i64) 0)) (.cmp .eql (.app (.i .i64) 0 0 [(.var .x 640000153601603)]) (.lit (.i .i64) 0))) (.cmp .gtr (.app (.i .i64) 0 0 [(.var .x 640000102402115)]) (.lit (.i .i64) 0))) (.and (.cmp .eql (.app (.i .i64) 0 1 [(.var .x 640000102402115), (.lit (.i .i64) 0), (.lit .x 0)]) (.var (.i .i64) 640000147200576)) (.cmp .eql (.app (.i .i64) 0 1 [(.var .x 640000102402115), (.lit (.i .i64) 0), (.lit .x 1)]) (.var (.i .i64) 640000147200577))))))
def es_5 : List E := []
theorem ev_5 : evE Try.prog G0 (tabOf cQ5n.fs) (ltOf cQ5n.ls) 40 10 e5 = some (ob_5, es_5) := by kernel_rfl

theorem cQ5ok : cQ5.OK Try.prog G0 := by
  have h1 : Ctx.OK Try.prog G0 ⟨e13 :: e12 :: cE.fs, []⟩ := (cEok.addF ok12 rfl).addF ok13 rfl
  exact h1.sub rfl (by simp [cQ5, cE]) (by simp [cQ5])

set_option maxHeartbeats 4000000 in
theorem ok5 : EntryOK Try.prog G0 e5 := cQ5ok.nm.entryR mixed ev_5 _ rfl _ rfl fun xs hf hp => by
  obtain ⟨l, hl, hF⟩ := ctx_P (l0 := cQ5n.l)
  show ∃ ρ : Nat → Int, _ ∧ ob_5.tt cQ5n.l.F ρ = true ∧ outsP e5.fn _ cQ5n.l.F ρ _ _ _
  rw [hl]
  have P12 := (hF e12.nm (by rfl) (by decide)).2
  replace P12 : ∀ xs, (i2b (K.b.norm (l.F 100000012 1000000 xs)) = true) = _ := P12
  have F13_0 : ∀ xs, l.F 100000013 0 xs = e13.nm.fn 0 xs := (hF e13.nm (by rfl) (by decide)).1 0 rfl
  have F13_1 : ∀ xs, l.F 100000013 1 xs = e13.nm.fn 1 xs := (hF e13.nm (by rfl) (by decide)).1 1 rfl
  have F13_2 : ∀ xs, l.F 100000013 2 xs = e13.nm.fn 2 xs := (hF e13.nm (by rfl) (by decide)).1 2 rfl
  have P13 := (hF e13.nm (by rfl) (by decide)).2
  replace P13 : ∀ xs, (i2b (K.b.norm (l.F 100000013 1000000 xs)) = true) = _ := P13
  have F16_0 : ∀ xs, l.F 100000016 0 xs = e16.nm.fn 0 xs := (hF e16.nm (by rfl) (by decide)).1 0 rfl
  have F16_1 : ∀ xs, l.F 100000016 1 xs = e16.nm.fn 1 xs := (hF e16.nm (by rfl) (by decide)).1 1 rfl
  have F16_2 : ∀ xs, l.F 100000016 2 xs = e16.nm.fn 2 xs := (hF e16.nm (by rfl) (by decide)).1 2 rfl
  have F16_3 : ∀ xs, l.F 100000016 3 xs = e16.nm.fn 3 xs := (hF e16.nm (by rfl) (by decide)).1 3 rfl
  have F16_4 : ∀ xs, l.F 100000016 4 xs = e16.nm.fn 4 xs := (hF e16.nm (by rfl) (by decide)).1 4 rfl
  have P16 := (hF e16.nm (by rfl) (by decide)).2
  replace P16 : ∀ xs, (i2b (K.b.norm (l.F 100000016 1000000 xs)) = true) = _ := P16
  have F17_0 : ∀ xs, l.F 100000017 0 xs = e17.nm.fn 0 xs := (hF e17.nm (by rfl) (by decide)).1 0 rfl
  have P17 := (hF e17.nm (by rfl) (by decide)).2
  replace P17 : ∀ xs, (i2b (K.b.norm (l.F 100000017 1000000 xs)) = true) = _ := P17
  have F23_0 : ∀ xs, l.F 100000023 0 xs = e23.nm.fn 0 xs := (hF e23.nm (by rfl) (by decide)).1 0 rfl
  have F23_1 : ∀ xs, l.F 100000023 1 xs = e23.nm.fn 1 xs := (hF e23.nm (by rfl) (by decide)).1 1 rfl
  have F23_2 : ∀ xs, l.F 100000023 2 xs = e23.nm.fn 2 xs := (hF e23.nm (by rfl) (by decide)).1 2 rfl
  have P23 := (hF e23.nm (by rfl) (by decide)).2
  replace P23 : ∀ xs, (i2b (K.b.norm (l.F 100000023 1000000 xs)) = true) = _ := P23
  have F24_0 : ∀ xs, l.F 100000024 0 xs = e24.nm.fn 0 xs := (hF e24.nm (by rfl) (by decide)).1 0 rfl
  have F24_1 : ∀ xs, l.F 100000024 1 xs = e24.nm.fn 1 xs := (hF e24.nm (by rfl) (by decide)).1 1 rfl
  have F24_2 : ∀ xs, l.F 100000024 2 xs = e24.nm.fn 2 xs := (hF e24.nm (by rfl) (by decide)).1 2 rfl
  have F24_3 : ∀ xs, l.F 100000024 3 xs = e24.nm.fn 3 xs := (hF e24.nm (by rfl) (by decide)).1 3 rfl
  have F24_4 : ∀ xs, l.F 100000024 4 xs = e24.nm.fn 4 xs := (hF e24.nm (by rfl) (by decide)).1 4 rfl
  have P24 := (hF e24.nm (by rfl) (by decide)).2
  replace P24 : ∀ xs, (i2b (K.b.norm (l.F 100000024 1000000 xs)) = true) = _ := P24
  obtain ⟨ρ, hρ, hd⟩ := solve (F := l.F) 2 defs_5 (by kernel_rfl) xs
  replace hd := fun n x (h : defs_5[n]? = some x) => hd x (List.mem_of_getElem? h)
  refine ⟨ρ, hρ, ?_⟩
  have hd1 := hd 0 _ rfl
  have hn1 : K.norm (.i .i64) (ρ 640000083200064) = ρ 640000083200064 := by rw [hd1]; simp only [den_app]; exact K.norm_norm _ _
  obtain ⟨v1, hv1⟩ : ∃ v, ρ 640000083200064 = v := ⟨_, rfl⟩
  simp only [norm_i, hv1] at hd1 hn1
  simp (disch := omega) only [den_app, F13_0, Ent.nm_fn, hv1, hn1, ewA, preC, binI, dvI, shI, cmpB, env, List.map_cons, List.map_nil, List.getD_cons_succ, List.getD_cons_zero, List.getElem?_cons_zero, List.getElem?_cons_succ, bi, List.headD, List.tail, List.map, List.nil_append, List.cons_append, Int.toNat_zero, Int.toNat_one, Int.toNat_natCast, Nat.zero_add, Nat.reduceAdd, ewB, pdec, pndec, Int.not_lt, Int.not_le, if_true, if_false, ite_true, ite_false, true_and, and_true, false_and, and_false, true_implies, implies_true, false_implies, forall_const, not_true_eq_false, not_false_eq_true, ne_eq, reduceCtorEq, List.take_length, List.drop_zero, Int.reduceEq, Int.reduceLT, Int.reduceLE, Int.reduceToNat, Int.reduceAdd, Int.reduceSub, Int.reduceMul, Int.reduceNeg, Int.reduceBEq, Nat.reduceAdd, Nat.reduceLT, Nat.reduceEqDiff] at hd1
  have hd2 := hd 1 _ rfl
  obtain ⟨v2, hv2⟩ : ∃ v, ρ 640000083200065 = v := ⟨_, rfl⟩
  simp only [norm_i, hv2] at hd2
  simp (disch := omega) only [den_app, F13_1, Ent.nm_fn, hv1, hn1, hv2, ewA, preC, binI, dvI, shI, cmpB, env, List.map_cons, List.map_nil, List.getD_cons_succ, List.getD_cons_zero, List.getElem?_cons_zero, List.getElem?_cons_succ, bi, List.headD, List.tail, List.map, List.nil_append, List.cons_append, Int.toNat_zero, Int.toNat_one, Int.toNat_natCast, Nat.zero_add, Nat.reduceAdd, ewB, pdec, pndec, Int.not_lt, Int.not_le, if_true, if_false, ite_true, ite_false, true_and, and_true, false_and, and_false, true_implies, implies_true, false_implies, forall_const, not_true_eq_false, not_false_eq_true, ne_eq, reduceCtorEq, List.take_length, List.drop_zero, Int.reduceEq, Int.reduceLT, Int.reduceLE, Int.reduceToNat, Int.reduceAdd, Int.reduceSub, Int.reduceMul, Int.reduceNeg, Int.reduceBEq, Nat.reduceAdd, Nat.reduceLT, Nat.reduceEqDiff] at hd2
  have hd3 := hd 2 _ rfl
  obtain ⟨v3, hv3⟩ : ∃ v, ρ 640000083200066 = v := ⟨_, rfl⟩
  simp only [norm_i, hv3] at hd3
  simp (disch := omega) only [den_app, F13_2, Ent.nm_fn, hv1, hn1, hv2, hv3, ewA, preC, binI, dvI, shI, cmpB, env, List.map_cons, List.map_nil, List.getD_cons_succ, List.getD_cons_zero, List.getElem?_cons_zero, List.getElem?_cons_succ, bi, List.headD, List.tail, List.map, List.nil_append, List.cons_append, Int.toNat_zero, Int.toNat_one, Int.toNat_natCast, Nat.zero_add, Nat.reduceAdd, ewB, pdec, pndec, Int.not_lt, Int.not_le, if_true, if_false, ite_true, ite_false, true_and, and_true, false_and, and_false, true_implies, implies_true, false_implies, forall_const, not_true_eq_false, not_false_eq_true, ne_eq, reduceCtorEq, List.take_length, List.drop_zero, Int.reduceEq, Int.reduceLT, Int.reduceLE, Int.reduceToNat, Int.reduceAdd, Int.reduceSub, Int.reduceMul, Int.reduceNeg, Int.reduceBEq, Nat.reduceAdd, Nat.reduceLT, Nat.reduceEqDiff] at hd3
  have hd4 := hd 3 _ rfl
  have hn4 : K.norm (.i .i64) (ρ 640000147200576) = ρ 640000147200576 := by rw [hd4]; simp only [den_app]; exact K.norm_norm _ _
  obtain ⟨v4, hv4⟩ : ∃ v, ρ 640000147200576 = v := ⟨_, rfl⟩
  simp only [norm_i, hv4] at hd4 hn4
  simp (disch := omega) only [den_app, F23_0, Ent.nm_fn, hv1, hn1, hv2, hv3, hv4, hn4, ewA, preC, binI, dvI, shI, cmpB, env, List.map_cons, List.map_nil, List.getD_cons_succ, List.getD_cons_zero, List.getElem?_cons_zero, List.getElem?_cons_succ, bi, List.headD, List.tail, List.map, List.nil_append, List.cons_append, Int.toNat_zero, Int.toNat_one, Int.toNat_natCast, Nat.zero_add, Nat.reduceAdd, ewB, pdec, pndec, Int.not_lt, Int.not_le, if_true, if_false, ite_true, ite_false, true_and, and_true, false_and, and_false, true_implies, implies_true, false_implies, forall_const, not_true_eq_false, not_false_eq_true, ne_eq, reduceCtorEq, List.take_length, List.drop_zero, Int.reduceEq, Int.reduceLT, Int.reduceLE, Int.reduceToNat, Int.reduceAdd, Int.reduceSub, Int.reduceMul, Int.reduceNeg, Int.reduceBEq, Nat.reduceAdd, Nat.reduceLT, Nat.reduceEqDiff] at hd4
  have hd5 := hd 4 _ rfl
  have hn5 : K.norm (.i .i64) (ρ 640000147200577) = ρ 640000147200577 := by rw [hd5]; simp only [den_app]; exact K.norm_norm _ _
  obtain ⟨v5, hv5⟩ : ∃ v, ρ 640000147200577 = v := ⟨_, rfl⟩
  simp only [norm_i, hv5] at hd5 hn5
  simp (disch := omega) only [den_app, F23_1, Ent.nm_fn, hv1, hn1, hv2, hv3, hv4, hn4, hv5, hn5, ewA, preC, binI, dvI, shI, cmpB, env, List.map_cons, List.map_nil, List.getD_cons_succ, List.getD_cons_zero, List.getElem?_cons_zero, List.getElem?_cons_succ, bi, List.headD, List.tail, List.map, List.nil_append, List.cons_append, Int.toNat_zero, Int.toNat_one, Int.toNat_natCast, Nat.zero_add, Nat.reduceAdd, ewB, pdec, pndec, Int.not_lt, Int.not_le, if_true, if_false, ite_true, ite_false, true_and, and_true, false_and, and_false, true_implies, implies_true, false_implies, forall_const, not_true_eq_false, not_false_eq_true, ne_eq, reduceCtorEq, List.take_length, List.drop_zero, Int.reduceEq, Int.reduceLT, Int.reduceLE, Int.reduceToNat, Int.reduceAdd, Int.reduceSub, Int.reduceMul, Int.reduceNeg, Int.reduceBEq, Nat.reduceAdd, Nat.reduceLT, Nat.reduceEqDiff] at hd5
  have hd6 := hd 5 _ rfl
  have hn6 : K.norm .b (ρ 640000147200578) = ρ 640000147200578 := by rw [hd6]; simp only [den_app]; exact K.norm_norm _ _
  obtain ⟨v6, hv6⟩ : ∃ v, ρ 640000147200578 = v := ⟨_, rfl⟩
  simp only [norm_i, hv6] at hd6 hn6
  simp (disch := omega) only [den_app, F23_2, Ent.nm_fn, hv1, hn1, hv2, hv3, hv4, hn4, hv5, hn5, hv6, hn6, ewA, preC, binI, dvI, shI, cmpB, env, List.map_cons, List.map_nil, List.getD_cons_succ, List.getD_cons_zero, List.getElem?_cons_zero, List.getElem?_cons_succ, bi, List.headD, List.tail, List.map, List.nil_append, List.cons_append, Int.toNat_zero, Int.toNat_one, Int.toNat_natCast, Nat.zero_add, Nat.reduceAdd, ewB, pdec, pndec, Int.not_lt, Int.not_le, if_true, if_false, ite_true, ite_false, true_and, and_true, false_and, and_false, true_implies, implies_true, false_implies, forall_const, not_true_eq_false, not_false_eq_true, ne_eq, reduceCtorEq, List.take_length, List.drop_zero, Int.reduceEq, Int.reduceLT, Int.reduceLE, Int.reduceToNat, Int.reduceAdd, Int.reduceSub, Int.reduceMul, Int.reduceNeg, Int.reduceBEq, Nat.reduceAdd, Nat.reduceLT, Nat.reduceEqDiff] at hd6
  have hd7 := hd 6 _ rfl
  have hn7 : K.norm (.i .i64) (ρ 640000153601088) = ρ 640000153601088 := by rw [hd7]; simp only [den_app]; exact K.norm_norm _ _
  obtain ⟨v7, hv7⟩ : ∃ v, ρ 640000153601088 = v := ⟨_, rfl⟩
  simp only [norm_i, hv7] at hd7 hn7
  simp (disch := omega) only [den_app, F24_0, Ent.nm_fn, hv1, hn1, hv2, hv3, hv4, hn4, hv5, hn5, hv6, hn6, hv7, hn7, ewA, preC, binI, dvI, shI, cmpB, env, List.map_cons, List.map_nil, List.getD_cons_succ, List.getD_cons_zero, List.getElem?_cons_zero, List.getElem?_cons_succ, bi, List.headD, List.tail, List.map, List.nil_append, List.cons_append, Int.toNat_zero, Int.toNat_one, Int.toNat_natCast, Nat.zero_add, Nat.reduceAdd, ewB, pdec, pndec, Int.not_lt, Int.not_le, if_true, if_false, ite_true, ite_false, true_and, and_true, false_and, and_false, true_implies, implies_true, false_implies, forall_const, not_true_eq_false, not_false_eq_true, ne_eq, reduceCtorEq, List.take_length, List.drop_zero, Int.reduceEq, Int.reduceLT, Int.reduceLE, Int.reduceToNat, Int.reduceAdd, Int.reduceSub, Int.reduceMul, Int.reduceNeg, Int.reduceBEq, Nat.reduceAdd, Nat.reduceLT, Nat.reduceEqDiff] at hd7
  have hd8 := hd 7 _ rfl
  obtain ⟨v8, hv8⟩ : ∃ v, ρ 640000153601089 = v := ⟨_, rfl⟩
  simp only [norm_i, hv8] at hd8
  simp (disch := omega) only [den_app, F24_1, Ent.nm_fn, hv1, hn1, hv2, hv3, hv4, hn4, hv5, hn5, hv6, hn6, hv7, hn7, hv8, ewA, preC, binI, dvI, shI, cmpB, env, List.map_cons, List.map_nil, List.getD_cons_succ, List.getD_cons_zero, List.getElem?_cons_zero, List.getElem?_cons_succ, bi, List.headD, List.tail, List.map, List.nil_append, List.cons_append, Int.toNat_zero, Int.toNat_one, Int.toNat_natCast, Nat.zero_add, Nat.reduceAdd, ewB, pdec, pndec, Int.not_lt, Int.not_le, if_true, if_false, ite_true, ite_false, true_and, and_true, false_and, and_false, true_implies, implies_true, false_implies, forall_const, not_true_eq_false, not_false_eq_true, ne_eq, reduceCtorEq, List.take_length, List.drop_zero, Int.reduceEq, Int.reduceLT, Int.reduceLE, Int.reduceToNat, Int.reduceAdd, Int.reduceSub, Int.reduceMul, Int.reduceNeg, Int.reduceBEq, Nat.reduceAdd, Nat.reduceLT, Nat.reduceEqDiff] at hd8
  have hd9 := hd 8 _ rfl
  obtain ⟨v9, hv9⟩ : ∃ v, ρ 640000153601090 = v := ⟨_, rfl⟩
  simp only [norm_i, hv9] at hd9
  simp (disch := omega) only [den_app, F24_2, Ent.nm_fn, hv1, hn1, hv2, hv3, hv4, hn4, hv5, hn5, hv6, hn6, hv7, hn7, hv8, hv9, ewA, preC, binI, dvI, shI, cmpB, env, List.map_cons, List.map_nil, List.getD_cons_succ, List.getD_cons_zero, List.getElem?_cons_zero, List.getElem?_cons_succ, bi, List.headD, List.tail, List.map, List.nil_append, List.cons_append, Int.toNat_zero, Int.toNat_one, Int.toNat_natCast, Nat.zero_add, Nat.reduceAdd, ewB, pdec, pndec, Int.not_lt, Int.not_le, if_true, if_false, ite_true, ite_false, true_and, and_true, false_and, and_false, true_implies, implies_true, false_implies, forall_const, not_true_eq_false, not_false_eq_true, ne_eq, reduceCtorEq, List.take_length, List.drop_zero, Int.reduceEq, Int.reduceLT, Int.reduceLE, Int.reduceToNat, Int.reduceAdd, Int.reduceSub, Int.reduceMul, Int.reduceNeg, Int.reduceBEq, Nat.reduceAdd, Nat.reduceLT, Nat.reduceEqDiff] at hd9
  have hd10 := hd 9 _ rfl
  obtain ⟨v10, hv10⟩ : ∃ v, ρ 640000153601091 = v := ⟨_, rfl⟩
  simp only [norm_i, hv10] at hd10
  simp (disch := omega) only [den_app, F24_3, Ent.nm_fn, hv1, hn1, hv2, hv3, hv4, hn4, hv5, hn5, hv6, hn6, hv7, hn7, hv8, hv9, hv10, ewA, preC, binI, dvI, shI, cmpB, env, List.map_cons, List.map_nil, List.getD_cons_succ, List.getD_cons_zero, List.getElem?_cons_zero, List.getElem?_cons_succ, bi, List.headD, List.tail, List.map, List.nil_append, List.cons_append, Int.toNat_zero, Int.toNat_one, Int.toNat_natCast, Nat.zero_add, Nat.reduceAdd, ewB, pdec, pndec, Int.not_lt, Int.not_le, if_true, if_false, ite_true, ite_false, true_and, and_true, false_and, and_false, true_implies, implies_true, false_implies, forall_const, not_true_eq_false, not_false_eq_true, ne_eq, reduceCtorEq, List.take_length, List.drop_zero, Int.reduceEq, Int.reduceLT, Int.reduceLE, Int.reduceToNat, Int.reduceAdd, Int.reduceSub, Int.reduceMul, Int.reduceNeg, Int.reduceBEq, Nat.reduceAdd, Nat.reduceLT, Nat.reduceEqDiff] at hd10
  have hd11 := hd 10 _ rfl
  have hn11 : K.norm (.i .i64) (ρ 640000153601092) = ρ 640000153601092 := by rw [hd11]; simp only [den_app]; exact K.norm_norm _ _
  obtain ⟨v11, hv11⟩ : ∃ v, ρ 640000153601092 = v := ⟨_, rfl⟩
  simp only [norm_i, hv11] at hd11 hn11
  simp (disch := omega) only [den_app, F24_4, Ent.nm_fn, hv1, hn1, hv2, hv3, hv4, hn4, hv5, hn5, hv6, hn6, hv7, hn7, hv8, hv9, hv10, hv11, hn11, ewA, preC, binI, dvI, shI, cmpB, env, List.map_cons, List.map_nil, List.getD_cons_succ, List.getD_cons_zero, List.getElem?_cons_zero, List.getElem?_cons_succ, bi, List.headD, List.tail, List.map, List.nil_append, List.cons_append, Int.toNat_zero, Int.toNat_one, Int.toNat_natCast, Nat.zero_add, Nat.reduceAdd, ewB, pdec, pndec, Int.not_lt, Int.not_le, if_true, if_false, ite_true, ite_false, true_and, and_true, false_and, and_false, true_implies, implies_true, false_implies, forall_const, not_true_eq_false, not_false_eq_true, ne_eq, reduceCtorEq, List.take_length, List.drop_zero, Int.reduceEq, Int.reduceLT, Int.reduceLE, Int.reduceToNat, Int.reduceAdd, Int.reduceSub, Int.reduceMul, Int.reduceNeg, Int.reduceBEq, Nat.reduceAdd, Nat.reduceLT, Nat.reduceEqDiff] at hd11
  have hd12 := hd 11 _ rfl
  have hn12 : K.norm (.i .i64) (ρ 640000108801600) = ρ 640000108801600 := by rw [hd12]; simp only [den_app]; exact K.norm_norm _ _
  obtain ⟨v12, hv12⟩ : ∃ v, ρ 640000108801600 = v := ⟨_, rfl⟩
  simp only [norm_i, hv12] at hd12 hn12
  simp (disch := omega) only [den_app, F17_0, Ent.nm_fn, hv1, hn1, hv2, hv3, hv4, hn4, hv5, hn5, hv6, hn6, hv7, hn7, hv8, hv9, hv10, hv11, hn11, hv12, hn12, ewA, preC, binI, dvI, shI, cmpB, env, List.map_cons, List.map_nil, List.getD_cons_succ, List.getD_cons_zero, List.getElem?_cons_zero, List.getElem?_cons_succ, bi, List.headD, List.tail, List.map, List.nil_append, List.cons_append, Int.toNat_zero, Int.toNat_one, Int.toNat_natCast, Nat.zero_add, Nat.reduceAdd, ewB, pdec, pndec, Int.not_lt, Int.not_le, if_true, if_false, ite_true, ite_false, true_and, and_true, false_and, and_false, true_implies, implies_true, false_implies, forall_const, not_true_eq_false, not_false_eq_true, ne_eq, reduceCtorEq, List.take_length, List.drop_zero, Int.reduceEq, Int.reduceLT, Int.reduceLE, Int.reduceToNat, Int.reduceAdd, Int.reduceSub, Int.reduceMul, Int.reduceNeg, Int.reduceBEq, Nat.reduceAdd, Nat.reduceLT, Nat.reduceEqDiff] at hd12
  have hd13 := hd 12 _ rfl
  have hn13 : K.norm (.i .i64) (ρ 640000153601600) = ρ 640000153601600 := by rw [hd13]; simp only [den_app]; exact K.norm_norm _ _
  obtain ⟨v13, hv13⟩ : ∃ v, ρ 640000153601600 = v := ⟨_, rfl⟩
  simp only [norm_i, hv13] at hd13 hn13
  simp (disch := omega) only [den_app, F24_0, Ent.nm_fn, hv1, hn1, hv2, hv3, hv4, hn4, hv5, hn5, hv6, hn6, hv7, hn7, hv8, hv9, hv10, hv11, hn11, hv12, hn12, hv13, hn13, ewA, preC, binI, dvI, shI, cmpB, env, List.map_cons, List.map_nil, List.getD_cons_succ, List.getD_cons_zero, List.getElem?_cons_zero, List.getElem?_cons_succ, bi, List.headD, List.tail, List.map, List.nil_append, List.cons_append, Int.toNat_zero, Int.toNat_one, Int.toNat_natCast, Nat.zero_add, Nat.reduceAdd, ewB, pdec, pndec, Int.not_lt, Int.not_le, if_true, if_false, ite_true, ite_false, true_and, and_true, false_and, and_false, true_implies, implies_true, false_implies, forall_const, not_true_eq_false, not_false_eq_true, ne_eq, reduceCtorEq, List.take_length, List.drop_zero, Int.reduceEq, Int.reduceLT, Int.reduceLE, Int.reduceToNat, Int.reduceAdd, Int.reduceSub, Int.reduceMul, Int.reduceNeg, Int.reduceBEq, Nat.reduceAdd, Nat.reduceLT, Nat.reduceEqDiff] at hd13
  have hd14 := hd 13 _ rfl
  obtain ⟨v14, hv14⟩ : ∃ v, ρ 640000153601601 = v := ⟨_, rfl⟩
  simp only [norm_i, hv14] at hd14
  simp (disch := omega) only [den_app, F24_1, Ent.nm_fn, hv1, hn1, hv2, hv3, hv4, hn4, hv5, hn5, hv6, hn6, hv7, hn7, hv8, hv9, hv10, hv11, hn11, hv12, hn12, hv13, hn13, hv14, ewA, preC, binI, dvI, shI, cmpB, env, List.map_cons, List.map_nil, List.getD_cons_succ, List.getD_cons_zero, List.getElem?_cons_zero, List.getElem?_cons_succ, bi, List.headD, List.tail, List.map, List.nil_append, List.cons_append, Int.toNat_zero, Int.toNat_one, Int.toNat_natCast, Nat.zero_add, Nat.reduceAdd, ewB, pdec, pndec, Int.not_lt, Int.not_le, if_true, if_false, ite_true, ite_false, true_and, and_true, false_and, and_false, true_implies, implies_true, false_implies, forall_const, not_true_eq_false, not_false_eq_true, ne_eq, reduceCtorEq, List.take_length, List.drop_zero, Int.reduceEq, Int.reduceLT, Int.reduceLE, Int.reduceToNat, Int.reduceAdd, Int.reduceSub, Int.reduceMul, Int.reduceNeg, Int.reduceBEq, Nat.reduceAdd, Nat.reduceLT, Nat.reduceEqDiff] at hd14
  have hd15 := hd 14 _ rfl
  obtain ⟨v15, hv15⟩ : ∃ v, ρ 640000153601602 = v := ⟨_, rfl⟩
  simp only [norm_i, hv15] at hd15
  simp (disch := omega) only [den_app, F24_2, Ent.nm_fn, hv1, hn1, hv2, hv3, hv4, hn4, hv5, hn5, hv6, hn6, hv7, hn7, hv8, hv9, hv10, hv11, hn11, hv12, hn12, hv13, hn13, hv14, hv15, ewA, preC, binI, dvI, shI, cmpB, env, List.map_cons, List.map_nil, List.getD_cons_succ, List.getD_cons_zero, List.getElem?_cons_zero, List.getElem?_cons_succ, bi, List.headD, List.tail, List.map, List.nil_append, List.cons_append, Int.toNat_zero, Int.toNat_one, Int.toNat_natCast, Nat.zero_add, Nat.reduceAdd, ewB, pdec, pndec, Int.not_lt, Int.not_le, if_true, if_false, ite_true, ite_false, true_and, and_true, false_and, and_false, true_implies, implies_true, false_implies, forall_const, not_true_eq_false, not_false_eq_true, ne_eq, reduceCtorEq, List.take_length, List.drop_zero, Int.reduceEq, Int.reduceLT, Int.reduceLE, Int.reduceToNat, Int.reduceAdd, Int.reduceSub, Int.reduceMul, Int.reduceNeg, Int.reduceBEq, Nat.reduceAdd, Nat.reduceLT, Nat.reduceEqDiff] at hd15
  have hd16 := hd 15 _ rfl
  obtain ⟨v16, hv16⟩ : ∃ v, ρ 640000153601603 = v := ⟨_, rfl⟩
  simp only [norm_i, hv16] at hd16
  simp (disch := omega) only [den_app, F24_3, Ent.nm_fn, hv1, hn1, hv2, hv3, hv4, hn4, hv5, hn5, hv6, hn6, hv7, hn7, hv8, hv9, hv10, hv11, hn11, hv12, hn12, hv13, hn13, hv14, hv15, hv16, ewA, preC, binI, dvI, shI, cmpB, env, List.map_cons, List.map_nil, List.getD_cons_succ, List.getD_cons_zero, List.getElem?_cons_zero, List.getElem?_cons_succ, bi, List.headD, List.tail, List.map, List.nil_append, List.cons_append, Int.toNat_zero, Int.toNat_one, Int.toNat_natCast, Nat.zero_add, Nat.reduceAdd, ewB, pdec, pndec, Int.not_lt, Int.not_le, if_true, if_false, ite_true, ite_false, true_and, and_true, false_and, and_false, true_implies, implies_true, false_implies, forall_const, not_true_eq_false, not_false_eq_true, ne_eq, reduceCtorEq, List.take_length, List.drop_zero, Int.reduceEq, Int.reduceLT, Int.reduceLE, Int.reduceToNat, Int.reduceAdd, Int.reduceSub, Int.reduceMul, Int.reduceNeg, Int.reduceBEq, Nat.reduceAdd, Nat.reduceLT, Nat.reduceEqDiff] at hd16
  have hd17 := hd 16 _ rfl
  have hn17 : K.norm (.i .i64) (ρ 640000153601604) = ρ 640000153601604 := by rw [hd17]; simp only [den_app]; exact K.norm_norm _ _
  obtain ⟨v17, hv17⟩ : ∃ v, ρ 640000153601604 = v := ⟨_, rfl⟩
  simp only [norm_i, hv17] at hd17 hn17
  simp (disch := omega) only [den_app, F24_4, Ent.nm_fn, hv1, hn1, hv2, hv3, hv4, hn4, hv5, hn5, hv6, hn6, hv7, hn7, hv8, hv9, hv10, hv11, hn11, hv12, hn12, hv13, hn13, hv14, hv15, hv16, hv17, hn17, ewA, preC, binI, dvI, shI, cmpB, env, List.map_cons, List.map_nil, List.getD_cons_succ, List.getD_cons_zero, List.getElem?_cons_zero, List.getElem?_cons_succ, bi, List.headD, List.tail, List.map, List.nil_append, List.cons_append, Int.toNat_zero, Int.toNat_one, Int.toNat_natCast, Nat.zero_add, Nat.reduceAdd, ewB, pdec, pndec, Int.not_lt, Int.not_le, if_true, if_false, ite_true, ite_false, true_and, and_true, false_and, and_false, true_implies, implies_true, false_implies, forall_const, not_true_eq_false, not_false_eq_true, ne_eq, reduceCtorEq, List.take_length, List.drop_zero, Int.reduceEq, Int.reduceLT, Int.reduceLE, Int.reduceToNat, Int.reduceAdd, Int.reduceSub, Int.reduceMul, Int.reduceNeg, Int.reduceBEq, Nat.reduceAdd, Nat.reduceLT, Nat.reduceEqDiff] at hd17
  have hd18 := hd 17 _ rfl
  have hn18 : K.norm (.i .i64) (ρ 640000102402112) = ρ 640000102402112 := by rw [hd18]; simp only [den_app]; exact K.norm_norm _ _
  obtain ⟨v18, hv18⟩ : ∃ v, ρ 640000102402112 = v := ⟨_, rfl⟩
  simp only [norm_i, hv18] at hd18 hn18
  simp (disch := omega) only [den_app, F16_0, Ent.nm_fn, hv1, hn1, hv2, hv3, hv4, hn4, hv5, hn5, hv6, hn6, hv7, hn7, hv8, hv9, hv10, hv11, hn11, hv12, hn12, hv13, hn13, hv14, hv15, hv16, hv17, hn17, hv18, hn18, ewA, preC, binI, dvI, shI, cmpB, env, List.map_cons, List.map_nil, List.getD_cons_succ, List.getD_cons_zero, List.getElem?_cons_zero, List.getElem?_cons_succ, bi, List.headD, List.tail, List.map, List.nil_append, List.cons_append, Int.toNat_zero, Int.toNat_one, Int.toNat_natCast, Nat.zero_add, Nat.reduceAdd, ewB, pdec, pndec, Int.not_lt, Int.not_le, if_true, if_false, ite_true, ite_false, true_and, and_true, false_and, and_false, true_implies, implies_true, false_implies, forall_const, not_true_eq_false, not_false_eq_true, ne_eq, reduceCtorEq, List.take_length, List.drop_zero, Int.reduceEq, Int.reduceLT, Int.reduceLE, Int.reduceToNat, Int.reduceAdd, Int.reduceSub, Int.reduceMul, Int.reduceNeg, Int.reduceBEq, Nat.reduceAdd, Nat.reduceLT, Nat.reduceEqDiff] at hd18
  have hd19 := hd 18 _ rfl
  obtain ⟨v19, hv19⟩ : ∃ v, ρ 640000102402113 = v := ⟨_, rfl⟩
  simp only [norm_i, hv19] at hd19
  simp (disch := omega) only [den_app, F16_1, Ent.nm_fn, hv1, hn1, hv2, hv3, hv4, hn4, hv5, hn5, hv6, hn6, hv7, hn7, hv8, hv9, hv10, hv11, hn11, hv12, hn12, hv13, hn13, hv14, hv15, hv16, hv17, hn17, hv18, hn18, hv19, ewA, preC, binI, dvI, shI, cmpB, env, List.map_cons, List.map_nil, List.getD_cons_succ, List.getD_cons_zero, List.getElem?_cons_zero, List.getElem?_cons_succ, bi, List.headD, List.tail, List.map, List.nil_append, List.cons_append, Int.toNat_zero, Int.toNat_one, Int.toNat_natCast, Nat.zero_add, Nat.reduceAdd, ewB, pdec, pndec, Int.not_lt, Int.not_le, if_true, if_false, ite_true, ite_false, true_and, and_true, false_and, and_false, true_implies, implies_true, false_implies, forall_const, not_true_eq_false, not_false_eq_true, ne_eq, reduceCtorEq, List.take_length, List.drop_zero, Int.reduceEq, Int.reduceLT, Int.reduceLE, Int.reduceToNat, Int.reduceAdd, Int.reduceSub, Int.reduceMul, Int.reduceNeg, Int.reduceBEq, Nat.reduceAdd, Nat.reduceLT, Nat.reduceEqDiff] at hd19
  have hd20 := hd 19 _ rfl
  obtain ⟨v20, hv20⟩ : ∃ v, ρ 640000102402114 = v := ⟨_, rfl⟩
  simp only [norm_i, hv20] at hd20
  simp (disch := omega) only [den_app, F16_2, Ent.nm_fn, hv1, hn1, hv2, hv3, hv4, hn4, hv5, hn5, hv6, hn6, hv7, hn7, hv8, hv9, hv10, hv11, hn11, hv12, hn12, hv13, hn13, hv14, hv15, hv16, hv17, hn17, hv18, hn18, hv19, hv20, ewA, preC, binI, dvI, shI, cmpB, env, List.map_cons, List.map_nil, List.getD_cons_succ, List.getD_cons_zero, List.getElem?_cons_zero, List.getElem?_cons_succ, bi, List.headD, List.tail, List.map, List.nil_append, List.cons_append, Int.toNat_zero, Int.toNat_one, Int.toNat_natCast, Nat.zero_add, Nat.reduceAdd, ewB, pdec, pndec, Int.not_lt, Int.not_le, if_true, if_false, ite_true, ite_false, true_and, and_true, false_and, and_false, true_implies, implies_true, false_implies, forall_const, not_true_eq_false, not_false_eq_true, ne_eq, reduceCtorEq, List.take_length, List.drop_zero, Int.reduceEq, Int.reduceLT, Int.reduceLE, Int.reduceToNat, Int.reduceAdd, Int.reduceSub, Int.reduceMul, Int.reduceNeg, Int.reduceBEq, Nat.reduceAdd, Nat.reduceLT, Nat.reduceEqDiff] at hd20
  have hd21 := hd 20 _ rfl
  obtain ⟨v21, hv21⟩ : ∃ v, ρ 640000102402115 = v := ⟨_, rfl⟩
  simp only [norm_i, hv21] at hd21
  simp (disch := omega) only [den_app, F16_3, Ent.nm_fn, hv1, hn1, hv2, hv3, hv4, hn4, hv5, hn5, hv6, hn6, hv7, hn7, hv8, hv9, hv10, hv11, hn11, hv12, hn12, hv13, hn13, hv14, hv15, hv16, hv17, hn17, hv18, hn18, hv19, hv20, hv21, ewA, preC, binI, dvI, shI, cmpB, env, List.map_cons, List.map_nil, List.getD_cons_succ, List.getD_cons_zero, List.getElem?_cons_zero, List.getElem?_cons_succ, bi, List.headD, List.tail, List.map, List.nil_append, List.cons_append, Int.toNat_zero, Int.toNat_one, Int.toNat_natCast, Nat.zero_add, Nat.reduceAdd, ewB, pdec, pndec, Int.not_lt, Int.not_le, if_true, if_false, ite_true, ite_false, true_and, and_true, false_and, and_false, true_implies, implies_true, false_implies, forall_const, not_true_eq_false, not_false_eq_true, ne_eq, reduceCtorEq, List.take_length, List.drop_zero, Int.reduceEq, Int.reduceLT, Int.reduceLE, Int.reduceToNat, Int.reduceAdd, Int.reduceSub, Int.reduceMul, Int.reduceNeg, Int.reduceBEq, Nat.reduceAdd, Nat.reduceLT, Nat.reduceEqDiff] at hd21
  have hd22 := hd 21 _ rfl
  have hn22 : K.norm (.i .i64) (ρ 640000102402116) = ρ 640000102402116 := by rw [hd22]; simp only [den_app]; exact K.norm_norm _ _
  obtain ⟨v22, hv22⟩ : ∃ v, ρ 640000102402116 = v := ⟨_, rfl⟩
  simp only [norm_i, hv22] at hd22 hn22
  simp (disch := omega) only [den_app, F16_4, Ent.nm_fn, hv1, hn1, hv2, hv3, hv4, hn4, hv5, hn5, hv6, hn6, hv7, hn7, hv8, hv9, hv10, hv11, hn11, hv12, hn12, hv13, hn13, hv14, hv15, hv16, hv17, hn17, hv18, hn18, hv19, hv20, hv21, hv22, hn22, ewA, preC, binI, dvI, shI, cmpB, env, List.map_cons, List.map_nil, List.getD_cons_succ, List.getD_cons_zero, List.getElem?_cons_zero, List.getElem?_cons_succ, bi, List.headD, List.tail, List.map, List.nil_append, List.cons_append, Int.toNat_zero, Int.toNat_one, Int.toNat_natCast, Nat.zero_add, Nat.reduceAdd, ewB, pdec, pndec, Int.not_lt, Int.not_le, if_true, if_false, ite_true, ite_false, true_and, and_true, false_and, and_false, true_implies, implies_true, false_implies, forall_const, not_true_eq_false, not_false_eq_true, ne_eq, reduceCtorEq, List.take_length, List.drop_zero, Int.reduceEq, Int.reduceLT, Int.reduceLE, Int.reduceToNat, Int.reduceAdd, Int.reduceSub, Int.reduceMul, Int.reduceNeg, Int.reduceBEq, Nat.reduceAdd, Nat.reduceLT, Nat.reduceEqDiff] at hd22
  match xs, hf with
  | [t, c], hf =>
    obtain ⟨h0, h1, _⟩ := hf
    simp only [norm_i, norm_x] at h0
    have hp1 := hp.1
    have hp2 := hp.2
    have r0 : ρ 0 = t := hρ 0 (by decide)
    have r1 : ρ 1 = c := hρ 1 (by decide)
    obtain ⟨q1, q2, q3⟩ := madM_ok t (dc c)
    have ht := q1.tim
    rw [r0, r1, h0] at hd1 hd2 hd3
    have e1 : v1 = (madM t (dc c)).1 := hd1.trans (i64w (by show _ ≤ (madM t (dc c)).1; omega) (by show (madM t (dc c)).1 ≤ _; omega))
    have e2 : v2 = (madM t (dc c)).2.1 := hd2
    have e3 : v3 = (madM t (dc c)).2.2 := hd3
    rw [← e1, ← e2, ← e3] at q1
    rw [← e1] at q2 ht
    rw [← e1, ← e2] at q3
    have s0 : QS v1 v2 v3 v1 (dc v2) (dc v3) := ⟨rfl, rfl, rfl, q1⟩
    refine ⟨?_, trivial⟩
    cases hT : dc v2 with
    | nil =>
      have z6 : v6 = 0 := by rw [hd6]; show K.b.norm (b2i (decide ((dc v2).length ≠ 0))) = 0; rw [hT]; rfl
      rw [hT] at s0
      obtain ⟨s1, z10, z11⟩ := s0.to (t := 1099511627776) (T' := []) (M' := dc v3) (L := []) (toB_ok (by omega) (by omega)) rfl rfl rfl hd7 hd8 hd9 hd10 hd11
      have z12 : v12 = 1099511627776 := by rw [hd12]; show IntKind.i64.wrap v7 = _; rw [s1.a]; rfl
      have z7 := s1.a
      rw [z6] at hd6
      rw [z11] at hd11
      rw [z12] at hd12
      rw [z7] at hd7
      simp (disch := omega) only [ob_5, ewA, preC, binI, dvI, shI, cmpB, env, List.map_cons, List.map_nil, List.getD_cons_succ, List.getD_cons_zero, List.getElem?_cons_zero, List.getElem?_cons_succ, bi, List.headD, List.tail, List.map, List.nil_append, List.cons_append, Int.toNat_zero, Int.toNat_one, Int.toNat_natCast, Nat.zero_add, Nat.reduceAdd, ewB, pdec, pndec, Int.not_lt, Int.not_le, if_true, if_false, ite_true, ite_false, true_and, and_true, false_and, and_false, true_implies, implies_true, false_implies, forall_const, not_true_eq_false, not_false_eq_true, ne_eq, reduceCtorEq, List.take_length, List.drop_zero, Int.reduceEq, Int.reduceLT, Int.reduceLE, Int.reduceToNat, Int.reduceAdd, Int.reduceSub, Int.reduceMul, Int.reduceNeg, Int.reduceBEq, Nat.reduceAdd, Nat.reduceLT, Nat.reduceEqDiff, P12, F13_0, F13_1, F13_2, P13, F16_0, F16_1, F16_2, F16_3, F16_4, P16, F17_0, P17, F23_0, F23_1, F23_2, P23, F24_0, F24_1, F24_2, F24_3, F24_4, P24, hv1, hn1, hv2, hv3, hv4, hn4, hv5, hn5, hv6, hn6, hv7, hn7, hv8, hv9, hv10, hv11, hn11, hv12, hn12, hv13, hn13, hv14, hv15, hv16, hv17, hn17, hv18, hn18, hv19, hv20, hv21, hv22, hn22, r0, r1, h0, z6, z7, z11, z12]
      have zl : IntKind.i64.wrap (((dc v10).length : Nat) : Int) = 0 := by rw [z10]; rfl
      have y0 := s0.qi
      rw [z7] at hd12
      repeat' (first | (with_reducible apply And.intro) | (with_reducible intro _))
      all_goals first | with_reducible assumption | exact hp | exact y0 | trivial
    | cons r T' =>
      obtain ⟨i, d, rfl, wi, wd⟩ := row_eq (q1.row r (by rw [hT]; exact List.mem_cons_self ..))
      have hrg := q1.rng [i, d] (by rw [hT]; exact List.mem_cons_self ..)
      have h6 := (q3 [i, d] (by rw [hT]; exact List.mem_cons_self ..)).2
      replace hrg : 0 ≤ i ∧ i < 4096 ∧ v1 < d ∧ d ≤ v1 + 2147483648 := hrg
      replace h6 : d ≤ v1 + 600 := h6
      have hall : ∀ x ∈ dc v2, d ≤ dlR x := fun x hx => by
        rw [hT] at hx
        rcases List.mem_cons.1 hx with rfl | hx
        · exact Int.le_refl _
        · have hs := q1.srt
          rw [hT] at hs
          have := (List.pairwise_cons.1 hs).1 x hx
          rw [ltT_iff] at this
          replace this : d < dlR x ∨ d = dlR x ∧ i < idR x := this
          omega
      have z4 : v4 = i := by rw [hd4]; show IntKind.i64.wrap (((dc v2).getD 0 []).getD 0 0) = i; rw [hT]; exact wi
      have z5 : v5 = d := by rw [hd5]; show IntKind.i64.wrap (((dc v2).getD 0 []).getD 1 0) = d; rw [hT]; exact wd
      have z6 : v6 = 1 := by rw [hd6]; show K.b.norm (b2i (decide ((dc v2).length ≠ 0))) = 1; rw [hT]; rfl
      have w5 : IntKind.i64.wrap (v5 - 1) = d - 1 := by rw [z5]; exact i64w (by omega) (by omega)
      rw [w5] at hd13 hd14 hd15 hd16 hd17
      have hL : dueT (d - 1) (dc v2) = [] := List.filter_eq_nil_iff.2 fun x hx => by have := hall x hx; simp; omega
      have hK : leftT (d - 1) (dc v2) = dc v2 := List.filter_eq_self.2 fun x hx => by have := hall x hx; simp; omega
      obtain ⟨s1, z16, z17⟩ := s0.to (t := d - 1) (T' := dc v2) (M' := dc v3) (L := []) (toB_ok (by omega) (by omega)) hK (by rw [hL]; rfl) hL hd13 hd14 hd15 hd16 hd17
      have et : tickT v13 = d := by rw [s1.a]; unfold tickT; split <;> omega
      have hb : toB (d - 1) (tickT v13) = true := by rw [et]; exact toB_ok (by omega) (by omega)
      obtain ⟨s2, z21, z22⟩ := s1.to (t := tickT v13) (T' := _) (M' := _) (L := _) hb rfl rfl rfl hd18 hd19 hd20 hd21 hd22
      have hD : dueT (tickT v13) (dc v2) = [i, d] :: dueT d T' := by
        rw [et, hT]; unfold dueT
        rw [List.filter_cons, if_pos (by show decide (d ≤ d) = true; simp)]
      rw [hD] at z21
      have y0 := s0.qi
      have y1 := s1.qi
      have zn : IntKind.i64.wrap (((dc v16).length : Nat) : Int) = 0 := by rw [z16]; rfl
      have hlen : (dc v21).length = (dueT d T').length + 1 := by rw [z21]; rfl
      have hll : (dueT d T').length ≤ T'.length := List.length_filter_le _ _
      have hl2 := q1.len
      rw [hT, List.length_cons] at hl2
      have zm : IntKind.i64.wrap (((dc v21).length : Nat) : Int) = ((dueT d T').length : Int) + 1 := by rw [hlen]; exact i64w (by omega) (by omega)
      have zi : ((dc v21).getD 0 []).getD 0 0 = i := by rw [z21]; rfl
      have zd : ((dc v21).getD 0 []).getD 1 0 = d := by rw [z21]; rfl
      rw [z4] at hd4
      rw [z5] at hd5
      rw [z6] at hd6
      rw [z17] at hd17
      rw [z22] at hd22
      simp (disch := omega) only [ob_5, ewA, preC, binI, dvI, shI, cmpB, env, List.map_cons, List.map_nil, List.getD_cons_succ, List.getD_cons_zero, List.getElem?_cons_zero, List.getElem?_cons_succ, bi, List.headD, List.tail, List.map, List.nil_append, List.cons_append, Int.toNat_zero, Int.toNat_one, Int.toNat_natCast, Nat.zero_add, Nat.reduceAdd, ewB, pdec, pndec, Int.not_lt, Int.not_le, if_true, if_false, ite_true, ite_false, true_and, and_true, false_and, and_false, true_implies, implies_true, false_implies, forall_const, not_true_eq_false, not_false_eq_true, ne_eq, reduceCtorEq, List.take_length, List.drop_zero, Int.reduceEq, Int.reduceLT, Int.reduceLE, Int.reduceToNat, Int.reduceAdd, Int.reduceSub, Int.reduceMul, Int.reduceNeg, Int.reduceBEq, Nat.reduceAdd, Nat.reduceLT, Nat.reduceEqDiff, P12, F13_0, F13_1, F13_2, P13, F16_0, F16_1, F16_2, F16_3, F16_4, P16, F17_0, P17, F23_0, F23_1, F23_2, P23, F24_0, F24_1, F24_2, F24_3, F24_4, P24, hv1, hn1, hv2, hv3, hv4, hn4, hv5, hn5, hv6, hn6, hv7, hn7, hv8, hv9, hv10, hv11, hn11, hv12, hn12, hv13, hn13, hv14, hv15, hv16, hv17, hn17, hv18, hn18, hv19, hv20, hv21, hv22, hn22, r0, r1, h0, z4, z5, z6, z17, z22, zn, zm, zi, zd, wi, wd]
      have hgt : 0 < ((dueT d T').length : Int) + 1 := by omega
      repeat' (first | (with_reducible apply And.intro) | (with_reducible intro _))
      all_goals first | with_reducible assumption | exact hp | exact y0 | exact y1 | trivial

end
end Go.Proofs.Ytmolkkphnehgcaa.Ew

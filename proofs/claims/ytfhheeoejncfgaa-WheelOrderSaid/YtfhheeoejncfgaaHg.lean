/- Layer 18: the loops of Tick and Take. -/
import Derived.Test.YtfhheeoejncfgaaHf
set_option linter.unusedVariables false
set_option linter.unusedSimpArgs false
namespace Go.Proofs.Ytfhheeoejncfgaa.Ew
open Go Go.RowKit
noncomputable section
--P Try.prog G0

/-- The first timers of the backlog, taken. -/
def tkN (now : Int) : Nat → RL × RL → (RL × RL) × RL
  | 0, p => (p, [])
  | n + 1, p => if 0 < gC p.1 2048 2 then ((tkN now n (dpW now p (gC p.1 2048 0 - 1).toNat)).1, [gC p.1 2048 0 - 1] :: (tkN now n (dpW now p (gC p.1 2048 0 - 1).toNat)).2) else (p, [])
def nTk (xs : List Int) : Nat := (env xs 6 - ((dc (env xs 7)).length : Int)).toNat
def tkR (xs : List Int) : (RL × RL) × RL := tkN (env xs 1) (nTk xs) (SW xs, TW xs)
def fnTk (j : Nat) (xs : List Int) : Int := match j with
  | 0 => if (tkR xs).2 = [] then env xs 0 else cd (tkR xs).1.1
  | 1 => env xs 1
  | 2 => env xs 2
  | 3 => env xs 3 - ((tkR xs).2.length : Int)
  | 4 => env xs 4
  | 5 => if (tkR xs).2 = [] then env xs 5 else cd (tkR xs).1.2
  | _ => if (tkR xs).2 = [] then env xs 7 else cd (dc (env xs 7) ++ (tkR xs).2)
def preTk (xs : List Int) : Prop := (∃ Q w, WOK (env xs 1) (env xs 2) (env xs 3) (SW xs) (TW xs) Q w) ∧ ((dc (env xs 7)).length : Int) + env xs 3 ≤ 8192
def pTk : List Bool := [true,true,true,false,false]
def leTk : LEnt := ⟨⟨9017, 999999, [wsh, i64, lio], [wob], [], .tup [lio], fnTk, preTk⟩, [0, 1, 6], [6], (List.range 29).map (· + 13), [.ex 1], 43, []⟩
def muTk (xs : List Int) : Nat := nTk xs
def pTi : List Bool := [true,true,true,true,true,false,false]
def nTi (xs : List Int) : Nat := (env xs 2 - env xs 6).toNat
def mvR (xs : List Int) : (RL × RL) × Int := mvN (env xs 1) (nTi xs) (SW xs, TW xs)
def fnTi (j : Nat) (xs : List Int) : Int := match j with
  | 0 => if (mvR xs).2 = 0 then env xs 0 else cd (mvR xs).1.1
  | 1 => env xs 1
  | 2 => env xs 2
  | 3 => env xs 3
  | 4 => env xs 4
  | 5 => if (mvR xs).2 = 0 then env xs 5 else cd (mvR xs).1.2
  | _ => env xs 6 + (mvR xs).2
def preTi (xs : List Int) : Prop := (∃ Q w, WOK (env xs 1) (env xs 2) (env xs 3) (SW xs) (TW xs) Q w) ∧ 0 ≤ env xs 6 ∧ env xs 6 ≤ env xs 2
def muTi (xs : List Int) : Nat := nTi xs
def leTi : LEnt := ⟨⟨9015, 999999, [wsh, i64], [wob], [], .tup [i64], fnTi, preTi⟩, [0, 4], [4], [5, 6] ++ (List.range 30).map (· + 35), [.ex 1], 74, []⟩
def pMv : List Bool := [true,true,true,true,true,false,false,false,true,false,false,true,true]
/-- The first timer that waits is moved. -/
def fnMv (j : Nat) (xs : List Int) : Int := match j with
  | 0 => cd (mvW (env xs 1) (SW xs, TW xs)).1
  | 1 => env xs 1
  | 2 => env xs 2
  | 3 => env xs 3
  | 4 => env xs 4
  | _ => cd (mvW (env xs 1) (SW xs, TW xs)).2
def preMv (xs : List Int) : Prop := (∃ Q w, WOK (env xs 1) (env xs 2) (env xs 3) (SW xs) (TW xs) Q w) ∧ wtF (SW xs) (env xs 1) = env xs 6 ∧ env xs 6 ≠ 0
def leMv : LEnt := ⟨⟨9115, 999999, [wsh, i64], [wob], [], .tup [], fnMv, preMv⟩, [0, 5], [], 6 :: (List.range 18).map (· + 47), [.nrm], 74, []⟩
def cG : Ctx := ⟨[e48, e49, e51], []⟩
def cM : Ctx := ⟨[e48, e49], []⟩
def cN : Ctx := ⟨[e51], [(15, pMv, leMv)]⟩

def q_LTk_0 : E := (.and (.cmp .lss (.app (.i .i64) 0 0 [(.var .x 7)]) (.var (.i .i64) 6)) (.cmp .gtr (.app (.i .i64) 0 1 [(.var .x 0), (.lit (.i .i64) 2048), (.lit .x 2)]) (.lit (.i .i64) 0)))
def q_LTk_1 : E := (.not q_LTk_0)
def q_LTk_2 : E := (.bin .sub .i64 (.app (.i .i64) 0 1 [(.var .x 0), (.lit (.i .i64) 2048), (.lit .x 0)]) (.lit (.i .i64) 1))
def q_LTk_3 : E := (.app .x 0 4 [(.var .x 7), (.app .x 0 3 [(.app .x 0 2 []), q_LTk_2])])
def q_LTk_4 : E := (.app .x 48 0 [(.var .x 0), (.var (.i .i64) 1), (.var (.i .i64) 2), (.var (.i .i64) 3), (.var (.i .i64) 4), (.var .x 5), q_LTk_2])
def q_LTk_5 : E := (.app (.i .i64) 48 1 [(.var .x 0), (.var (.i .i64) 1), (.var (.i .i64) 2), (.var (.i .i64) 3), (.var (.i .i64) 4), (.var .x 5), q_LTk_2])
def q_LTk_6 : E := (.app (.i .i64) 48 2 [(.var .x 0), (.var (.i .i64) 1), (.var (.i .i64) 2), (.var (.i .i64) 3), (.var (.i .i64) 4), (.var .x 5), q_LTk_2])
def q_LTk_7 : E := (.app (.i .i64) 48 3 [(.var .x 0), (.var (.i .i64) 1), (.var (.i .i64) 2), (.var (.i .i64) 3), (.var (.i .i64) 4), (.var .x 5), q_LTk_2])
def q_LTk_8 : E := (.app (.i .i64) 48 4 [(.var .x 0), (.var (.i .i64) 1), (.var (.i .i64) 2), (.var (.i .i64) 3), (.var (.i .i64) 4), (.var .x 5), q_LTk_2])
def q_LTk_9 : E := (.app .x 48 5 [(.var .x 0), (.var (.i .i64) 1), (.var (.i .i64) 2), (.var (.i .i64) 3), (.var (.i .i64) 4), (.var .x 5), q_LTk_2])
def ob_LTk : E := (.and (.and (.and (.or (.not (.cmp .lss (.app (.i .i64) 0 0 [(.var .x 7)]) (.var (.i .i64) 6))) (.cmp .lss (.lit (.i .i64) 2048) (.app (.i .i64) 0 0 [(.var .x 0)]))) (.or q_LTk_1 (.and (.and (.cmp .lss (.lit (.i .i64) 2048) (.app (.i .i64) 0 0 [(.var .x 0)])) (.cmp .leq (.app .x 0 0 [q_LTk_3]) (.lit .x 17592186044416))) (.and (.cmp .lss (.lit (.i .i64) 2048) (.app (.i .i64) 0 0 [(.var .x 0)])) (.app .b 48 1000000 [(.var .x 0), (.var (.i .i64) 1), (.var (.i .i64) 2), (.var (.i .i64) 3), (.var (.i .i64) 4), (.var .x 5), q_LTk_2]))))) (.or q_LTk_1 (.app .b 9017 1000000 [q_LTk_4, q_LTk_5, q_LTk_6, q_LTk_7, q_LTk_8, q_LTk_9, (.var (.i .i64) 6), q_LTk_3]))) (.or (.not (.or q_LTk_1 q_LTk_0)) (.ite q_LTk_1 q_LTk_1 q_LTk_0)))
def es_LTk : List E := [(.ite q_LTk_1 (.var .x 0) (.app .x 9017 0 [q_LTk_4, q_LTk_5, q_LTk_6, q_LTk_7, q_LTk_8, q_LTk_9, (.var (.i .i64) 6), q_LTk_3])), (.ite q_LTk_1 (.var (.i .i64) 1) (.app (.i .i64) 9017 1 [q_LTk_4, q_LTk_5, q_LTk_6, q_LTk_7, q_LTk_8, q_LTk_9, (.var (.i .i64) 6), q_LTk_3])), (.ite q_LTk_1 (.var (.i .i64) 2) (.app (.i .i64) 9017 2 [q_LTk_4, q_LTk_5, q_LTk_6, q_LTk_7, q_LTk_8, q_LTk_9, (.var (.i .i64) 6), q_LTk_3])), (.ite q_LTk_1 (.var (.i .i64) 3) (.app (.i .i64) 9017 3 [q_LTk_4, q_LTk_5, q_LTk_6, q_LTk_7, q_LTk_8, q_LTk_9, (.var (.i .i64) 6), q_LTk_3])), (.ite q_LTk_1 (.var (.i .i64) 4) (.app (.i .i64) 9017 4 [q_LTk_4, q_LTk_5, q_LTk_6, q_LTk_7, q_LTk_8, q_LTk_9, (.var (.i .i64) 6), q_LTk_3])), (.ite q_LTk_1 (.var .x 5) (.app .x 9017 5 [q_LTk_4, q_LTk_5, q_LTk_6, q_LTk_7, q_LTk_8, q_LTk_9, (.var (.i .i64) 6), q_LTk_3])), (.ite q_LTk_1 (.var .x 7) (.app .x 9017 6 [q_LTk_4, q_LTk_5, q_LTk_6, q_LTk_7, q_LTk_8, q_LTk_9, (.var (.i .i64) 6), q_LTk_3]))]
theorem ev_LTk : evL Try.prog G0 (tabOf cG.fs) (evFn Try.prog G0 (tabOf cG.fs) (ltOf cG.ls) 40 10) 40 (subL cG.ls 17 pTk) leTk (bodyAt Try.prog 17 pTk) = some (ob_LTk, es_LTk) := by kernel_rfl

def q_CMv_0 : E := (.app .x 48 0 [(.var .x 0), (.var (.i .i64) 1), (.var (.i .i64) 2), (.var (.i .i64) 3), (.var (.i .i64) 4), (.var .x 5), (.bin .sub .i64 (.var (.i .i64) 6) (.lit (.i .i64) 1))])
def q_CMv_1 : E := (.app (.i .i64) 48 1 [(.var .x 0), (.var (.i .i64) 1), (.var (.i .i64) 2), (.var (.i .i64) 3), (.var (.i .i64) 4), (.var .x 5), (.bin .sub .i64 (.var (.i .i64) 6) (.lit (.i .i64) 1))])
def q_CMv_2 : E := (.app (.i .i64) 48 2 [(.var .x 0), (.var (.i .i64) 1), (.var (.i .i64) 2), (.var (.i .i64) 3), (.var (.i .i64) 4), (.var .x 5), (.bin .sub .i64 (.var (.i .i64) 6) (.lit (.i .i64) 1))])
def q_CMv_3 : E := (.app (.i .i64) 48 3 [(.var .x 0), (.var (.i .i64) 1), (.var (.i .i64) 2), (.var (.i .i64) 3), (.var (.i .i64) 4), (.var .x 5), (.bin .sub .i64 (.var (.i .i64) 6) (.lit (.i .i64) 1))])
def q_CMv_4 : E := (.app (.i .i64) 48 4 [(.var .x 0), (.var (.i .i64) 1), (.var (.i .i64) 2), (.var (.i .i64) 3), (.var (.i .i64) 4), (.var .x 5), (.bin .sub .i64 (.var (.i .i64) 6) (.lit (.i .i64) 1))])
def q_CMv_5 : E := (.app .x 48 5 [(.var .x 0), (.var (.i .i64) 1), (.var (.i .i64) 2), (.var (.i .i64) 3), (.var (.i .i64) 4), (.var .x 5), (.bin .sub .i64 (.var (.i .i64) 6) (.lit (.i .i64) 1))])
def q_CMv_6 : E := (.app (.i .i64) 0 1 [(.var .x 5), (.bin .sub .i64 (.var (.i .i64) 6) (.lit (.i .i64) 1)), (.lit .x 4)])
def ob_CMv : E := (.and (.and (.cmp .geq (.bin .sub .i64 (.var (.i .i64) 6) (.lit (.i .i64) 1)) (.lit (.i .i64) 0)) (.cmp .lss (.bin .sub .i64 (.var (.i .i64) 6) (.lit (.i .i64) 1)) (.app (.i .i64) 0 0 [(.var .x 5)]))) (.and (.app .b 48 1000000 [(.var .x 0), (.var (.i .i64) 1), (.var (.i .i64) 2), (.var (.i .i64) 3), (.var (.i .i64) 4), (.var .x 5), (.bin .sub .i64 (.var (.i .i64) 6) (.lit (.i .i64) 1))]) (.app .b 49 1000000 [q_CMv_0, q_CMv_1, q_CMv_2, q_CMv_3, q_CMv_4, q_CMv_5, (.bin .sub .i64 (.var (.i .i64) 6) (.lit (.i .i64) 1)), q_CMv_6])))
def es_CMv : List E := [(.app .x 49 0 [q_CMv_0, q_CMv_1, q_CMv_2, q_CMv_3, q_CMv_4, q_CMv_5, (.bin .sub .i64 (.var (.i .i64) 6) (.lit (.i .i64) 1)), q_CMv_6]), (.app (.i .i64) 49 1 [q_CMv_0, q_CMv_1, q_CMv_2, q_CMv_3, q_CMv_4, q_CMv_5, (.bin .sub .i64 (.var (.i .i64) 6) (.lit (.i .i64) 1)), q_CMv_6]), (.app (.i .i64) 49 2 [q_CMv_0, q_CMv_1, q_CMv_2, q_CMv_3, q_CMv_4, q_CMv_5, (.bin .sub .i64 (.var (.i .i64) 6) (.lit (.i .i64) 1)), q_CMv_6]), (.app (.i .i64) 49 3 [q_CMv_0, q_CMv_1, q_CMv_2, q_CMv_3, q_CMv_4, q_CMv_5, (.bin .sub .i64 (.var (.i .i64) 6) (.lit (.i .i64) 1)), q_CMv_6]), (.app (.i .i64) 49 4 [q_CMv_0, q_CMv_1, q_CMv_2, q_CMv_3, q_CMv_4, q_CMv_5, (.bin .sub .i64 (.var (.i .i64) 6) (.lit (.i .i64) 1)), q_CMv_6]), (.app .x 49 5 [q_CMv_0, q_CMv_1, q_CMv_2, q_CMv_3, q_CMv_4, q_CMv_5, (.bin .sub .i64 (.var (.i .i64) 6) (.lit (.i .i64) 1)), q_CMv_6])]
theorem ev_CMv : evP Try.prog G0 (tabOf cM.fs) (evFn Try.prog G0 (tabOf cM.fs) (ltOf cM.ls) 40 10) 40 (subP cM.ls 15 pMv) leMv (codeAtF Try.prog 15 pMv) = some (ob_CMv, es_CMv) := by kernel_rfl

def q_LTi_0 : E := (.app (.i .i64) 51 0 [(.var .x 0), (.var (.i .i64) 1), (.var (.i .i64) 2), (.var (.i .i64) 3), (.var (.i .i64) 4), (.var .x 5)])
def q_LTi_1 : E := (.cmp .eql q_LTi_0 (.lit (.i .i64) 0))
def q_LTi_2 : E := (.and (.cmp .lss (.var (.i .i64) 6) (.var (.i .i64) 2)) (.not q_LTi_1))
def q_LTi_3 : E := (.app .x 9115 0 [(.var .x 0), (.var (.i .i64) 1), (.var (.i .i64) 2), (.var (.i .i64) 3), (.var (.i .i64) 4), (.var .x 5), q_LTi_0])
def q_LTi_4 : E := (.app (.i .i64) 9115 1 [(.var .x 0), (.var (.i .i64) 1), (.var (.i .i64) 2), (.var (.i .i64) 3), (.var (.i .i64) 4), (.var .x 5), q_LTi_0])
def q_LTi_5 : E := (.app (.i .i64) 9115 2 [(.var .x 0), (.var (.i .i64) 1), (.var (.i .i64) 2), (.var (.i .i64) 3), (.var (.i .i64) 4), (.var .x 5), q_LTi_0])
def q_LTi_6 : E := (.app (.i .i64) 9115 3 [(.var .x 0), (.var (.i .i64) 1), (.var (.i .i64) 2), (.var (.i .i64) 3), (.var (.i .i64) 4), (.var .x 5), q_LTi_0])
def q_LTi_7 : E := (.app (.i .i64) 9115 4 [(.var .x 0), (.var (.i .i64) 1), (.var (.i .i64) 2), (.var (.i .i64) 3), (.var (.i .i64) 4), (.var .x 5), q_LTi_0])
def q_LTi_8 : E := (.app .x 9115 5 [(.var .x 0), (.var (.i .i64) 1), (.var (.i .i64) 2), (.var (.i .i64) 3), (.var (.i .i64) 4), (.var .x 5), q_LTi_0])
def q_LTi_9 : E := (.or (.not (.cmp .lss (.var (.i .i64) 6) (.var (.i .i64) 2))) (.and (.cmp .lss (.var (.i .i64) 6) (.var (.i .i64) 2)) q_LTi_1))
def ob_LTi : E := (.and (.and (.or (.not (.cmp .lss (.var (.i .i64) 6) (.var (.i .i64) 2))) (.and (.app .b 51 1000000 [(.var .x 0), (.var (.i .i64) 1), (.var (.i .i64) 2), (.var (.i .i64) 3), (.var (.i .i64) 4), (.var .x 5)]) (.or q_LTi_1 (.app .b 9115 1000000 [(.var .x 0), (.var (.i .i64) 1), (.var (.i .i64) 2), (.var (.i .i64) 3), (.var (.i .i64) 4), (.var .x 5), q_LTi_0])))) (.or (.not q_LTi_2) (.app .b 9015 1000000 [q_LTi_3, q_LTi_4, q_LTi_5, q_LTi_6, q_LTi_7, q_LTi_8, (.bin .add .i64 (.var (.i .i64) 6) (.lit (.i .i64) 1))]))) (.or (.not (.or q_LTi_9 q_LTi_2)) (.ite q_LTi_9 q_LTi_9 (.not q_LTi_9))))
def es_LTi : List E := [(.ite q_LTi_9 (.var .x 0) (.app .x 9015 0 [q_LTi_3, q_LTi_4, q_LTi_5, q_LTi_6, q_LTi_7, q_LTi_8, (.bin .add .i64 (.var (.i .i64) 6) (.lit (.i .i64) 1))])), (.ite q_LTi_9 (.var (.i .i64) 1) (.app (.i .i64) 9015 1 [q_LTi_3, q_LTi_4, q_LTi_5, q_LTi_6, q_LTi_7, q_LTi_8, (.bin .add .i64 (.var (.i .i64) 6) (.lit (.i .i64) 1))])), (.ite q_LTi_9 (.var (.i .i64) 2) (.app (.i .i64) 9015 2 [q_LTi_3, q_LTi_4, q_LTi_5, q_LTi_6, q_LTi_7, q_LTi_8, (.bin .add .i64 (.var (.i .i64) 6) (.lit (.i .i64) 1))])), (.ite q_LTi_9 (.var (.i .i64) 3) (.app (.i .i64) 9015 3 [q_LTi_3, q_LTi_4, q_LTi_5, q_LTi_6, q_LTi_7, q_LTi_8, (.bin .add .i64 (.var (.i .i64) 6) (.lit (.i .i64) 1))])), (.ite q_LTi_9 (.var (.i .i64) 4) (.app (.i .i64) 9015 4 [q_LTi_3, q_LTi_4, q_LTi_5, q_LTi_6, q_LTi_7, q_LTi_8, (.bin .add .i64 (.var (.i .i64) 6) (.lit (.i .i64) 1))])), (.ite q_LTi_9 (.var .x 5) (.app .x 9015 5 [q_LTi_3, q_LTi_4, q_LTi_5, q_LTi_6, q_LTi_7, q_LTi_8, (.bin .add .i64 (.var (.i .i64) 6) (.lit (.i .i64) 1))])), (.ite q_LTi_9 (.var (.i .i64) 6) (.app (.i .i64) 9015 6 [q_LTi_3, q_LTi_4, q_LTi_5, q_LTi_6, q_LTi_7, q_LTi_8, (.bin .add .i64 (.var (.i .i64) 6) (.lit (.i .i64) 1))]))]
theorem ev_LTi : evL Try.prog G0 (tabOf cN.fs) (evFn Try.prog G0 (tabOf cN.fs) (ltOf cN.ls) 40 10) 40 (subL cN.ls 15 pTi) leTi (bodyAt Try.prog 15 pTi) = some (ob_LTi, es_LTi) := by kernel_rfl

theorem cGok : cG.OK Try.prog G0 := ((Ctx.OK.nil.addF ok51 rfl).addF ok49 rfl).addF ok48 rfl
theorem cMok : cM.OK Try.prog G0 := (Ctx.OK.nil.addF ok49 rfl).addF ok48 rfl
theorem mvW_eq {S T : RL} {now : Int} {i : Nat} (h : wtF S now = (i : Int) + 1) : mvW now (S, T) = ptW now (gC T i 4) (dpW now (S, T) i) i := by
  have e : (wtF S now - 1).toNat = i := by omega
  show (putS (dropS S (locI now T (wtF S now - 1).toNat).toNat (gC T (wtF S now - 1).toNat 2) (gC T (wtF S now - 1).toNat 3)) _ _, _) = _
  rw [e]; rfl

theorem okMv : ItemOK Try.prog G0 15 pMv leMv := by
  refine cMok.pieceP mixed ?_ ev_CMv _ rfl _ rfl ?_
  · exact ⟨_, _, _, Try.func15, rfl, rfl⟩
  intro xs hf hp
  obtain ⟨l, hl, hF⟩ := ctx_P (l0 := cM.l)
  show ob_CMv.tt cM.l.F _ = true ∧ outsP leMv.ent.fn _ cM.l.F _ _ _ _
  rw [hl]
  have F48 := FC (k := 48) rfl (hF e48 (by rfl) (by decide))
  have F49 := FC (k := 49) rfl (hF e49 (by rfl) (by decide))
  have hSS := And.intro F48 F49
  obtain ⟨S, now, bu, le, mo, T, k, rfl⟩ := fits7 hf
  obtain ⟨h0, h1, h2, h3, h4, h5, h6, _⟩ := hf
  simp only [norm_i, norm_x] at h1 h2 h3 h4 h6
  obtain ⟨⟨Q, w, p1⟩, p2, p3⟩ := hp
  replace p1 : WOK now bu le (dc S) (dc T) Q w := p1
  replace p2 : wtF (dc S) now = k := p2
  replace p3 : k ≠ 0 := p3
  obtain ⟨i, g1, g2, g3⟩ := p1.wait_pos (by rw [p2]; exact p3)
  have hle := p1.le_rng
  have hct := p1.ct
  have htm := p1.tm
  have hdr := p1.dr i g2
  have hwi := (waits_iff.1 g3).1
  have ek : k - 1 = (i : Int) := by omega
  have wk : IntKind.i64.wrap (k - 1) = (i : Int) := by rw [i64w (by omega) (by omega)]; exact ek
  have en : ((i : Int)).toNat = i := by omega
  have c4 := rowsC p1.rT (i := i) (j := 4) (by omega) rfl
  have w3 : IntKind.i64.wrap (le - 1) = le - 1 := i64w (by omega) (by omega)
  have w5 : IntKind.i64.wrap (le - 1 + 1) = le := by rw [i64w (by omega) (by omega)]; omega
  have y := y48 (mo := mo) (i := (i : Int)) p1 (by omega) (by rw [en]; omega)
  obtain ⟨A, B, _, k1, k2, k3, k4⟩ := p1.drop (i := i) g2 (by omega)
  obtain ⟨S1, eS⟩ : ∃ S1, S1 = cd (dpW now (dc S, dc T) i).1 := ⟨_, rfl⟩
  obtain ⟨T1, eT⟩ : ∃ T1, T1 = cd (dpW now (dc S, dc T) i).2 := ⟨_, rfl⟩
  have dS : dc S1 = (dpW now (dc S, dc T) i).1 := by rw [eS, dc_cd]
  have dT : dc T1 = (dpW now (dc S, dc T) i).2 := by rw [eT, dc_cd]
  have y' : e49.pre [S1, now, bu, le - 1, mo, T1, (i : Int), gC (dc T) i 4] := by
    refine y49 (Q := _) (w := _) (by rw [dS, dT]; exact k1) (by rw [dT]; exact ⟨by omega, by rw [show (dpW now (dc S, dc T) i).2.length = (dc T).length from k2]; omega⟩) (by rw [dT, en]; exact k4) (by omega)
  have e1 : leMv.ent.fn = fnMv := rfl
  have em := mvW_eq (T := dc T) (by rw [p2]; omega : wtF (dc S) now = (i : Int) + 1)
  refine ⟨?_, ?_, ?_, ?_, ?_, ?_, ?_, trivial⟩
  all_goals simp (disch := omega) only [ob_CMv, q_CMv_0, q_CMv_1, q_CMv_2, q_CMv_3, q_CMv_4, q_CMv_5, q_CMv_6, es_CMv, e1, fnMv, em, SW, TW, ewA, ewL, preC, binI, dvI, shI, cmpB, env, bi, List.headD, List.tail, List.map, Nat.reduceAdd, ewB, ewM, if_true, if_false, implies_true, forall_const, ne_eq, reduceCtorEq, Int.reduceEq, Int.reduceLT, Int.reduceLE, Int.reduceToNat, Int.reduceAdd, Int.reduceSub, Int.reduceMul, Int.reduceNeg, Int.reduceBEq, Nat.reduceLT, Nat.reduceEqDiff, hSS, h1, h2, h3, h4, h6, wk, gC_def, c4, en, y, w3, w5, f48_0, f48_1, f48_2, f48_3, f48_4, f48_5, ← eS, ← eT, y', f49_0, f49_1, f49_2, f49_3, f49_4, f49_5, dS, dT]
  omega

theorem cNok : cN.OK Try.prog G0 := Ctx.OK.addL (c := ⟨[e51], []⟩) (Ctx.OK.nil.addF ok51 rfl) okMv rfl
theorem mvN_nn {now : Int} : ∀ (n : Nat) (p : RL × RL), 0 ≤ (mvN now n p).2
  | 0, _ => Int.le_refl _
  | n + 1, p => by
    by_cases hz : wtF p.1 now = 0
    · simp only [mvN, if_pos hz]; exact Int.le_refl _
    · simp only [mvN, if_neg hz]
      have := mvN_nn n (mvW now p) (now := now)
      omega
theorem mvN_le {now : Int} : ∀ (n : Nat) (p : RL × RL), (mvN now n p).2 ≤ (n : Int)
  | 0, _ => Int.le_refl _
  | n + 1, p => by
    by_cases hz : wtF p.1 now = 0
    · simp only [mvN, if_pos hz]; omega
    · simp only [mvN, if_neg hz]
      have := mvN_le n (mvW now p) (now := now)
      omega
theorem mvN_zero {now : Int} : ∀ {n : Nat} {p : RL × RL}, (mvN now n p).2 = 0 → (mvN now n p).1 = p
  | 0, _, _ => rfl
  | n + 1, p, h => by
    by_cases hz : wtF p.1 now = 0
    · simp only [mvN, if_pos hz]
    · simp only [mvN, if_neg hz] at h
      have := mvN_nn n (mvW now p) (now := now)
      omega
theorem y51 {S now bu le mo T w : Int} {Q : Nat → List Nat} (h : WOK now bu le (dc S) (dc T) Q w) : e51.pre [S, now, bu, le, mo, T] := ⟨h.rS, h.lk.sw.1, h.tm⟩

theorem okTi : ItemOK Try.prog G0 15 pTi leTi := by
  refine cNok.loopP mixed muTi rfl ?_ ev_LTi _ rfl _ rfl ?_
  · exact ⟨_, _, _, Try.func15, rfl, rfl⟩
  intro n xs hf hp hmu
  obtain ⟨l, hl, hS, hF⟩ := self_P leTi muTi n cN.l (by decide)
  show ob_LTi.tt (Tabs.F (enL leTi muTi n :: cN.l)) _ = true ∧ outsP leTi.ent.fn _ (Tabs.F (enL leTi muTi n :: cN.l)) _ _ _ _
  rw [hl]
  have F51 := FC (k := 51) rfl (hF e51 (by rfl) (by decide) (by decide))
  have F9015 := FC (k := 9015) rfl hS
  have F9115 := FC (k := 9115) rfl (hF leMv.ent (by rfl) (by decide) (by decide))
  have hSS := And.intro F51 (And.intro F9015 F9115)
  obtain ⟨S, now, bu, le, mo, T, k, rfl⟩ := fits7 hf
  obtain ⟨h0, h1, h2, h3, h4, h5, h6, _⟩ := hf
  simp only [norm_i, norm_x] at h1 h2 h3 h4 h6
  obtain ⟨⟨Q, w, p1⟩, p2, p3⟩ := hp
  replace p1 : WOK now bu le (dc S) (dc T) Q w := p1
  replace p2 : 0 ≤ k := p2
  replace p3 : k ≤ bu := p3
  replace hmu : (bu - k).toNat ≤ n := hmu
  have hbg := p1.bg
  have e1 : leTi.ent.fn = fnTi := rfl
  have e2 : leTi.ent.pre = preTi := rfl
  have f51 : e51.fn 0 [S, now, bu, le, mo, T] = wtF (dc S) now := rfl
  have y := y51 (mo := mo) p1
  have w1 : IntKind.i64.wrap (k + 1) = k + 1 := i64w (by omega) (by omega)
  by_cases hk : k < bu
  · have en : nTi [S, now, bu, le, mo, T, k] = nTi [S, now, bu, le, mo, T, k + 1] + 1 := by
      show (bu - k).toNat = (bu - (k + 1)).toNat + 1
      omega
    by_cases hz : wtF (dc S) now = 0
    · have hr : mvR [S, now, bu, le, mo, T, k] = ((dc S, dc T), 0) := by
        unfold mvR; rw [en]; exact if_pos hz
      refine ⟨?_, ?_, ?_, ?_, ?_, ?_, ?_, ?_, trivial⟩
      all_goals simp (disch := omega) only [ob_LTi, q_LTi_0, q_LTi_1, q_LTi_2, q_LTi_3, q_LTi_4, q_LTi_5, q_LTi_6, q_LTi_7, q_LTi_8, q_LTi_9, es_LTi, e1, fnTi, hr, ewA, ewL, preC, binI, dvI, shI, cmpB, env, bi, List.headD, List.tail, List.map, Nat.reduceAdd, ewB, ewM, if_true, if_false, implies_true, forall_const, ne_eq, reduceCtorEq, Int.reduceEq, Int.reduceLT, Int.reduceLE, Int.reduceToNat, Int.reduceAdd, Int.reduceSub, Int.reduceMul, Int.reduceNeg, Int.reduceBEq, Nat.reduceLT, Nat.reduceEqDiff, hSS, h1, h2, h3, h4, h6, hk, f51, hz, y]
      all_goals omega
    · obtain ⟨i, g1, g2, g3⟩ := p1.wait_pos hz
      obtain ⟨Q', m1, m2, _⟩ := p1.move g1 g2 g3
      have ym : leMv.ent.pre [S, now, bu, le, mo, T, wtF (dc S) now] := ⟨⟨Q, w, p1⟩, rfl, hz⟩
      have wz : IntKind.i64.wrap (wtF (dc S) now) = wtF (dc S) now := by rw [g1]; have := p1.ct; exact i64w (by omega) (by omega)
      obtain ⟨S1, eS⟩ : ∃ S1, S1 = cd (mvW now (dc S, dc T)).1 := ⟨_, rfl⟩
      obtain ⟨T1, eT⟩ : ∃ T1, T1 = cd (mvW now (dc S, dc T)).2 := ⟨_, rfl⟩
      have dS : dc S1 = (mvW now (dc S, dc T)).1 := by rw [eS, dc_cd]
      have dT : dc T1 = (mvW now (dc S, dc T)).2 := by rw [eT, dc_cd]
      have m0 : leMv.ent.fn 0 [S, now, bu, le, mo, T, wtF (dc S) now] = S1 := eS.symm
      have m5 : leMv.ent.fn 5 [S, now, bu, le, mo, T, wtF (dc S) now] = T1 := eT.symm
      have n1 : leMv.ent.fn 1 [S, now, bu, le, mo, T, wtF (dc S) now] = now := rfl
      have n2 : leMv.ent.fn 2 [S, now, bu, le, mo, T, wtF (dc S) now] = bu := rfl
      have n3 : leMv.ent.fn 3 [S, now, bu, le, mo, T, wtF (dc S) now] = le := rfl
      have n4 : leMv.ent.fn 4 [S, now, bu, le, mo, T, wtF (dc S) now] = mo := rfl
      have yl : leTi.ent.pre [S1, now, bu, le, mo, T1, k + 1] := ⟨⟨Q', w - 1, by
        show WOK now bu le (dc S1) (dc T1) _ _
        rw [dS, dT]; exact m1⟩, by show 0 ≤ k + 1; omega, by show k + 1 ≤ bu; omega⟩
      have hr : mvR [S, now, bu, le, mo, T, k] = ((mvR [S1, now, bu, le, mo, T1, k + 1]).1, (mvR [S1, now, bu, le, mo, T1, k + 1]).2 + 1) := by
        have hs : mvR [S1, now, bu, le, mo, T1, k + 1] = mvN now (nTi [S, now, bu, le, mo, T, k + 1]) (mvW now (dc S, dc T)) := by
          show mvN now _ (dc S1, dc T1) = _
          rw [dS, dT]; rfl
        rw [hs]; unfold mvR; rw [en]; exact if_neg hz
      obtain ⟨R, hR⟩ : ∃ R, R = mvR [S1, now, bu, le, mo, T1, k + 1] := ⟨_, rfl⟩
      have hnn : 0 ≤ R.2 := by rw [hR]; exact mvN_nn _ _
      have hle : R.2 ≤ (bu - (k + 1)).toNat := by rw [hR]; exact mvN_le _ _
      have hst : R.2 = 0 → R.1 = (dc S1, dc T1) := fun h => by rw [hR] at h ⊢; exact mvN_zero h
      have q0 : leTi.ent.fn 0 [S1, now, bu, le, mo, T1, k + 1] = cd R.1.1 := by
        show (if (mvR [S1, now, bu, le, mo, T1, k + 1]).2 = 0 then S1 else cd (mvR [S1, now, bu, le, mo, T1, k + 1]).1.1) = _
        rw [← hR]
        by_cases hc : R.2 = 0
        · rw [if_pos hc, hst hc, dS, eS]
        · rw [if_neg hc]
      have q5 : leTi.ent.fn 5 [S1, now, bu, le, mo, T1, k + 1] = cd R.1.2 := by
        show (if (mvR [S1, now, bu, le, mo, T1, k + 1]).2 = 0 then T1 else cd (mvR [S1, now, bu, le, mo, T1, k + 1]).1.2) = _
        rw [← hR]
        by_cases hc : R.2 = 0
        · rw [if_pos hc, hst hc, dT, eT]
        · rw [if_neg hc]
      have q6 : leTi.ent.fn 6 [S1, now, bu, le, mo, T1, k + 1] = k + 1 + R.2 := by
        show k + 1 + (mvR [S1, now, bu, le, mo, T1, k + 1]).2 = _
        rw [← hR]
      have q1 : leTi.ent.fn 1 [S1, now, bu, le, mo, T1, k + 1] = now := rfl
      have q2 : leTi.ent.fn 2 [S1, now, bu, le, mo, T1, k + 1] = bu := rfl
      have q3 : leTi.ent.fn 3 [S1, now, bu, le, mo, T1, k + 1] = le := rfl
      have q4 : leTi.ent.fn 4 [S1, now, bu, le, mo, T1, k + 1] = mo := rfl
      rw [← hR] at hr
      have hr0 : ¬ (R.2 + 1 = 0) := by omega
      have w6 : IntKind.i64.wrap (k + 1 + R.2) = k + 1 + R.2 := i64w (by omega) (by omega)
      have ymu : muTi [S1, now, bu, le, mo, T1, k + 1] < muTi [S, now, bu, le, mo, T, k] := by
        show nTi _ < nTi _
        rw [en]; exact Nat.lt_succ_self _
      refine ⟨?_, ?_, ?_, ?_, ?_, ?_, ?_, ?_, trivial⟩
      all_goals simp (disch := omega) only [ob_LTi, q_LTi_0, q_LTi_1, q_LTi_2, q_LTi_3, q_LTi_4, q_LTi_5, q_LTi_6, q_LTi_7, q_LTi_8, q_LTi_9, es_LTi, e1, fnTi, hr, hr0, ewA, ewL, preC, binI, dvI, shI, cmpB, env, bi, List.headD, List.tail, List.map, Nat.reduceAdd, ewB, ewM, if_true, if_false, implies_true, forall_const, ne_eq, reduceCtorEq, Int.reduceEq, Int.reduceLT, Int.reduceLE, Int.reduceToNat, Int.reduceAdd, Int.reduceSub, Int.reduceMul, Int.reduceNeg, Int.reduceBEq, Nat.reduceLT, Nat.reduceEqDiff, hSS, h1, h2, h3, h4, h6, hk, f51, hz, y, ym, wz, w1, m0, n1, n2, n3, n4, m5, yl, q0, q1, q2, q3, q4, q5, q6, w6]
      all_goals (first | exact Nat.lt_of_lt_of_le ymu hmu | omega)
  · have hr : mvR [S, now, bu, le, mo, T, k] = ((dc S, dc T), 0) := by
      unfold mvR
      rw [show nTi [S, now, bu, le, mo, T, k] = 0 by show (bu - k).toNat = 0; omega]; rfl
    refine ⟨?_, ?_, ?_, ?_, ?_, ?_, ?_, ?_, trivial⟩
    all_goals simp (disch := omega) only [ob_LTi, q_LTi_0, q_LTi_1, q_LTi_2, q_LTi_3, q_LTi_4, q_LTi_5, q_LTi_6, q_LTi_7, q_LTi_8, q_LTi_9, es_LTi, e1, fnTi, hr, ewA, ewL, preC, binI, dvI, shI, cmpB, env, bi, List.headD, List.tail, List.map, Nat.reduceAdd, ewB, ewM, if_true, if_false, implies_true, forall_const, ne_eq, reduceCtorEq, Int.reduceEq, Int.reduceLT, Int.reduceLE, Int.reduceToNat, Int.reduceAdd, Int.reduceSub, Int.reduceMul, Int.reduceNeg, Int.reduceBEq, Nat.reduceLT, Nat.reduceEqDiff, hSS, h1, h2, h3, h4, h6, hk, f51, y]
    all_goals omega

theorem tkN_zero {now : Int} : ∀ {n : Nat} {p : RL × RL}, (tkN now n p).2 = [] → (tkN now n p).1 = p
  | 0, _, _ => rfl
  | n + 1, p, h => by
    by_cases hz : 0 < gC p.1 2048 2
    · simp only [tkN, if_pos hz] at h
      exact absurd h (by simp)
    · simp only [tkN, if_neg hz]

theorem tkN_ok {now bu : Int} : ∀ (n : Nat) (p : RL × RL) (Q : Nat → List Nat) (le w : Int), WOK now bu le p.1 p.2 Q w →
    ∃ Q', WOK now bu (le - ((tkN now n p).2.length : Int)) (tkN now n p).1.1 (tkN now n p).1.2 Q' w ∧ (tkN now n p).2 = ((Q 2048).take n).map (fun i : Nat => [(i : Int)]) ∧ Q' 2048 = (Q 2048).drop n ∧
      (tkN now n p).1.2.length = p.2.length ∧ (∀ y, y ∉ (Q 2048).take n → gC (tkN now n p).1.2 y 0 = gC p.2 y 0 ∧ gC (tkN now n p).1.2 y 1 = gC p.2 y 1 ∧ gC (tkN now n p).1.2 y 4 = gC p.2 y 4) ∧
      (∀ y ∈ (Q 2048).take n, gC (tkN now n p).1.2 y 4 = 0)
  | 0, p, Q, le, w, h => ⟨Q, by simpa [tkN] using h, by simp [tkN], by simp, rfl, fun _ _ => ⟨rfl, rfl, rfl⟩, by simp⟩
  | n + 1, p, Q, le, w, h => by
    obtain ⟨b0, _, b2⟩ := h.lk.hd 2048 (by decide)
    cases hq : Q 2048 with
    | nil =>
      have e : tkN now (n + 1) p = (p, []) := if_neg (by rw [b2, hq]; decide)
      rw [e]
      exact ⟨Q, by simpa using h, by simp, by simpa using hq, rfl, fun _ _ => ⟨rfl, rfl, rfl⟩, by simp⟩
    | cons i r =>
      have hm : i ∈ Q 2048 := by rw [hq]; simp
      have hi := h.lk.qc _ i hm
      obtain ⟨o1, o2⟩ := h.out _ i hm
      have hb : gC p.1 2048 0 - 1 = (i : Int) := by rw [b0, hq]; show (i : Int) + 1 - 1 = _; omega
      have hz : 0 < gC p.1 2048 2 := by rw [b2, hq]; simp
      have en : ((i : Int)).toNat = i := by omega
      obtain ⟨A, B, g1, k1, k2, k3, k4⟩ := h.drop hi o1
      rw [o2] at g1
      have hnd := h.lk.nd 2048
      have hA : A = [] := by
        cases A with
        | nil => rfl
        | cons a A' =>
          exfalso
          rw [hq] at g1
          have ea : i = a := by injection g1
          have hm2 : r = A' ++ i :: B := by injection g1
          rw [hq, hm2] at hnd
          exact (List.nodup_cons.1 hnd).1 (by simp)
      subst hA
      have hB : r = B := by rw [hq] at g1; injection g1
      subst hB
      have e : tkN now (n + 1) p = ((tkN now n (dpW now p i)).1, [(i : Int)] :: (tkN now n (dpW now p i)).2) := by
        show (if 0 < gC p.1 2048 2 then _ else _) = _
        rw [if_pos hz, hb, en]
      obtain ⟨Q', q1, q2, q3, q4, q5, q6⟩ := tkN_ok n (dpW now p i) (uQ Q (locI now p.2 i).toNat ([] ++ r)) (le - 1) w k1
      have eu : uQ Q (locI now p.2 i).toNat ([] ++ r) 2048 = r := by simp [uQ, o2]
      rw [eu] at q2 q3 q5 q6
      rw [e]
      have hir : i ∉ r := by rw [hq] at hnd; exact (List.nodup_cons.1 hnd).1
      refine ⟨Q', ?_, ?_, q3, q4.trans k2, ?_, ?_⟩
      · show WOK now bu (le - (([(i : Int)] :: (tkN now n (dpW now p i)).2).length : Int)) _ _ _ _
        rw [show le - (([(i : Int)] :: (tkN now n (dpW now p i)).2).length : Int) = le - 1 - ((tkN now n (dpW now p i)).2.length : Int) by simp only [List.length_cons]; omega]
        exact q1
      · show [(i : Int)] :: _ = _
        rw [q2]; rfl
      · intro y hy
        have hy' : y ≠ i ∧ y ∉ r.take n := by simpa [List.take_succ_cons] using hy
        obtain ⟨u0, u1, u4⟩ := q5 y hy'.2
        obtain ⟨v0, v1, v4⟩ := k3 y hy'.1
        exact ⟨u0.trans v0, u1.trans v1, u4.trans v4⟩
      · intro y hy
        have hy' : y = i ∨ y ∈ r.take n := by simpa [List.take_succ_cons] using hy
        by_cases hc : y ∈ r.take n
        · exact q6 y hc
        · have hyi : y = i := hy'.resolve_right hc
          obtain ⟨_, _, u4⟩ := q5 y hc
          exact u4.trans (by rw [hyi]; exact k4)

theorem okTk : ItemOK Try.prog G0 17 pTk leTk := by
  refine cGok.loopP mixed muTk rfl ?_ ev_LTk _ rfl _ rfl ?_
  · exact ⟨_, _, _, Try.func17, rfl, rfl⟩
  intro n xs hf hp hmu
  obtain ⟨l, hl, hS, hF⟩ := self_P leTk muTk n cG.l (by decide)
  show ob_LTk.tt (Tabs.F (enL leTk muTk n :: cG.l)) _ = true ∧ outsP leTk.ent.fn _ (Tabs.F (enL leTk muTk n :: cG.l)) _ _ _ _
  rw [hl]
  have F48 := FC (k := 48) rfl (hF e48 (by rfl) (by decide) (by decide))
  have F9017 := FC (k := 9017) rfl hS
  have hSS := And.intro F48 F9017
  obtain ⟨S, now, bu, le, mo, T, k, O, rfl⟩ := fits8 hf
  obtain ⟨h0, h1, h2, h3, h4, h5, h6, h7, _⟩ := hf
  simp only [norm_i, norm_x] at h1 h2 h3 h4 h6
  obtain ⟨⟨Q, w, p1⟩, p2⟩ := hp
  replace p1 : WOK now bu le (dc S) (dc T) Q w := p1
  replace p2 : ((dc O).length : Int) + le ≤ 8192 := p2
  replace hmu : (k - ((dc O).length : Int)).toNat ≤ n := hmu
  have e1 : leTk.ent.fn = fnTk := rfl
  have hS : (dc S).length = 2049 := p1.lk.sw.1
  have hct := p1.ct
  have hle := p1.le_rng
  have c0 := rowsC p1.rS (i := 2048) (j := 0) (by omega) rfl
  have c2 := rowsC p1.rS (i := 2048) (j := 2) (by omega) rfl
  obtain ⟨b0, _, b2⟩ := p1.lk.hd 2048 (by decide)
  by_cases hk : ((dc O).length : Int) < k
  · by_cases hz : 0 < gC (dc S) 2048 2
    · obtain ⟨i, r, hq⟩ : ∃ i r, Q 2048 = i :: r := by
        cases hq : Q 2048 with
        | nil => rw [b2, hq] at hz; exact absurd hz (by decide)
        | cons i r => exact ⟨i, r, rfl⟩
      have hb : gC (dc S) 2048 0 = (i : Int) + 1 := by rw [b0, hq]; rfl
      have hm : i ∈ Q 2048 := by rw [hq]; simp
      have hi := p1.lk.qc _ i hm
      obtain ⟨o1, o2⟩ := p1.out _ i hm
      have en : ((i : Int)).toNat = i := by omega
      have eb : ((i : Int) + 1 - 1) = (i : Int) := by omega
      have wk : IntKind.i64.wrap (i : Int) = (i : Int) := i64w (by omega) (by omega)
      have y := y48 (mo := mo) (i := (i : Int)) p1 (by omega) (by rw [en]; omega)
      have hpos : 1 ≤ le := by
        have e := p1.ln
        have := cnt_pos (p := fun i => decide (0 < gC (dc T) i 4)) hi (decide_eq_true o1)
        rw [e]; unfold cntD; omega
      have w3 : IntKind.i64.wrap (le - 1) = le - 1 := i64w (by omega) (by omega)
      obtain ⟨A, B, _, k1, k2, k3, k4⟩ := p1.drop (i := i) hi o1
      obtain ⟨S1, eS⟩ : ∃ S1, S1 = cd (dpW now (dc S, dc T) i).1 := ⟨_, rfl⟩
      obtain ⟨T1, eT⟩ : ∃ T1, T1 = cd (dpW now (dc S, dc T) i).2 := ⟨_, rfl⟩
      obtain ⟨O1, eO⟩ : ∃ O1, O1 = cd (dc O ++ [[(i : Int)]]) := ⟨_, rfl⟩
      have dS : dc S1 = (dpW now (dc S, dc T) i).1 := by rw [eS, dc_cd]
      have dT : dc T1 = (dpW now (dc S, dc T) i).2 := by rw [eT, dc_cd]
      have dO : dc O1 = dc O ++ [[(i : Int)]] := by rw [eO, dc_cd]
      have lO : (dc O1).length = (dc O).length + 1 := by rw [dO]; simp
      have yl : leTk.ent.pre [S1, now, bu, le - 1, mo, T1, k, O1] := ⟨⟨_, w, by
        show WOK now bu (le - 1) (dc S1) (dc T1) _ _
        rw [dS, dT]; exact k1⟩, by show ((dc O1).length : Int) + (le - 1) ≤ 8192; omega⟩
      have eN : nTk [S, now, bu, le, mo, T, k, O] = nTk [S1, now, bu, le - 1, mo, T1, k, O1] + 1 := by
        show (k - ((dc O).length : Int)).toNat = (k - ((dc O1).length : Int)).toNat + 1
        omega
      have hr : tkR [S, now, bu, le, mo, T, k, O] = ((tkR [S1, now, bu, le - 1, mo, T1, k, O1]).1, [(i : Int)] :: (tkR [S1, now, bu, le - 1, mo, T1, k, O1]).2) := by
        have hs : tkR [S1, now, bu, le - 1, mo, T1, k, O1] = tkN now (nTk [S1, now, bu, le - 1, mo, T1, k, O1]) (dpW now (dc S, dc T) i) := by
          show tkN now _ (dc S1, dc T1) = _
          rw [dS, dT]
        rw [hs]; unfold tkR; rw [eN]
        refine (if_pos hz).trans ?_
        show ((tkN now _ (dpW now (dc S, dc T) (gC (dc S) 2048 0 - 1).toNat)).1, [gC (dc S) 2048 0 - 1] :: (tkN now _ (dpW now (dc S, dc T) (gC (dc S) 2048 0 - 1).toNat)).2) = _
        rw [hb, eb, en]
      obtain ⟨R, hR⟩ : ∃ R, R = tkR [S1, now, bu, le - 1, mo, T1, k, O1] := ⟨_, rfl⟩
      have hst : R.2 = [] → R.1 = (dc S1, dc T1) := fun h => by rw [hR] at h ⊢; exact tkN_zero h
      have q0 : leTk.ent.fn 0 [S1, now, bu, le - 1, mo, T1, k, O1] = cd R.1.1 := by
        show (if (tkR [S1, now, bu, le - 1, mo, T1, k, O1]).2 = [] then S1 else cd (tkR [S1, now, bu, le - 1, mo, T1, k, O1]).1.1) = _
        rw [← hR]
        by_cases hc : R.2 = []
        · rw [if_pos hc, hst hc, dS, eS]
        · rw [if_neg hc]
      have q5 : leTk.ent.fn 5 [S1, now, bu, le - 1, mo, T1, k, O1] = cd R.1.2 := by
        show (if (tkR [S1, now, bu, le - 1, mo, T1, k, O1]).2 = [] then T1 else cd (tkR [S1, now, bu, le - 1, mo, T1, k, O1]).1.2) = _
        rw [← hR]
        by_cases hc : R.2 = []
        · rw [if_pos hc, hst hc, dT, eT]
        · rw [if_neg hc]
      have q6 : leTk.ent.fn 6 [S1, now, bu, le - 1, mo, T1, k, O1] = cd (dc O ++ [(i : Int)] :: R.2) := by
        show (if (tkR [S1, now, bu, le - 1, mo, T1, k, O1]).2 = [] then O1 else cd (dc O1 ++ (tkR [S1, now, bu, le - 1, mo, T1, k, O1]).2)) = _
        rw [← hR]
        by_cases hc : R.2 = []
        · rw [if_pos hc, hc, eO]
        · rw [if_neg hc, dO]; simp
      have q3 : leTk.ent.fn 3 [S1, now, bu, le - 1, mo, T1, k, O1] = le - 1 - (R.2.length : Int) := by
        show le - 1 - ((tkR [S1, now, bu, le - 1, mo, T1, k, O1]).2.length : Int) = _
        rw [← hR]
      have q1 : leTk.ent.fn 1 [S1, now, bu, le - 1, mo, T1, k, O1] = now := rfl
      have q2 : leTk.ent.fn 2 [S1, now, bu, le - 1, mo, T1, k, O1] = bu := rfl
      have q4 : leTk.ent.fn 4 [S1, now, bu, le - 1, mo, T1, k, O1] = mo := rfl
      have hRl : (R.2.length : Int) ≤ le - 1 := by
        obtain ⟨_, t1, _⟩ := tkN_ok (nTk [S1, now, bu, le - 1, mo, T1, k, O1]) (dc S1, dc T1) _ (le - 1) w (by rw [dS, dT]; exact k1)
        have := t1.le_rng.1
        have e : R.2 = (tkN now (nTk [S1, now, bu, le - 1, mo, T1, k, O1]) (dc S1, dc T1)).2 := by rw [hR]; rfl
        rw [e]; omega
      have w6 : IntKind.i64.wrap (le - 1 - (R.2.length : Int)) = le - 1 - (R.2.length : Int) := i64w (by omega) (by omega)
      rw [← hR] at hr
      have ymu : muTk [S1, now, bu, le - 1, mo, T1, k, O1] < muTk [S, now, bu, le, mo, T, k, O] := by
        show nTk _ < nTk _
        rw [eN]; exact Nat.lt_succ_self _
      refine ⟨?_, ?_, ?_, ?_, ?_, ?_, ?_, ?_, trivial⟩
      all_goals simp (disch := omega) only [ob_LTk, q_LTk_0, q_LTk_1, q_LTk_2, q_LTk_3, q_LTk_4, q_LTk_5, q_LTk_6, q_LTk_7, q_LTk_8, q_LTk_9, es_LTk, e1, fnTk, hr, ewA, ewL, preC, binI, dvI, shI, cmpB, env, bi, List.headD, List.tail, List.map, Nat.reduceAdd, ewB, ewM, if_true, if_false, implies_true, forall_const, ne_eq, reduceCtorEq, Int.reduceEq, Int.reduceLT, Int.reduceLE, Int.reduceToNat, Int.reduceAdd, Int.reduceSub, Int.reduceMul, Int.reduceNeg, Int.reduceBEq, Nat.reduceLT, Nat.reduceEqDiff, hSS, h1, h2, h3, h4, h6, hk, hz, gC_def, hS, c0, c2, hb, eb, en, wk, y, f48_0, f48_1, f48_2, f48_3, f48_4, f48_5, ← eS, ← eT, ← eO, w3, yl, q0, q1, q2, q3, q4, q5, q6, w6]
      · exact ⟨⟨by decide, ⟨by decide, by omega⟩, by decide⟩, Nat.lt_of_lt_of_le ymu hmu⟩
      · rw [List.length_cons, i64w (by omega) (by omega)]; omega
    · have hr : tkR [S, now, bu, le, mo, T, k, O] = ((dc S, dc T), []) := by
        unfold tkR
        rw [show nTk [S, now, bu, le, mo, T, k, O] = (nTk [S, now, bu, le, mo, T, k, O] - 1) + 1 by show (k - ((dc O).length : Int)).toNat = (k - ((dc O).length : Int)).toNat - 1 + 1; omega]
        exact if_neg hz
      refine ⟨?_, ?_, ?_, ?_, ?_, ?_, ?_, ?_, trivial⟩
      all_goals simp (disch := omega) only [ob_LTk, q_LTk_0, q_LTk_1, q_LTk_2, q_LTk_3, q_LTk_4, q_LTk_5, q_LTk_6, q_LTk_7, q_LTk_8, q_LTk_9, es_LTk, e1, fnTk, hr, ewA, ewL, preC, binI, dvI, shI, cmpB, env, bi, List.headD, List.tail, List.map, Nat.reduceAdd, ewB, ewM, if_true, if_false, implies_true, forall_const, ne_eq, reduceCtorEq, Int.reduceEq, Int.reduceLT, Int.reduceLE, Int.reduceToNat, Int.reduceAdd, Int.reduceSub, Int.reduceMul, Int.reduceNeg, Int.reduceBEq, Nat.reduceLT, Nat.reduceEqDiff, hSS, h1, h2, h3, h4, h6, hk, hz, gC_def, hS, c0, c2]
      · decide
      · show IntKind.i64.wrap (le - 0) = le
        rw [show le - 0 = le by omega]; exact h3
  · have hr : tkR [S, now, bu, le, mo, T, k, O] = ((dc S, dc T), []) := by
      unfold tkR
      rw [show nTk [S, now, bu, le, mo, T, k, O] = 0 by show (k - ((dc O).length : Int)).toNat = 0; omega]; rfl
    refine ⟨?_, ?_, ?_, ?_, ?_, ?_, ?_, ?_, trivial⟩
    all_goals simp (disch := omega) only [ob_LTk, q_LTk_0, q_LTk_1, q_LTk_2, q_LTk_3, q_LTk_4, q_LTk_5, q_LTk_6, q_LTk_7, q_LTk_8, q_LTk_9, es_LTk, e1, fnTk, hr, ewA, ewL, preC, binI, dvI, shI, cmpB, env, bi, List.headD, List.tail, List.map, Nat.reduceAdd, ewB, ewM, if_true, if_false, implies_true, forall_const, ne_eq, reduceCtorEq, Int.reduceEq, Int.reduceLT, Int.reduceLE, Int.reduceToNat, Int.reduceAdd, Int.reduceSub, Int.reduceMul, Int.reduceNeg, Int.reduceBEq, Nat.reduceLT, Nat.reduceEqDiff, hSS, h1, h2, h3, h4, h6, hk, gC_def, hS, c0, c2]
    · show IntKind.i64.wrap (le - 0) = le
      rw [show le - 0 = le by omega]; exact h3

end
end Go.Proofs.Ytfhheeoejncfgaa.Ew

/- Layer 26: MatchSmall: the inner loop's obligations. -/
import Derived.Test.YtbolcnlenmphhaaDoorSg
set_option linter.unusedVariables false
set_option linter.unusedSimpArgs false
namespace Go.Proofs.YtbolcnlenmphhaaDoor
open Go Go.RowKit Ew

def mu3 (xs : List Int) : Nat := (xs.getD 1 0 - xs.getD 0 0).toNat
theorem wrap_small {z : Int} (h1 : 0 ≤ z) (h2 : z < 1000000) : IntKind.i64.wrap z = z := by
  obtain ⟨n, rfl⟩ := Int.eq_ofNat_of_zero_le h1
  exact wrap_len (by unfold maxLen; omega)

theorem ob3_ok (n : Nat) (xs : List Int) (hf : fits ent3.pks xs) (hp : pre3 xs) (hmu : mu3 xs ≤ n) : ob3.tt (Tabs.F (enL le3 mu3 n :: l9)) (env xs) = true := by
  obtain ⟨l, hl⟩ : ∃ l : Tabs, l = enL le3 mu3 n :: l9 := ⟨_, rfl⟩
  rw [← hl]
  obtain ⟨q1, q2, q3, q4, q5, q6, q7⟩ := hp
  have d0 : (E.var (.i .i64) 0).den l.F (env xs) = xs.getD 0 0 := fits_get hf 0 _ rfl
  have d1 : (E.var (.i .i64) 1).den l.F (env xs) = xs.getD 1 0 := fits_get hf 1 _ rfl
  have d16 : (E.var (.i .i64) 16).den l.F (env xs) = xs.getD 16 0 := fits_get hf 16 _ rfl
  have L2 : (E.app (.i .i64) 0 0 [.var .x 2]).den l.F (env xs) = xs.getD 1 0 := by
    have := BI.len (ρ := env xs) l.BI (.var .x 2)
    rw [show (LEN (.var .x 2)) = E.app (.i .i64) 0 0 [.var .x 2] from rfl] at this
    rw [this, show (E.var .x 2).den l.F (env xs) = xs.getD 2 0 from rfl, ← q3]
    exact wrap_small (by omega) (by omega)
  have L62 : (E.app (.i .i64) 0 0 [.var .x 62]).den l.F (env xs) = 30 := by
    have := BI.len (ρ := env xs) l.BI (.var .x 62)
    rw [show (LEN (.var .x 62)) = E.app (.i .i64) 0 0 [.var .x 62] from rfl] at this
    rw [this, show (E.var .x 62).den l.F (env xs) = xs.getD 62 0 from rfl, q7]
    exact wrap_small (by omega) (by omega)
  have A11 : ∀ args, (E.app .b 11 1000000 args).tt l.F (env xs) = true := fun args => tt_pre (entOf n11) rfl (by rw [hl]; rfl) (by decide) trivial
  have A21 : ∀ args, (E.app .b 21 1000000 args).tt l.F (env xs) = true := fun args => tt_pre (entOf n21) rfl (by rw [hl]; rfl) (by decide) trivial
  have A23 : ∀ args : List E, 0 ≤ (args.map (E.den l.F (env xs))).getD 13 0 → (args.map (E.den l.F (env xs))).getD 13 0 < 13 → (E.app .b 23 1000000 args).tt l.F (env xs) = true := fun args h1 h2 => tt_pre (entOfP n23 pre23) rfl (by rw [hl]; rfl) (by decide) ⟨h1, h2⟩
  have A903 : ∀ args : List E, (pre3 (args.map (E.den l.F (env xs))) ∧ mu3 (args.map (E.den l.F (env xs))) < n) → (E.app .b 903 1000000 args).tt l.F (env xs) = true := fun args h => tt_pre (enL le3 mu3 n) rfl (by rw [hl]; rfl) (by decide) h
  have s1 : ∀ a b : E, (E.bin .add .i64 a b).den l.F (env xs) = IntKind.i64.wrap (a.den l.F (env xs) + b.den l.F (env xs)) := fun a b => rfl
  have R : (E.app (.i .i64) 0 21 [.bin .add .i64 (.var (.i .i64) 0) (.var (.i .i64) 16), .app (.i .i64) 0 0 [.var .x 62]]).den l.F (env xs) = (xs.getD 0 0 + xs.getD 16 0).tmod 30 := by
    rw [den_app0 l.BI]
    simp only [List.map_cons, List.map_nil, L62, s1, d0, d16]
    rw [wrap_small (by omega) (by omega)]
    show IntKind.i64.wrap ((xs.getD 0 0 + xs.getD 16 0).tmod 30) = _
    have := Int.tmod_nonneg (a := xs.getD 0 0 + xs.getD 16 0) 30 (by omega)
    have := Int.tmod_lt_of_pos (xs.getD 0 0 + xs.getD 16 0) (b := 30) (by omega)
    exact wrap_small (by omega) (by omega)
  have t1 := Int.tmod_nonneg (a := xs.getD 0 0 + xs.getD 16 0) 30 (by omega)
  have t2 := Int.tmod_lt_of_pos (xs.getD 0 0 + xs.getD 16 0) (b := 30) (by omega)
  have D : (E.dv .rem .i64 (.bin .add .i64 (.var (.i .i64) 16) (.var (.i .i64) 0)) 13).den l.F (env xs) = (xs.getD 16 0 + xs.getD 0 0).tmod 13 := by
    show ((E.bin .add .i64 (.var (.i .i64) 16) (.var (.i .i64) 0)).den l.F (env xs)).tmod 13 = _
    rw [s1, d0, d16, wrap_small (by omega) (by omega)]
  by_cases hlt : xs.getD 0 0 < xs.getD 1 0
  · have c : (E.cmp .lss (.var (.i .i64) 0) (.var (.i .i64) 1)).tt l.F (env xs) = true := by rw [tt_cmp, d0, d1]; simpa [cmpB] using hlt
    simp only [ob3, tt_and, tt_or, tt_not, c, A11, A21, Bool.not_true, Bool.false_or, Bool.and_true, Bool.true_and, Bool.and_eq_true]
    repeat' apply And.intro
    all_goals first
      | (rw [tt_cmp]; simp only [d0, L2, L62, R, cmpB, show (E.lit (.i .i64) 0).den l.F (env xs) = 0 from rfl, decide_eq_true_eq, bne_iff_ne]; omega)
      | (refine A23 _ ?_ ?_ <;> simp only [List.map_cons, List.getD_cons_succ, List.getD_cons_zero])
      | skip
    · rw [d16]; exact q5
    · rw [d16]; exact q6
    · rw [D]; exact Int.tmod_nonneg 13 (by omega)
    · rw [D]; exact Int.tmod_lt_of_pos _ (by omega)
    · have e0 : (E.bin .add .i64 (.var (.i .i64) 0) (.lit (.i .i64) 1)).den l.F (env xs) = xs.getD 0 0 + 1 := by
        rw [s1, d0, show (E.lit (.i .i64) 1).den l.F (env xs) = 1 from rfl]
        exact wrap_small (by omega) (by omega)
      refine A903 _ ⟨⟨?_, ?_, ?_, ?_, ?_, ?_, ?_⟩, ?_⟩ <;> simp only [mu3, List.map_cons, List.getD_cons_succ, List.getD_cons_zero, e0, d1, d16, show (E.var .x 2).den l.F (env xs) = xs.getD 2 0 from rfl, show (E.var .x 62).den l.F (env xs) = xs.getD 62 0 from rfl]
      · omega
      · omega
      · exact q3
      · exact q4
      · exact q5
      · exact q6
      · exact q7
      · unfold mu3 at hmu; omega
  · have c : (E.cmp .lss (.var (.i .i64) 0) (.var (.i .i64) 1)).tt l.F (env xs) = false := by rw [tt_cmp, d0, d1]; simpa [cmpB] using hlt
    simp only [ob3, tt_and, tt_or, tt_not, c, Bool.not_false, Bool.true_or, Bool.and_self]

theorem lo3 : LoopOK Tryd.prog H0 (bodyAt p3) le3 :=
  loop_ok (T := T9) (l0 := l9) (call := fun _ _ _ => none) (N := 10) (L := fun _ => none) (by kernel_rfl) mu3 (fun n => sum9 (e := enL le3 mu3 n) (show (903 : Nat) ≠ 11 by decide) (show (903 : Nat) ≠ 21 by decide) (show (903 : Nat) ≠ 12 by decide) (show (903 : Nat) ≠ 23 by decide)) (fun n ρ w0 M0 Im0 hG f args m ob v m' h => by cases h) (fun n p le h => by cases h) ev3
    fun n xs hf hp hmu => ⟨ob3_ok n xs hf hp hmu, fun i k hi => by simp [Ent.oks, Ent.outL, le3, ent3, Sh.ksL, Sh.ks] at hi⟩
end Go.Proofs.YtbolcnlenmphhaaDoor

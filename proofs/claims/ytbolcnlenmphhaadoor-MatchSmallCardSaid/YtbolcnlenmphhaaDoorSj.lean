/- Layer 26: MatchSmall: the function. -/
import Derived.Test.YtbolcnlenmphhaaDoorSi
set_option linter.unusedVariables false
set_option linter.unusedSimpArgs false
namespace Go.Proofs.YtbolcnlenmphhaaDoor
open Go Go.RowKit

namespace Sm
open Ew
def L9 : Nat → Loops := fun f p => if f = 9 ∧ p = p1 then some le1 else none
def ent9 : Ent := ⟨9, 9, [], [], [], .lt .b 1, fun _ _ => 0, fun _ => True⟩
def ob9 : E := (.and (.app .b 901 1000000 [(.lit (.i .i64) 0), (.lit (.i .i64) 3), (.app .x 0 3 [(.app .x 0 3 [(.app .x 0 3 [(.app .x 0 2 []), (.lit (.i .u8) 1), (.lit (.i .u8) 6), (.lit (.i .u8) 18), (.lit (.i .u8) 2), (.lit (.i .u32) 0), (.lit (.i .u8) 0), (.lit (.i .u32) 3221225984), (.lit (.i .u8) 24), (.lit (.i .u16) 0), (.lit (.i .u16) 65535), (.lit (.i .u16) 80), (.lit (.i .u16) 80), (.lit .b 1)]), (.lit (.i .u8) 2), (.lit (.i .u8) 6), (.lit (.i .u8) 1), (.lit (.i .u8) 0), (.lit (.i .u32) 0), (.lit (.i .u8) 0), (.lit (.i .u32) 3221226112), (.lit (.i .u8) 25), (.lit (.i .u16) 1024), (.lit (.i .u16) 65535), (.lit (.i .u16) 0), (.lit (.i .u16) 65535), (.lit .b 0)]), (.lit (.i .u8) 2), (.lit (.i .u8) 0), (.lit (.i .u8) 0), (.lit (.i .u8) 0), (.lit (.i .u32) 0), (.lit (.i .u8) 0), (.lit (.i .u32) 0), (.lit (.i .u8) 0), (.lit (.i .u16) 0), (.lit (.i .u16) 65535), (.lit (.i .u16) 0), (.lit (.i .u16) 65535), (.lit .b 0)]), (.app .x 0 3 [(.app .x 0 3 [(.app .x 0 3 [(.app .x 0 3 [(.app .x 0 3 [(.app .x 0 3 [(.app .x 0 3 [(.app .x 0 3 [(.app .x 0 3 [(.app .x 0 3 [(.app .x 0 3 [(.app .x 0 3 [(.app .x 0 3 [(.app .x 0 3 [(.app .x 0 3 [(.app .x 0 3 [(.app .x 0 3 [(.app .x 0 3 [(.app .x 0 3 [(.app .x 0 3 [(.app .x 0 3 [(.app .x 0 3 [(.app .x 0 3 [(.app .x 0 3 [(.app .x 0 3 [(.app .x 0 3 [(.app .x 0 3 [(.app .x 0 3 [(.app .x 0 3 [(.app .x 0 3 [(.app .x 0 2 []), (.lit (.i .i64) 0)]), (.lit (.i .i64) 1)]), (.lit (.i .i64) 2)]), (.lit (.i .i64) 3)]), (.lit (.i .i64) 4)]), (.lit (.i .i64) 6)]), (.lit (.i .i64) 16)]), (.lit (.i .i64) 17)]), (.lit (.i .i64) 18)]), (.lit (.i .i64) 24)]), (.lit (.i .i64) 25)]), (.lit (.i .i64) 31)]), (.lit (.i .i64) 32)]), (.lit (.i .i64) 33)]), (.lit (.i .i64) 63)]), (.lit (.i .i64) 64)]), (.lit (.i .i64) 79)]), (.lit (.i .i64) 80)]), (.lit (.i .i64) 81)]), (.lit (.i .i64) 128)]), (.lit (.i .i64) 255)]), (.lit (.i .i64) 1023)]), (.lit (.i .i64) 1024)]), (.lit (.i .i64) 65534)]), (.lit (.i .i64) 65535)]), (.lit (.i .i64) 2147483647)]), (.lit (.i .i64) 2147483648)]), (.lit (.i .i64) 3221225984)]), (.lit (.i .i64) 3221226112)]), (.lit (.i .i64) 4294967295)]), (.lit (.i .u8) 6), (.lit (.i .u32) 3325256711), (.lit (.i .u32) 3221225993), (.lit (.i .u16) 1025), (.lit (.i .u16) 80), (.lit (.i .u8) 1), (.lit (.i .u8) 2), (.lit (.i .u8) 0), (.lit (.i .u8) 0), (.lit (.i .u32) 0), (.lit (.i .u32) 0), (.lit (.i .i64) 0), (.lit (.i .i64) 0), (.lit (.i .u8) 0), (.lit (.i .u32) 0), (.lit (.i .u32) 0), (.lit (.i .u16) 0), (.lit (.i .u16) 0), (.lit (.i .u8) 0), (.lit (.i .u8) 1), (.lit (.i .u8) 6), (.lit (.i .u8) 18), (.lit (.i .u8) 2), (.lit (.i .u32) 0), (.lit (.i .u8) 0), (.lit (.i .u32) 3221225984), (.lit (.i .u8) 24), (.lit (.i .u16) 0), (.lit (.i .u16) 65535), (.lit (.i .u16) 80), (.lit (.i .u16) 80), (.lit .b 1), (.lit (.i .u8) 2), (.lit (.i .u8) 6), (.lit (.i .u8) 1), (.lit (.i .u8) 0), (.lit (.i .u32) 0), (.lit (.i .u8) 0), (.lit (.i .u32) 3221226112), (.lit (.i .u8) 25), (.lit (.i .u16) 1024), (.lit (.i .u16) 65535), (.lit (.i .u16) 0), (.lit (.i .u16) 65535), (.lit .b 0)]) (.app .b 12 1000000 []))
theorem ev9 : evE Tryd.prog H0 T9 L9 10 10 ent9 = some (ob9, []) := by kernel_rfl
theorem sm9 : SumOK Tryd.prog H0 (ent1 :: l9) T9 := sum9 (e := ent1) (show (901 : Nat) ≠ 11 by decide) (show (901 : Nat) ≠ 21 by decide) (show (901 : Nat) ≠ 12 by decide) (show (901 : Nat) ≠ 23 by decide)
theorem lt9 : LTOK Tryd.prog H0 (ent1 :: l9) L9 := by
  intro f fn c hf hc p le h body hb
  unfold L9 at h
  split at h
  · rename_i hp
    obtain ⟨rfl, rfl⟩ := hp
    simp only [Option.some.injEq] at h; subst h
    have h1 : cd9 = c := by unfold cd9; rw [hf]; simp [hc]
    have h2 : bodyAt p1 = body := by unfold bodyAt; rw [h1, hb]; rfl
    rw [← h2]
    exact ⟨rfl, lo1⟩
  · cases h
theorem ob9_ok (xs : List Int) : ob9.tt (Tabs.F (ent1 :: l9)) (env xs) = true := by
  obtain ⟨l, hl⟩ : ∃ l : Tabs, l = ent1 :: l9 := ⟨_, rfl⟩
  rw [← hl]
  have A12 : ∀ args, (E.app .b 12 1000000 args).tt l.F (env xs) = true := fun args => tt_pre (entOf n12) rfl (by rw [hl]; rfl) (by decide) trivial
  have A901 : ∀ args : List E, pre1 (args.map (E.den l.F (env xs))) → (E.app .b 901 1000000 args).tt l.F (env xs) = true := fun args h => tt_pre ent1 rfl (by rw [hl]; rfl) (by decide) h
  simp only [ob9, tt_and, A12, Bool.and_true, Bool.true_and]
  refine A901 _ ⟨?_, ?_, ?_, ?_, ?_⟩ <;> simp only [List.map_cons, List.getD_cons_succ, List.getD_cons_zero]
  · show (0 : Int) ≤ 0; decide
  · show (0 : Int) ≤ 3; decide
  · rw [chainR_spec l.BI (env xs) 1000 rfl, List.length_map, List.length_reverse]; rfl
  · show (3 : Int) ≤ 1000; decide
  · rw [chainR_spec l.BI (env xs) 1000 rfl, List.length_map, List.length_reverse]; rfl
theorem okw9 : EntryOK Tryd.prog H0 ent9 := entry_ok (by kernel_rfl) sm9 lt9 ev9 fun xs hf hp => ⟨ob9_ok xs, fun i k hi => by simp [Ent.oks, Ent.outL, ent9, Sh.ksL, Sh.ks] at hi⟩
end Sm

open Ev
def en9 : Entry := ⟨9, 9, [], .one (.s (.b)), fun _ _ => 1⟩
theorem ok9 : EntryOK Tryd.prog G0 en9 := by
  intro xs hx w hG
  cases xs with
  | cons _ _ => exact hx.elim
  | nil =>
    have hG' : Ew.GOK H0 (fun b => b < w.heap.size) w := by
      intro F ρ b off v hv
      have h0 := hG (fun _ _ _ => 0) (fun _ => 0) 0 0 (.sc (.lit (.i .u16) 0)) rfl
      have h1 := hG (fun _ _ _ => 0) (fun _ => 0) 0 1 (.sc (.lit (.i .u16) 65535)) rfl
      unfold H0 at hv
      split at hv
      · rename_i hb
        subst hb
        split at hv
        · rename_i ho
          subst ho
          simp only [Option.some.injEq] at hv; subst hv
          exact ⟨h0.1, h0.1, h0.2.1, trivial⟩
        · split at hv
          · rename_i ho
            subst ho
            simp only [Option.some.injEq] at hv; subst hv
            exact ⟨h1.1, h1.1, h1.2.1, trivial⟩
          · cases hv
      · cases hv
    refine (Sm.okw9 [] trivial trivial w (fun _ => False) (fun b => b < w.heap.size) (fun _ => default) (fun b h => h.elim) hG' ⟨fun x hx => (by cases hx), fun x hx => (by cases hx), fun b hb => hb, Ew.Fr.refl _ _⟩).mono ?_
    rintro e w' ⟨hs', Im', _, _, _, rfl, hr⟩
    exact ⟨rfl, hr.fr.toBelow⟩
end Go.Proofs.YtbolcnlenmphhaaDoor

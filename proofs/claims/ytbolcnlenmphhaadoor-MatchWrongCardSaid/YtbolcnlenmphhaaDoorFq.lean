/- Layer 26: the rule of one packet, in plain terms. No program is in sight here. -/
import Derived.Test.YtbolcnlenmphhaaDoorFp
set_option linter.unusedVariables false
namespace Go.Proofs.YtbolcnlenmphhaaDoor
open Go Go.RowKit Ev

/-- A packet's numbers (side, protocol, addresses, ports, -, flags), as they are drawn. -/
structure Pk (p : Nat → Int) : Prop where
  b0 : 0 ≤ p 0 ∧ p 0 ≤ 1
  b1 : p 1 = 1 ∨ p 1 = 6 ∨ p 1 = 17
  b2 : 0 ≤ p 2 ∧ p 2 < 4294967296
  b3 : 0 ≤ p 3 ∧ p 3 < 4294967296
  b4 : 0 ≤ p 4 ∧ p 4 < 65536
  b5 : 0 ≤ p 5 ∧ p 5 < 65536
  b7 : 0 ≤ p 7 ∧ p 7 < 64
  b7' : p 1 ≠ 6 → p 7 = 0

def oneF (p : Nat → Int) : Nat → Int
  | 0 => p 0
  | 1 => p 1
  | 2 => bif p 1 == 6 then 63 else 0
  | 3 => bif p 1 == 6 then p 7 else 0
  | 4 => p 2
  | 5 => 32
  | 6 => p 3
  | 7 => 32
  | 8 => bif p 1 != 1 then p 4 else 0
  | 9 => bif p 1 != 1 then p 4 else 65535
  | 10 => bif p 1 != 1 then p 5 else 0
  | 11 => bif p 1 != 1 then p 5 else 65535
  | _ => 0
/-- A packet's port; none where there are no ports. -/
def portF (p : Nat → Int) (v : Int) : Int := bif p 1 == 1 then 0 else v

theorem psz32 : psz 32 = 1 := rfl
theorem pfx32 {a : Int} (h : 0 ≤ a ∧ a < 4294967296) : Pfx a 32 := ⟨h, by omega, by unfold pR; rw [psz32]; simp⟩
theorem bne_eq (a : Int) : (bif a != 1 then (1 : Int) else 0) = if a = 1 then 0 else 1 := by
  by_cases h : a = 1
  · simp [h]
  · rw [if_neg h, bne_iff_ne.2 h]; rfl
theorem one_rl {p : Nat → Int} (h : Pk p) : Rl (oneF p) := by
  have h0 := h.b0
  have h1 := h.b1
  have h4 := h.b4
  have h5 := h.b5
  have h7 := h.b7
  have h3 : oneF p 3 = p 7 := by
    show (bif p 1 == 6 then p 7 else 0) = p 7
    by_cases h6 : p 1 = 6
    · rw [h6]; rfl
    · rw [beq_eq_false_iff_ne.2 h6, h.b7' h6]; rfl
  have hw : sub8 (oneF p 3) (oneF p 2) = true := by
    rw [h3]
    show sub8 (p 7) (bif p 1 == 6 then 63 else 0) = true
    by_cases h6 : p 1 = 6
    · rw [h6]
      have := le63 (p 7).toNat (by omega)
      have e : decide ((p 7).toNat ≤ 63) = true := decide_eq_true (by omega)
      rw [e] at this
      exact this.symm
    · rw [beq_eq_false_iff_ne.2 h6, h.b7' h6]; decide
  have hm : oneF p 2 = 0 ∨ (oneF p 2 = 63 ∧ p 1 = 6) := by
    show (bif p 1 == 6 then 63 else 0) = 0 ∨ ((bif p 1 == 6 then 63 else 0) = 63 ∧ p 1 = 6)
    by_cases h6 : p 1 = 6
    · right; rw [h6]; exact ⟨rfl, rfl⟩
    · left; rw [beq_eq_false_iff_ne.2 h6]; rfl
  have hp : ∀ v : Int, 0 ≤ v ∧ v < 65536 → (0 ≤ (bif p 1 != 1 then v else 0) ∧ (bif p 1 != 1 then v else 0) < 65536) ∧ (0 ≤ (bif p 1 != 1 then v else 65535) ∧ (bif p 1 != 1 then v else 65535) < 65536) ∧ rR (p 1 == 6 || p 1 == 17) (bif p 1 != 1 then v else 0) (bif p 1 != 1 then v else 65535) = true := by
    intro v hv
    rcases h1 with h1 | h1 | h1
    · rw [h1]; exact ⟨show (0:Int) ≤ 0 ∧ (0:Int) < 65536 by decide, show (0:Int) ≤ 65535 ∧ (65535:Int) < 65536 by decide, show rR false 0 65535 = true by decide⟩
    · rw [h1]
      exact ⟨hv, hv, decide_eq_true (Int.le_refl v)⟩
    · rw [h1]
      exact ⟨hv, hv, decide_eq_true (Int.le_refl v)⟩
  refine ⟨⟨?_, ?_, by omega, by omega, h.b2, by show (0:Int) ≤ 32 ∧ (32:Int) < 256; omega, h.b3, by show (0:Int) ≤ 32 ∧ (32:Int) < 256; omega, (hp _ h4).1, (hp _ h4).2.1, (hp _ h5).1, (hp _ h5).2.1⟩,
    ⟨?_, ?_, (pfx32 h.b2).ok, (pfx32 h.b3).ok, (hp _ h4).2.2, (hp _ h5).2.2, by omega, hw, ?_⟩⟩
  · show 0 ≤ p 0 ∧ p 0 < 256; omega
  · show 0 ≤ p 1 ∧ p 1 < 256; omega
  · show p 0 ≤ 2; omega
  · show p 1 = 0 ∨ p 1 = 1 ∨ p 1 = 6 ∨ p 1 = 17; omega
  · show oneF p 2 = 0 ∨ p 1 = 6; omega

theorem bit63 : ∀ i, i < 8 → bitB 63 i = decide (i < 6) := by decide
theorem bits6 {a : Int} (h : 0 ≤ a ∧ a < 64) {i : Nat} (hi : ¬ i < 6) : bitB a i = false :=
  Nat.testBit_lt_two_pow (Nat.lt_of_lt_of_le (by omega : a.toNat < 2 ^ 6) (Nat.pow_le_pow_right (by omega) (by omega)))

/-- It matches just the packets that are equal to its own. -/
theorem one_meets {p q : Nat → Int} (h : Pk p) (k : Pk q) :
    meetsS (oneF p) (q 0) (q 1) (q 2) (q 3) (portF q (q 4)) (portF q (q 5)) (q 7) = ((q 0 == p 0 && (q 1 == p 1 && (q 2 == p 2 && (q 3 == p 3 && (portF q (q 4) == portF p (p 4) && portF q (q 5) == portF p (p 5)))))) && q 7 == p 7) := by
  have rl := one_rl h
  rw [Bool.eq_iff_iff, mt_iff rl]
  simp only [Bool.and_eq_true, beq_iff_eq]
  have h0 := h.b0
  have h1 := h.b1
  have k1 := k.b1
  have e1 : hiP (p 2) 32 = p 2 := by rw [(pfx32 h.b2).hi, psz32]; omega
  have e2 : hiP (p 3) 32 = p 3 := by rw [(pfx32 h.b3).hi, psz32]; omega
  constructor
  · intro m
    have m0 : p 0 = 2 ∨ p 0 = q 0 := m.side
    have m1 : p 1 = 0 ∨ p 1 = q 1 := m.proto
    have m2 : p 2 ≤ q 2 ∧ q 2 ≤ hiP (p 2) 32 := m.src
    have m3 : p 3 ≤ q 3 ∧ q 3 ≤ hiP (p 3) 32 := m.dst
    have m4 : (bif p 1 != 1 then p 4 else 0) ≤ portF q (q 4) ∧ portF q (q 4) ≤ (bif p 1 != 1 then p 4 else 65535) := m.sp
    have m5 : (bif p 1 != 1 then p 5 else 0) ≤ portF q (q 5) ∧ portF q (q 5) ≤ (bif p 1 != 1 then p 5 else 65535) := m.dp
    have q1 : q 1 = p 1 := by omega
    refine ⟨⟨by omega, q1, by omega, by omega, ?_, ?_⟩, ?_⟩
    · unfold portF at m4 ⊢
      rw [q1] at m4 ⊢
      by_cases hp : p 1 = 1
      · rw [hp]; rfl
      · rw [beq_eq_false_iff_ne.2 hp, bne_iff_ne.2 hp] at m4
        rw [beq_eq_false_iff_ne.2 hp]
        simp only [cond_true, cond_false] at m4 ⊢
        omega
    · unfold portF at m5 ⊢
      rw [q1] at m5 ⊢
      by_cases hp : p 1 = 1
      · rw [hp]; rfl
      · rw [beq_eq_false_iff_ne.2 hp, bne_iff_ne.2 hp] at m5
        rw [beq_eq_false_iff_ne.2 hp]
        simp only [cond_true, cond_false] at m5 ⊢
        omega
    · by_cases h6 : p 1 = 6
      · have b7 := h.b7
        have c7 := k.b7
        refine bits_eq (by omega) (by omega) fun i hi => ?_
        by_cases hi6 : i < 6
        · have := m.fl i hi
          have e3 : oneF p 2 = 63 := by show (bif p 1 == 6 then 63 else 0) = 63; rw [h6]; rfl
          have e4 : oneF p 3 = p 7 := by show (bif p 1 == 6 then p 7 else 0) = p 7; rw [h6]; rfl
          rw [e3, e4, bit63 i hi] at this
          exact (this (decide_eq_true hi6)).symm
        · rw [bits6 b7 hi6, bits6 c7 hi6]
      · rw [h.b7' h6, k.b7' (by omega)]
  · rintro ⟨⟨g0, g1, g2, g3, g4, g5⟩, g7⟩
    refine ⟨.inr g0.symm, .inr g1.symm, ?_, ?_, ?_, ?_, fun i hi hb => ?_⟩
    · show p 2 ≤ q 2 ∧ q 2 ≤ hiP (p 2) 32; omega
    · show p 3 ≤ q 3 ∧ q 3 ≤ hiP (p 3) 32; omega
    · show (bif p 1 != 1 then p 4 else 0) ≤ portF q (q 4) ∧ portF q (q 4) ≤ (bif p 1 != 1 then p 4 else 65535)
      rw [g4]
      unfold portF
      have h4 := h.b4
      by_cases hp : p 1 = 1
      · rw [hp]; show (0:Int) ≤ 0 ∧ (0:Int) ≤ 65535; decide
      · rw [beq_eq_false_iff_ne.2 hp, bne_iff_ne.2 hp]
        simp only [cond_true, cond_false]
        omega
    · show (bif p 1 != 1 then p 5 else 0) ≤ portF q (q 5) ∧ portF q (q 5) ≤ (bif p 1 != 1 then p 5 else 65535)
      rw [g5]
      unfold portF
      have h4 := h.b5
      by_cases hp : p 1 = 1
      · rw [hp]; show (0:Int) ≤ 0 ∧ (0:Int) ≤ 65535; decide
      · rw [beq_eq_false_iff_ne.2 hp, bne_iff_ne.2 hp]
        simp only [cond_true, cond_false]
        omega
    · rw [g7]
      have e2' : oneF p 2 = bif p 1 == 6 then 63 else 0 := rfl
      by_cases h6 : p 1 = 6
      · have e4 : oneF p 3 = p 7 := by show (bif p 1 == 6 then p 7 else 0) = p 7; rw [h6]; rfl
        rw [e4]
      · rw [e2', beq_eq_false_iff_ne.2 h6] at hb
        have : bitB (bif false then 63 else 0) i = false := by
          show bitB 0 i = false
          unfold bitB; simp
        rw [this] at hb; cases hb

/-- It is within a rule just if that one matches the packet. -/
theorem one_within {p w : Nat → Int} (h : Pk p) (hw : Rl w) : insS (oneF p) w = meetsS w (p 0) (p 1) (p 2) (p 3) (portF p (p 4)) (portF p (p 5)) (p 7) := by
  have rl := one_rl h
  rw [Bool.eq_iff_iff, ins_iff rl hw, mt_iff hw]
  have h0 := h.b0
  have h1 := h.b1
  have h4 := h.b4
  have h5 := h.b5
  have e1 : hiP (p 2) 32 = p 2 := by rw [(pfx32 h.b2).hi, psz32]; omega
  have e2 : hiP (p 3) 32 = p 3 := by rw [(pfx32 h.b3).hi, psz32]; omega
  have wp := hw.r.proto
  have ports : ∀ (v f t : Int), 0 ≤ v ∧ v < 65536 → (w 1 = 0 ∨ p 1 = w 1) → rR (w 1 == 6 || w 1 == 17) f t = true → ((f ≤ (bif p 1 != 1 then v else 0) ∧ (bif p 1 != 1 then v else 65535) ≤ t) ↔ (f ≤ portF p v ∧ portF p v ≤ t)) := by
    intro v f t hv hc hr
    unfold portF
    by_cases hp : p 1 = 1
    · have hn : (w 1 == 6 || w 1 == 17) = false := by
        rw [beq_eq_false_iff_ne.2 (show w 1 ≠ 6 by omega), beq_eq_false_iff_ne.2 (show w 1 ≠ 17 by omega)]; rfl
      rw [hn] at hr
      unfold rR at hr
      simp only [cond_false, Bool.and_eq_true, beq_iff_eq] at hr
      rw [hp]
      show (f ≤ 0 ∧ 65535 ≤ t) ↔ (f ≤ 0 ∧ 0 ≤ t)
      omega
    · rw [beq_eq_false_iff_ne.2 hp, bne_iff_ne.2 hp]
      simp only [cond_true, cond_false]
  have flg : (w 1 = 0 ∨ p 1 = w 1) → ((∀ i, i < 8 → bitB (w 2) i = true → bitB (oneF p 2) i = true ∧ bitB (w 3) i = bitB (oneF p 3) i) ↔ (∀ i, i < 8 → bitB (w 2) i = true → bitB (w 3) i = bitB (p 7) i)) := by
    intro hc
    by_cases h6 : p 1 = 6
    · have e3 : oneF p 2 = 63 := by show (bif p 1 == 6 then 63 else 0) = 63; rw [h6]; rfl
      have e4 : oneF p 3 = p 7 := by show (bif p 1 == 6 then p 7 else 0) = p 7; rw [h6]; rfl
      rw [e3, e4]
      constructor
      · intro g i hi hb; exact (g i hi hb).2
      · intro g i hi hb
        refine ⟨?_, g i hi hb⟩
        rw [bit63 i hi]
        by_cases hi6 : i < 6
        · exact decide_eq_true hi6
        · rw [bits6 (by have := hw.i.b2; have := hw.r.mask; omega) hi6] at hb; cases hb
    · have hz : w 2 = 0 := by have := hw.r.flags; omega
      have zz : ∀ i, bitB (w 2) i = false := fun i => by rw [hz]; unfold bitB; simp
      constructor
      · intro _ i _ hb; rw [zz i] at hb; cases hb
      · intro _ i _ hb; rw [zz i] at hb; cases hb
  constructor
  · intro m
    have m1 : w 1 = 0 ∨ p 1 = w 1 := m.proto
    have m2 : w 4 ≤ p 2 ∧ hiP (p 2) 32 ≤ hiP (w 4) (w 5) := m.src
    have m3 : w 6 ≤ p 3 ∧ hiP (p 3) 32 ≤ hiP (w 6) (w 7) := m.dst
    refine ⟨?_, ?_, by omega, by omega, (ports _ _ _ h4 m1 hw.r.sp).1 m.sp, (ports _ _ _ h5 m1 hw.r.dp).1 m.dp, (flg m1).1 m.fl⟩
    · have : w 0 = 2 ∨ p 0 = w 0 := m.side
      omega
    · omega
  · intro m
    have m1 : w 1 = 0 ∨ p 1 = w 1 := by have := m.proto; omega
    have m2 := m.src
    have m3 := m.dst
    refine ⟨?_, m1, ?_, ?_, (ports _ _ _ h4 m1 hw.r.sp).2 m.sp, (ports _ _ _ h5 m1 hw.r.dp).2 m.dp, (flg m1).2 m.fl⟩
    · have := m.side
      show w 0 = 2 ∨ p 0 = w 0; omega
    · show w 4 ≤ p 2 ∧ hiP (p 2) 32 ≤ hiP (w 4) (w 5); omega
    · show w 6 ≤ p 3 ∧ hiP (p 3) 32 ≤ hiP (w 6) (w 7); omega
end Go.Proofs.YtbolcnlenmphhaaDoor

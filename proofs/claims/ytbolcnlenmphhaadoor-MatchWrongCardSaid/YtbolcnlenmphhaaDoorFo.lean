/- Layer 26: rules in order by what they match; their meet; in plain terms. No program is in sight here. -/
import Derived.Test.YtbolcnlenmphhaaDoorFu
set_option linter.unusedVariables false
namespace Go.Proofs.YtbolcnlenmphhaaDoor
open Go Go.RowKit Ev

/-- A right rule whose numbers lie in their kinds. -/
structure Rl (x : Nat → Int) : Prop where
  i : RuleIn x
  r : Right x
theorem Rl.src {x : Nat → Int} (h : Rl x) : Pfx (x 4) (x 5) := h.i.src h.r
theorem Rl.dst {x : Nat → Int} (h : Rl x) : Pfx (x 6) (x 7) := h.i.dst h.r
theorem Rl.right {x : Nat → Int} (h : Rl x) : rightS x = true := (rightS_iff x).2 h.r

structure Ins (x y : Nat → Int) : Prop where
  side : y 0 = 2 ∨ x 0 = y 0
  proto : y 1 = 0 ∨ x 1 = y 1
  src : y 4 ≤ x 4 ∧ hiP (x 4) (x 5) ≤ hiP (y 4) (y 5)
  dst : y 6 ≤ x 6 ∧ hiP (x 6) (x 7) ≤ hiP (y 6) (y 7)
  sp : y 8 ≤ x 8 ∧ x 9 ≤ y 9
  dp : y 10 ≤ x 10 ∧ x 11 ≤ y 11
  fl : ∀ i, i < 8 → bitB (y 2) i = true → bitB (x 2) i = true ∧ bitB (y 3) i = bitB (x 3) i
theorem ins_iff {x y : Nat → Int} (hx : Rl x) (hy : Rl y) : insS x y = true ↔ Ins x y := by
  unfold insS
  simp only [Bool.and_eq_true, Bool.or_eq_true, decide_eq_true_eq, beq_iff_eq, subP_iff hx.src hy.src, subP_iff hx.dst hy.dst, sub8_iff _ _ hx.i.b2, flB_iff _ _ _ hy.i.b2]
  constructor
  · rintro ⟨⟨⟨⟨⟨⟨h0, h1⟩, h2⟩, h3⟩, h4⟩, h5⟩, h6, h7⟩
    exact ⟨h0, h1, h2, h3, h4, h5, fun i hi hb => ⟨h6 i hi hb, h7 i hi hb⟩⟩
  · rintro ⟨h0, h1, h2, h3, h4, h5, h6⟩
    exact ⟨⟨⟨⟨⟨⟨h0, h1⟩, h2⟩, h3⟩, h4⟩, h5⟩, fun i hi hb => (h6 i hi hb).1, fun i hi hb => (h6 i hi hb).2⟩

structure Cm (x y : Nat → Int) : Prop where
  side : x 0 = 2 ∨ y 0 = 2 ∨ x 0 = y 0
  proto : x 1 = 0 ∨ y 1 = 0 ∨ x 1 = y 1
  src : max (x 4) (y 4) ≤ min (hiP (x 4) (x 5)) (hiP (y 4) (y 5))
  dst : max (x 6) (y 6) ≤ min (hiP (x 6) (x 7)) (hiP (y 6) (y 7))
  sp : max (x 8) (y 8) ≤ min (x 9) (y 9)
  dp : max (x 10) (y 10) ≤ min (x 11) (y 11)
  fl : ∀ i, i < 8 → bitB (x 2) i = true → bitB (y 2) i = true → bitB (x 3) i = bitB (y 3) i
theorem cm_iff {x y : Nat → Int} (hx : Rl x) (hy : Rl y) : cmS x y = true ↔ Cm x y := by
  unfold cmS
  simp only [Bool.and_eq_true, overlap_iff hx.src hy.src, overlap_iff hx.dst hy.dst, flM_iff _ _ _ _ hx.i.b2, decide_eq_true_eq]
  simp only [Bool.or_eq_true, beq_iff_eq]
  constructor
  · rintro ⟨⟨⟨⟨⟨⟨h0, h1⟩, h2⟩, h3⟩, h4⟩, h5⟩, h6⟩
    exact ⟨or_assoc.1 h0, or_assoc.1 h1, h2, h3, h4, h5, h6⟩
  · rintro ⟨h0, h1, h2, h3, h4, h5, h6⟩
    exact ⟨⟨⟨⟨⟨⟨or_assoc.2 h0, or_assoc.2 h1⟩, h2⟩, h3⟩, h4⟩, h5⟩, h6⟩

theorem Ins.refl (x : Nat → Int) : Ins x x := ⟨.inr rfl, .inr rfl, by omega, by omega, by omega, by omega, fun _ _ h => ⟨h, rfl⟩⟩
theorem Ins.trans {x y z : Nat → Int} (h : Ins x y) (k : Ins y z) : Ins x z := by
  refine ⟨?_, ?_, ?_, ?_, ?_, ?_, fun i hi hb => ?_⟩
  · rcases k.side with h1 | h1
    · exact .inl h1
    · rcases h.side with h2 | h2 <;> omega
  · rcases k.proto with h1 | h1
    · exact .inl h1
    · rcases h.proto with h2 | h2 <;> omega
  · have := h.src; have := k.src; omega
  · have := h.dst; have := k.dst; omega
  · have := h.sp; have := k.sp; omega
  · have := h.dp; have := k.dp; omega
  · obtain ⟨h1, h2⟩ := k.fl i hi hb
    obtain ⟨h3, h4⟩ := h.fl i hi h1
    exact ⟨h3, h2.trans h4⟩

theorem pfx_eq {p n q m : Int} (hp : Pfx p n) (hq : Pfx q m) (h1 : p = q) (h2 : hiP p n = hiP q m) : n = m := by
  rw [hp.hi, hq.hi] at h2
  have h3 := psz_pos n
  have h4 := psz_pos m
  rcases Int.lt_or_le n m with h | h
  · have := psz_lt h hq.le; omega
  · rcases Int.lt_or_le m n with h' | h'
    · have := psz_lt h' hp.le; omega
    · omega

theorem bits_eq {a b : Int} (ha : 0 ≤ a ∧ a < 256) (hb : 0 ≤ b ∧ b < 256) (h : ∀ i, i < 8 → bitB a i = bitB b i) : a = b := by
  have : a.toNat = b.toNat := by
    apply Nat.eq_of_testBit_eq
    intro i
    by_cases hi : i < 8
    · exact h i hi
    · rw [high8 (by omega) hi, high8 (by omega) hi]
  omega
theorem want_bit {x : Nat → Int} (h : Rl x) {i : Nat} (hi : i < 8) (hb : bitB (x 3) i = true) : bitB (x 2) i = true := (sub8_iff _ _ h.i.b2).1 h.r.want i hi hb

theorem Ins.antisymm {x y : Nat → Int} (hx : Rl x) (hy : Rl y) (h : Ins x y) (k : Ins y x) : ∀ i, i < 12 → x i = y i := by
  have e4 : x 4 = y 4 := by have := h.src; have := k.src; omega
  have e6 : x 6 = y 6 := by have := h.dst; have := k.dst; omega
  have hb : ∀ i, i < 8 → bitB (x 2) i = bitB (y 2) i := fun i hi => by
    cases h1 : bitB (y 2) i
    · cases h2 : bitB (x 2) i
      · rfl
      · rw [(k.fl i hi h2).1] at h1; cases h1
    · exact (h.fl i hi h1).1
  have hw : ∀ i, i < 8 → bitB (x 3) i = bitB (y 3) i := fun i hi => by
    cases h1 : bitB (y 2) i
    · cases h2 : bitB (x 3) i
      · cases h3 : bitB (y 3) i
        · rfl
        · rw [want_bit hy hi h3] at h1; cases h1
      · have := want_bit hx hi h2
        rw [hb i hi, h1] at this; cases this
    · exact ((h.fl i hi h1).2).symm
  intro i hi
  match i, hi with
  | 0, _ => have := h.side; have := k.side; omega
  | 1, _ => have := h.proto; have := k.proto; omega
  | 2, _ => exact bits_eq hx.i.b2 hy.i.b2 hb
  | 3, _ => exact bits_eq hx.i.b3 hy.i.b3 hw
  | 4, _ => exact e4
  | 5, _ => exact pfx_eq hx.src hy.src e4 (by have := h.src; have := k.src; omega)
  | 6, _ => exact e6
  | 7, _ => exact pfx_eq hx.dst hy.dst e6 (by have := h.dst; have := k.dst; omega)
  | 8, _ => have := h.sp; have := k.sp; omega
  | 9, _ => have := h.sp; have := k.sp; omega
  | 10, _ => have := h.dp; have := k.dp; omega
  | 11, _ => have := h.dp; have := k.dp; omega
theorem Ins.of_eq {x y : Nat → Int} (h : ∀ i, i < 12 → x i = y i) : Ins x y :=
  ⟨.inr (h 0 (by omega)), .inr (h 1 (by omega)), by rw [h 4 (by omega), h 5 (by omega)]; omega, by rw [h 6 (by omega), h 7 (by omega)]; omega, by rw [h 8 (by omega), h 9 (by omega)]; omega, by rw [h 10 (by omega), h 11 (by omega)]; omega,
    fun i _ hb => by rw [h 2 (by omega), h 3 (by omega)]; exact ⟨hb, rfl⟩⟩

/-- The longer one of two prefixes that overlap: their meet. -/
theorem meet_pfx {p n q m : Int} (hp : Pfx p n) (hq : Pfx q m) (h : max p q ≤ min (hiP p n) (hiP q m)) :
    ((bif decide (m > n) then q else p) = max p q ∧ hiP (bif decide (m > n) then q else p) (max n m) = min (hiP p n) (hiP q m)) ∧ Pfx (bif decide (m > n) then q else p) (max n m) := by
  have h1 := psz_pos n
  have h2 := psz_pos m
  by_cases hm : m > n
  · simp only [decide_eq_true hm, cond_true, show max n m = m by omega]
    refine ⟨?_, hq⟩
    have hd := hq.dis hp (by omega)
    rw [hp.hi, hq.hi] at h ⊢
    omega
  · simp only [decide_eq_false hm, cond_false, show max n m = n by omega]
    refine ⟨?_, hp⟩
    have hd := hp.dis hq (by omega)
    rw [hp.hi, hq.hi] at h ⊢
    omega

theorem bit_or (a b : Int) (i : Nat) : bitB ((a.toNat ||| b.toNat : Nat) : Int) i = (bitB a i || bitB b i) := by
  unfold bitB
  rw [Int.toNat_natCast, Nat.testBit_or]

theorem cmn_rl {x y : Nat → Int} (hx : Rl x) (hy : Rl y) (h : Cm x y) : Rl (cmnF x y) := by
  have m1 := meet_pfx hx.src hy.src h.src
  have m2 := meet_pfx hx.dst hy.dst h.dst
  have x0 := hx.i.b0; have y0 := hy.i.b0; have x1 := hx.i.b1; have y1 := hy.i.b1; have x2 := hx.i.b2; have y2 := hy.i.b2; have x3 := hx.i.b3; have y3 := hy.i.b3
  have x8 := hx.i.b8; have y8 := hy.i.b8; have x9 := hx.i.b9; have y9 := hy.i.b9; have x10 := hx.i.b10; have y10 := hy.i.b10; have x11 := hx.i.b11; have y11 := hy.i.b11
  have o2 : (x 2).toNat ||| (y 2).toNat < 2 ^ 6 := Nat.or_lt_two_pow (by have := hx.r.mask; omega) (by have := hy.r.mask; omega)
  have o3 : (x 3).toNat ||| (y 3).toNat < 2 ^ 8 := Nat.or_lt_two_pow (by omega) (by omega)
  have px := hx.r.proto
  have py := hy.r.proto
  have pc := h.proto
  have hi : RuleIn (cmnF x y) := by
    refine ⟨?_, ?_, ?_, ?_, m1.2.lo, m1.2.n0, m2.2.lo, m2.2.n0, ?_, ?_, ?_, ?_⟩
    · show 0 ≤ (bif x 0 == 2 then y 0 else x 0) ∧ (bif x 0 == 2 then y 0 else x 0) < 256
      cases x 0 == 2 <;> simp only [cond_true, cond_false] <;> omega
    · show 0 ≤ max (x 1) (y 1) ∧ max (x 1) (y 1) < 256; omega
    · show 0 ≤ (((x 2).toNat ||| (y 2).toNat : Nat) : Int) ∧ (((x 2).toNat ||| (y 2).toNat : Nat) : Int) < 256; omega
    · show 0 ≤ (((x 3).toNat ||| (y 3).toNat : Nat) : Int) ∧ (((x 3).toNat ||| (y 3).toNat : Nat) : Int) < 256; omega
    · show 0 ≤ max (x 8) (y 8) ∧ max (x 8) (y 8) < 65536; omega
    · show 0 ≤ min (x 9) (y 9) ∧ min (x 9) (y 9) < 65536; omega
    · show 0 ≤ max (x 10) (y 10) ∧ max (x 10) (y 10) < 65536; omega
    · show 0 ≤ min (x 11) (y 11) ∧ min (x 11) (y 11) < 65536; omega
  have ports : ∀ f t f' t' : Int, rR (x 1 == 6 || x 1 == 17) f t = true → rR (y 1 == 6 || y 1 == 17) f' t' = true → max f f' ≤ min t t' → rR (max (x 1) (y 1) == 6 || max (x 1) (y 1) == 17) (max f f') (min t t') = true := by
    intro f t f' t' h1 h2 h3
    unfold rR at h1 h2 ⊢
    have hc : ∀ (a : Int) (u v : Bool), (bif a == 6 || a == 17 then u else v) = if a = 6 ∨ a = 17 then u else v := fun a u v => by
      by_cases h6 : a = 6
      · simp [h6]
      · by_cases h17 : a = 17
        · simp [h17]
        · rw [beq_eq_false_iff_ne.2 h6, beq_eq_false_iff_ne.2 h17, if_neg (by omega)]
          rfl
    rw [hc] at h1 h2 ⊢
    split
    · exact decide_eq_true h3
    · rename_i hn
      rw [if_neg (by omega)] at h1 h2
      simp only [Bool.and_eq_true, beq_iff_eq] at h1 h2 ⊢
      omega
  refine ⟨hi, ?_, ?_, m1.2.ok, m2.2.ok, ports _ _ _ _ hx.r.sp hy.r.sp h.sp, ports _ _ _ _ hx.r.dp hy.r.dp h.dp, ?_, ?_, ?_⟩
  · show (bif x 0 == 2 then y 0 else x 0) ≤ 2
    have := hx.r.side
    have := hy.r.side
    cases x 0 == 2 <;> simp only [cond_true, cond_false] <;> omega
  · show max (x 1) (y 1) = 0 ∨ max (x 1) (y 1) = 1 ∨ max (x 1) (y 1) = 6 ∨ max (x 1) (y 1) = 17
    omega
  · show (((x 2).toNat ||| (y 2).toNat : Nat) : Int) ≤ 63
    omega
  · show sub8 (((x 3).toNat ||| (y 3).toNat : Nat) : Int) (((x 2).toNat ||| (y 2).toNat : Nat) : Int) = true
    rw [sub8_iff _ _ (by omega)]
    intro i hi hb
    rw [bit_or] at hb ⊢
    rw [Bool.or_eq_true] at hb ⊢
    rcases hb with hb | hb
    · exact .inl (want_bit hx hi hb)
    · exact .inr (want_bit hy hi hb)
  · show (((x 2).toNat ||| (y 2).toNat : Nat) : Int) = 0 ∨ max (x 1) (y 1) = 6
    have f1 := hx.r.flags
    have f2 := hy.r.flags
    by_cases h2 : x 2 = 0
    · by_cases h3 : y 2 = 0
      · left; rw [h2, h3]; rfl
      · right; omega
    · right; omega

theorem cmn_lb {x y : Nat → Int} (hx : Rl x) (hy : Rl y) (h : Cm x y) : Ins (cmnF x y) x ∧ Ins (cmnF x y) y := by
  have m1 := (meet_pfx hx.src hy.src h.src).1
  have m2 := (meet_pfx hx.dst hy.dst h.dst).1
  have px := hx.r.proto
  have py := hy.r.proto
  have hs := h.side
  have hp := h.proto
  have hcs : cmnF x y 0 = if x 0 = 2 then y 0 else x 0 := bif_beq _ _ _ _
  have b2 : ∀ i, bitB (cmnF x y 2) i = (bitB (x 2) i || bitB (y 2) i) := fun i => bit_or _ _ i
  have b3 : ∀ i, bitB (cmnF x y 3) i = (bitB (x 3) i || bitB (y 3) i) := fun i => bit_or _ _ i
  constructor
  · refine ⟨?_, ?_, ?_, ?_, ?_, ?_, fun i hi hb => ?_⟩
    · rw [hcs]; split <;> omega
    · show x 1 = 0 ∨ max (x 1) (y 1) = x 1; omega
    · show x 4 ≤ (bif decide (y 5 > x 5) then y 4 else x 4) ∧ hiP (bif decide (y 5 > x 5) then y 4 else x 4) (max (x 5) (y 5)) ≤ _; omega
    · show x 6 ≤ (bif decide (y 7 > x 7) then y 6 else x 6) ∧ hiP (bif decide (y 7 > x 7) then y 6 else x 6) (max (x 7) (y 7)) ≤ _; omega
    · show x 8 ≤ max (x 8) (y 8) ∧ min (x 9) (y 9) ≤ x 9; omega
    · show x 10 ≤ max (x 10) (y 10) ∧ min (x 11) (y 11) ≤ x 11; omega
    · rw [b2, b3, hb]
      refine ⟨rfl, ?_⟩
      cases h3 : bitB (y 3) i
      · rw [Bool.or_false]
      · rw [Bool.or_true, h.fl i hi hb (want_bit hy hi h3), h3]
  · refine ⟨?_, ?_, ?_, ?_, ?_, ?_, fun i hi hb => ?_⟩
    · rw [hcs]; split <;> omega
    · show y 1 = 0 ∨ max (x 1) (y 1) = y 1; omega
    · show y 4 ≤ (bif decide (y 5 > x 5) then y 4 else x 4) ∧ hiP (bif decide (y 5 > x 5) then y 4 else x 4) (max (x 5) (y 5)) ≤ _; omega
    · show y 6 ≤ (bif decide (y 7 > x 7) then y 6 else x 6) ∧ hiP (bif decide (y 7 > x 7) then y 6 else x 6) (max (x 7) (y 7)) ≤ _; omega
    · show y 8 ≤ max (x 8) (y 8) ∧ min (x 9) (y 9) ≤ y 9; omega
    · show y 10 ≤ max (x 10) (y 10) ∧ min (x 11) (y 11) ≤ y 11; omega
    · rw [b2, b3, hb]
      refine ⟨Bool.or_true _, ?_⟩
      cases h3 : bitB (x 3) i
      · rw [Bool.false_or]
      · rw [Bool.true_or, ← h.fl i hi (want_bit hx hi h3) hb, h3]

theorem cmn_glb {a x y : Nat → Int} (ha : Rl a) (hx : Rl x) (hy : Rl y) (h : Ins a x) (k : Ins a y) : Cm x y ∧ Ins a (cmnF x y) := by
  have la := psz_pos (a 5)
  have lb := psz_pos (a 7)
  have e1 := ha.src.hi
  have e2 := ha.dst.hi
  have q1 := ports_le ha.r.sp
  have q2 := ports_le ha.r.dp
  have cm : Cm x y := by
    refine ⟨?_, ?_, ?_, ?_, ?_, ?_, fun i hi h1 h2 => ?_⟩
    · have := h.side; have := k.side; omega
    · have := h.proto; have := k.proto; omega
    · have := h.src; have := k.src; omega
    · have := h.dst; have := k.dst; omega
    · have := h.sp; have := k.sp; omega
    · have := h.dp; have := k.dp; omega
    · exact ((h.fl i hi h1).2).trans ((k.fl i hi h2).2).symm
  refine ⟨cm, ?_⟩
  have m1 := (meet_pfx hx.src hy.src cm.src).1
  have m2 := (meet_pfx hx.dst hy.dst cm.dst).1
  have px := hx.r.proto
  have py := hy.r.proto
  have hcs : cmnF x y 0 = if x 0 = 2 then y 0 else x 0 := bif_beq _ _ _ _
  have b2 : ∀ i, bitB (cmnF x y 2) i = (bitB (x 2) i || bitB (y 2) i) := fun i => bit_or _ _ i
  have b3 : ∀ i, bitB (cmnF x y 3) i = (bitB (x 3) i || bitB (y 3) i) := fun i => bit_or _ _ i
  refine ⟨?_, ?_, ?_, ?_, ?_, ?_, fun i hi hb => ?_⟩
  · have := h.side; have := k.side
    rw [hcs]; split <;> omega
  · have := h.proto; have := k.proto
    show max (x 1) (y 1) = 0 ∨ a 1 = max (x 1) (y 1); omega
  · have := h.src; have := k.src
    show (bif decide (y 5 > x 5) then y 4 else x 4) ≤ a 4 ∧ _ ≤ hiP (bif decide (y 5 > x 5) then y 4 else x 4) (max (x 5) (y 5)); omega
  · have := h.dst; have := k.dst
    show (bif decide (y 7 > x 7) then y 6 else x 6) ≤ a 6 ∧ _ ≤ hiP (bif decide (y 7 > x 7) then y 6 else x 6) (max (x 7) (y 7)); omega
  · have := h.sp; have := k.sp
    show max (x 8) (y 8) ≤ a 8 ∧ a 9 ≤ min (x 9) (y 9); omega
  · have := h.dp; have := k.dp
    show max (x 10) (y 10) ≤ a 10 ∧ a 11 ≤ min (x 11) (y 11); omega
  · rw [b2] at hb
    rw [b3]
    cases h1 : bitB (x 2) i
    · rw [h1, Bool.false_or] at hb
      have z : bitB (x 3) i = false := by
        cases hz : bitB (x 3) i
        · rfl
        · rw [want_bit hx hi hz] at h1; cases h1
      rw [z, Bool.false_or]
      exact k.fl i hi hb
    · obtain ⟨f1, f2⟩ := h.fl i hi h1
      refine ⟨f1, ?_⟩
      cases h2 : bitB (y 2) i
      · have z : bitB (y 3) i = false := by
          cases hz : bitB (y 3) i
          · rfl
          · rw [want_bit hy hi hz] at h2; cases h2
        rw [z, Bool.or_false]
        exact f2
      · rw [f2, (k.fl i hi h2).2, Bool.or_self]
end Go.Proofs.YtbolcnlenmphhaaDoor

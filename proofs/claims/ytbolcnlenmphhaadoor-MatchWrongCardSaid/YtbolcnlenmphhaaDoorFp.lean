/- Layer 26: what two rules have in common matches just the packets that both match; in plain terms. No program is in sight here. -/
import Derived.Test.YtbolcnlenmphhaaDoorFo
set_option linter.unusedVariables false
namespace Go.Proofs.YtbolcnlenmphhaaDoor
open Go Go.RowKit Ev

structure Mt (x : Nat → Int) (s p a b sp dp fl : Int) : Prop where
  side : x 0 = 2 ∨ x 0 = s
  proto : x 1 = 0 ∨ x 1 = p
  src : x 4 ≤ a ∧ a ≤ hiP (x 4) (x 5)
  dst : x 6 ≤ b ∧ b ≤ hiP (x 6) (x 7)
  sp : x 8 ≤ sp ∧ sp ≤ x 9
  dp : x 10 ≤ dp ∧ dp ≤ x 11
  fl : ∀ i, i < 8 → bitB (x 2) i = true → bitB (x 3) i = bitB fl i
theorem mt_iff {x : Nat → Int} (hx : Rl x) {s p a b sp dp fl : Int} : meetsS x s p a b sp dp fl = true ↔ Mt x s p a b sp dp fl := by
  unfold meetsS
  rw [inP_iff _ _ a hx.i.b4 hx.i.b5.1 hx.r.src, inP_iff _ _ b hx.i.b6 hx.i.b7.1 hx.r.dst]
  simp only [Bool.and_eq_true, Bool.or_eq_true, decide_eq_true_eq, beq_iff_eq, flB_iff _ _ _ hx.i.b2]
  constructor
  · rintro ⟨⟨⟨⟨⟨⟨h0, h1⟩, h2⟩, h3⟩, h4⟩, h5⟩, h6⟩
    exact ⟨h0, h1, h2, h3, h4, h5, h6⟩
  · rintro ⟨h0, h1, h2, h3, h4, h5, h6⟩
    exact ⟨⟨⟨⟨⟨⟨h0, h1⟩, h2⟩, h3⟩, h4⟩, h5⟩, h6⟩

section
variable {x y : Nat → Int} {s p a b sp dp fl : Int}
theorem Mt.mono (h : Ins x y) (k : Mt x s p a b sp dp fl) : Mt y s p a b sp dp fl := by
  refine ⟨?_, ?_, ?_, ?_, ?_, ?_, fun i hi hb => ?_⟩
  · rcases h.side with h1 | h1
    · exact .inl h1
    · rw [← h1]; exact k.side
  · rcases h.proto with h1 | h1
    · exact .inl h1
    · rw [← h1]; exact k.proto
  · have := h.src; have := k.src; omega
  · have := h.dst; have := k.dst; omega
  · have := h.sp; have := k.sp; omega
  · have := h.dp; have := k.dp; omega
  · obtain ⟨h1, h2⟩ := h.fl i hi hb
    rw [h2]; exact k.fl i hi h1
theorem Mt.cm (h : Mt x s p a b sp dp fl) (k : Mt y s p a b sp dp fl) : Cm x y := by
  refine ⟨?_, ?_, ?_, ?_, ?_, ?_, fun i hi h1 h2 => (h.fl i hi h1).trans (k.fl i hi h2).symm⟩
  · have := h.side; have := k.side; omega
  · have := h.proto; have := k.proto; omega
  · have := h.src; have := k.src; omega
  · have := h.dst; have := k.dst; omega
  · have := h.sp; have := k.sp; omega
  · have := h.dp; have := k.dp; omega
theorem Mt.both (hx : Rl x) (hy : Rl y) (h : Mt x s p a b sp dp fl) (k : Mt y s p a b sp dp fl) : Mt (cmnF x y) s p a b sp dp fl := by
  have cm := h.cm k
  have m1 := (meet_pfx hx.src hy.src cm.src).1
  have m2 := (meet_pfx hx.dst hy.dst cm.dst).1
  have b1 := hx.i.b1
  have b1' := hy.i.b1
  have hcs : cmnF x y 0 = if x 0 = 2 then y 0 else x 0 := bif_beq _ _ _ _
  refine ⟨?_, ?_, ?_, ?_, ?_, ?_, fun i hi hb => ?_⟩
  · have := h.side; have := k.side
    rw [hcs]; split <;> omega
  · have := h.proto; have := k.proto
    show max (x 1) (y 1) = 0 ∨ max (x 1) (y 1) = p; omega
  · have := h.src; have := k.src
    show (bif decide (y 5 > x 5) then y 4 else x 4) ≤ a ∧ a ≤ hiP (bif decide (y 5 > x 5) then y 4 else x 4) (max (x 5) (y 5)); omega
  · have := h.dst; have := k.dst
    show (bif decide (y 7 > x 7) then y 6 else x 6) ≤ b ∧ b ≤ hiP (bif decide (y 7 > x 7) then y 6 else x 6) (max (x 7) (y 7)); omega
  · have := h.sp; have := k.sp
    show max (x 8) (y 8) ≤ sp ∧ sp ≤ min (x 9) (y 9); omega
  · have := h.dp; have := k.dp
    show max (x 10) (y 10) ≤ dp ∧ dp ≤ min (x 11) (y 11); omega
  · have e2 : bitB (cmnF x y 2) i = (bitB (x 2) i || bitB (y 2) i) := bit_or _ _ i
    have e3 : bitB (cmnF x y 3) i = (bitB (x 3) i || bitB (y 3) i) := bit_or _ _ i
    rw [e2] at hb
    rw [e3]
    have zx : bitB (x 2) i = false → bitB (x 3) i = false := fun h1 => by
      cases hz : bitB (x 3) i
      · rfl
      · rw [want_bit hx hi hz] at h1; cases h1
    have zy : bitB (y 2) i = false → bitB (y 3) i = false := fun h1 => by
      cases hz : bitB (y 3) i
      · rfl
      · rw [want_bit hy hi hz] at h1; cases h1
    cases h1 : bitB (x 2) i
    · rw [h1, Bool.false_or] at hb
      rw [zx h1, Bool.false_or]; exact k.fl i hi hb
    · rw [h.fl i hi h1]
      cases h2 : bitB (y 2) i
      · rw [zy h2, Bool.or_false]
      · rw [k.fl i hi h2, Bool.or_self]
theorem Cm.symm (h : Cm x y) : Cm y x := by
  refine ⟨?_, ?_, ?_, ?_, ?_, ?_, fun i hi h1 h2 => (h.fl i hi h2 h1).symm⟩
  · have := h.side; omega
  · have := h.proto; omega
  · have := h.src; omega
  · have := h.dst; omega
  · have := h.sp; omega
  · have := h.dp; omega
theorem cmS_symm (hx : Rl x) (hy : Rl y) : cmS x y = cmS y x := by
  rw [Bool.eq_iff_iff, cm_iff hx hy, cm_iff hy hx]
  exact ⟨Cm.symm, Cm.symm⟩
theorem cmn_symm (hx : Rl x) (hy : Rl y) (h : Cm x y) : ∀ i, i < 12 → cmnF y x i = cmnF x y i := by
  have c1 := cmn_lb hx hy h
  have c2 := cmn_lb hy hx h.symm
  have r1 := cmn_rl hx hy h
  have r2 := cmn_rl hy hx h.symm
  exact Ins.antisymm r2 r1 (cmn_glb r2 hx hy c2.2 c2.1).2 (cmn_glb r1 hy hx c1.2 c1.1).2
theorem cmn_meets (hx : Rl x) (hy : Rl y) (h : Cm x y) : meetsS (cmnF x y) s p a b sp dp fl = (meetsS x s p a b sp dp fl && meetsS y s p a b sp dp fl) := by
  have r1 := cmn_rl hx hy h
  have c1 := cmn_lb hx hy h
  rw [Bool.eq_iff_iff, Bool.and_eq_true, mt_iff r1, mt_iff hx, mt_iff hy]
  exact ⟨fun k => ⟨k.mono c1.1, k.mono c1.2⟩, fun k => k.1.both hx hy k.2⟩
theorem none_meets (hx : Rl x) (hy : Rl y) (h : cmS x y = false) : (meetsS x s p a b sp dp fl && meetsS y s p a b sp dp fl) = false := by
  rw [Bool.eq_false_iff]
  intro k
  rw [Bool.and_eq_true, mt_iff hx, mt_iff hy] at k
  rw [(cm_iff hx hy).2 (k.1.cm k.2)] at h; cases h
end
end Go.Proofs.YtbolcnlenmphhaaDoor

/- Layer 18: a wheel's state, told in full. -/
import Derived.Test.YtfhheeoejncfgaaHl
set_option linter.unusedVariables false
set_option linter.unusedSimpArgs false
namespace Go.Proofs.Ytfhheeoejncfgaa.Ew
open Go Go.RowKit
noncomputable section
--P Try.prog G0

/-- A wheel's state, told in full. -/
structure WS (S now bu le mo T n b l m : Int) (p : RL × RL) : Prop where
  a1 : now = n
  a2 : bu = b
  a3 : le = l
  a4 : mo = m
  s : dc S = p.1
  t : dc T = p.2
  ok : ∃ Q, WOK n b l p.1 p.2 Q (b * (255 - n % 256))
  mb : 0 ≤ m ∧ m ≤ 1152921504606846976
theorem WS.wx {S now bu le mo T n b l m : Int} {p : RL × RL} (h : WS S now bu le mo T n b l m p) : WX [S, now, bu, le, mo, T] := by
  obtain ⟨rfl, rfl, rfl, rfl, hs, ht, ok, mb⟩ := h
  refine ⟨?_, mb.1, mb.2⟩
  show ∃ Q, WOK now bu le (dc S) (dc T) Q _
  rw [hs, ht]; exact ok
theorem WS.new {S now bu le mo T n c b : Int} (h : newW n c b) (d0 : S = e13.fn 0 [n, c, b]) (d1 : now = IntKind.i64.wrap (e13.fn 1 [n, c, b])) (d2 : bu = IntKind.i64.wrap (e13.fn 2 [n, c, b])) (d3 : le = IntKind.i64.wrap (e13.fn 3 [n, c, b])) (d4 : mo = IntKind.i64.wrap (e13.fn 4 [n, c, b])) (d5 : T = e13.fn 5 [n, c, b]) :
    WS S now bu le mo T n b 0 0 (S0, Tn c) := by
  have hh := h
  obtain ⟨h1, h2, h3, h4⟩ := hh
  refine ⟨d1.trans (i64w (by show -9223372036854775808 ≤ n; omega) (by show n ≤ _; omega)), d2.trans (i64w (by show -9223372036854775808 ≤ b; omega) (by show b ≤ _; omega)), d3.trans rfl, d4.trans rfl, by rw [d0]; exact dc_cd _, by rw [d5]; exact dc_cd _, ⟨_, WOK.new h (Int.mul_nonneg (by omega) (by omega))⟩, by decide⟩
/-- A timer is armed. -/
theorem WOK.armed {now bu le w d : Int} {S T : RL} {Q : Nat → List Nat} {i : Nat} (h : WOK now bu le S T Q w) (hi : i < T.length) (hd : now < d ∧ d ≤ now + 2147483648) :
    ∃ Q', WOK now bu (if 0 < gC T i 4 then le else le + 1) (armW now d (S, T) i).1 (armW now d (S, T) i).2 Q' w ∧ (armW now d (S, T) i).2.length = T.length := by
  unfold armW clW
  by_cases hz : 0 < gC T i 4
  · simp only [if_pos hz]
    obtain ⟨A, B, _, k1, k2, k3, k4⟩ := h.drop hi hz
    obtain ⟨m1, m2, _⟩ := k1.put (d := d) (i := i) (by rw [k2]; exact hi) k4 hd
    have e : le - 1 + 1 = le := by omega
    rw [e] at m1
    exact ⟨_, m1, m2.trans k2⟩
  · simp only [if_neg hz]
    have := (h.dr i hi).1
    obtain ⟨m1, m2, _⟩ := h.put (d := d) (i := i) hi (by omega) hd
    exact ⟨_, m1, m2⟩
theorem WS.arm {S now bu le mo T n b l m i d S' now' bu' le' mo' T' e l' : Int} {p : RL × RL} (h : WS S now bu le mo T n b l m p) (hi : 0 ≤ i ∧ i < (p.2.length : Int)) (hd : n < d ∧ d ≤ n + 2147483648) (hl : (if 0 < gC p.2 i.toNat 4 then l else l + 1) = l')
    (d0 : S' = e14.fn 0 [S, now, bu, le, mo, T, i, d]) (d1 : now' = IntKind.i64.wrap (e14.fn 1 [S, now, bu, le, mo, T, i, d])) (d2 : bu' = IntKind.i64.wrap (e14.fn 2 [S, now, bu, le, mo, T, i, d])) (d3 : le' = IntKind.i64.wrap (e14.fn 3 [S, now, bu, le, mo, T, i, d])) (d4 : mo' = IntKind.i64.wrap (e14.fn 4 [S, now, bu, le, mo, T, i, d])) (d5 : T' = e14.fn 5 [S, now, bu, le, mo, T, i, d]) (d6 : e = IntKind.i64.wrap (e14.fn 6 [S, now, bu, le, mo, T, i, d])) :
    WS S' now' bu' le' mo' T' n b l' m (armW n d p i.toNat) ∧ e = 0 := by
  obtain ⟨rfl, rfl, rfl, rfl, hs, ht, ⟨Q, ok⟩, mb⟩ := h
  obtain ⟨P1, P2⟩ := p
  replace hs : dc S = P1 := hs
  replace ht : dc T = P2 := ht
  subst hs ht
  have hk : okA [S, now, bu, le, mo, T, i, d] := ⟨hi, hd⟩
  have htm := ok.tm
  have hbg := ok.bg
  obtain ⟨Q', m1, m2⟩ := ok.armed (i := i.toNat) (d := d) (by show i.toNat < (dc T).length; have : i < ((dc T).length : Int) := hi.2; omega) hd
  have hler := m1.le_rng
  have e0 : e14.fn 0 [S, now, bu, le, mo, T, i, d] = cd (armW now d (dc S, dc T) i.toNat).1 := if_pos hk
  have e3 : e14.fn 3 [S, now, bu, le, mo, T, i, d] = l' := (if_pos hk).trans hl
  have e5 : e14.fn 5 [S, now, bu, le, mo, T, i, d] = cd (armW now d (dc S, dc T) i.toNat).2 := if_pos hk
  have e6 : e14.fn 6 [S, now, bu, le, mo, T, i, d] = 0 := if_pos hk
  replace hl : (if 0 < gC (dc T) i.toNat 4 then le else le + 1) = l' := hl
  rw [hl] at m1 hler
  refine ⟨⟨d1.trans (i64w (by show -9223372036854775808 ≤ now; omega) (by show now ≤ _; omega)), d2.trans (i64w (by show -9223372036854775808 ≤ bu; omega) (by show bu ≤ _; omega)), ?_, d4.trans (i64w (by show -9223372036854775808 ≤ mo; omega) (by show mo ≤ _; omega)), ?_, ?_, ⟨Q', m1⟩, mb⟩, ?_⟩
  · rw [d3, e3]; exact i64w (by omega) (by omega)
  · rw [d0, e0, dc_cd]
  · rw [d5, e5, dc_cd]
  · rw [d6, e6]; rfl

theorem fnTi_dc (xs : List Int) : dc (fnTi 0 xs) = (mvR xs).1.1 ∧ dc (fnTi 5 xs) = (mvR xs).1.2 := by
  have hz : (mvR xs).2 = 0 → (mvR xs).1 = (SW xs, TW xs) := fun h => mvN_zero h
  constructor
  · show dc (if (mvR xs).2 = 0 then env xs 0 else cd (mvR xs).1.1) = _
    split
    · rename_i h; rw [hz h]; rfl
    · exact dc_cd _
  · show dc (if (mvR xs).2 = 0 then env xs 5 else cd (mvR xs).1.2) = _
    split
    · rename_i h; rw [hz h]; rfl
    · exact dc_cd _
theorem fn50_dc (S now bu le mo T i : Int) : (dc (fn50 0 [S, now, bu, le, mo, T, i]), dc (fn50 5 [S, now, bu, le, mo, T, i])) = joinW i.toNat (dc S, dc T) := by
  show (dc (if gC (dc S) i.toNat 2 = 0 then S else cd (joinS (dc S) i.toNat)), dc (if gC (dc S) i.toNat 2 = 0 then T else cd (joinT (dc T) (gC (dc S) i.toNat 0) (gC (dc S) 2048 1)))) = (if gC (dc S) i.toNat 2 = 0 then (dc S, dc T) else (joinS (dc S) i.toNat, joinT (dc T) (gC (dc S) i.toNat 0) (gC (dc S) 2048 1)))
  by_cases h : gC (dc S) i.toNat 2 = 0
  · simp only [if_pos h]
  · simp only [if_neg h, dc_cd]
theorem fn15_dc (S now bu le mo T : Int) : dc (fn15 0 [S, now, bu, le, mo, T]) = (tickW now bu (dc S, dc T)).1.1 ∧ dc (fn15 5 [S, now, bu, le, mo, T]) = (tickW now bu (dc S, dc T)).1.2 ∧ fn15 6 [S, now, bu, le, mo, T] = (tickW now bu (dc S, dc T)).2 ∧
    fn15 4 [S, now, bu, le, mo, T] = mo + (tickW now bu (dc S, dc T)).2 := by
  by_cases hM : now = 1099511627776
  · have e : tickW now bu (dc S, dc T) = ((dc S, dc T), 0) := if_pos hM
    rw [e]
    refine ⟨?_, ?_, if_pos hM, ?_⟩
    · exact congrArg dc (if_pos hM)
    · exact congrArg dc (if_pos hM)
    · refine (if_pos hM).trans ?_
      show mo = mo + 0
      omega
  · obtain ⟨ys, hy⟩ : ∃ ys, ys = jnY [S, now, bu, le, mo, T] := ⟨_, rfl⟩
    have e : tickW now bu (dc S, dc T) = mvR ys := by
      have e1 : tickW now bu (dc S, dc T) = mvN (now + 1) bu.toNat (joinW ((now + 1) % 512).toNat (dc S, dc T)) := if_neg hM
      rw [e1, ← fn50_dc S (now + 1) bu le mo T, hy]
      show _ = mvN (now + 1) (bu - 0).toNat _
      rw [Int.sub_zero]
      rfl
    have e6 : fnTi 6 ys = (mvR ys).2 := by
      show env ys 6 + (mvR ys).2 = _
      rw [show env ys 6 = 0 by rw [hy]; rfl, Int.zero_add]
    rw [e]
    refine ⟨?_, ?_, ?_, ?_⟩
    · refine (congrArg dc (if_neg hM)).trans ?_
      rw [← hy]; exact (fnTi_dc ys).1
    · refine (congrArg dc (if_neg hM)).trans ?_
      rw [← hy]; exact (fnTi_dc ys).2
    · refine (if_neg hM).trans ?_
      rw [← hy]; exact e6
    · refine (if_neg hM).trans ?_
      rw [← hy, e6]; rfl
theorem WS.tick {S now bu le mo T n b l m S' now' bu' le' mo' T' v : Int} {p : RL × RL} (h : WS S now bu le mo T n b l m p) (hm : m + b ≤ 1152921504606846976)
    (d0 : S' = e15.fn 0 [S, now, bu, le, mo, T]) (d1 : now' = IntKind.i64.wrap (e15.fn 1 [S, now, bu, le, mo, T])) (d2 : bu' = IntKind.i64.wrap (e15.fn 2 [S, now, bu, le, mo, T])) (d3 : le' = IntKind.i64.wrap (e15.fn 3 [S, now, bu, le, mo, T])) (d4 : mo' = IntKind.i64.wrap (e15.fn 4 [S, now, bu, le, mo, T])) (d5 : T' = e15.fn 5 [S, now, bu, le, mo, T]) (d6 : v = IntKind.i64.wrap (e15.fn 6 [S, now, bu, le, mo, T])) :
    WS S' now' bu' le' mo' T' (nowT n) b l (m + (tickW n b p).2) (tickW n b p).1 ∧ v = (tickW n b p).2 := by
  obtain ⟨rfl, rfl, rfl, rfl, hs, ht, ⟨Q, ok⟩, mb⟩ := h
  obtain ⟨P1, P2⟩ := p
  replace hs : dc S = P1 := hs
  replace ht : dc T = P2 := ht
  subst hs ht
  obtain ⟨f0, f5, f6, f4⟩ := fn15_dc S now bu le mo T
  obtain ⟨Q', t1, t2, t3, _⟩ := ok.tick
  have htm := t1.tm
  have hbg := ok.bg
  have hle := ok.le_rng
  obtain ⟨g, hg⟩ : ∃ g, g = (tickW now bu (dc S, dc T)).2 := ⟨_, rfl⟩
  rw [← hg] at f6 f4 t2 t3 ⊢
  refine ⟨⟨d1.trans (i64w (by show -9223372036854775808 ≤ nowT now; omega) (by show nowT now ≤ _; omega)), d2.trans (i64w (by show -9223372036854775808 ≤ bu; omega) (by show bu ≤ _; omega)), d3.trans (i64w (by show -9223372036854775808 ≤ le; omega) (by show le ≤ _; omega)), ?_, ?_, ?_, ⟨Q', t1⟩, by omega, by omega⟩, ?_⟩
  · rw [d4]; show IntKind.i64.wrap (fn15 4 _) = _; rw [f4]; exact i64w (by omega) (by omega)
  · rw [d0]; exact f0
  · rw [d5]; exact f5
  · rw [d6]; show IntKind.i64.wrap (fn15 6 _) = _; rw [f6]; exact i64w (by omega) (by omega)

theorem fn17_dc (S now bu le mo T n : Int) (hn : 0 ≤ n) : dc (fn17 0 [S, now, bu, le, mo, T, n]) = (tkN now n.toNat (dc S, dc T)).1.1 ∧ dc (fn17 5 [S, now, bu, le, mo, T, n]) = (tkN now n.toNat (dc S, dc T)).1.2 ∧ dc (fn17 6 [S, now, bu, le, mo, T, n]) = (tkN now n.toNat (dc S, dc T)).2 ∧
    fn17 3 [S, now, bu, le, mo, T, n] = le - ((tkN now n.toNat (dc S, dc T)).2.length : Int) ∧ fn17 7 [S, now, bu, le, mo, T, n] = 0 := by
  have hM : ¬ n < 0 := by omega
  obtain ⟨ys, hy⟩ : ∃ ys, ys = tkY [S, now, bu, le, mo, T, n] := ⟨_, rfl⟩
  have e : tkN now n.toNat (dc S, dc T) = tkR ys := by
    rw [hy]
    show _ = tkN now (n - ((dc (cd [])).length : Int)).toNat (dc S, dc T)
    rw [dc_cd]
    show _ = tkN now (n - (0 : Int)).toNat (dc S, dc T)
    rw [Int.sub_zero]
  have hz : (tkR ys).2 = [] → (tkR ys).1 = (SW ys, TW ys) := fun h => tkN_zero h
  rw [e]
  refine ⟨?_, ?_, ?_, ?_, if_neg hM⟩
  · refine (congrArg dc (if_neg hM)).trans ?_
    show dc (fnTk 0 (tkY [S, now, bu, le, mo, T, n])) = _
    rw [← hy]
    show dc (if (tkR ys).2 = [] then env ys 0 else cd (tkR ys).1.1) = _
    split
    · rename_i h; rw [hz h]; rfl
    · exact dc_cd _
  · refine (congrArg dc (if_neg hM)).trans ?_
    show dc (fnTk 5 (tkY [S, now, bu, le, mo, T, n])) = _
    rw [← hy]
    show dc (if (tkR ys).2 = [] then env ys 5 else cd (tkR ys).1.2) = _
    split
    · rename_i h; rw [hz h]; rfl
    · exact dc_cd _
  · refine (congrArg dc (if_neg hM)).trans ?_
    show dc (fnTk 6 (tkY [S, now, bu, le, mo, T, n])) = _
    rw [← hy]
    have e7 : env ys 7 = cd [] := by rw [hy]; rfl
    show dc (if (tkR ys).2 = [] then env ys 7 else cd (dc (env ys 7) ++ (tkR ys).2)) = _
    rw [e7]
    split
    · rename_i h; rw [h]; exact dc_cd _
    · rw [dc_cd, dc_cd, List.nil_append]
  · refine (if_neg hM).trans ?_
    show fnTk 3 (tkY [S, now, bu, le, mo, T, n]) = _
    rw [← hy]
    show env ys 3 - ((tkR ys).2.length : Int) = _
    rw [show env ys 3 = le by rw [hy]; rfl]
theorem WS.take {S now bu le mo T n b l m k S' now' bu' le' mo' T' v e : Int} {p : RL × RL} (h : WS S now bu le mo T n b l m p) (hk : 0 ≤ k)
    (d0 : S' = e17.fn 0 [S, now, bu, le, mo, T, k]) (d1 : now' = IntKind.i64.wrap (e17.fn 1 [S, now, bu, le, mo, T, k])) (d2 : bu' = IntKind.i64.wrap (e17.fn 2 [S, now, bu, le, mo, T, k])) (d3 : le' = IntKind.i64.wrap (e17.fn 3 [S, now, bu, le, mo, T, k])) (d4 : mo' = IntKind.i64.wrap (e17.fn 4 [S, now, bu, le, mo, T, k])) (d5 : T' = e17.fn 5 [S, now, bu, le, mo, T, k]) (d6 : v = e17.fn 6 [S, now, bu, le, mo, T, k]) (d7 : e = IntKind.i64.wrap (e17.fn 7 [S, now, bu, le, mo, T, k])) :
    WS S' now' bu' le' mo' T' n b (l - ((tkN n k.toNat p).2.length : Int)) m (tkN n k.toNat p).1 ∧ dc v = (tkN n k.toNat p).2 ∧ e = 0 := by
  obtain ⟨rfl, rfl, rfl, rfl, hs, ht, ⟨Q, ok⟩, mb⟩ := h
  obtain ⟨P1, P2⟩ := p
  replace hs : dc S = P1 := hs
  replace ht : dc T = P2 := ht
  subst hs ht
  obtain ⟨f0, f5, f6, f3, f7⟩ := fn17_dc S now bu le mo T k hk
  obtain ⟨Q', t1, _⟩ := tkN_ok k.toNat (dc S, dc T) Q le _ ok
  have htm := ok.tm
  have hbg := ok.bg
  have hle := t1.le_rng
  refine ⟨⟨d1.trans (i64w (by show -9223372036854775808 ≤ now; omega) (by show now ≤ _; omega)), d2.trans (i64w (by show -9223372036854775808 ≤ bu; omega) (by show bu ≤ _; omega)), ?_, d4.trans (i64w (by show -9223372036854775808 ≤ mo; omega) (by show mo ≤ _; omega)), ?_, ?_, ⟨Q', t1⟩, mb⟩, ?_, ?_⟩
  · rw [d3]; show IntKind.i64.wrap (fn17 3 _) = _; rw [f3]; exact i64w (by omega) (by omega)
  · rw [d0]; exact f0
  · rw [d5]; exact f5
  · rw [d6]; exact f6
  · rw [d7]; show IntKind.i64.wrap (fn17 7 _) = _; rw [f7]; rfl

theorem WS.preR {S now bu le mo T n b l m i : Int} {p : RL × RL} (h : WS S now bu le mo T n b l m p) : e30.pre [S, now, bu, le, mo, T, i] := by
  obtain ⟨rfl, rfl, rfl, rfl, hs, ht, ⟨Q, ok⟩, mb⟩ := h
  have hc := ok.ct
  rw [← ht] at hc
  refine ⟨⟨by show 0 < ((dc T).length : Int); omega, by show ((dc T).length : Int) ≤ 4096; omega⟩, ?_⟩
  show rowsOK k5 (dc T)
  rw [ht]; exact ok.rT
theorem WS.len {S now bu le mo T n b l m : Int} {p : RL × RL} (h : WS S now bu le mo T n b l m p) : lenOK [S, now, bu, le, mo, T] := by
  obtain ⟨rfl, rfl, rfl, rfl, hs, ht, ⟨Q, ok⟩, mb⟩ := h
  have hc := ok.ct
  rw [← ht] at hc
  exact ⟨by show 0 < ((dc T).length : Int); omega, by show ((dc T).length : Int) ≤ 4096; omega⟩
theorem WS.pre16 {S now bu le mo T n b l m : Int} {p : RL × RL} (h : WS S now bu le mo T n b l m p) : e16.pre [S, now, bu, le, mo, T] := by
  refine ⟨h.len, ?_, ?_⟩
  · obtain ⟨rfl, rfl, rfl, rfl, hs, ht, ⟨Q, ok⟩, mb⟩ := h
    show rowsOK k3 (dc S)
    rw [hs]; exact ok.rS
  · obtain ⟨rfl, rfl, rfl, rfl, hs, ht, ⟨Q, ok⟩, mb⟩ := h
    show (dc S).length = 2049
    rw [hs]; exact ok.lk.sw.1
theorem WS.place {S now bu le mo T n b l m i v0 v1 v2 x0 x1 x2 : Int} {p : RL × RL} (h : WS S now bu le mo T n b l m p) (hi : 0 ≤ i ∧ i < (p.2.length : Int))
    (hx : (IntKind.i64.wrap (if n < gC p.2 i.toNat 4 then gC p.2 i.toNat 0 else 0) == x0 && IntKind.i64.wrap (if n < gC p.2 i.toNat 4 then gC p.2 i.toNat 1 else 0) == x1 && IntKind.i64.wrap (if n < gC p.2 i.toNat 4 then 0 else 6) == x2) = true)
    (d0 : v0 = IntKind.i64.wrap (e30.fn 0 [S, now, bu, le, mo, T, i])) (d1 : v1 = IntKind.i64.wrap (e30.fn 1 [S, now, bu, le, mo, T, i])) (d2 : v2 = IntKind.i64.wrap (e30.fn 2 [S, now, bu, le, mo, T, i])) : v0 = x0 ∧ v1 = x1 ∧ v2 = x2 := by
  obtain ⟨rfl, rfl, rfl, rfl, hs, ht, ok, mb⟩ := h
  rw [← ht] at hx hi
  have hr : riW [S, now, bu, le, mo, T, i] := hi
  simp only [Bool.and_eq_true, beq_iff_eq] at hx
  have f0 : e30.fn 0 [S, now, bu, le, mo, T, i] = if riW [S, now, bu, le, mo, T, i] ∧ now < gC (dc T) i.toNat 4 then gC (dc T) i.toNat 0 else 0 := rfl
  have f1 : e30.fn 1 [S, now, bu, le, mo, T, i] = if riW [S, now, bu, le, mo, T, i] ∧ now < gC (dc T) i.toNat 4 then gC (dc T) i.toNat 1 else 0 := rfl
  have f2 : e30.fn 2 [S, now, bu, le, mo, T, i] = if riW [S, now, bu, le, mo, T, i] then (if now < gC (dc T) i.toNat 4 then 0 else 6) else 2 := rfl
  rw [if_pos hr] at f2
  refine ⟨?_, ?_, ?_⟩
  · rw [d0, f0, ← hx.1.1]
    by_cases hc : now < gC (dc T) i.toNat 4
    · rw [if_pos ⟨hr, hc⟩, if_pos hc]
    · rw [if_neg (fun h => hc h.2), if_neg hc]
  · rw [d1, f1, ← hx.1.2]
    by_cases hc : now < gC (dc T) i.toNat 4
    · rw [if_pos ⟨hr, hc⟩, if_pos hc]
    · rw [if_neg (fun h => hc h.2), if_neg hc]
  · rw [d2, f2, ← hx.2]

end
end Go.Proofs.Ytfhheeoejncfgaa.Ew

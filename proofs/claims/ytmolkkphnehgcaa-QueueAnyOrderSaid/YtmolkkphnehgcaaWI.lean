/- What the operations on lists do to the memory of named things; that it tells what they do to the world. -/
import Derived.Test.YtmolkkphnehgcaaWH
set_option linter.unusedVariables false
set_option linter.unusedSimpArgs false
namespace Go.Proofs.Ytmolkkphnehgcaa.Ew
open Go Go.RowKit

/-! ### what a slice reads as -/
structure LV where
  own : Bool
  sh : Bool
  le : E
  c : E
  ns : List Nat
  g : E
  deriving Repr, Inhabited

def viewL (m : Mem) (ty : Nat) (row : Row) : SV → Option LV
  | .ls n le => match m.at n with
    | some (g, .lst ty' row' own le' c) => if ty' = ty ∧ row' = row ∧ le.same le' = true ∧ c.kind = .x ∧ le'.kind = .i .i64 ∧ g.kind = .b then some ⟨own, !own, le', c, [n], g⟩ else none
    | _ => none
  | .sv n str l0 lo hi => match m.at n with
    | some (g, .lst ty' row' own le' c) => if ty' = ty ∧ row' = row ∧ str = row.size ∧ l0.same le' = true ∧ c.kind = .x ∧ le'.kind = .i .i64 ∧ g.kind = .b then
        some ⟨false, !own, LEN (.app .x 0 5 [c, lo, hi]), .app .x 0 5 [c, lo, hi], [n], mkAnd g (mkAnd (mkCmp .geq lo (.lit (.i .i64) 0)) (mkAnd (mkCmp .leq lo hi) (mkCmp .leq hi le')))⟩ else none
    | _ => none
  | .nilp .nS => some ⟨true, true, .lit (.i .i64) 0, NILL, [], mkB true⟩
  | .ite q a b => match viewL m ty row a, viewL m ty row b with
    | some x, some y => if q.kind = .b then some ⟨x.own && y.own, x.sh && y.sh, mkIte q x.le y.le, mkIte q x.c y.c, x.ns ++ y.ns, mkIte q x.g y.g⟩ else none
    | _, _ => none
  | _ => none
/-- The type and the rows of a slice's elements, as the memory has them. -/
def tyL (m : Mem) : SV → Option (Nat × Row)
  | .ls n _ => match m.at n with
    | some (_, .lst ty row _ _ _) => some (ty, row)
    | _ => none
  | .sv n .. => match m.at n with
    | some (_, .lst ty row _ _ _) => some (ty, row)
    | _ => none
  | .nilp .nS => none
  | .ite _ a b => match tyL m a with
    | some x => some x
    | none => tyL m b
  | _ => none

/-- A list's rows are in memory. -/
def RdL (w : World) (Im : Nat → Prop) (q : Row) (h : Hd) (l : RL) : Prop :=
  l.length ≤ maxLen ∧ l.length ≤ h.cap ∧ ∀ i r', l[i]? = some r' → ∃ us, RowV w Im q r' us ∧ ∀ j u, us[j]? = some u → w.cell? ⟨h.blk, h.off + i * q.size + j, none⟩ = some u

section
variable {P : Program} {F : Fam} {ρ : Nat → Int} {G : Glob} {w0 w w' : World} {M0 Im0 Im Im' T : Nat → Prop} {ad ad' : Nat → Hd} {m m' : Mem} {q : Row} {h : Hd} {l : RL} {ty : Nat}

theorem ShL.rd (hs : ShL w Im q h l) : RdL w Im q h l := ⟨hs.1, hs.2.1, hs.2.2.2⟩
theorem OwL.rd (ho : OwL w Im ty q h l) : RdL w Im q h l := by
  obtain ⟨h1, xs, h2, h3⟩ := ho
  rcases h2.2 with ⟨hn, hl⟩ | ⟨g, cap, cur, e, k1, k2, k3, k4, k5, k6⟩
  · have hl' : l = [] := List.eq_nil_of_length_eq_zero hl
    subst hl'
    exact ⟨Nat.zero_le _, Nat.zero_le _, fun i r' hi => by simp at hi⟩
  · have hg : (h.sl l.length).ownBlock = some g := by rw [e]; rfl
    have hgb := Hd.own_blk hg
    subst hgb
    have hoff : h.off = 0 ∧ h.cap = cap := by
      unfold Hd.sl at e
      cases hnn : h.nil && l.length == 0
      · rw [hnn] at e; simp at e; exact e
      · rw [hnn] at e; simp at e
    refine ⟨h1, by omega, fun i r' hi => ?_⟩
    obtain ⟨us, u1, u2⟩ := h3.get i r' hi
    refine ⟨us, u1, fun j u hu => ?_⟩
    have hx := u2 j u hu
    rw [hoff.1, Nat.zero_add]
    have := h2.cells hg (i * q.size + j) u hx
    rwa [Addr.add_none, Nat.zero_add] at this

theorem wrap_small {n : Nat} (h : n ≤ maxLen) : IntKind.i64.wrap (n : Int) = (n : Int) := by
  simp only [maxLen] at h
  simp only [IntKind.wrap, IntKind.signed, IntKind.bits]
  simp
  split <;> omega
theorem den_NILL : NILL.den F ρ = F 0 2 [] := rfl
/-- The family's operations on lists are those of the text. -/
def BI (F : Fam) : Prop := ∀ j xs, F 0 j xs = bi j xs
theorem BI.nil (hB : BI F) : NILL.den F ρ = cd [] := by rw [den_NILL, hB]; rfl
theorem BI.len (hB : BI F) (c : E) : (LEN c).den F ρ = IntKind.i64.wrap ((dc (c.den F ρ)).length : Int) := by
  simp only [LEN, E.den, E.denL, K.norm]
  rw [hB]
  rfl

structure LVok (F : Fam) (ρ : Nat → Int) (w : World) (Im : Nat → Prop) (ad : Nat → Hd) (m : Mem) (ty : Nat) (row : Row) (v : SV) (V : LV) (hd : Hd) : Prop where
  conc : v.conc F ρ ad = hd.sl (dc (V.c.den F ρ)).length
  code : isCd (V.c.den F ρ)
  len : V.le.den F ρ = ((dc (V.c.den F ρ)).length : Int)
  rd : RdL w Im row hd (dc (V.c.den F ρ))
  own : V.own = true → OwL w Im ty row hd (dc (V.c.den F ρ))
  sh : V.sh = true → ShL w Im row hd (dc (V.c.den F ρ))
  blk : V.own = true → ∀ b, (hd.sl (dc (V.c.den F ρ)).length).ownBlock = some b → ∃ n ∈ V.ns, ∃ g x, m.at n = some (g, x) ∧ g.tt F ρ = true ∧ mutB F ρ ad n x = some b

theorem mkIte_b {q x y : E} (hq : q.kind = .b) (hx : x.kind = .b) (hy : y.kind = .b) : (mkIte q x y).kind = .b ∧ (mkIte q x y).tt F ρ = bif q.tt F ρ then x.tt F ρ else y.tt F ρ := by
  have h := mkIte_spec q x y hq (hx.trans hy.symm) F ρ
  have hk : (mkIte q x y).kind = .b := by rw [h.2, hx]
  refine ⟨hk, ?_⟩
  have h1 := h.1
  rw [E.val_b hk, E.val_b hx, E.val_b hy] at h1
  cases hc : q.tt F ρ <;> simp only [hc, cond_true, cond_false, Value.bool.injEq] at h1 ⊢ <;> exact h1
theorem mkIte_i {q x y : E} {k : IntKind} (hq : q.kind = .b) (hx : x.kind = .i k) (hy : y.kind = .i k) : (mkIte q x y).kind = .i k ∧ (mkIte q x y).den F ρ = bif q.tt F ρ then x.den F ρ else y.den F ρ := by
  have h := mkIte_spec q x y hq (hx.trans hy.symm) F ρ
  have hk : (mkIte q x y).kind = .i k := by rw [h.2, hx]
  refine ⟨hk, ?_⟩
  have h1 := h.1
  rw [E.val_i hk, E.val_i hx, E.val_i hy] at h1
  cases hc : q.tt F ρ <;> simp only [hc, cond_true, cond_false, Value.int.injEq] at h1 ⊢ <;> exact h1.2
theorem mkIte_x {q x y : E} (hq : q.kind = .b) (hx : x.kind = .x) (hy : y.kind = .x) : (mkIte q x y).kind = .x ∧ (mkIte q x y).den F ρ = bif q.tt F ρ then x.den F ρ else y.den F ρ := by
  have h := mkIte_spec q x y hq (hx.trans hy.symm) F ρ
  have hk : (mkIte q x y).kind = .x := by rw [h.2, hx]
  refine ⟨hk, ?_⟩
  have h1 := h.1
  rw [E.val_x hk, E.val_x hx, E.val_x hy] at h1
  cases hc : q.tt F ρ <;> simp only [hc, cond_true, cond_false, Value.int.injEq] at h1 ⊢ <;> exact h1.2

theorem svG_spec {lo hi le : E} : (mkAnd (mkCmp .geq lo (.lit (.i .i64) 0)) (mkAnd (mkCmp .leq lo hi) (mkCmp .leq hi le))).kind = .b ∧
    ((mkAnd (mkCmp .geq lo (.lit (.i .i64) 0)) (mkAnd (mkCmp .leq lo hi) (mkCmp .leq hi le))).tt F ρ = true → 0 ≤ lo.den F ρ ∧ lo.den F ρ ≤ hi.den F ρ ∧ hi.den F ρ ≤ le.den F ρ) := by
  have p1 := mkCmp_spec .geq lo (.lit (.i .i64) 0) F ρ
  have p2 := mkCmp_spec .leq lo hi F ρ
  have p3 := mkCmp_spec .leq hi le F ρ
  have p4 := mkAnd_spec _ _ p2.2 p3.2 F ρ
  have p5 := mkAnd_spec _ _ p1.2 p4.2 F ρ
  refine ⟨p5.2, fun h => ?_⟩
  rw [p5.1, p4.1, p1.1, p2.1, p3.1] at h
  simp only [Bool.and_eq_true, cmpB, decide_eq_true_eq] at h
  exact h

theorem viewL_kind : ∀ {v : SV} {V : LV}, viewL m ty q v = some V → V.le.kind = .i .i64 ∧ V.c.kind = .x ∧ V.g.kind = .b
  | .ls n le, V, h => by
    simp only [viewL] at h
    split at h
    · split at h
      · rename_i hc
        simp only [Option.some.injEq] at h; subst h
        exact ⟨hc.2.2.2.2.1, hc.2.2.2.1, hc.2.2.2.2.2⟩
      · cases h
    · cases h
  | .sv n str l0 lo hi, V, h => by
    simp only [viewL] at h
    split at h
    · split at h
      · rename_i hc
        simp only [Option.some.injEq] at h; subst h
        exact ⟨rfl, rfl, (mkAnd_spec _ _ hc.2.2.2.2.2.2 (svG_spec (F := fun _ _ _ => 0) (ρ := fun _ => 0)).1 (fun _ _ _ => 0) fun _ => 0).2⟩
      · cases h
    · cases h
  | .nilp c, V, h => by
    cases c <;> simp only [viewL, Option.some.injEq, reduceCtorEq] at h
    subst h
    exact ⟨rfl, rfl, rfl⟩
  | .ite p a b, V, h => by
    simp only [viewL] at h
    split at h
    · rename_i x y hx hy
      split at h
      · rename_i hp
        simp only [Option.some.injEq] at h; subst h
        obtain ⟨i1, i2, i3⟩ := viewL_kind hx
        obtain ⟨j1, j2, j3⟩ := viewL_kind hy
        exact ⟨(mkIte_i (F := fun _ _ _ => 0) (ρ := fun _ => 0) hp i1 j1).1, (mkIte_x (F := fun _ _ _ => 0) (ρ := fun _ => 0) hp i2 j2).1, (mkIte_b (F := fun _ _ _ => 0) (ρ := fun _ => 0) hp i3 j3).1⟩
      · cases h
    · cases h
  | .sc _, V, h | .ptr .., V, h | .pi .., V, h | .sl .., V, h | .pe .., V, h | .mp .., V, h | .oq .., V, h | .fn .., V, h | .agg .., V, h | .tup .., V, h | .gd .., V, h | .und, V, h | .gl .., V, h => by simp [viewL] at h

theorem viewL_spec (hB : BI F) (hR : RelI F ρ w0 M0 Im ad m w) : ∀ {v : SV} {V : LV}, viewL m ty q v = some V → V.g.tt F ρ = true → ∃ hd, LVok F ρ w Im ad m ty q v V hd
  | .ls n le, V, h, hg => by
    simp only [viewL] at h
    split at h
    · rename_i g ty' row' own le' c hn
      split at h
      · rename_i hc
        obtain ⟨rfl, rfl, h3, h4, h5, h6⟩ := hc
        simp only [Option.some.injEq] at h; subst h
        simp only at hg
        obtain ⟨i1, i2⟩ := hR.ent n g _ hn hg
        obtain ⟨j1, j2, j3⟩ := i1
        have hle := E.same_eq _ _ h3
        subst hle
        have hlen : (le.den F ρ).toNat = (dc (c.den F ρ)).length := by rw [j2]; simp
        refine ⟨ad n, ⟨?_, j1, j2, ?_, ?_, ?_, ?_⟩⟩
        · simp only [SV.conc, hlen]
        · cases own
          · simp only [cond_false] at j3; exact j3.rd
          · simp only [cond_true] at j3; exact j3.rd
        · intro ho; simp only at ho; subst ho; exact j3
        · intro ho; simp only [Bool.not_eq_true'] at ho; subst ho; exact j3
        · intro ho b hb
          simp only at ho; subst ho
          exact ⟨n, by simp, g, _, hn, hg, by simp only [mutB, hlen]; exact hb⟩
      · cases h
    · cases h
  | .sv n str l0 lo hi, V, h, hg => by
    simp only [viewL] at h
    split at h
    · rename_i g ty' row' own le' c hn
      split at h
      · rename_i hc
        obtain ⟨rfl, rfl, rfl, h3, h4, h5, h6⟩ := hc
        simp only [Option.some.injEq] at h; subst h
        simp only at hg
        rw [(mkAnd_spec _ _ h6 (svG_spec (F := F) (ρ := ρ)).1 F ρ).1, Bool.and_eq_true] at hg
        obtain ⟨b1, b2, b3⟩ := (svG_spec (F := F) (ρ := ρ)).2 hg.2
        obtain ⟨i1, i2⟩ := hR.ent n g _ hn hg.1
        obtain ⟨j1, j2, j3⟩ := i1
        have hle := E.same_eq _ _ h3
        subst hle
        have hlen : (l0.den F ρ).toNat = (dc (c.den F ρ)).length := by rw [j2]; simp
        have hden : (E.app .x 0 5 [c, lo, hi]).den F ρ = cd (((dc (c.den F ρ)).take (hi.den F ρ).toNat).drop (lo.den F ρ).toNat) := by
          simp only [E.den, denL_eq, K.norm]; rw [hB]; rfl
        have hrd : RdL w Im row' (ad n) (dc (c.den F ρ)) := by
          cases own
          · simp only [cond_false] at j3; exact j3.rd
          · simp only [cond_true] at j3; exact j3.rd
        obtain ⟨d1, d2, d3⟩ := hrd
        have hsl : (((dc (c.den F ρ)).take (hi.den F ρ).toNat).drop (lo.den F ρ).toNat).length = (hi.den F ρ).toNat - (lo.den F ρ).toNat := by simp; omega
        have hmx : (((dc (c.den F ρ)).take (hi.den F ρ).toNat).drop (lo.den F ρ).toNat).length ≤ maxLen := by rw [hsl]; omega
        have hget : ∀ i r', (((dc (c.den F ρ)).take (hi.den F ρ).toNat).drop (lo.den F ρ).toNat)[i]? = some r' → (dc (c.den F ρ))[(lo.den F ρ).toNat + i]? = some r' ∧ ((ad n).part (l0.den F ρ).toNat (lo.den F ρ).toNat row'.size).off = (ad n).off + (lo.den F ρ).toNat * row'.size := fun i r' hi' => by
          have hlt := (List.getElem?_eq_some_iff.1 hi').1
          rw [hsl] at hlt
          rw [List.getElem?_drop, List.getElem?_take, if_pos (by omega)] at hi'
          refine ⟨hi', ?_⟩
          simp only [Hd.part]
          rw [if_neg (by omega)]
        refine ⟨(ad n).part (l0.den F ρ).toNat (lo.den F ρ).toNat row'.size, ⟨?_, ?_, ?_, ?_, (fun ho => by cases ho), ?_, (fun ho => by cases ho)⟩⟩
        · simp only [SV.conc, hden, dc_cd, hsl]
        · simp only [hden]; exact isCd_cd _
        · rw [hB.len, hden, dc_cd, wrap_small hmx]
        · simp only [hden, dc_cd]
          refine ⟨hmx, ?_, fun i r' hi' => ?_⟩
          · rw [hsl]; simp only [Hd.part]; omega
          · obtain ⟨g1, g2⟩ := hget i r' hi'
            obtain ⟨us, u1, u2⟩ := d3 _ r' g1
            refine ⟨us, u1, fun j u hu => ?_⟩
            rw [g2]
            have := u2 j u hu
            rw [Nat.add_mul] at this
            simp only [Hd.part]
            rwa [show (ad n).off + (lo.den F ρ).toNat * row'.size + i * row'.size + j = (ad n).off + ((lo.den F ρ).toNat * row'.size + i * row'.size) + j by omega]
        · intro ho
          simp only [Bool.not_eq_true'] at ho
          subst ho
          simp only [cond_false] at j3
          simp only [hden, dc_cd]
          obtain ⟨s1, s2, s3, s4⟩ := j3
          refine ⟨hmx, ?_, fun hne => ?_, fun i r' hi' => ?_⟩
          · rw [hsl]; simp only [Hd.part]; omega
          · simp only [Hd.part]
            refine s3 fun e => hne ?_
            rw [e]; simp
          · obtain ⟨g1, g2⟩ := hget i r' hi'
            obtain ⟨us, u1, u2⟩ := s4 _ r' g1
            refine ⟨us, u1, fun j u hu => ?_⟩
            rw [g2]
            have := u2 j u hu
            rw [Nat.add_mul] at this
            simp only [Hd.part]
            rwa [show (ad n).off + (lo.den F ρ).toNat * row'.size + i * row'.size + j = (ad n).off + ((lo.den F ρ).toNat * row'.size + i * row'.size) + j by omega]
      · cases h
    · cases h
  | .nilp c, V, h, hg => by
    cases c <;> simp only [viewL, Option.some.injEq, reduceCtorEq] at h
    subst h
    have hn := hB.nil (ρ := ρ)
    refine ⟨⟨0, 0, 0, true, undef⟩, ⟨?_, ?_, ?_, ?_, ?_, ?_, ?_⟩⟩
    · simp [hn, SV.conc, CV.val, Hd.sl]
    · simp [hn]
    · simp only [hn, dc_cd]; rfl
    · simp only [hn, dc_cd]; exact ⟨Nat.zero_le _, Nat.zero_le _, fun i r' hi => by simp at hi⟩
    · intro _; simp only [hn, dc_cd]; exact ⟨Nat.zero_le _, [], World.ownsRow_nil w 0 ty q.size, rfl⟩
    · intro _; simp only [hn, dc_cd]; exact ⟨Nat.zero_le _, Nat.zero_le _, fun x => (x rfl).elim, fun i r' hi => by simp at hi⟩
    · intro _ b hb; simp [hn, Hd.sl, Value.ownBlock] at hb
  | .ite p a b, V, h, hg => by
    simp only [viewL] at h
    split at h
    · rename_i x y hx hy
      split at h
      · rename_i hp
        simp only [Option.some.injEq] at h; subst h
        obtain ⟨i1, i2, i3⟩ := viewL_kind hx
        obtain ⟨j1, j2, j3⟩ := viewL_kind hy
        have k1 := (mkIte_i (F := F) (ρ := ρ) hp i1 j1).2
        have k2 := (mkIte_x (F := F) (ρ := ρ) hp i2 j2).2
        have k3 := (mkIte_b (F := F) (ρ := ρ) hp i3 j3).2
        simp only [k3] at hg
        cases hc : p.tt F ρ
        · simp only [hc, cond_false] at hg k1 k2
          obtain ⟨hd, o1, o2, o3, o4, o5, o6, o7⟩ := viewL_spec hB hR hy hg
          refine ⟨hd, ⟨?_, ?_, ?_, ?_, ?_, ?_, ?_⟩⟩
          · simp only [SV.conc, hc, cond_false, k2]; exact o1
          · simp only [k2]; exact o2
          · simp only [k1, k2]; exact o3
          · simp only [k2]; exact o4
          · simp only [k2, Bool.and_eq_true]; exact fun z => o5 z.2
          · simp only [k2, Bool.and_eq_true]; exact fun z => o6 z.2
          · simp only [k2, Bool.and_eq_true]
            intro z b hb
            obtain ⟨n, hn, rest⟩ := o7 z.2 b hb
            exact ⟨n, List.mem_append_right _ hn, rest⟩
        · simp only [hc, cond_true] at hg k1 k2
          obtain ⟨hd, o1, o2, o3, o4, o5, o6, o7⟩ := viewL_spec hB hR hx hg
          refine ⟨hd, ⟨?_, ?_, ?_, ?_, ?_, ?_, ?_⟩⟩
          · simp only [SV.conc, hc, cond_true, k2]; exact o1
          · simp only [k2]; exact o2
          · simp only [k1, k2]; exact o3
          · simp only [k2]; exact o4
          · simp only [k2, Bool.and_eq_true]; exact fun z => o5 z.1
          · simp only [k2, Bool.and_eq_true]; exact fun z => o6 z.1
          · simp only [k2, Bool.and_eq_true]
            intro z b hb
            obtain ⟨n, hn, rest⟩ := o7 z.1 b hb
            exact ⟨n, List.mem_append_left _ hn, rest⟩
      · cases h
    · cases h
  | .sc _, V, h, _ | .ptr .., V, h, _ | .pi .., V, h, _ | .sl .., V, h, _ | .pe .., V, h, _ | .mp .., V, h, _ | .oq .., V, h, _ | .fn .., V, h, _ | .agg .., V, h, _ | .tup .., V, h, _ | .gd .., V, h, _ | .und, V, h, _ | .gl .., V, h, _ => by simp [viewL] at h

/-! ### names that die -/
def killN (m : Mem) (n : Nat) : Mem :=
  match m.at n with
  | some (g, _) => m.set n (some (g, .dead))
  | none => m
def killL (m : Mem) : List Nat → Mem
  | [] => m
  | n :: r => killL (killN m n) r
theorem killN_al (m : Mem) (n k : Nat) : al (killN m n) k ↔ al m k := by
  unfold killN
  split
  · rename_i hn; exact al_set hn k
  · rfl
theorem killL_al : ∀ (ns : List Nat) (m : Mem) (k : Nat), al (killL m ns) k ↔ al m k
  | [], _, _ => Iff.rfl
  | n :: r, m, k => (killL_al r (killN m n) k).trans (killN_al m n k)
theorem killN_len (m : Mem) (n : Nat) : (killN m n).length = m.length := by
  unfold killN
  split
  · simp
  · rfl
theorem killL_len : ∀ (ns : List Nat) (m : Mem), (killL m ns).length = m.length
  | [], _ => rfl
  | n :: r, m => (killL_len r (killN m n)).trans (killN_len m n)
theorem killN_at {n k : Nat} {g : E} {x : Blk} (h : (killN m n).at k = some (g, x)) : x = .dead ∨ (m.at k = some (g, x) ∧ k ≠ n) := by
  unfold killN at h
  split at h
  · rename_i g' y hn
    by_cases hk : n = k
    · subst hk
      rw [Mem.at_set_same (Mem.at_lt hn)] at h
      simp only [Option.some.injEq, Prod.mk.injEq] at h
      exact Or.inl h.2.symm
    · rw [Mem.at_set_other hk] at h
      exact Or.inr ⟨h, fun e => hk e.symm⟩
  · rename_i hn
    by_cases hk : k = n
    · subst hk; rw [hn] at h; cases h
    · exact Or.inr ⟨h, hk⟩
theorem killL_at : ∀ {ns : List Nat} {m : Mem} {k : Nat} {g : E} {x : Blk}, (killL m ns).at k = some (g, x) → x = .dead ∨ (m.at k = some (g, x) ∧ k ∉ ns)
  | [], m, k, g, x, h => Or.inr ⟨h, by simp⟩
  | n :: r, m, k, g, x, h => by
    rcases killL_at (ns := r) h with h1 | ⟨h1, h2⟩
    · exact Or.inl h1
    · rcases killN_at h1 with h3 | ⟨h3, h4⟩
      · exact Or.inl h3
      · exact Or.inr ⟨h3, by simp [h4, h2]⟩
theorem killL_none {ns : List Nat} {k : Nat} (h : (m.at k).isNone = true) : ((killL m ns).at k).isNone = true := by
  cases hk : (killL m ns).at k with
  | none => rfl
  | some x =>
    have : al m k := (killL_al ns m k).1 (by simp [al, hk])
    rw [Option.isNone_iff_eq_none] at h
    simp [al, h] at this

/-! ### append, and where the result lies -/
theorem append_own2 (w : World) (t ty e : TypeId) (i : TypeInfo) (z : Value) (size bytes : Nat) (ht : P.underlying t = some (.slice e)) (hi : P.info? e = some i) (hz : i.zero = some z)
    (hsize : i.size = size) (hby : i.bytes = bytes) (hzs : z.cells.size = size) (hsz : 0 < size)
    (v : Value) (n : Nat) (xs : List Value) (hown : w.ownsRow 0 e size v n xs)
    (a : Addr) (k c : Nat) (news : List Value) (hl : news.length = k * size) (hnews : ∀ j u, news[j]? = some u → w.cell? (a.add j) = some u) (h1 : ∀ u ∈ news, u.oneCell' = true)
    (h63 : n + k ≤ maxLen) (hbytes : (n + k) * bytes ≤ 140737488355328) :
    ∃ v' w', (Builtin.append_ #[t, t] ty #[v, .slice (some a) k c]).run P w = .ok v' w' ∧ w'.ownsRow 0 e size v' (n + k) (xs ++ news) ∧ w.grownBy w' v.ownBlock ∧
      (v'.ownBlock = v.ownBlock ∨ v'.ownBlock = some w.heap.size) := by
  obtain ⟨v', w', r1, r2, r3, r4⟩ := run_append_own (P := P) w 0 t ty e i z size bytes ht hi hz hsize hby hzs hsz v n xs hown a k c news hl hnews h1 h63 hbytes (Nat.zero_le _)
  refine ⟨v', w', r1, r2, r3, ?_⟩
  have hsmall : n + k ≤ 9223372036854775807 := by simp only [maxLen] at h63; omega
  subst hsize
  subst hby
  rcases hown.2 with ⟨rfl, rfl⟩ | ⟨g, cap, cur, rfl, hbg, hg, hnc, hcm, hcs, htake⟩
  · by_cases hm : k = 0
    · left; rw [r4.2 ⟨rfl, hm⟩]
    · right
      have hr := run_append_nil (P := P) w t ty e i z ht hi hz a k c news hl hnews (by omega) (by omega) (by have hb := hbytes; simp only [Nat.zero_add] at hb; omega)
      rw [hr] at r1
      simp only [Result.ok.injEq] at r1
      rw [← r1.1]; rfl
  · by_cases hroom : n + k ≤ cap
    · left
      have hfit : n * i.size + news.length ≤ cur.size := by rw [hl, hcs, ← Nat.add_mul]; exact Nat.mul_le_mul_right _ hroom
      have hr := run_append_room (P := P) w t ty e i ht hi g n cap cur hg a k c news hl hnews h1 hroom hfit
      rw [hr] at r1
      simp only [Result.ok.injEq] at r1
      rw [← r1.1]; rfl
    · right
      have holds : ∀ j u, xs[j]? = some u → w.cell? ((⟨g, 0, none⟩ : Addr).add j) = some u := hown.cells (g := g) rfl
      have hr := run_append_grow (P := P) w t ty e i z ht hi hz ⟨g, 0, none⟩ n cap xs hown.1 holds a k c news hl hnews (by omega) (by omega) (growslice_fits (by omega) hbytes)
      rw [hr] at r1
      simp only [Result.ok.injEq] at r1
      rw [← r1.1]; rfl

theorem ownsRow_hd {e size n : Nat} {v : Value} {xs : List Value} (h : w.ownsRow 0 e size v n xs) : ∃ hd : Hd, v = hd.sl n := by
  rcases h.2 with ⟨rfl, rfl⟩ | ⟨g, cap, cur, rfl, _⟩
  · exact ⟨⟨0, 0, 0, true, undef⟩, rfl⟩
  · exact ⟨⟨g, 0, cap, false, undef⟩, rfl⟩
theorem sl_form (h : Hd) (n : Nat) : (h.sl n = .slice none 0 0 ∧ n = 0) ∨ h.sl n = .slice (some ⟨h.blk, h.off, none⟩) n h.cap := by
  unfold Hd.sl
  cases hc : h.nil && n == 0
  · exact Or.inr rfl
  · simp at hc; exact Or.inl ⟨rfl, hc.2⟩
end
end Go.Proofs.Ytmolkkphnehgcaa.Ew

/- Texts that the claim needs, set narrow. -/
import Derived.WalkKit
import Derived.Orders
import Derived.Laws.Pointers
import Derived.DeepKeys
set_option linter.unusedVariables false
set_option linter.unusedSimpArgs false
set_option maxHeartbeats 8000000
namespace Go.Proofs.Ytnockichpnaoeaa.Ew
open Go Go.RowKit
theorem pJ.{u,v} {α : Type u} {β : Type v} (a c : α) (b d : β) : ((a, b) = (c, d)) = (a = c /\ b = d) := Prod.mk.injEq a b c d
theorem oJ.{u} {α : Type u} (a b : α) : (some a = some b) = (a = b) := Option.some.injEq a b
theorem Jj {a b : Prop} (x : a) (y : b) : a /\ b := ⟨x, y⟩
inductive K where
 | b
 | i (k : IntKind)
 | x
 deriving DecidableEq, Repr, Inhabited
abbrev kJ : K := .i .i64
def K.norm : K -> Int -> Int
 | .b, n => if n = 0 then 0 else 1
 | .i k, n => k.wrap n
 | .x, n => n
def b2i (b : Bool) : Int := bif b then 1 else 0
def i2b (n : Int) : Bool := !(n == 0)
@[simp] theorem D1 (b : Bool) : i2b (b2i b) = b := by cases b <;> rfl
inductive E where
 | lit (k : K) (n : Int)
 | var (k : K) (i : Nat)
 | app (k : K) (f j : Nat) (args : List E)
 | bin (op : BinOp) (k : IntKind) (a b : E)
 | dv (op : BinOp) (k : IntKind) (a : E) (n : Int)
 | sh (op : BinOp) (k : IntKind) (a b : E)
 | cmp (op : BinOp) (a b : E)
 | conv (k : IntKind) (a : E)
 | not (a : E)
 | and (a b : E)
 | or (a b : E)
 | ite (c a b : E)
 deriving Repr, Inhabited
def FB (op : BinOp) (k : IntKind) (x y : Int) : Int :=
 let a := BitVec.ofInt k.bits x
 let b := BitVec.ofInt k.bits y
 match op with
 | .and => k.wrap (a &&& b).toNat
 | .or => k.wrap (a ||| b).toNat
 | .xor => k.wrap (a ^^^ b).toNat
 | _ => k.wrap (a &&& ~~~b).toNat
def binI (op : BinOp) (k : IntKind) (x y : Int) : Int :=
 match op with
 | .add => k.wrap (x + y)
 | .sub => k.wrap (x - y)
 | .mul => k.wrap (x * y)
 | op => FB op k x y
def dvI (op : BinOp) (k : IntKind) (x n : Int) : Int :=
 match op with
 | .quo => k.wrap (x.tdiv n)
 | _ => x.tmod n
def shI (op : BinOp) (k : IntKind) (x y : Int) : Int :=
 match op with
 | .shl => k.wrap (x * 2 ^ (min y.toNat k.bits))
 | _ => x.fdiv (2 ^ (min y.toNat k.bits))
def cmpB (op : BinOp) (x y : Int) : Bool :=
 match op with
 | .eql => x == y
 | .neq => x != y
 | .lss => decide (x < y)
 | .leq => decide (x <= y)
 | .gtr => decide (x > y)
 | _ => decide (x >= y)
abbrev Fam := Nat -> Nat -> List Int -> Int
mutual
def E.den (F : Fam) (ρ : Nat -> Int) : E -> Int
 | .lit k n => k.norm n
 | .var k i => k.norm (ρ i)
 | .app k f j aZ => k.norm (F f j (E.denL F ρ aZ))
 | .bin op k a b => binI op k (E.den F ρ a) (E.den F ρ b)
 | .dv op k a n => dvI op k (E.den F ρ a) n
 | .sh op k a b => shI op k (E.den F ρ a) (E.den F ρ b)
 | .cmp op a b => b2i (cmpB op (E.den F ρ a) (E.den F ρ b))
 | .conv k a => k.wrap (E.den F ρ a)
 | .not a => b2i (!i2b (E.den F ρ a))
 | .and a b => b2i (i2b (E.den F ρ a) && i2b (E.den F ρ b))
 | .or a b => b2i (i2b (E.den F ρ a) || i2b (E.den F ρ b))
 | .ite c a b => bif i2b (E.den F ρ c) then E.den F ρ a else E.den F ρ b
def E.denL (F : Fam) (ρ : Nat -> Int) : List E -> List Int
 | [] => []
 | e :: r => E.den F ρ e :: E.denL F ρ r
end
theorem E3 (F : Fam) (ρ : Nat -> Int) (l : List E) : E.denL F ρ l = l.map (E.den F ρ) := by
 induction l with
 | nil => simp [E.denL]
 | cons e r ih => simp [E.denL, ih]
def E.kind : E -> K
 | .lit k _ | .var k _ | .app k .. => k
 | .bin _ k .. | .dv _ k .. | .sh _ k .. | .conv k _ => .i k
 | .cmp .. | .not _ | .and .. | .or .. => .b
 | .ite _ a _ => a.kind
def E.tt (F : Fam) (ρ : Nat -> Int) (e : E) : Bool := i2b (e.den F ρ)
mutual
def E.same : E -> E -> Bool
 | .lit k n, .lit k' n' => decide (k = k') && decide (n = n')
 | .var k i, .var k' i' => decide (k = k') && decide (i = i')
 | .app k f j aZ, .app k' f' j' aZ' => decide (k = k') && decide (f = f') && decide (j = j') && E.sameL aZ aZ'
 | .bin op k a b, .bin op' k' a' b' => decide (op = op') && decide (k = k') && E.same a a' && E.same b b'
 | .dv op k a n, .dv op' k' a' n' => decide (op = op') && decide (k = k') && E.same a a' && decide (n = n')
 | .sh op k a b, .sh op' k' a' b' => decide (op = op') && decide (k = k') && E.same a a' && E.same b b'
 | .cmp op a b, .cmp op' a' b' => decide (op = op') && E.same a a' && E.same b b'
 | .conv k a, .conv k' a' => decide (k = k') && E.same a a'
 | .not a, .not a' => E.same a a'
 | .and a b, .and a' b' => E.same a a' && E.same b b'
 | .or a b, .or a' b' => E.same a a' && E.same b b'
 | .ite c a b, .ite c' a' b' => E.same c c' && E.same a a' && E.same b b'
 | _, _ => false
def E.sameL : List E -> List E -> Bool
 | [], [] => true
 | e :: r, e' :: r' => E.same e e' && E.sameL r r'
 | _, _ => false
end
mutual
theorem E.same_eq : ∀ (a b : E), E.same a b = true -> a = b
 | .lit .., b, h => by cases b <;> simp_all [E.same]
 | .var .., b, h => by cases b <;> simp_all [E.same]
 | .app k f j aZ, b, h => by
   cases b <;> simp [E.same] at h
   obtain ⟨⟨⟨rfl, rfl⟩, rfl⟩, h4⟩ := h
   rw [E.sameL_eq _ _ h4]
 | .bin op k a b, c, h => by
   cases c <;> simp [E.same] at h
   obtain ⟨⟨⟨rfl, rfl⟩, h3⟩, h4⟩ := h
   rw [E.same_eq _ _ h3, E.same_eq _ _ h4]
 | .dv op k a n, c, h => by
   cases c <;> simp [E.same] at h
   obtain ⟨⟨⟨rfl, rfl⟩, h3⟩, rfl⟩ := h
   rw [E.same_eq _ _ h3]
 | .sh op k a b, c, h => by
   cases c <;> simp [E.same] at h
   obtain ⟨⟨⟨rfl, rfl⟩, h3⟩, h4⟩ := h
   rw [E.same_eq _ _ h3, E.same_eq _ _ h4]
 | .cmp op a b, c, h => by
   cases c <;> simp [E.same] at h
   obtain ⟨⟨rfl, h3⟩, h4⟩ := h
   rw [E.same_eq _ _ h3, E.same_eq _ _ h4]
 | .conv k a, c, h => by
   cases c <;> simp [E.same] at h
   obtain ⟨rfl, h3⟩ := h
   rw [E.same_eq _ _ h3]
 | .not a, c, h => by
   cases c <;> simp [E.same] at h
   rw [E.same_eq _ _ h]
 | .and a b, c, h => by
   cases c <;> simp [E.same] at h
   rw [E.same_eq _ _ h.1, E.same_eq _ _ h.2]
 | .or a b, c, h => by
   cases c <;> simp [E.same] at h
   rw [E.same_eq _ _ h.1, E.same_eq _ _ h.2]
 | .ite a b d, c, h => by
   cases c <;> simp [E.same] at h
   rw [E.same_eq _ _ h.1.1, E.same_eq _ _ h.1.2, E.same_eq _ _ h.2]
theorem E.sameL_eq : ∀ (a b : List E), E.sameL a b = true -> a = b
 | [], [], _ => rfl
 | [], _ :: _, h => by simp [E.sameL] at h
 | _ :: _, [], h => by simp [E.sameL] at h
 | e :: r, e' :: r', h => by
   simp [E.sameL] at h
   rw [E.same_eq _ _ h.1, E.sameL_eq _ _ h.2]
end
def E.lit? : E -> Option Int
 | .lit k n => some (k.norm n)
 | _ => none
theorem E.lit?_den {e : E} {n : Int} (h : e.lit? = some n) (F : Fam) (ρ : Nat -> Int) : e.den F ρ = n := by
 cases e <;> simp_all [E.lit?, E.den]
theorem K.norm_norm (k : K) (n : Int) : k.norm (k.norm n) = k.norm n := by
 cases k with
 | b => simp_all [norm]
 | i k => cases k <;> simp only [K.norm, IntKind.wrap, IntKind.signed, IntKind.bits] <;> simp <;> (try split) <;> (try split) <;> omega
 | x => rfl
theorem Cd (k : IntKind) (n : Int) : k.wrap (k.wrap n) = k.wrap n := K.norm_norm (.i k) n
def mkB (b : Bool) : E := .lit .b (b2i b)
@[simp] theorem mkB_den (b : Bool) (F : Fam) (ρ : Nat -> Int) : (mkB b).den F ρ = b2i b := by cases b <;> simp [mkB, E.den, K.norm, b2i]
@[simp] theorem HA (b : Bool) (F : Fam) (ρ : Nat -> Int) : (mkB b).tt F ρ = b := by simp [E.tt]
theorem HB (k : IntKind) (x n : Int) (h : k.wrap x = x) : k.wrap (x.tmod n) = x.tmod n := by
 have hb : -(x.natAbs : Int) <= x.tmod n /\ x.tmod n <= x.natAbs /\ (0 <= x -> 0 <= x.tmod n) /\ (x <= 0 -> x.tmod n <= 0) := by
  have h1 : (x.tmod n).natAbs <= x.natAbs := by rw [Int.natAbs_tmod]; exact Nat.mod_le _ _
  rcases Int.le_total 0 x with hx | hx
  ·have := Int.tmod_nonneg n hx
   omega
  ·have e : x.tmod n = -((-x).tmod n) := by rw [Int.neg_tmod]; simp
   have := Int.tmod_nonneg n (show 0 <= -x by omega)
   omega
 revert h hb
 generalize x.tmod n = y
 intro h hb
 cases k <;> simp only [IntKind.wrap, IntKind.signed, IntKind.bits] at h ⊢ <;> simp at h ⊢ <;> (try split at h) <;> (try split) <;> omega
theorem L4 (k : IntKind) (x : Int) (m : Nat) (h : k.wrap x = x) : k.wrap (x.fdiv (2 ^ m)) = x.fdiv (2 ^ m) := by
 have hp : (0 : Int) < 2 ^ m := Int.pow_pos (by decide)
 have hb : (0 <= x -> 0 <= x.fdiv (2 ^ m) /\ x.fdiv (2 ^ m) <= x) /\ (x < 0 -> x <= x.fdiv (2 ^ m) /\ x.fdiv (2 ^ m) < 0) := by
  rw [Int.fdiv_eq_ediv_of_nonneg _ (by omega)]
  constructor
  ·intro hx
   exact ⟨Int.ediv_nonneg hx (by omega), Int.ediv_le_self _ hx⟩
  ·intro hx
   refine ⟨?_, Int.ediv_neg_of_neg_of_pos hx hp⟩
   rw [Int.le_ediv_iff_mul_le hp]
   have : x * 2 ^ m <= x * 1 := Int.mul_le_mul_of_nonpos_left (by omega) (by omega)
   omega
 revert h hb
 generalize x.fdiv (2 ^ m) = y
 intro h hb
 cases k <;> simp only [IntKind.wrap, IntKind.signed, IntKind.bits] at h ⊢ <;> simp at h ⊢ <;> (try split at h) <;> (try split) <;> omega
def E.sound : E -> Bool
 | .lit .. | .var .. | .app .. | .bin .. | .cmp .. | .not _ | .and .. | .or .. => true
 | .conv _ a => a.sound
 | .dv _ k a n => decide (a.kind = .i k) && decide (n ≠ 0) && a.sound
 | .sh op k a _ => (decide (op = .shl) || decide (a.kind = .i k)) && a.sound
 | .ite _ a b => decide (a.kind = b.kind) && a.sound && b.sound
theorem Cf (b : Bool) : K.b.norm (b2i b) = b2i b := by cases b <;> rfl
theorem E.den_norm (F : Fam) (ρ : Nat -> Int) : ∀ (e : E), e.sound = true -> e.kind.norm (e.den F ρ) = e.den F ρ
 | .lit k n, _ => by simp only [E.den, E.kind]; exact K.norm_norm k n
 | .var k i, _ => by simp only [E.den, E.kind]; exact K.norm_norm k _
 | .app k f j aZ, _ => by simp only [E.den, E.kind]; exact K.norm_norm k _
 | .bin op k a b, _ => by
   simp only [E.den, E.kind, K.norm]
   cases op <;> simp only [binI, FB, Cd]
 | .dv op k a n, h => by
   simp only [E.sound, Bool.and_eq_true, decide_eq_true_eq] at h
   have ih := E.den_norm F ρ a h.2
   rw [h.1.1] at ih
   simp only [E.den, E.kind, K.norm]
   cases op <;> simp only [dvI, Cd] <;> exact HB k _ n ih
 | .sh op k a b, h => by
   simp only [E.sound, Bool.and_eq_true, Bool.or_eq_true, decide_eq_true_eq] at h
   have ih := E.den_norm F ρ a h.2
   simp only [E.den, E.kind, K.norm]
   rcases h.1 with h1 | h1
   ·subst h1; simp only [shI, Cd]
   ·rw [h1] at ih
    cases op <;> simp only [shI, Cd] <;> exact L4 k _ _ ih
 | .cmp .., _ => by simp only [E.den, E.kind]; exact Cf _
 | .conv k a, _ => by simp only [E.den, E.kind, K.norm]; exact Cd k _
 | .not _, _ => by simp only [E.den, E.kind]; exact Cf _
 | .and .., _ => by simp only [E.den, E.kind]; exact Cf _
 | .or .., _ => by simp only [E.den, E.kind]; exact Cf _
 | .ite c a b, h => by
   simp only [E.sound, Bool.and_eq_true, decide_eq_true_eq] at h
   have iha := E.den_norm F ρ a h.1.2
   have ihb := E.den_norm F ρ b h.2
   grind [den, kind, i2b]
theorem RJ {F : Fam} {ρ : Nat -> Int} {e : E} (hs : e.sound = true) (hk : e.kind = .b) : b2i (e.tt F ρ) = e.den F ρ := by
 have h := E.den_norm F ρ e hs
 rw [hk] at h
 unfold E.tt
 revert h
 generalize e.den F ρ = x
 intro h
 simp only [K.norm] at h
 split at h
 ·subst h; rfl
 ·subst h; rfl
def E.val (F : Fam) (ρ : Nat -> Int) (e : E) : Value :=
 match e.kind with
 | .b => .bool (e.tt F ρ)
 | .i k => .int k (e.den F ρ)
 | .x => .int .i64 (e.den F ρ)
theorem E.val_x {F : Fam} {ρ : Nat -> Int} {e : E} (h : e.kind = .x) : e.val F ρ = .int .i64 (e.den F ρ) := by simp [E.val, h]
theorem E.val_b {F : Fam} {ρ : Nat -> Int} {e : E} (h : e.kind = .b) : e.val F ρ = .bool (e.tt F ρ) := by simp [E.val, h]
theorem E.val_i {F : Fam} {ρ : Nat -> Int} {e : E} {k : IntKind} (h : e.kind = .i k) : e.val F ρ = .int k (e.den F ρ) := by simp [E.val, h]
@[simp] theorem Af (b : Bool) : (mkB b).kind = .b := rfl
@[simp] theorem mkB_val (b : Bool) (F : Fam) (ρ : Nat -> Int) : (mkB b).val F ρ = .bool b := by simp [E.val]
theorem lit?_tt {e : E} {n : Int} (h : e.lit? = some n) (F : Fam) (ρ : Nat -> Int) : e.tt F ρ = i2b n := by unfold E.tt; rw [E.lit?_den h]
def Ak (e : E) : E :=
 match e.lit? with
 | some n => mkB (!i2b n)
 | none => match e with
   | .not a => if a.kind = .b then a else .not e
   | e => .not e
theorem Ad (e : E) (F : Fam) (ρ : Nat -> Int) : (Ak e).tt F ρ = !e.tt F ρ /\ (Ak e).kind = .b := by
 unfold Ak
 split
 ·simp_all [lit?_tt]
 ·split
  ·rename_i a _
   split
   ·simp_all [E.tt, E.den]
   ·exact ⟨by simp [E.tt, E.den], rfl⟩
  ·exact ⟨by simp [E.tt, E.den], rfl⟩
def mkAnd (a b : E) : E :=
 match a.lit? with
 | some n => bif i2b n then b else mkB false
 | none => match b.lit? with
   | some n => bif i2b n then a else mkB false
   | none => if a.same b then a else .and a b
theorem Aa (a b : E) (ha : a.kind = .b) (hb : b.kind = .b) (F : Fam) (ρ : Nat -> Int) : (mkAnd a b).tt F ρ = (a.tt F ρ && b.tt F ρ) /\ (mkAnd a b).kind = .b := by
 unfold mkAnd
 split
 ·rename_i n h; rw [lit?_tt h]; cases i2b n <;> simp [hb]
 ·split
  ·rename_i n h; rw [lit?_tt h]; cases i2b n <;> simp [ha]
  ·split
   ·grind [E.same_eq]
   ·exact ⟨by simp [E.tt, E.den], rfl⟩
def mkOr (a b : E) : E :=
 match a.lit? with
 | some n => bif i2b n then mkB true else b
 | none => match b.lit? with
   | some n => bif i2b n then mkB true else a
   | none => if a.same b then a else .or a b
theorem Cw (a b : E) (ha : a.kind = .b) (hb : b.kind = .b) (F : Fam) (ρ : Nat -> Int) : (mkOr a b).tt F ρ = (a.tt F ρ || b.tt F ρ) /\ (mkOr a b).kind = .b := by
 unfold mkOr
 split
 ·rename_i n h; rw [lit?_tt h]; cases i2b n <;> simp [hb]
 ·split
  ·rename_i n h; rw [lit?_tt h]; cases i2b n <;> simp [ha]
  ·split
   ·grind [E.same_eq]
   ·exact ⟨by simp [E.tt, E.den], rfl⟩
def J6 (k : IntKind) (c a b : E) : E :=
 match a, b with
 | .bin .add k' x p, b => if k' = k /\ x.same b = true /\ b.sound = true /\ b.kind = .i k then .bin .add k b (.ite c p (.lit (.i k) 0)) else .ite c a b
 | a, .bin .add k' x p => if k' = k /\ x.same a = true /\ a.sound = true /\ a.kind = .i k then .bin .add k a (.ite c (.lit (.i k) 0) p) else .ite c a b
 | a, b => .ite c a b
theorem Ds (k : IntKind) : k.wrap 0 = 0 := by cases k <;> rfl
theorem OS (k : IntKind) (c a b : E) (ha : a.kind = .i k) (hb : b.kind = .i k) (F : Fam) (ρ : Nat -> Int) :
 (J6 k c a b).den F ρ = (bif c.tt F ρ then a.den F ρ else b.den F ρ) /\ (J6 k c a b).kind = .i k := by
 have key : ∀ (x : E), x.sound = true -> x.kind = .i k -> k.wrap (x.den F ρ + 0) = x.den F ρ := fun x h1 h2 => by
  have := E.den_norm F ρ x h1
  simp_all [K.norm]
 unfold J6
 split
 ·rename_i k' x p
  split
  ·rename_i h
   obtain ⟨rfl, h2, h3, h4⟩ := h
   have e := E.same_eq _ _ h2
   subst e
   refine ⟨?_, rfl⟩
   simp only [E.den, binI, E.tt, K.norm, Ds]
   grind
  grind [E.den, E.tt, E.kind]
 ·rename_i k' x p _
  split
  ·rename_i h
   obtain ⟨rfl, h2, h3, h4⟩ := h
   have e := E.same_eq _ _ h2
   subst e
   refine ⟨?_, rfl⟩
   simp only [E.den, binI, E.tt, K.norm, Ds]
   grind
  grind [E.den, E.tt, E.kind]
 grind [E.den, E.tt, E.kind]
def mkIte (c a b : E) : E :=
 match c.lit? with
 | some n => bif i2b n then a else b
 | none =>
   if a.same b then a else
   match a.kind with
   | .b => match a.lit?, b.lit? with
     | some n, _ => bif i2b n then mkOr c b else mkAnd (Ak c) b
     | _, some n => bif i2b n then mkOr (Ak c) a else mkAnd c a
     | none, none => .ite c a b
   | .i k => J6 k c a b
   | .x => .ite c a b
theorem A9 (c a b : E) (hc : c.kind = .b) (hk : a.kind = b.kind) (F : Fam) (ρ : Nat -> Int) :
 (mkIte c a b).val F ρ = (bif c.tt F ρ then a.val F ρ else b.val F ρ) /\ (mkIte c a b).kind = a.kind := by
 unfold mkIte
 split
 ·grind [lit?_tt, i2b]
 ·split
  ·grind [E.same_eq, E.tt]
  ·split
   ·grind [E.kind, E.val_b, lit?_tt, i2b, Aa, Ak, Ad, E.tt, Cw, E.den]
   ·rename_i k ha
    have hb : b.kind = .i k := by rw [<- hk, ha]
    have h1 := OS k c a b ha hb F ρ
    rw [E.val_i ha, E.val_i hb, E.val_i h1.2, h1.1]
    grind
   grind [E.kind, E.val_x, E.tt, E.den, i2b]
def Cg (op : BinOp) (k : IntKind) (a b : E) : E :=
 match a.lit?, b.lit? with
 | some x, some y => .lit (.i k) (binI op k x y)
 | _, _ => .bin op k a b
theorem RK (op : BinOp) (k : IntKind) (x y : Int) : k.wrap (binI op k x y) = binI op k x y := by
 cases op <;> simp only [binI, FB, Cd]
theorem AR (op : BinOp) (k : IntKind) (a b : E) (F : Fam) (ρ : Nat -> Int) : (Cg op k a b).val F ρ = .int k (binI op k (a.den F ρ) (b.den F ρ)) /\ (Cg op k a b).kind = .i k := by
 unfold Cg
 split
 ·rename_i x y h1 h2
  refine ⟨?_, rfl⟩
  rw [E.val_i rfl, E.lit?_den h1, E.lit?_den h2]
  simp [E.den, K.norm, RK]
 ·exact ⟨by rw [E.val_i rfl]; simp [E.den], rfl⟩
def mkDv (op : BinOp) (k : IntKind) (a : E) (n : Int) : E :=
 match a.lit? with
 | some x => .lit (.i k) (dvI op k x n)
 | none => .dv op k a n
theorem L5 (op : BinOp) (k : IntKind) (a : E) (n : Int) (hs : a.sound = true) (hk : a.kind = .i k) (F : Fam) (ρ : Nat -> Int) :
 (mkDv op k a n).val F ρ = .int k (dvI op k (a.den F ρ) n) /\ (mkDv op k a n).kind = .i k := by
 unfold mkDv
 split
 ·rename_i x h
  refine ⟨?_, rfl⟩
  have hx := E.den_norm F ρ a hs
  rw [hk, E.lit?_den h] at hx
  rw [E.val_i rfl, E.lit?_den h]
  simp only [E.den, K.norm]
  cases op <;> simp only [dvI, Cd] <;> rw [HB k x n hx]
 ·exact ⟨by rw [E.val_i rfl]; simp [E.den], rfl⟩
def mkSh (op : BinOp) (k : IntKind) (a b : E) : E :=
 match a.lit?, b.lit? with
 | some x, some y => .lit (.i k) (shI op k x y)
 | _, _ => .sh op k a b
theorem FD (op : BinOp) (k : IntKind) (a b : E) (hs : a.sound = true) (hk : a.kind = .i k) (F : Fam) (ρ : Nat -> Int) :
 (mkSh op k a b).val F ρ = .int k (shI op k (a.den F ρ) (b.den F ρ)) /\ (mkSh op k a b).kind = .i k := by
 unfold mkSh
 split
 ·rename_i x y h h'
  refine ⟨?_, rfl⟩
  have hx := E.den_norm F ρ a hs
  rw [hk, E.lit?_den h] at hx
  rw [E.val_i rfl, E.lit?_den h, E.lit?_den h']
  simp only [E.den, K.norm]
  cases op <;> simp only [shI, Cd] <;> rw [L4 k x _ hx]
 ·exact ⟨by rw [E.val_i rfl]; simp [E.den], rfl⟩
def mkCmp (op : BinOp) (a b : E) : E :=
 match a.lit?, b.lit? with
 | some x, some y => mkB (cmpB op x y)
 | _, _ => bif a.same b then mkB (cmpB op 0 0) else .cmp op a b
theorem RM (op : BinOp) (x : Int) : cmpB op x x = cmpB op 0 0 := by cases op <;> simp [cmpB]
theorem Ae (op : BinOp) (a b : E) (F : Fam) (ρ : Nat -> Int) : (mkCmp op a b).tt F ρ = cmpB op (a.den F ρ) (b.den F ρ) /\ (mkCmp op a b).kind = .b := by
 unfold mkCmp
 split
 ·simp_all [E.lit?_den]
 ·cases hs : a.same b
  ·exact ⟨by simp [E.tt, E.den], rfl⟩
  ·rw [E.same_eq _ _ hs, RM op (E.den F ρ b)]
   simp
def J7 (k : IntKind) (a : E) : E :=
 match a.lit? with
 | some x => .lit (.i k) x
 | none => .conv k a
theorem OT (k : IntKind) (a : E) (F : Fam) (ρ : Nat -> Int) : (J7 k a).val F ρ = .int k (k.wrap (a.den F ρ)) /\ (J7 k a).kind = .i k := by
 unfold J7
 split
 ·rename_i x h
  rw [E.val_i rfl, E.lit?_den h]
  exact ⟨rfl, rfl⟩
 ·exact ⟨by rw [E.val_i rfl]; simp [E.den], rfl⟩
def GU (a b : E) : E :=
 match a.lit?, b.lit? with
 | some x, _ => bif i2b x then b else Ak b
 | _, some y => bif i2b y then a else Ak a
 | none, none => .cmp .eql a b
theorem J8 (a b : E) (ha : a.kind = .b) (hb : b.kind = .b) (sa : a.sound = true) (sb : b.sound = true) (F : Fam) (ρ : Nat -> Int) :
 (GU a b).tt F ρ = (a.tt F ρ == b.tt F ρ) /\ (GU a b).kind = .b := by
 unfold GU
 split
 ·grind [lit?_tt, Ad, i2b]
 ·grind [lit?_tt, Ad, i2b]
 ·refine ⟨?_, rfl⟩
  have ea := RJ (F := F) (ρ := ρ) sa ha
  have eb := RJ (F := F) (ρ := ρ) sb hb
  show i2b (b2i (cmpB .eql (a.den F ρ) (b.den F ρ))) = _
  rw [D1, <- ea, <- eb]
  cases a.tt F ρ <;> cases b.tt F ρ <;> rfl
def D2 : K -> Option Int
 | .b => some 1
 | .i .u8 => some 255
 | .i .u16 => some 65535
 | .i .u32 => some 4294967295
 | .i .u64 => some 18446744073709551615
 | _ => none
def E.ub : E -> Option Int
 | .lit k n => if 0 <= k.norm n then some (k.norm n) else none
 | .dv .rem k a n => match E.ub a with
   | some m => if 0 < n then some (min m (n - 1)) else none
   | none => none
 | .conv k a => match E.ub a with
   | some m => if k.wrap m = m /\ (k.signed = false \/ 0 <= m) then some m else D2 (.i k)
   | none => D2 (.i k)
 | .ite _ a b => match E.ub a, E.ub b with
   | some m, some n => some (max m n)
   | _, _ => none
 | e => D2 e.kind
theorem AP {k : K} {m n : Int} (h : D2 k = some m) (hn : k.norm n = n) : 0 <= n /\ n <= m := by
 cases k with
 | b =>
   simp only [D2, oJ] at h
   simp only [K.norm] at hn
   split at hn <;> omega
 | i k =>
   cases k <;> simp only [D2, oJ, reduceCtorEq] at h <;> simp only [K.norm, IntKind.wrap, IntKind.signed, IntKind.bits] at hn <;> simp at hn <;> omega
 | x => simp [D2] at h
theorem E.ub_spec (F : Fam) (ρ : Nat -> Int) : ∀ (e : E) (m : Int), e.sound = true -> e.ub = some m -> 0 <= e.den F ρ /\ e.den F ρ <= m
 | .lit k n, m, hs, h => by
   grind [ub, den]
 | .dv op k a n, m, hs, h => by
   have hn := E.den_norm F ρ _ hs
   cases op
   case rem =>
    simp only [E.ub] at h
    simp only [E.sound, Bool.and_eq_true] at hs
    split at h
    ·rename_i m' hm
     have ih := E.ub_spec F ρ a m' hs.2 hm
     split at h
     ·rename_i hn0
      simp only [oJ] at h
      simp only [E.den, dvI]
      have h1 := Int.tmod_nonneg n ih.1
      have h2 := Int.tmod_lt_of_pos (E.den F ρ a) hn0
      have h3 : ((E.den F ρ a).tmod n).natAbs <= (E.den F ρ a).natAbs := by rw [Int.natAbs_tmod]; exact Nat.mod_le _ _
      omega
     ·cases h
    ·cases h
   all_goals
    simp only [E.ub] at h
    exact AP h hn
 | .conv k a, m, hs, h => by
   have hn := E.den_norm F ρ _ hs
   simp only [E.ub] at h
   split at h
   ·rename_i m' hm
    have ih := E.ub_spec F ρ a m' (by grind [sound]) hm
    split at h
    ·rename_i hk
     simp only [oJ] at h
     subst h
     simp only [E.den]
     obtain ⟨h1, h2⟩ := hk
     revert h1 h2 ih
     generalize E.den F ρ a = x
     intro ih h1 h2
     cases k <;> simp only [IntKind.wrap, IntKind.signed, IntKind.bits] at h1 ⊢ <;> simp at h1 ⊢ <;> (try split at h1) <;> (try split) <;> omega
    ·exact AP h hn
   ·exact AP h hn
 | .ite c a b, m, hs, h => by
   simp only [E.ub] at h
   simp only [E.sound, Bool.and_eq_true] at hs
   split at h
   ·rename_i m1 m2 h1 h2
    simp only [oJ] at h
    have i1 := E.ub_spec F ρ a m1 hs.1.2 h1
    have i2 := E.ub_spec F ρ b m2 hs.2 h2
    grind [den, i2b]
   ·cases h
 | .var k i, m, hs, h => by have hn := E.den_norm F ρ _ hs; simp only [E.ub] at h; exact AP h hn
 | .app k f j aZ, m, hs, h => by have hn := E.den_norm F ρ _ hs; simp only [E.ub] at h; exact AP h hn
 | .bin op k a b, m, hs, h => by have hn := E.den_norm F ρ _ hs; simp only [E.ub] at h; exact AP h hn
 | .sh op k a b, m, hs, h => by have hn := E.den_norm F ρ _ hs; simp only [E.ub] at h; exact AP h hn
 | .cmp op a b, m, hs, h => by have hn := E.den_norm F ρ _ hs; simp only [E.ub] at h; exact AP h hn
 | .not a, m, hs, h => by have hn := E.den_norm F ρ _ hs; simp only [E.ub] at h; exact AP h hn
 | .and a b, m, hs, h => by have hn := E.den_norm F ρ _ hs; simp only [E.ub] at h; exact AP h hn
 | .or a b, m, hs, h => by have hn := E.den_norm F ρ _ hs; simp only [E.ub] at h; exact AP h hn
def prN (a b : Nat) : Nat := 2 ^ a * (2 * b + 1)
theorem Pe {a b c d : Nat} (h : prN a b = prN c d) : a = c /\ b = d := by
 unfold prN at h
 have key : ∀ {a b c d : Nat}, a < c -> 2 ^ a * (2 * b + 1) = 2 ^ c * (2 * d + 1) -> False := fun {a b c d} hl h => by
  obtain ⟨k, rfl⟩ : ∃ k, c = a + 1 + k := ⟨c - a - 1, by omega⟩
  rw [show a + 1 + k = a + (1 + k) by omega, Nat.pow_add, Nat.mul_assoc] at h
  have := Nat.eq_of_mul_eq_mul_left (Nat.two_pow_pos a) h
  grind
 rcases Nat.lt_trichotomy a c with hl | hl | hl
 ·exact (key hl h).elim
 ·subst hl
  have := Nat.eq_of_mul_eq_mul_left (Nat.two_pow_pos a) h
  omega
 grind
def zzN : Int -> Nat
 | .ofNat n => 2 * n
 | .negSucc n => 2 * n + 1
theorem Vd : ∀ {a b : Int}, zzN a = zzN b -> a = b
 | .ofNat _, .ofNat _, h => by grind [zzN]
 | .ofNat _, .negSucc _, h => by grind [zzN]
 | .negSucc _, .ofNat _, h => by grind [zzN]
 | .negSucc _, .negSucc _, h => by grind [zzN]
def rowN : List Int -> Nat
 | [] => 0
 | a :: l => prN (zzN a) (rowN l)
theorem IW (a b : Nat) : 0 < prN a b := Nat.mul_pos (Nat.two_pow_pos a) (by omega)
theorem Nd : ∀ {a b : List Int}, rowN a = rowN b -> a = b
 | [], [], _ => rfl
 | [], x :: l, h => by grind [IW, zzN, rowN]
 | x :: l, [], h => by grind [IW, zzN, rowN]
 | x :: l, y :: r, h => by
   simp only [rowN] at h
   obtain ⟨h1, h2⟩ := Pe h
   rw [Vd h1, Nd h2]
def rowsN : List (List Int) -> Nat
 | [] => 0
 | a :: l => prN (rowN a) (rowsN l)
theorem L6 : ∀ {a b : List (List Int)}, rowsN a = rowsN b -> a = b
 | [], [], _ => rfl
 | [], x :: l, h => by grind [IW, rowN, rowsN]
 | x :: l, [], h => by grind [IW, rowN, rowsN]
 | x :: l, y :: r, h => by
   simp only [rowsN] at h
   obtain ⟨h1, h2⟩ := Pe h
   rw [Nd h1, L6 h2]
abbrev RL := List (List Int)
def cd (l : RL) : Int := (rowsN l : Int)
open Classical in
noncomputable def dc (n : Int) : RL := if h : ∃ l, cd l = n then h.choose else []
@[simp] theorem Ab (l : RL) : dc (cd l) = l := by
  unfold dc
  have h : ∃ r, cd r = cd l := ⟨l, rfl⟩
  rw [dif_pos h]
  have : cd h.choose = cd l := h.choose_spec
  exact L6 (Int.ofNat_inj.1 this)
def isCd (n : Int) : Prop := cd (dc n) = n
@[simp] theorem E4 (l : RL) : isCd (cd l) := by unfold isCd; rw [Ab]
def splR (r : List Int) (j : Nat) (vs : List Int) : List Int := r.take j ++ vs ++ r.drop (j + vs.length)
def ltR : List Int -> List Int -> Bool
 | [], [] => false
 | [], _ :: _ => true
 | _ :: _, [] => false
 | a :: l, b :: r => bif decide (a < b) then true else bif a == b then ltR l r else false
def putR (n : Nat) (row : List Int) : RL -> RL
 | [] => [row]
 | r :: l => if r.take n == row.take n then row :: l else if ltR (row.take n) (r.take n) = true then row :: r :: l else r :: putR n row l
def delR (k : List Int) : RL -> RL
 | [] => []
 | r :: l => if r.take k.length == k then l else r :: delR k l
noncomputable def bi : Nat -> List Int -> Int
 | 0, [c] => ((dc c).length : Int)
 | 1, [c, i, j] => ((dc c).getD i.toNat []).getD j.toNat 0
 | 2, [] => cd []
 | 3, c :: row => cd (dc c ++ [row])
 | 4, [c, d] => cd (dc c ++ dc d)
 | 5, [c, a, b] => cd (((dc c).take b.toNat).drop a.toNat)
 | 6, c :: i :: j :: vs => cd ((dc c).set i.toNat (splR ((dc c).getD i.toNat []) j.toNat vs))
 | 7, n :: row => cd (List.replicate n.toNat row)
 | 8, c :: row => b2i ((dc c).any fun r => r.take row.length == row)
 | 9, c :: n :: j :: row => (((dc c).find? fun r => r.take row.length == row).getD (row ++ List.replicate n.toNat 0)).getD j.toNat 0
 | 10, c :: n :: row => cd (putR n.toNat row (dc c))
 | 11, c :: row => cd (delR row (dc c))
 | 12, c :: n :: row => cd (List.replicate (dc c).length row)
 | 20, [x, y] => x.tdiv y
 | 21, [x, y] => x.tmod y
 | _, _ => 0
def LEN (c : E) : E := .app (.i .i64) 0 0 [c]
def CEL (k : K) (c i : E) (j : Nat) : E := .app k 0 1 [c, i, .lit .x j]
def NILL : E := .app .x 0 2 []
inductive CV where
 | nP
 | nF
 | nS
 | nI
 | nM
 | nC
 deriving Repr, Inhabited, DecidableEq
def CV.val : CV -> Value
 | .nP => .pointer none
 | .nF => .nilFunc
 | .nS => .slice none 0 0
 | .nI => .nilIface
 | .nM => .map none
 | .nC => .chan none
structure Hd where
 blk : Nat
 off : Nat := 0
 cap : Nat := 0
 nil : Bool := false
 v : Value := undef
 deriving Inhabited
def Hd.sl (h : Hd) (len : Nat) : Value := bif h.nil && len == 0 then .slice none 0 0 else .slice (some ⟨h.blk, h.off, none⟩) len h.cap
def Hd.part (h : Hd) (n lo str : Nat) : Hd := { blk := h.blk, off := if h.cap = lo then h.off else h.off + lo * str, cap := h.cap - lo, nil := h.nil && n == 0 }
inductive SV where
 | sc (e : E)
 | ptr (n off : Nat)
 | pi (n off str : Nat) (e : E)
 | sl (n off len cap : Nat)
 | ls (n : Nat) (le : E)
 | sv (n str : Nat) (l0 lo hi : E)
 | pe (n str : Nat) (i : E) (o : Nat)
 | mp (n : Nat)
 | oq (n : Nat)
 | fn (f : Nat) (cs : List SV)
 | agg (cs : List SV)
 | tup (vs : List SV)
 | gd (gs : List E) (v : SV)
 | ite (c : E) (a b : SV)
 | und
 | nilp (c : CV)
 | gl (b off : Nat)
 deriving Repr, Inhabited
mutual
def SV.conc (F : Fam) (ρ : Nat -> Int) (ad : Nat -> Hd) : SV -> Value
 | .sc e => e.val F ρ
 | .ptr n off => .pointer (some ⟨(ad n).blk, off, none⟩)
 | .pi n off str e => .pointer (some ⟨(ad n).blk, off + (e.den F ρ).toNat * str, none⟩)
 | .sl n off len cap => .slice (some ⟨(ad n).blk, off, none⟩) len cap
 | .ls n le => (ad n).sl (le.den F ρ).toNat
 | .sv n str l0 lo hi => ((ad n).part (l0.den F ρ).toNat (lo.den F ρ).toNat str).sl ((hi.den F ρ).toNat - (lo.den F ρ).toNat)
 | .pe n str i o => .pointer (some ⟨(ad n).blk, (ad n).off + (i.den F ρ).toNat * str + o, none⟩)
 | .mp n => .map (some (ad n).blk)
 | .oq n => (ad n).v
 | .fn f cs => .func (.func f) #[] (SV.concL F ρ ad cs).toArray
 | .agg cs => .agg (SV.concL F ρ ad cs).toArray
 | .tup vs => .tuple (SV.concL F ρ ad vs).toArray
 | .gd gs v => bif gs.all (fun g => g.tt F ρ) then SV.conc F ρ ad v else undef
 | .ite c a b => bif c.tt F ρ then SV.conc F ρ ad a else SV.conc F ρ ad b
 | .und => undef
 | .nilp c => c.val
 | .gl b off => .pointer (some ⟨b, off, none⟩)
def SV.concL (F : Fam) (ρ : Nat -> Int) (ad : Nat -> Hd) : List SV -> List Value
 | [] => []
 | v :: r => SV.conc F ρ ad v :: SV.concL F ρ ad r
end
theorem Ac (F : Fam) (ρ : Nat -> Int) (ad : Nat -> Hd) (l : List SV) : SV.concL F ρ ad l = l.map (SV.conc F ρ ad) := by
 induction l with
 | nil => simp [SV.concL]
 | cons e r ih => simp [SV.concL, ih]
mutual
def SV.ok (p : Nat -> Prop) : SV -> Prop
 | .ptr n _ | .pi n _ _ _ | .sl n _ _ _ | .ls n _ | .sv n _ _ _ _ | .pe n _ _ _ | .mp n | .oq n => p n
 | .fn _ cs | .agg cs | .tup cs => SV.okL p cs
 | .gd _ v => SV.ok p v
 | .ite _ a b => SV.ok p a /\ SV.ok p b
 | _ => True
def SV.okL (p : Nat -> Prop) : List SV -> Prop
 | [] => True
 | v :: r => SV.ok p v /\ SV.okL p r
end
theorem Cq (p : Nat -> Prop) (l : List SV) : SV.okL p l ↔ ∀ v ∈ l, v.ok p := by
 induction l with
 | nil => simp [SV.okL]
 | cons v r ih => simp [SV.okL, ih]
mutual
theorem SV.ok_mono {p q : Nat -> Prop} (h : ∀ n, p n -> q n) : ∀ v : SV, v.ok p -> v.ok q
 | .ptr n _, hv | .pi n _ _ _, hv | .sl n _ _ _, hv | .ls n _, hv | .sv n _ _ _ _, hv | .pe n _ _ _, hv | .mp n, hv | .oq n, hv => by grind [ok]
 | .fn _ cs, hv | .agg cs, hv | .tup cs, hv => by simp only [SV.ok] at hv ⊢; exact SV.okL_mono h cs hv
 | .gd _ v, hv => by simp only [SV.ok] at hv ⊢; exact SV.ok_mono h v hv
 | .ite _ a b, hv => by simp only [SV.ok] at hv ⊢; exact ⟨SV.ok_mono h a hv.1, SV.ok_mono h b hv.2⟩
 | .sc _, _ | .und, _ | .nilp _, _ | .gl _ _, _ => by simp [SV.ok]
theorem SV.okL_mono {p q : Nat -> Prop} (h : ∀ n, p n -> q n) : ∀ l : List SV, SV.okL p l -> SV.okL q l
 | [], _ => trivial
 | v :: r, hv => by simp only [SV.okL] at hv ⊢; exact ⟨SV.ok_mono h v hv.1, SV.okL_mono h r hv.2⟩
end
mutual
theorem SV.conc_congr {F : Fam} {ρ : Nat -> Int} {ad ad' : Nat -> Hd} {p : Nat -> Prop} (h : ∀ n, p n -> ad n = ad' n) : ∀ v : SV, v.ok p -> v.conc F ρ ad = v.conc F ρ ad'
 | .ptr n _, hv | .pi n _ _ _, hv | .sl n _ _ _, hv | .ls n _, hv | .sv n _ _ _ _, hv | .pe n _ _ _, hv | .mp n, hv | .oq n, hv => by grind [ok, conc]
 | .fn _ cs, hv | .agg cs, hv | .tup cs, hv => by simp only [SV.ok] at hv; simp only [SV.conc, SV.concL_congr h cs hv]
 | .gd gs v, hv => by simp only [SV.ok] at hv; simp only [SV.conc, SV.conc_congr h v hv]
 | .ite _ a b, hv => by simp only [SV.ok] at hv; simp only [SV.conc, SV.conc_congr h a hv.1, SV.conc_congr h b hv.2]
 | .sc _, _ | .und, _ | .nilp _, _ | .gl _ _, _ => by simp [SV.conc]
theorem SV.concL_congr {F : Fam} {ρ : Nat -> Int} {ad ad' : Nat -> Hd} {p : Nat -> Prop} (h : ∀ n, p n -> ad n = ad' n) : ∀ l : List SV, SV.okL p l -> SV.concL F ρ ad l = SV.concL F ρ ad' l
 | [], _ => rfl
 | v :: r, hv => by simp only [SV.okL] at hv; simp only [SV.concL, SV.conc_congr h v hv.1, SV.concL_congr h r hv.2]
end
def SV.one : SV -> Bool
 | .sc _ | .ptr .. | .pi .. | .sl .. | .ls .. | .sv .. | .pe .. | .mp _ | .fn .. | .nilp _ | .gl .. => true
 | .ite _ a b => SV.one a && SV.one b
 | _ => false
theorem E.val_one (F : Fam) (ρ : Nat -> Int) (e : E) : (e.val F ρ).oneCell' = true := by unfold E.val; split <;> rfl
theorem SV.one_conc {F : Fam} {ρ : Nat -> Int} {ad : Nat -> Hd} : ∀ {v : SV}, v.one = true -> (v.conc F ρ ad).oneCell' = true
 | .sc e, _ => E.val_one F ρ e
 | .nilp c, _ => by cases c <;> rfl
 | .ls n le, _ => by simp only [SV.conc, Hd.sl]; cases (ad n).nil && (E.den F ρ le).toNat == 0 <;> rfl
 | .sv n str l0 lo hi, _ => by simp only [SV.conc, Hd.sl]; cases ((ad n).part (l0.den F ρ).toNat (lo.den F ρ).toNat str).nil && ((hi.den F ρ).toNat - (lo.den F ρ).toNat) == 0 <;> rfl
 | .ite p a b, h => by
   simp only [SV.one, Bool.and_eq_true] at h
   simp only [SV.conc]
   cases p.tt F ρ
   ·exact SV.one_conc h.2
   ·exact SV.one_conc h.1
 | .ptr .., h | .pi .., h | .sl .., h | .pe .., h | .mp _, h | .fn .., h | .gl .., h => by simp_all [SV.one, SV.conc, Value.oneCell']
 | .agg _, h | .tup _, h | .gd .., h | .und, h | .oq _, h => by simp [SV.one] at h
def SV.cells : SV -> List SV
 | .agg cs => cs
 | v => [v]
theorem RN {v : Value} (h : v.oneCell' = true) : v.cells = #[v] := by cases v <;> simp_all [Value.oneCell', Value.cells]
theorem SV.cells_conc {F : Fam} {ρ : Nat -> Int} {ad : Nat -> Hd} {v : SV} (h : v.cells.all SV.one = true) : (v.conc F ρ ad).cells = (SV.concL F ρ ad v.cells).toArray := by
 cases v with
 | agg cs => simp [SV.cells, SV.conc, Value.cells]
 | _ =>
   simp only [SV.cells, List.all_cons, List.all_nil, Bool.and_true] at h
   rw [RN (SV.one_conc h)]
   simp [SV.cells, SV.concL]
theorem SV.ok_cells {p : Nat -> Prop} {v : SV} (h : v.ok p) : SV.okL p v.cells := by
 cases v <;> simp_all [SV.cells, SV.ok, SV.okL]
mutual
def SV.same : SV -> SV -> Bool
 | .sc e, .sc e' => e.same e'
 | .ptr n o, .ptr n' o' => decide (n = n') && decide (o = o')
 | .pi n o s e, .pi n' o' s' e' => decide (n = n') && decide (o = o') && decide (s = s') && e.same e'
 | .sl n o l c, .sl n' o' l' c' => decide (n = n') && decide (o = o') && decide (l = l') && decide (c = c')
 | .ls n e, .ls n' e' => decide (n = n') && e.same e'
 | .sv n s a b c, .sv n' s' a' b' c' => decide (n = n') && decide (s = s') && a.same a' && b.same b' && c.same c'
 | .pe n s e o, .pe n' s' e' o' => decide (n = n') && decide (s = s') && e.same e' && decide (o = o')
 | .mp n, .mp n' => decide (n = n')
 | .oq n, .oq n' => decide (n = n')
 | .fn f cs, .fn f' cs' => decide (f = f') && SV.sameL cs cs'
 | .agg cs, .agg cs' => SV.sameL cs cs'
 | .tup cs, .tup cs' => SV.sameL cs cs'
 | .und, .und => true
 | .nilp a, .nilp b => decide (a = b)
 | .gl b o, .gl b' o' => decide (b = b') && decide (o = o')
 | .gd gs v, .gd gs' v' => E.sameL gs gs' && SV.same v v'
 | .ite c a b, .ite c' a' b' => c.same c' && SV.same a a' && SV.same b b'
 | _, _ => false
def SV.sameL : List SV -> List SV -> Bool
 | [], [] => true
 | e :: r, e' :: r' => SV.same e e' && SV.sameL r r'
 | _, _ => false
end
mutual
theorem SV.same_eq : ∀ (a b : SV), SV.same a b = true -> a = b
 | .sc e, c, h => by cases c <;> simp [SV.same] at h; rw [E.same_eq _ _ h]
 | .ptr .., c, h => by cases c <;> simp_all [SV.same]
 | .pi n o s e, c, h => by
   cases c <;> simp [SV.same] at h
   grind [E.same_eq]
 | .sl .., c, h => by cases c <;> simp_all [SV.same]
 | .ls n e, c, h => by
   cases c <;> simp [SV.same] at h
   obtain ⟨rfl, h⟩ := h
   rw [E.same_eq _ _ h]
 | .sv n s a b e, c, h => by
   cases c <;> simp [SV.same] at h
   grind [E.same_eq]
 | .pe n s e o, c, h => by
   cases c <;> simp [SV.same] at h
   grind [E.same_eq]
 | .mp .., c, h | .oq .., c, h => by cases c <;> simp_all [SV.same]
 | .fn f cs, c, h => by
   cases c <;> simp [SV.same] at h
   obtain ⟨rfl, h⟩ := h
   rw [SV.sameL_eq _ _ h]
 | .agg cs, c, h => by cases c <;> simp [SV.same] at h; rw [SV.sameL_eq _ _ h]
 | .tup cs, c, h => by cases c <;> simp [SV.same] at h; rw [SV.sameL_eq _ _ h]
 | .und, c, h => by grind [same]
 | .nilp _, c, h => by cases c <;> simp_all [SV.same]
 | .gl .., c, h => by cases c <;> simp_all [SV.same]
 | .gd gs v, c, h => by
   cases c <;> simp [SV.same] at h
   rw [E.sameL_eq _ _ h.1, SV.same_eq _ _ h.2]
 | .ite c a b, d, h => by
   cases d <;> simp [SV.same] at h
   rw [E.same_eq _ _ h.1.1, SV.same_eq _ _ h.1.2, SV.same_eq _ _ h.2]
theorem SV.sameL_eq : ∀ (a b : List SV), SV.sameL a b = true -> a = b
 | [], [], _ => rfl
 | [], _ :: _, h => by simp [SV.sameL] at h
 | _ :: _, [], h => by simp [SV.sameL] at h
 | e :: r, e' :: r', h => by
   simp [SV.sameL] at h
   rw [SV.same_eq _ _ h.1, SV.sameL_eq _ _ h.2]
end
def holds (F : Fam) (ρ : Nat -> Int) (cs : List E) : Bool := cs.all fun c => c.tt F ρ
def Gh (cs : List E) (g : E) : Bool := cs.any fun c => c.same g
theorem GV {F : Fam} {ρ : Nat -> Int} {cs : List E} {g : E} (h : Gh cs g = true) (hc : holds F ρ cs = true) : g.tt F ρ = true := by
 grind [Gh, holds, E.same_eq]
def J9 (cs : List E) : SV -> Option SV
 | .gd gs v => if gs.all (Gh cs) = true then some v else none
 | .ite c a b => if Gh cs c = true then some a else if Gh cs (Ak c) = true then some b else some (.ite c a b)
 | v => some v
theorem PW {F : Fam} {ρ : Nat -> Int} {ad : Nat -> Hd} {cs : List E} {v v' : SV} (h : J9 cs v = some v') (hc : holds F ρ cs = true) : v.conc F ρ ad = v'.conc F ρ ad := by
 unfold J9 at h
 split at h
 ·grind [E.tt, GV, SV.conc]
 ·rename_i c a b
  split at h
  ·grind [SV.conc, GV]
  ·split at h
   ·rename_i hg
    simp only [oJ] at h
    subst h
    have := GV hg hc
    grind [Ad, E.tt, SV.conc]
   simp_all
 simp_all
theorem Nf {p : Nat -> Prop} {cs : List E} {v v' : SV} (h : J9 cs v = some v') (hv : v.ok p) : v'.ok p := by
 unfold J9 at h
 grind [SV.ok]
def litP (q : Nat) : E := .lit (.i .i64) q
def Ka (q : Nat) : Bool := decide ((IntKind.i64.wrap (q : Int)) = q)
def HC (c : E) (n o s : Nat) (e : E) (b : SV) : SV :=
 match b with
 | .pi n' o' s' e' => if n = n' /\ o = o' /\ s = s' /\ e.kind = .i .i64 /\ e'.kind = .i .i64 then .pi n o s (mkIte c e e') else .ite c (.pi n o s e) b
 | .ptr n' o' => if n = n' /\ o <= o' /\ (o' - o) % s = 0 /\ e.kind = .i .i64 /\ Ka ((o' - o) / s) = true then .pi n o s (mkIte c e (litP ((o' - o) / s))) else .ite c (.pi n o s e) b
 | _ => .ite c (.pi n o s e) b
def HD (c : E) (n o n' o' s' : Nat) (e' : E) : SV :=
 if n = n' /\ o' <= o /\ (o - o') % s' = 0 /\ e'.kind = .i .i64 /\ Ka ((o - o') / s') = true then .pi n o' s' (mkIte c (litP ((o - o') / s')) e') else .ite c (.ptr n o) (.pi n' o' s' e')
theorem Ng {F : Fam} {ρ : Nat -> Int} {q : Nat} (h : Ka q = true) : (litP q).den F ρ = (q : Int) := by
 simpa [litP, Ka, E.den, K.norm] using h
theorem FW {F : Fam} {ρ : Nat -> Int} {c a b : E} (hc : c.kind = .b) (ha : a.kind = .i .i64) (hb : b.kind = .i .i64) : (mkIte c a b).den F ρ = bif c.tt F ρ then a.den F ρ else b.den F ρ := by
 have h := A9 c a b hc (ha.trans hb.symm) F ρ
 have hk : (mkIte c a b).kind = .i .i64 := by rw [h.2, ha]
 have h1 := h.1
 rw [E.val_i hk, E.val_i ha, E.val_i hb] at h1
 grind
theorem Pf {o o' s : Nat} (h : o <= o') (hm : (o' - o) % s = 0) : o + (o' - o) / s * s = o' := by
 have := Nat.div_add_mod (o' - o) s
 grind
theorem OU {F : Fam} {ρ : Nat -> Int} {ad : Nat -> Hd} {c : E} (hc : c.kind = .b) (n o s : Nat) (e : E) (b : SV) : (HC c n o s e b).conc F ρ ad = bif c.tt F ρ then (SV.pi n o s e).conc F ρ ad else b.conc F ρ ad := by
 unfold HC
 grind [SV.conc, FW, E.tt, E.kind, litP, Ng, Pf]
theorem OV {F : Fam} {ρ : Nat -> Int} {ad : Nat -> Hd} {c : E} (hc : c.kind = .b) (n o n' o' s' : Nat) (e' : E) : (HD c n o n' o' s' e').conc F ρ ad = bif c.tt F ρ then (SV.ptr n o).conc F ρ ad else (SV.pi n' o' s' e').conc F ρ ad := by
 grind [HD, SV.conc, FW, E.kind, litP, Ng, E.tt, Pf]
theorem RP {p : Nat -> Prop} {c : E} (n o s : Nat) (e : E) (b : SV) (h1 : p n) (h2 : b.ok p) : (HC c n o s e b).ok p := by
 unfold HC
 grind [SV.ok]
theorem RQ {p : Nat -> Prop} {c : E} (n o n' o' s' : Nat) (e' : E) (h1 : p n) (h2 : p n') : (HD c n o n' o' s' e').ok p := by
 grind [HD, SV.ok]
mutual
def A5 (c : E) : SV -> SV -> SV
 | .sc x, .sc y => if x.kind = y.kind then .sc (mkIte c x y) else .ite c (.sc x) (.sc y)
 | .agg xs, .agg ys => if xs.length = ys.length then .agg (BE c xs ys) else .ite c (.agg xs) (.agg ys)
 | .pi n o s e, b => HC c n o s e b
 | .ptr n o, .pi n' o' s' e' => HD c n o n' o' s' e'
 | a, b => if SV.same a b = true then a else .ite c a b
def BE (c : E) : List SV -> List SV -> List SV
 | x :: xs, y :: ys => A5 c x y :: BE c xs ys
 | _, _ => []
end
mutual
theorem DM {F : Fam} {ρ : Nat -> Int} {ad : Nat -> Hd} {c : E} (hc : c.kind = .b) : ∀ (a b : SV), (A5 c a b).conc F ρ ad = bif c.tt F ρ then a.conc F ρ ad else b.conc F ρ ad
 | .sc x, b => by
   cases b with
   | sc y =>
     grind [A5, SV.conc, A9]
   | _ => simp [A5, SV.same, SV.conc]
 | .agg xs, b => by
   cases b with
   | agg ys =>
     simp only [A5]
     split
     ·rename_i hk; simp only [SV.conc]; rw [BO hc xs ys hk]; cases c.tt F ρ <;> rfl
     ·simp [SV.conc]
   | _ => simp [A5, SV.same, SV.conc]
 | .pi n o s e, b => by grind [A5, OU]
 | .ptr n o, b => by
   cases b with
   | pi n' o' s' e' => grind [A5, OV]
   | _ =>
     grind [A5, SV.same_eq, E.tt, SV.conc]
 | .sl .., b | .ls .., b | .sv .., b | .pe .., b | .mp _, b | .oq _, b | .fn .., b | .tup .., b | .gd .., b | .ite .., b | .und, b | .nilp _, b | .gl .., b => by
   grind [A5, SV.same_eq, E.tt, SV.conc]
theorem BO {F : Fam} {ρ : Nat -> Int} {ad : Nat -> Hd} {c : E} (hc : c.kind = .b) : ∀ (a b : List SV), a.length = b.length -> SV.concL F ρ ad (BE c a b) = bif c.tt F ρ then SV.concL F ρ ad a else SV.concL F ρ ad b
 | [], [], _ => by cases c.tt F ρ <;> rfl
 | [], _ :: _, h => by simp at h
 | _ :: _, [], h => by simp at h
 | x :: xs, y :: ys, h => by
   simp only [BE, SV.concL, DM hc x y, BO hc xs ys (by simpa using h)]
   cases c.tt F ρ <;> rfl
end
mutual
theorem GW {p : Nat -> Prop} {c : E} : ∀ (a b : SV), a.ok p -> b.ok p -> (A5 c a b).ok p
 | .sc x, b, ha, hb => by
   cases b with
   | sc y => grind [A5, SV.ok]
   | _ => simp only [A5, SV.same, Bool.false_eq_true, if_false]; exact ⟨ha, hb⟩
 | .agg xs, b, ha, hb => by
   cases b with
   | agg ys =>
     simp only [A5]
     simp only [SV.ok] at ha hb
     split
     ·simp only [SV.ok]; exact FE xs ys ha hb
     grind [SV.ok]
   | _ => simp only [A5, SV.same, Bool.false_eq_true, if_false]; exact ⟨ha, hb⟩
 | .pi n o s e, b, ha, hb => by simp only [A5]; exact RP n o s e b ha hb
 | .ptr n o, b, ha, hb => by
   cases b with
   | pi n' o' s' e' => simp only [A5]; exact RQ n o n' o' s' e' ha hb
   | _ =>
     grind [A5, SV.ok]
 | .sl .., b, ha, hb | .ls .., b, ha, hb | .sv .., b, ha, hb | .pe .., b, ha, hb | .mp _, b, ha, hb | .oq _, b, ha, hb | .fn .., b, ha, hb | .tup .., b, ha, hb | .gd .., b, ha, hb | .ite .., b, ha, hb | .und, b, ha, hb | .nilp _, b, ha, hb | .gl .., b, ha, hb => by
   grind [A5, SV.ok]
theorem FE {p : Nat -> Prop} {c : E} : ∀ (a b : List SV), SV.okL p a -> SV.okL p b -> SV.okL p (BE c a b)
 | [], _, _, _ => by simp [BE, SV.okL]
 | _ :: _, [], _, _ => by simp [BE, SV.okL]
 | x :: xs, y :: ys, ha, hb => by
   simp only [SV.okL] at ha hb
   simp only [BE, SV.okL]
   exact ⟨GW x y ha.1 hb.1, FE xs ys ha.2 hb.2⟩
end
def K.val : K -> Int -> Value
 | .b, n => .bool (i2b n)
 | .i k, n => .int k n
 | .x, n => .int .i64 n
theorem Bj {F : Fam} {ρ : Nat -> Int} {e : E} : e.kind.val (e.den F ρ) = e.val F ρ := by
 grind [E.val, K.val, E.tt, E.kind]
def fits : List K -> List Int -> Prop
 | [], [] => True
 | k :: ks, x :: xs => k.norm x = x /\ fits ks xs
 | _, _ => False
theorem Am : ∀ {ks : List K} {xs : List Int}, fits ks xs -> xs.length = ks.length
 | [], [], _ => rfl
 | [], _ :: _, h => h.elim
 | _ :: _, [], h => h.elim
 | _ :: ks, _ :: xs, h => by simp [Am h.2]
theorem JA : ∀ {ks : List K} {xs : List Int}, fits ks xs -> ∀ i k, ks[i]? = some k -> k.norm (xs.getD i 0) = xs.getD i 0
 | [], [], _, i, k, hi => by simp at hi
 | [], _ :: _, h, _, _, _ => h.elim
 | _ :: _, [], h, _, _, _ => h.elim
 | _ :: ks, _ :: xs, h, 0, k, hi => by simp at hi; subst hi; exact h.1
 | _ :: ks, _ :: xs, h, i + 1, k, hi => by simpa using JA h.2 i k (by simpa using hi)
inductive Row where
 | nil
 | c (k : K) (r : Row)
 | ls (ty : Nat) (q r : Row)
 deriving Repr, Inhabited, DecidableEq
def Row.size : Row -> Nat
 | .nil => 0
 | .c _ r => r.size + 1
 | .ls _ _ r => r.size + 1
def Row.ofKs : List K -> Row
 | [] => .nil
 | k :: ks => .c k (Row.ofKs ks)
def El : Value -> Option SV
 | .bool b => some (.sc (mkB b))
 | .int k n => if k.wrap n = n then some (.sc (.lit (.i k) n)) else none
 | .pointer none => some (.nilp .nP)
 | .nilFunc => some (.nilp .nF)
 | .slice none 0 0 => some (.nilp .nS)
 | .nilIface => some (.nilp .nI)
 | .map none => some (.nilp .nM)
 | .chan none => some (.nilp .nC)
 | _ => none
theorem Kb {F : Fam} {ρ : Nat -> Int} {ad : Nat -> Hd} {v : Value} {s : SV} (h : El v = some s) : s.conc F ρ ad = v := by
 unfold El at h
 split at h
 ·simp only [oJ] at h; subst h; simp [SV.conc]
 ·split at h
  ·rename_i hk; simp only [oJ] at h; subst h; simp [SV.conc, E.val, E.kind, E.den, K.norm, hk]
  ·cases h
 all_goals grind [SV.conc, CV.val]
theorem Nh {p : Nat -> Prop} {v : Value} {s : SV} (h : El v = some s) : s.ok p := by
 unfold El at h
 split at h
 ·simp only [oJ] at h; subst h; trivial
 ·split at h
  ·simp only [oJ] at h; subst h; trivial
  ·cases h
 all_goals first | (simp only [oJ] at h; subst h; trivial) | cases h
theorem RS {v : Value} {s : SV} (h : El v = some s) : s.one = true := by
 unfold El at h
 split at h
 ·simp only [oJ] at h; subst h; rfl
 ·split at h
  ·simp only [oJ] at h; subst h; rfl
  ·cases h
 all_goals first | (simp only [oJ] at h; subst h; rfl) | cases h
def ofVals : List Value -> Option (List SV)
 | [] => some []
 | v :: r => match El v, ofVals r with
   | some s, some l => some (s :: l)
   | _, _ => none
theorem C7 {F : Fam} {ρ : Nat -> Int} {ad : Nat -> Hd} {p : Nat -> Prop} : ∀ {l : List Value} {s : List SV}, ofVals l = some s -> SV.concL F ρ ad s = l /\ SV.okL p s /\ s.all SV.one = true
 | [], s, h => by simp [ofVals] at h; subst h; exact ⟨rfl, trivial, rfl⟩
 | v :: r, s, h => by
   simp only [ofVals] at h
   split at h
   ·rename_i a l h1 h2
    simp only [oJ] at h
    subst h
    obtain ⟨i1, i2, i3⟩ := C7 (F := F) (ρ := ρ) (ad := ad) (p := p) h2
    exact ⟨by simp [SV.concL, Kb h1, i1], ⟨Nh h1, i2⟩, by simp [RS h1, i3]⟩
   ·cases h
def EI (P : Program) (t : TypeId) : Option Bool :=
 match P.underlying t with
 | some (.struct _) => some true
 | some (.array _ _) => some true
 | some _ => some false
 | none => none
def E5 : List Value -> List SV -> Option (List SV)
 | [], a => some a.reverse
 | v :: r, a => match El v with
   | some s => E5 r (s :: a)
   | none => none
theorem Kc : ∀ (l : List Value) (a : List SV), E5 l a = (ofVals l).map fun s => a.reverse ++ s
 | [], a => by simp [E5, ofVals]
 | v :: r, a => by
   simp only [E5, ofVals]
   cases hv : El v with
   | none => rfl
   | some s =>
     simp only []
     rw [Kc r (s :: a)]
     cases ofVals r with
     | none => rfl
     | some l => simp
theorem DN {l : List Value} {s : List SV} (h : E5 l [] = some s) : ofVals l = some s := by
 simp_all [Kc, ofVals]
def hasN (n : Nat) (l : List SV) : Bool := match n with
 | 0 => true
 | k + 1 => !(l.drop k).isEmpty
theorem RT {n : Nat} {l : List SV} (h : hasN n l = true) : n <= l.length := by
 cases n with
 | zero => omega
 | succ k =>
   simp only [hasN, Bool.not_eq_true', List.isEmpty_eq_false_iff, ne_eq, List.drop_eq_nil_iff] at h
   omega
def szOf (P : Program) (t : TypeId) : Option Nat := (P.info? t).map (·.size)
def DP (P : Program) (t : TypeId) : Option (List SV) :=
 match P.info? t with
 | some i => match i.zero with
   | some z => E5 z.cells.toList []
   | none => none
 | none => none
section
variable {P : Program} (w : World)
theorem EJ {t : TypeId} {b : Bool} (h : EI P t = some b) : (isAgg t).run P w = .ok b w := by
 unfold EI at h
 split at h
 ·rename_i hu; simp only [oJ] at h; subst h; simp [isAgg, run_underlying hu]
 ·rename_i hu; simp only [oJ] at h; subst h; simp [isAgg, run_underlying hu]
 ·rename_i d hu h1 h2
  simp only [oJ] at h; subst h
  simp only [isAgg, Sem.run_bind, run_underlying h2, Result.andThen_ok]
  simp_all
 ·cases h
theorem Ai {t : TypeId} {n : Nat} (h : szOf P t = some n) : (sizeOf t).run P w = .ok n w := by
 unfold szOf at h
 cases hi : P.info? t with
 | none => simp [hi] at h
 | some i => simp [hi] at h; simp [sizeOf, typeInfo, hi, h]
theorem Gi {F : Fam} {ρ : Nat -> Int} {ad : Nat -> Hd} {t : TypeId} {cs : List SV} (h : DP P t = some cs) :
 ∃ z, (zeroValue t).run P w = .ok z w /\ z.cells = (SV.concL F ρ ad cs).toArray := by
 unfold DP at h
 split at h
 ·rename_i i hi
  split at h
  ·rename_i z hz
   refine ⟨z, by simp [zeroValue, typeInfo, hi, hz], ?_⟩
   rw [(C7 (F := F) (ρ := ρ) (ad := ad) (p := fun _ => True) (DN h)).1]
  ·cases h
 ·cases h
end
theorem FF {P : Program} {p : Nat -> Prop} {t : TypeId} {cs : List SV} (h : DP P t = some cs) : SV.okL p cs /\ cs.all SV.one = true := by
 unfold DP at h
 split at h
 ·split at h
  ·exact ⟨(C7 (F := fun _ _ _ => 0) (ρ := fun _ => 0) (ad := fun _ => default) (p := p) (DN h)).2.1, (C7 (F := fun _ _ _ => 0) (ρ := fun _ => 0) (ad := fun _ => default) (p := p) (DN h)).2.2⟩
  ·cases h
 ·cases h
def Em (P : Program) (t : TypeId) (cs : List SV) (off : Nat) : Option SV :=
 match EI P t, szOf P t with
 | some true, some n => if off + n <= cs.length then some (.agg ((cs.drop off).take n)) else none
 | some false, _ => cs[off]?
 | _, _ => none
theorem Fh {p : Nat -> Prop} {l : List SV} (h : SV.okL p l) (n : Nat) : SV.okL p (l.drop n) := by
 grind [Cq]
theorem D4 {p : Nat -> Prop} {l : List SV} (h : SV.okL p l) (n : Nat) : SV.okL p (l.take n) := by
 grind [Cq]
theorem GX {p : Nat -> Prop} {l m : List SV} (h : SV.okL p l) (h' : SV.okL p m) : SV.okL p (l ++ m) := by
 grind [Cq]
theorem CX {p : Nat -> Prop} {l : List SV} {i : Nat} {v : SV} (h : SV.okL p l) (hv : l[i]? = some v) : v.ok p := by
 grind [Cq]
theorem Ey {P : Program} {w : World} {F : Fam} {ρ : Nat -> Int} {ad : Nat -> Hd} {t : TypeId} {cs : List SV} {off : Nat} {v : SV} (h : Em P t cs off = some v) :
 (part t (SV.concL F ρ ad cs).toArray off).run P w = .ok (v.conc F ρ ad) w := by
 unfold Em at h
 split at h
 ·rename_i n h1 h2
  split at h
  ·rename_i hn
   simp only [oJ] at h
   subst h
   simp only [part, Sem.run_bind, EJ w h1, Result.andThen_ok, if_true, Ai w h2, Sem.run_pure]
   simp_all [SV.conc, Ac]
  ·cases h
 ·rename_i h1
  simp only [part, Sem.run_bind, EJ w h1, Result.andThen_ok, Bool.false_eq_true, if_false]
  simp [Ac, h]
 ·cases h
theorem JB {P : Program} {p : Nat -> Prop} {t : TypeId} {cs : List SV} {off : Nat} {v : SV} (h : Em P t cs off = some v) (hc : SV.okL p cs) : v.ok p := by
 grind [Em, SV.ok, D4, Fh, CX]
def A0 (cs : List SV) (off : Nat) (vs : List SV) : List SV := cs.take off ++ vs ++ cs.drop (off + vs.length)
theorem HE {p : Nat -> Prop} {cs vs : List SV} {off : Nat} (h : SV.okL p cs) (h' : SV.okL p vs) : SV.okL p (A0 cs off vs) :=
 GX (GX (D4 h _) h') (Fh h _)
theorem HF : ∀ (vs : List Value) (off : Nat) (k : Nat) (cs : List Value), off + k + vs.length <= cs.length ->
 ((vs.zipIdx k).foldl (fun (c : Array Value) x => c.setIfInBounds (off + x.2) x.1) cs.toArray) = (cs.take (off + k) ++ vs ++ cs.drop (off + k + vs.length)).toArray
 | [], off, k, cs, h => by simp
 | v :: vs, off, k, cs, h => by
   simp only [List.zipIdx_cons, List.foldl_cons, List.setIfInBounds_toArray]
   rw [HF vs off (k + 1) (cs.set (off + k) v) (by simp at h ⊢; omega)]
   congr 1
   simp only [List.length_cons] at h
   have h1 : (cs.set (off + k) v).take (off + (k + 1)) = cs.take (off + k) ++ [v] := by
    rw [<- Nat.add_assoc, List.take_succ_eq_append_getElem (by simp; omega)]
    simp [List.take_set_of_le]
   have h2 : (cs.set (off + k) v).drop (off + (k + 1) + vs.length) = cs.drop (off + k + (vs.length + 1)) := by
    rw [List.drop_set_of_lt (by omega)]; congr 1; omega
   rw [h1, h2]
   simp
def fillS (place : Nat -> Option (Nat × Nat)) (cells : List SV) : List (Nat × SV) -> Option (List SV)
 | [] => some cells
 | (i, v) :: rest => match place i with
   | none => none
   | some (off, size) =>
     if v.cells.length = size /\ hasN (off + size) cells = true /\ v.cells.all SV.one = true then fillS place (A0 cells off v.cells) rest else none
theorem EK {F : Fam} {ρ : Nat -> Int} {ad : Nat -> Hd} {place : Nat -> Option (Nat × Nat)} : ∀ {parts : List (Nat × SV)} {cells out : List SV}, fillS place cells parts = some out ->
 Instr.fill place (SV.concL F ρ ad cells).toArray (parts.map fun x => (x.1, x.2.conc F ρ ad)) = some (SV.concL F ρ ad out).toArray
 | [], cells, out, h => by simp [fillS] at h; subst h; simp [Instr.fill]
 | (i, v) :: rest, cells, out, h => by
   simp only [fillS] at h
   split at h
   ·cases h
   ·rename_i off size hp
    split at h
    ·rename_i hc
     replace hc : v.cells.length = size /\ off + size <= cells.length /\ v.cells.all SV.one = true := ⟨hc.1, RT hc.2.1, hc.2.2⟩
     have ih := EK (F := F) (ρ := ρ) (ad := ad) h
     have hcell := SV.cells_conc (F := F) (ρ := ρ) (ad := ad) hc.2.2
     have hlen : (SV.concL F ρ ad v.cells).length = size := by rw [Ac]; simpa using hc.1
     simp only [List.map_cons, Instr.fill, hp, hcell, List.size_toArray, hlen]
     rw [if_neg (by rw [Ac F ρ ad cells]; simp; omega), <- ih]
     congr 1
     have e := HF (SV.concL F ρ ad v.cells) off 0 (SV.concL F ρ ad cells) (by rw [hlen, Ac]; simp; omega)
     simp only [Nat.add_zero] at e
     have e2 : (SV.concL F ρ ad v.cells).toArray.zipIdx = ((SV.concL F ρ ad v.cells).zipIdx 0).toArray := by simp
     rw [e2]
     have e3 : ∀ (l : List (Value × Nat)) (c : Array Value), l.toArray.foldl (fun cs (x : Value × Nat) => match x with | (c, j) => cs.setIfInBounds (off + j) c) c = l.foldl (fun (c : Array Value) x => c.setIfInBounds (off + x.2) x.1) c := fun l c => by
      rw [List.foldl_toArray]
     rw [e3, e]
     congr 1
     simp only [A0, Ac, List.map_append, List.map_take, List.map_drop, List.length_map]
    ·cases h
theorem JC {p : Nat -> Prop} {place : Nat -> Option (Nat × Nat)} : ∀ {parts : List (Nat × SV)} {cells out : List SV}, fillS place cells parts = some out -> SV.okL p cells -> (∀ x ∈ parts, x.2.ok p) -> SV.okL p out
 | [], cells, out, h, hc, _ => by grind [fillS]
 | (i, v) :: rest, cells, out, h, hc, hp => by
   simp only [fillS] at h
   split at h
   ·cases h
   ·split at h
    ·exact JC h (HE hc (SV.ok_cells (hp (i, v) (by simp)))) (fun x hx => hp x (by simp [hx]))
    ·cases h
theorem L7 {place : Nat -> Option (Nat × Nat)} : ∀ {parts : List (Nat × SV)} {cells out : List SV}, fillS place cells parts = some out -> cells.all SV.one = true -> out.all SV.one = true
 | [], cells, out, h, hc => by grind [fillS]
 | (i, v) :: rest, cells, out, h, hc => by
   simp only [fillS] at h
   split at h
   ·cases h
   ·split at h
    ·rename_i hv
     refine L7 h ?_
     grind [A0]
    ·cases h
def Ni (P : Program) (fs : List Field) : Option (List (Nat × Nat)) := fs.mapM fun f => (P.info? f.type).map fun i => (f.offset, i.size)
def HG (P : Program) (t : TypeId) (parts : List (Nat × SV)) : Option (List SV) :=
 match DP P t, P.underlying t with
 | some z, some (.array _ e) => match szOf P e with
   | some n => fillS (fun i => some (i * n, n)) z parts
   | none => none
 | some z, some (.struct fs) => match Ni P fs.toList with
   | some places => fillS (places.toArray[·]?) z parts
   | none => none
 | _, _ => none
theorem Nj {P : Program} {F : Fam} {ρ : Nat -> Int} {ad : Nat -> Hd} {t : TypeId} {parts : List (Nat × SV)} {out : List SV} (h : HG P t parts = some out) :
 P.built t (parts.map fun x => (x.1, x.2.conc F ρ ad)) = some (SV.concL F ρ ad out).toArray := by
 have hz : ∀ z, DP P t = some z -> ∃ it zv, P.info? t = some it /\ it.zero = some zv /\ zv.cells = (SV.concL F ρ ad z).toArray := by
  intro z hz
  unfold DP at hz
  split at hz
  ·rename_i i hi
   split at hz
   ·rename_i zv hzv
    exact ⟨i, zv, hi, hzv, by rw [(C7 (F := F) (ρ := ρ) (ad := ad) (p := fun _ => True) (DN hz)).1]⟩
   ·cases hz
  ·cases hz
 unfold HG at h
 split at h
 ·rename_i z n e h1 h2
  obtain ⟨it, zv, i1, i2, i3⟩ := hz z h1
  split at h
  ·rename_i m hm
   unfold szOf at hm
   cases hie : P.info? e with
   | none => simp [hie] at hm
   | some ie =>
     simp [hie] at hm
     subst hm
     simp only [Program.built, i1, h2, i2, hie, i3]
     exact EK h
  ·cases h
 ·rename_i z fs h1 h2
  obtain ⟨it, zv, i1, i2, i3⟩ := hz z h1
  split at h
  ·rename_i places hp
   unfold Ni at hp
   simp only [Program.built, i1, h2, i2, hp, i3]
   exact EK h
  ·cases h
 ·cases h
theorem RU {P : Program} {p : Nat -> Prop} {t : TypeId} {parts : List (Nat × SV)} {out : List SV} (h : HG P t parts = some out) (hp : ∀ x ∈ parts, x.2.ok p) : SV.okL p out := by
 grind [HG, JC, FF]
def BP (P : Program) (t : TypeId) (len : Nat) (parts : List (Nat × SV)) : Option (TypeId × List SV) :=
 match P.underlying t with
 | some (.slice e) => match szOf P e, DP P e with
   | some n, some z => if (0 < len * n \/ parts.isEmpty = true) /\ len * n <= 16777216 /\ 0 < z.length then (fillS (fun i => some (i * n, n)) ((List.range (len * n)).map fun i => z.getD (i % z.length) .und) parts).map (e, ·) else none
   | _, _ => none
 | _ => none
theorem PX (F : Fam) (ρ : Nat -> Int) (ad : Nat -> Hd) (l : List SV) (i : Nat) (h : i < l.length) : (SV.concL F ρ ad l)[i]? = some ((l.getD i .und).conc F ρ ad) := by
 rw [Ac]; simp [h]
theorem Kd {P : Program} {w : World} {F : Fam} {ρ : Nat -> Int} {ad : Nat -> Hd} {t e : TypeId} {len : Nat} {parts : List (Nat × SV)} {out : List SV} (h : BP P t len parts = some (e, out)) :
 (Instr.buildSlice t len (parts.map fun x => (x.1, x.2.conc F ρ ad)).toArray).run P w = .ok (.slice (some ⟨w.heap.size, 0, none⟩) len len) (w.alloc (.cells (SV.concL F ρ ad out).toArray e)) := by
 unfold BP at h
 split at h
 ·rename_i e' hu
  split at h
  ·rename_i n z hn hz
   split at h
   ·rename_i hc
    cases hf : fillS (fun i => some (i * n, n)) ((List.range (len * n)).map fun i => z.getD (i % z.length) .und) parts with
    | none => rw [hf] at h; simp at h
    | some o =>
      rw [hf] at h
      simp only [Option.map_some, oJ, pJ] at h
      obtain ⟨rfl, rfl⟩ := h
      obtain ⟨zv, r1, r2⟩ := Gi (P := P) (F := F) (ρ := ρ) (ad := ad) w hz
      have hs := EK (F := F) (ρ := ρ) (ad := ad) hf
      have hinit : ((Array.range (len * n)).map fun x => zv.cells[x % zv.cells.size]!) = (SV.concL F ρ ad ((List.range (len * n)).map fun i => z.getD (i % z.length) .und)).toArray := by
       rw [r2, Ac F ρ ad ((List.range (len * n)).map fun i => z.getD (i % z.length) .und), List.map_map]
       apply Array.ext'
       simp only [Array.toList_map, Array.toList_range]
       apply List.map_congr_left
       intro i _
       have hl : (SV.concL F ρ ad z).length = z.length := by rw [Ac]; simp
       have hi : i % z.length < z.length := Nat.mod_lt _ hc.2.2
       have := PX F ρ ad z (i % z.length) hi
       simp only [List.size_toArray, hl, Function.comp]
       rw [getElem!_def]
       simp [this]
      simp only [Instr.buildSlice, Sem.run_bind, run_underlying hu, Result.andThen_ok, Ai w hn, Sem.run_ite]
      rw [if_neg (by simpa using hc.2.1)]
      simp only [Sem.run_pure, Result.andThen_ok, Sem.run_ite]
      by_cases h0 : len * n = 0
      ·have hp : parts = [] := by
        rcases hc.1 with h | h
        ·omega
        ·simp_all
       subst hp
       rw [h0] at hf
       simp only [List.range_zero, List.map_nil, fillS, oJ] at hf
       subst hf
       rw [if_pos h0, h0]
       have e0 : (Array.range 0).map (fun x => (#[] : Array Value)[x % (#[] : Array Value).size]!) = #[] := by apply Array.ext'; simp
       rw [e0]
       simp [Instr.fill, newRow, SV.concL]
      rw [if_neg h0]
      simp only [Sem.run_bind, r1, Result.andThen_ok, Sem.run_pure, hinit]
      have hs' : Instr.fill (fun i => some (i * n, n)) (SV.concL F ρ ad ((List.range (len * n)).map fun i => z.getD (i % z.length) .und)).toArray (parts.map fun x => (x.1, x.2.conc F ρ ad)).toArray.toList = some (SV.concL F ρ ad o).toArray := by simpa using hs
      rw [hs']
      simp [newRow]
   ·cases h
  ·cases h
 ·cases h
theorem Lx {P : Program} {p : Nat -> Prop} {t e : TypeId} {len : Nat} {parts : List (Nat × SV)} {out : List SV} (h : BP P t len parts = some (e, out)) (hp : ∀ x ∈ parts, x.2.ok p) : SV.okL p out := by
 unfold BP at h
 split at h
 ·split at h
  ·rename_i n z hn hz
   split at h
   ·rename_i hc
    cases hf : fillS (fun i => some (i * n, n)) ((List.range (len * n)).map fun i => z.getD (i % z.length) .und) parts with
    | none => rw [hf] at h; simp at h
    | some o =>
      rw [hf] at h
      simp only [Option.map_some, oJ, pJ] at h
      obtain ⟨rfl, rfl⟩ := h
      refine JC hf ?_ hp
      rw [Cq]
      intro v hv
      obtain ⟨i, _, rfl⟩ := List.mem_map.1 hv
      have hi : i % z.length < z.length := Nat.mod_lt _ hc.2.2
      have hz' := (FF (p := p) hz).1
      grind [CX]
   ·cases h
  ·cases h
 ·cases h
def eqFs (P : Program) (g : TypeId -> SV -> SV -> Option E) (xs ys : List SV) : List Field -> Option E
 | [] => some (mkB true)
 | f :: fs =>
   if f.name ≠ "_" then
    match Em P f.type xs f.offset, Em P f.type ys f.offset with
    | some a, some b => match g f.type a b, eqFs P g xs ys fs with
      | some e, some e' => some (mkAnd e e')
      | _, _ => none
    | _, _ => none
   else eqFs P g xs ys fs
def eqS (P : Program) : Nat -> TypeId -> SV -> SV -> Option E
 | 0, _, _, _ => none
 | d + 1, t, x, y => match P.underlying t with
   | some .bool => match x, y with
     | .sc a, .sc b => if a.kind = .b /\ b.kind = .b /\ a.sound = true /\ b.sound = true then some (GU a b) else none
     | _, _ => none
   | some (.int _) => match x, y with
     | .sc a, .sc b => match a.kind with
       | .i k => if b.kind = .i k then some (mkCmp .eql a b) else none
       | _ => none
     | _, _ => none
   | some (.struct fs) => match x, y with
     | .agg xs, .agg ys => if P.stoodInHeld t = false then eqFs P (eqS P d) xs ys fs.toList else none
     | _, _ => none
   | _ => none
theorem JD {P : Program} {F : Fam} {ρ : Nat -> Int} {ad : Nat -> Hd} {g : TypeId -> SV -> SV -> Option E} {d : Nat}
 (hg : ∀ (t : TypeId) (x y : SV) (e : E), g t x y = some e -> e.kind = .b /\ ∀ (m : Nat) (w : World), (Op.equalIn (m + d) t (x.conc F ρ ad) (y.conc F ρ ad)).run P w = .ok (e.tt F ρ) w) :
 ∀ (fs : List Field) (xs ys : List SV) (e : E), eqFs P g xs ys fs = some e -> e.kind = .b /\
 ∀ (m : Nat) (w : World), (Op.eqFields (m + d) (SV.concL F ρ ad xs).toArray (SV.concL F ρ ad ys).toArray fs).run P w = .ok (e.tt F ρ) w
 | [], xs, ys, e, h => by simp [eqFs] at h; subst h; exact ⟨rfl, fun m w => by simp [Op.eqFields]⟩
 | f :: fs, xs, ys, e, h => by
   simp only [eqFs] at h
   split at h
   ·rename_i hn
    split at h
    ·rename_i a b ha hb
     split at h
     ·rename_i e1 e2 h1 h2
      simp only [oJ] at h
      subst h
      obtain ⟨k1, r1⟩ := hg f.type a b e1 h1
      obtain ⟨k2, r2⟩ := JD hg fs xs ys e2 h2
      have hs := Aa e1 e2 k1 k2 F ρ
      refine ⟨hs.2, fun m w => ?_⟩
      rw [hs.1]
      simp only [Op.eqFields, Sem.run_ite, if_pos hn, Sem.run_bind, Ey ha, Ey hb, Result.andThen_ok, r1 m w]
      cases e1.tt F ρ
      ·simp
      ·simp [r2 m w]
     ·cases h
    ·cases h
   ·rename_i hn
    obtain ⟨k2, r2⟩ := JD hg fs xs ys e h
    refine ⟨k2, fun m w => ?_⟩
    simp only [Op.eqFields, Sem.run_ite, if_neg hn]
    exact r2 m w
theorem Ly {P : Program} {F : Fam} {ρ : Nat -> Int} {ad : Nat -> Hd} : ∀ (d : Nat) (t : TypeId) (x y : SV) (e : E), eqS P d t x y = some e -> e.kind = .b /\
 ∀ (m : Nat) (w : World), (Op.equalIn (m + d) t (x.conc F ρ ad) (y.conc F ρ ad)).run P w = .ok (e.tt F ρ) w
 | 0, _, _, _, _, h => by simp [eqS] at h
 | d + 1, t, x, y, e, h => by
   simp only [eqS] at h
   split at h
   ·rename_i hu
    split at h
    ·rename_i a b
     split at h
     ·rename_i hc
      simp only [oJ] at h
      subst h
      have hs := J8 a b hc.1 hc.2.1 hc.2.2.1 hc.2.2.2 F ρ
      refine ⟨hs.2, fun m w => ?_⟩
      rw [hs.1]
      simp only [SV.conc, E.val_b hc.1, E.val_b hc.2.1]
      exact run_equalIn_bool w (m + d) t _ _ hu
     ·cases h
    ·cases h
   ·rename_i k' hu
    split at h
    ·rename_i a b
     split at h
     ·rename_i k hk
      split at h
      ·rename_i hb
       simp only [oJ] at h
       subst h
       have hs := Ae .eql a b F ρ
       refine ⟨hs.2, fun m w => ?_⟩
       rw [hs.1]
       simp only [SV.conc, E.val_i hk, E.val_i hb]
       exact run_equalIn_int w (m + d) t k k' _ _ hu
      ·cases h
     ·cases h
    ·cases h
   ·rename_i fs hu
    split at h
    ·rename_i xs ys
     split at h
     ·rename_i hp
      obtain ⟨hk, hr⟩ := JD (F := F) (ρ := ρ) (ad := ad) (Ly d) fs.toList xs ys e h
      refine ⟨hk, fun m w => ?_⟩
      simp only [SV.conc]
      have hf : P.fieldsOf t = fs := by simp [Program.fieldsOf, hu]
      rw [show m + (d + 1) = (m + d) + 1 from rfl, run_equalIn_struct w (m + d) t _ _ (by rw [hf]; exact hu) hp, hf]
      exact hr m w
     ·cases h
    ·cases h
   ·cases h
inductive D where
 | val (v : SV)
 | ld (n off sz : Nat) (ag : Bool)
 | ldi (n off str cnt : Nat) (e : E) (sz : Nat) (ag : Bool)
 | ldg (b off sz : Nat) (ag : Bool)
 | st (n off : Nat) (cs : List SV)
 | sti (n off str cnt : Nat) (e : E) (cs : List SV)
 | new (ty : Nat) (cs : List SV) (sl : Option Nat)
 | call (f : Nat) (args : List SV)
 deriving Repr, Inhabited
def BF (P : Program) (w : World) (b off sz : Nat) (ag : Bool) : Result Next :=
 if ag then ((loadCells ⟨b, off, none⟩ sz).run P w).andThen fun cs w' => .ok (.value (.agg cs)) w'
 else ((load ⟨b, off, none⟩).run P w).andThen fun v w' => .ok (.value v) w'
def BR (P : Program) (w : World) (b off : Nat) (vs : List Value) : Result Next :=
 ((storeCells ⟨b, off, none⟩ vs).run P w).andThen fun _ w' => .ok .skip w'
def D.run (P : Program) (F : Fam) (ρ : Nat -> Int) (ad : Nat -> Hd) (w : World) : D -> Result Next
 | .val v => .ok (.value (v.conc F ρ ad)) w
 | .ld n off sz ag => BF P w (ad n).blk off sz ag
 | .ldi n off str _ e sz ag => BF P w (ad n).blk (off + (e.den F ρ).toNat * str) sz ag
 | .ldg b off sz ag => BF P w b off sz ag
 | .st n off cs => BR P w (ad n).blk off (SV.concL F ρ ad cs)
 | .sti n off str _ e cs => BR P w (ad n).blk (off + (e.den F ρ).toNat * str) (SV.concL F ρ ad cs)
 | .new ty cs sl => .ok (.value (match sl with | none => .pointer (some ⟨w.heap.size, 0, none⟩) | some len => .slice (some ⟨w.heap.size, 0, none⟩) len len)) (w.alloc (.cells (SV.concL F ρ ad cs).toArray ty))
 | .call f args => .ok (.enter f (SV.concL F ρ ad args).toArray) w
def D.good (F : Fam) (ρ : Nat -> Int) (p : Nat -> Prop) : D -> Prop
 | .val v => v.ok p
 | .ld n _ _ _ => p n
 | .ldi n _ _ cnt e _ _ => p n /\ (e.den F ρ).toNat < cnt /\ 0 <= e.den F ρ
 | .ldg _ _ _ _ => True
 | .st n _ cs => p n /\ SV.okL p cs /\ cs.all SV.one = true
 | .sti n _ _ cnt e cs => p n /\ SV.okL p cs /\ cs.all SV.one = true /\ (e.den F ρ).toNat < cnt /\ 0 <= e.den F ρ
 | .new _ cs _ => SV.okL p cs /\ cs.all SV.one = true
 | .call _ args => SV.okL p args
section
variable {P : Program} {F : Fam} {ρ : Nat -> Int} {ad : Nat -> Hd} {p : Nat -> Prop} {w : World}
def Gj : SV -> Nat -> Option SV
 | .ptr n off, k => some (.ptr n (off + k))
 | .pi n off s e, k => some (.pi n (off + k) s e)
 | .pe n s e off, k => some (.pe n s e (off + k))
 | .gl b off, k => some (.gl b (off + k))
 | _, _ => none
theorem Addr.add_none (b off k : Nat) : (⟨b, off, none⟩ : Addr).add k = ⟨b, off + k, none⟩ := by
 unfold Addr.add
 simp_all
theorem Jp {v v' : SV} {k : Nat} (h : Gj v k = some v') : ∃ b off, v.conc F ρ ad = .pointer (some ⟨b, off, none⟩) /\ v'.conc F ρ ad = .pointer (some ⟨b, off + k, none⟩) := by
 unfold Gj at h
 split at h <;> simp only [oJ, reduceCtorEq] at h <;> subst h
 ·exact ⟨_, _, rfl, rfl⟩
 ·exact ⟨_, _, rfl, by grind [SV.conc]⟩
 ·exact ⟨_, _, rfl, by grind [SV.conc]⟩
 ·exact ⟨_, _, rfl, rfl⟩
theorem L8 {v v' : SV} {k : Nat} (h : Gj v k = some v') (hv : v.ok p) : v'.ok p := by
 unfold Gj at h
 split at h <;> simp only [oJ, reduceCtorEq] at h <;> subst h <;> first | exact hv | trivial
def DQ (P : Program) (t : TypeId) (v : SV) (i : Nat) : Option SV :=
 match P.underlying t with
 | some (.struct fs) => match fs[i]? with
   | some f => match szOf P f.type with
     | some (n + 1) => Gj v f.offset
     | _ => none
   | none => none
 | _ => none
theorem Lz {t : TypeId} {v v' : SV} {i : Nat} (h : DQ P t v i = some v') : (Instr.fieldAt t (v.conc F ρ ad) i).run P w = .ok (v'.conc F ρ ad) w := by
 unfold DQ at h
 split at h
 ·rename_i fs hu
  split at h
  ·rename_i f hf
   split at h
   ·rename_i n hn
    obtain ⟨b, off, e1, e2⟩ := Jp (F := F) (ρ := ρ) (ad := ad) h
    rw [e1, e2]
    simp [Instr.fieldAt, run_underlying hu, hf, Instr.sureAddr, fieldPlace, Ai w hn, Addr.add_none]
   ·cases h
  ·cases h
 ·cases h
theorem MG {t : TypeId} {v v' : SV} {i : Nat} (h : DQ P t v i = some v') (hv : v.ok p) : v'.ok p := by
 grind [DQ, L8]
def idxS (len s : Nat) (base : SV) (e : E) : Option SV :=
 match e.lit? with
 | some i => if 0 <= i /\ i < len then Gj base (i.toNat * s) else none
 | none => match base, e.ub with
   | .ptr n off, some m => if m < len /\ e.sound = true then some (.pi n off s e) else none
   | _, _ => none
theorem L9 {len s : Nat} {base v : SV} {e : E} (h : idxS len s base e = some v) : 0 <= e.den F ρ /\ e.den F ρ < len /\
 ∃ b off, base.conc F ρ ad = .pointer (some ⟨b, off, none⟩) /\ v.conc F ρ ad = .pointer (some ⟨b, off + (e.den F ρ).toNat * s, none⟩) := by
 unfold idxS at h
 split at h
 ·simp_all [E.lit?_den, Jp]
 ·split at h
  ·rename_i n off m hm
   split at h
   ·rename_i hb
    simp only [oJ] at h
    subst h
    have := E.ub_spec F ρ e m hb.2 hm
    exact ⟨this.1, by omega, _, _, rfl, rfl⟩
   ·cases h
  ·cases h
theorem Ve {len s : Nat} {base v : SV} {e : E} (h : idxS len s base e = some v) (hv : base.ok p) : v.ok p := by
 unfold idxS at h
 grind [L8, SV.ok]
def DR (P : Program) (t : TypeId) (x ix : SV) : Option SV :=
 match ix with
 | .sc e => match e.kind with
   | .i _ => match P.underlying t, x with
     | some (.array len elem), x => match szOf P elem with
       | some s => idxS len s x e
       | none => none
     | some (.slice elem), .sl n off len _ => match szOf P elem with
       | some s => idxS len s (.ptr n off) e
       | none => none
     | _, _ => none
   | _ => none
 | _ => none
theorem LA {t : TypeId} {x ix v : SV} (h : DR P t x ix = some v) : (Instr.indexAt t (x.conc F ρ ad) (ix.conc F ρ ad)).run P w = .ok (v.conc F ρ ad) w := by
 unfold DR at h
 split at h
 ·rename_i e
  split at h
  ·rename_i k hk
   split at h
   ·rename_i len elem hu
    split at h
    ·rename_i s hs
     obtain ⟨h1, h2, b, off, e1, e2⟩ := L9 (F := F) (ρ := ρ) (ad := ad) h
     rw [e1, e2]
     simp only [SV.conc, E.val_i hk]
     simp [Instr.indexAt, run_underlying hu, Instr.sureAddr, asIntOf, h1, h2, Ai w hs, Addr.add_none]
    ·cases h
   ·rename_i elem n off len cap hu
    split at h
    ·rename_i s hs
     obtain ⟨h1, h2, b, o, e1, e2⟩ := L9 (F := F) (ρ := ρ) (ad := ad) h
     simp only [SV.conc, Value.pointer.injEq, oJ, Addr.mk.injEq, and_true] at e1
     obtain ⟨rfl, rfl⟩ := e1
     rw [e2]
     simp only [SV.conc, E.val_i hk]
     simp [Instr.indexAt, run_underlying hu, asIntOf, h1, h2, Ai w hs, Addr.add_none]
    ·cases h
   ·cases h
  ·cases h
 ·cases h
theorem MH {t : TypeId} {x ix v : SV} (h : DR P t x ix = some v) (hx : x.ok p) : v.ok p := by
 unfold DR at h
 split at h
 ·grind [Ve, SV.ok]
 ·cases h
def sel (e : E) : Nat -> List SV -> SV
 | _, [] => .und
 | _, [v] => v
 | j, v :: r => A5 (mkCmp .eql e (.lit (.i .i64) j)) v (sel e (j + 1) r)
theorem JE {e : E} : ∀ (l : List SV) (j : Nat), j + l.length < 1000000 -> (j : Int) <= e.den F ρ -> e.den F ρ < j + l.length ->
 ∃ v, l[(e.den F ρ).toNat - j]? = some v /\ (sel e j l).conc F ρ ad = v.conc F ρ ad
 | [], j, _, h1, h2 => by simp at h2; omega
 | [v], j, _, h1, h2 => ⟨v, by grind, rfl⟩
 | v :: u :: r, j, hl, h1, h2 => by
   have hc := Ae .eql e (.lit (.i .i64) (j : Int)) F ρ
   have hj : (E.lit (.i .i64) (j : Int)).den F ρ = j := by
    simp only [List.length_cons] at hl
    simp only [E.den, K.norm, IntKind.wrap, IntKind.signed, IntKind.bits]
    simp
    split <;> omega
   rw [hj] at hc
   have hm := DM (F := F) (ρ := ρ) (ad := ad) hc.2 v (sel e (j + 1) (u :: r))
   simp only [sel]
   rw [hm, hc.1]
   by_cases he : e.den F ρ = j
   ·grind [cmpB]
   ·obtain ⟨x, i1, i2⟩ := JE (e := e) (u :: r) (j + 1) (by simp at hl ⊢; omega) (by omega) (by simp at h2 ⊢; omega)
    grind [E.den, cmpB]
theorem Nk {e : E} : ∀ (l : List SV) (j : Nat), SV.okL p l -> (sel e j l).ok p
 | [], j, _ => trivial
 | [v], j, h => h.1
 | v :: u :: r, j, h => GW _ _ h.1 (Nk (u :: r) (j + 1) h.2)
def HH (P : Program) (t : TypeId) (cs : List SV) (s : Nat) : Nat -> Nat -> Option (List SV)
 | 0, _ => some []
 | n + 1, j => match Em P t cs (j * s), HH P t cs s n (j + 1) with
   | some v, some l => some (v :: l)
   | _, _ => none
theorem FX {t : TypeId} {cs : List SV} {s : Nat} : ∀ {n j : Nat} {l : List SV}, HH P t cs s n j = some l -> l.length = n /\ ∀ i v, l[i]? = some v -> Em P t cs ((j + i) * s) = some v
 | 0, j, l, h => by grind [HH]
 | n + 1, j, l, h => by
   simp only [HH] at h
   split at h
   ·rename_i v r h1 h2
    simp only [oJ] at h
    subst h
    obtain ⟨i1, i2⟩ := FX h2
    grind
   ·cases h
def HI (P : Program) (t : TypeId) (x ix : SV) : Option SV :=
 match ix with
 | .sc e => match e.kind with
   | .i _ => match P.underlying t, x with
     | some (.array len elem), .agg cs => match szOf P elem with
       | some s => match e.lit? with
         | some i => if 0 <= i /\ i < len then Em P elem cs (i.toNat * s) else none
         | none => match e.ub with
           | some m => if 0 <= m /\ m < len /\ m < 10000 /\ e.sound = true then (HH P elem cs s (m.toNat + 1) 0).map (sel e 0) else none
           | none => none
       | none => none
     | _, _ => none
   | _ => none
 | _ => none
theorem PY {t : TypeId} {x ix v : SV} (h : HI P t x ix = some v) : (Instr.index t (x.conc F ρ ad) (ix.conc F ρ ad)).run P w = .ok (v.conc F ρ ad) w := by
 unfold HI at h
 split at h
 ·rename_i e
  split at h
  ·rename_i k hk
   split at h
   ·rename_i len elem cs hu
    split at h
    ·rename_i s hs
     split at h
     ·rename_i i hi
      split at h
      ·rename_i hb
       simp only [SV.conc, E.val_i hk, E.lit?_den hi]
       simp [Instr.index, asIntOf, run_underlying hu, hb.1, hb.2, Ai w hs, Ey h]
      ·cases h
     ·split at h
      ·rename_i m hm
       split at h
       ·rename_i hb
        obtain ⟨l, hp, rfl⟩ := Option.map_eq_some_iff.1 h
        obtain ⟨p1, p2⟩ := FX hp
        have hu' := E.ub_spec F ρ e m hb.2.2.2 hm
        obtain ⟨u, s1, s2⟩ := JE (F := F) (ρ := ρ) (ad := ad) (e := e) l 0 (by omega) (by simpa using hu'.1) (by rw [p1]; omega)
        have hpart := p2 _ _ s1
        rw [s2]
        simp only [SV.conc, E.val_i hk]
        have hlt : e.den F ρ < len := by omega
        simp only [Nat.zero_add, Nat.sub_zero] at hpart
        simp [Instr.index, asIntOf, run_underlying hu, hu'.1, hlt, Ai w hs, Ey hpart]
       ·cases h
      ·cases h
    ·cases h
   ·cases h
  ·cases h
 ·cases h
theorem RW {t : TypeId} {x ix v : SV} (h : HI P t x ix = some v) (hx : x.ok p) : v.ok p := by
 unfold HI at h
 split at h
 ·split at h
  ·split at h
   ·rename_i len elem cs hu
    have hc : SV.okL p cs := by simpa [SV.ok] using hx
    split at h
    ·split at h
     ·grind [JB]
     ·split at h
      ·split at h
       ·obtain ⟨l, hp, rfl⟩ := Option.map_eq_some_iff.1 h
        refine Nk _ _ ?_
        rw [Cq]
        intro v hv
        obtain ⟨i, hi⟩ := List.getElem?_of_mem hv
        grind [JB, FX]
       ·cases h
      ·cases h
    ·cases h
   ·cases h
  ·cases h
 ·cases h
def HJ (P : Program) (t : TypeId) (x : SV) (i : Nat) : Option SV :=
 match P.underlying t, x with
 | some (.struct fs), .agg cs => match fs[i]? with
   | some f => Em P f.type cs f.offset
   | none => none
 | _, _ => none
theorem PZ {t : TypeId} {x v : SV} {i : Nat} (h : HJ P t x i = some v) : (Instr.field t (x.conc F ρ ad) i).run P w = .ok (v.conc F ρ ad) w := by
 unfold HJ at h
 split at h
 ·rename_i fs cs hu
  split at h
  ·rename_i f hf
   simp [Instr.field, run_underlying hu, hf, SV.conc, asAgg, Ey h]
  ·cases h
 ·cases h
theorem RX {t : TypeId} {x v : SV} {i : Nat} (h : HJ P t x i = some v) (hx : x.ok p) : v.ok p := by
 unfold HJ at h
 grind [JB, SV.ok]
def Nl (e : E) : Bool :=
 match e.lit? with
 | some n => decide (0 <= n)
 | none => e.ub.isSome && e.sound
theorem Jq {e : E} (h : Nl e = true) : 0 <= e.den F ρ := by
 unfold Nl at h
 split at h
 ·grind [E.lit?_den]
 ·simp only [Bool.and_eq_true, Option.isSome_iff_exists] at h
  obtain ⟨⟨m, hm⟩, hs⟩ := h
  simp_all [E.ub_spec]
def binE (op : BinOp) (k : IntKind) (a b : E) : Option E :=
 match op with
 | .add | .sub | .mul | .and | .or | .xor | .andNot => if b.kind = .i k then some (Cg op k a b) else none
 | .quo | .rem => match b.lit? with
   | some n => if b.kind = .i k /\ n ≠ 0 /\ a.sound = true then some (mkDv op k a n) else none
   | none => none
 | .shl | .shr => match b.kind with
   | .i _ => if Nl b = true /\ a.sound = true then some (mkSh op k a b) else none
   | _ => none
 | op => if b.kind = .i k then some (mkCmp op a b) else none
theorem Fk (op : BinOp) (k : IntKind) (x y : Int) (h : op = .and \/ op = .or \/ op = .xor \/ op = .andNot) : (Op.intBits op k x y).run P w = .ok (.int k (FB op k x y)) w := by
 rcases h with rfl | rfl | rfl | rfl <;> rfl
theorem Ud {op : BinOp} {t : TypeId} {k : IntKind} {a b e : E} (hk : a.kind = .i k) (h : binE op k a b = some e) : (binOp op t (a.val F ρ) (b.val F ρ)).run P w = .ok (e.val F ρ) w := by
 rw [E.val_i hk]
 unfold binE at h
 split at h
 ·split at h
  ·rename_i hb; simp only [oJ] at h; subst h
   rw [E.val_i hb, (AR _ k a b F ρ).1, binOp_add]; rfl
  ·cases h
 ·split at h
  ·rename_i hb; simp only [oJ] at h; subst h
   rw [E.val_i hb, (AR _ k a b F ρ).1, binOp_sub]; rfl
  ·cases h
 ·split at h
  ·rename_i hb; simp only [oJ] at h; subst h
   rw [E.val_i hb, (AR _ k a b F ρ).1, binOp_mul]; rfl
  ·cases h
 ·split at h
  ·rename_i hb; simp only [oJ] at h; subst h
   rw [E.val_i hb, (AR _ k a b F ρ).1, binOp_and, Fk _ _ _ _ (by simp)]; rfl
  ·cases h
 ·split at h
  ·rename_i hb; simp only [oJ] at h; subst h
   rw [E.val_i hb, (AR _ k a b F ρ).1, binOp_or, Fk _ _ _ _ (by simp)]; rfl
  ·cases h
 ·split at h
  ·rename_i hb; simp only [oJ] at h; subst h
   rw [E.val_i hb, (AR _ k a b F ρ).1, binOp_xor, Fk _ _ _ _ (by simp)]; rfl
  ·cases h
 ·split at h
  ·rename_i hb; simp only [oJ] at h; subst h
   rw [E.val_i hb, (AR _ k a b F ρ).1, binOp_andNot, Fk _ _ _ _ (by simp)]; rfl
  ·cases h
 ·split at h
  ·rename_i n hn
   split at h
   ·rename_i hb; simp only [oJ] at h; subst h
    rw [E.val_i hb.1, E.lit?_den hn, (L5 _ k a n hb.2.2 hk F ρ).1, binOp_quo]
    simp [Op.intDiv, hb.2.1, dvI]
   ·cases h
  ·cases h
 ·split at h
  ·rename_i n hn
   split at h
   ·rename_i hb; simp only [oJ] at h; subst h
    rw [E.val_i hb.1, E.lit?_den hn, (L5 _ k a n hb.2.2 hk F ρ).1, binOp_rem]
    simp [Op.intDiv, hb.2.1, dvI]
   ·cases h
  ·cases h
 ·split at h
  ·rename_i k' hk'
   split at h
   ·rename_i hb; simp only [oJ] at h; subst h
    have h0 := Jq (F := F) (ρ := ρ) hb.1
    rw [E.val_i hk', (FD _ k a b hb.2 hk F ρ).1, binOp_shl]
    simp [Op.shift, Int.not_lt.2 h0, shI]
   ·cases h
  ·cases h
 ·split at h
  ·rename_i k' hk'
   split at h
   ·rename_i hb; simp only [oJ] at h; subst h
    have h0 := Jq (F := F) (ρ := ρ) hb.1
    rw [E.val_i hk', (FD _ k a b hb.2 hk F ρ).1, binOp_shr]
    simp [Op.shift, Int.not_lt.2 h0, shI]
   ·cases h
  ·cases h
 ·rename_i op' n1 n2 n3 n4 n5 n6 n7 n8 n9 n10 n11
  split at h
  ·rename_i hb; simp only [oJ] at h; subst h
   have hs := Ae op a b F ρ
   rw [E.val_i hb, E.val_b hs.2, hs.1]
   cases op <;> first
    | (exfalso; first | exact n1 rfl | exact n2 rfl | exact n3 rfl | exact n4 rfl | exact n5 rfl | exact n6 rfl | exact n7 rfl | exact n8 rfl | exact n9 rfl | exact n10 rfl | exact n11 rfl)
    | (simp [go_sem, cmpB]; done)
  ·cases h
def LB (P : Program) (t : TypeId) : Bool :=
 match P.underlying t with
 | some .bool => true
 | _ => false
theorem HK {t : TypeId} (h : LB P t = true) : P.underlying t = some .bool := by
 grind [LB]
def binS (P : Program) (op : BinOp) (t : TypeId) (x y : SV) : Option SV :=
 match x, y with
 | .sc a, .sc b => match a.kind with
   | .i k => (binE op k a b).map .sc
   | .b => if LB P t = true /\ a.sound = true /\ b.sound = true /\ b.kind = .b then
    match op with
    | .eql => some (.sc (GU a b))
    | .neq => some (.sc (Ak (GU a b)))
    | _ => none
     else none
   | .x => none
 | .agg xs, .agg ys => if P.eqGuardType P.depth t = false then
  match op, eqS P 20 t (.agg xs) (.agg ys) with
  | .eql, some e => some (.sc e)
  | .neq, some e => some (.sc (Ak e))
  | _, _ => none
   else none
 | _, _ => none
theorem Ue {op : BinOp} {t : TypeId} {x y v : SV} {ox oy : Operand} (h : binS P op t x y = some v) :
 (do eqGuard op t ox oy (x.conc F ρ ad) (y.conc F ρ ad); binOp op t (x.conc F ρ ad) (y.conc F ρ ad)).run P w = .ok (v.conc F ρ ad) w := by
 unfold binS at h
 split at h
 ·rename_i a b
  split at h
  ·rename_i k hk
   obtain ⟨e, hb, rfl⟩ := Option.map_eq_some_iff.1 h
   have hr := Ud (P := P) (F := F) (ρ := ρ) (w := w) (t := t) hk hb
   simp only [SV.conc]
   rw [E.val_i hk] at hr ⊢
   simp [go_sem, hr]
  ·rename_i hk
   split at h
   ·rename_i hc
    have hs := J8 a b hk hc.2.2.2 hc.2.1 hc.2.2.1 F ρ
    simp only [SV.conc, E.val_b hk, E.val_b hc.2.2.2]
    split at h
    ·simp only [oJ] at h
     subst h
     simp only [SV.conc, E.val_b hs.2, hs.1]
     simp [go_sem, binOp, run_equal_bool w t _ _ (HK hc.1)]
    ·simp only [oJ] at h
     subst h
     have hn := Ad (GU a b) F ρ
     simp only [SV.conc, E.val_b hn.2, hn.1, hs.1]
     simp [go_sem, binOp, run_equal_bool w t _ _ (HK hc.1)]
    ·cases h
   ·cases h
  ·cases h
 ·rename_i xs ys
  split at h
  ·rename_i hg
   split at h
   ·rename_i e he
    simp only [oJ] at h
    subst h
    obtain ⟨hk, hr⟩ := Ly (F := F) (ρ := ρ) (ad := ad) 20 t _ _ e he
    have hr' := hr 9980 w
    simp only [SV.conc] at hr' ⊢
    rw [Sem.run_bind, run_eqGuard_agg w _ _ _ _ _ _ hg, Result.andThen_ok, run_eql_struct]
    simp_all [E.val_b]
   ·rename_i e he
    simp only [oJ] at h
    subst h
    obtain ⟨hk, hr⟩ := Ly (F := F) (ρ := ρ) (ad := ad) 20 t _ _ e he
    have hr' := hr 9980 w
    have hn := Ad e F ρ
    simp only [SV.conc] at hr' ⊢
    rw [Sem.run_bind, run_eqGuard_agg w _ _ _ _ _ _ hg, Result.andThen_ok, run_neq_struct]
    simp_all [E.val_b]
   ·cases h
  ·cases h
 ·cases h
theorem Vf {op : BinOp} {t : TypeId} {x y v : SV} (h : binS P op t x y = some v) : v.ok p := by
 unfold binS at h
 split at h
 ·split at h
  ·obtain ⟨e, _, rfl⟩ := Option.map_eq_some_iff.1 h
   trivial
  ·split at h
   ·split at h <;> simp only [oJ, reduceCtorEq] at h <;> subst h <;> trivial
   ·cases h
  ·cases h
 ·split at h
  ·split at h <;> simp only [oJ, reduceCtorEq] at h <;> subst h <;> trivial
  ·cases h
 ·cases h
def unS (op : UnOp) (x : SV) : Option SV :=
 match x with
 | .sc a => match op, a.kind with
   | .not, .b => some (.sc (Ak a))
   | .neg, .i k => some (.sc (Cg .sub k (.lit (.i k) 0) a))
   | .xor, .i k => some (.sc (Cg .xor k (.lit (.i k) (if k.signed then -1 else k.max)) a))
   | _, _ => none
 | _ => none
theorem RY (k : IntKind) : k.wrap (if k.signed then -1 else k.max) = (if k.signed then -1 else k.max) := by cases k <;> rfl
theorem Vg {op : UnOp} {x v : SV} (h : unS op x = some v) : (Op.unary op (x.conc F ρ ad)).run P w = .ok (v.conc F ρ ad) w := by
 unfold unS at h
 split at h
 ·rename_i a
  split at h
  ·rename_i hk
   simp only [oJ] at h; subst h
   have hn := Ad a F ρ
   simp only [SV.conc, E.val_b hk, E.val_b hn.2, hn.1]
   rfl
  ·rename_i k hk
   simp only [oJ] at h; subst h
   simp only [SV.conc, E.val_i hk]
   rw [(AR _ _ _ _ F ρ).1]
   simp [Op.unary, Op.intArith, binI, E.den, K.norm, Ds]
  ·rename_i k hk
   simp only [oJ] at h; subst h
   simp only [SV.conc, E.val_i hk]
   rw [(AR _ _ _ _ F ρ).1]
   simp only [Op.unary]
   simp_all [Fk, binI, E.den, K.norm, RY]
  ·cases h
 ·cases h
theorem VN {op : UnOp} {x v : SV} (h : unS op x = some v) : v.ok p := by
 unfold unS at h
 split at h
 ·split at h <;> simp only [oJ, reduceCtorEq] at h <;> subst h <;> trivial
 ·cases h
def Ke (P : Program) (src dst : TypeId) (x : SV) : Option SV :=
 match x with
 | .sc a => match a.kind, P.underlying dst with
   | .i _, some (.int k) => if (P.underlying src).isSome = true then some (.sc (J7 k a)) else none
   | _, _ => none
 | _ => none
theorem RZ {src dst : TypeId} {x v : SV} (h : Ke P src dst x = some v) : (convert src dst (x.conc F ρ ad)).run P w = .ok (v.conc F ρ ad) w := by
 unfold Ke at h
 split at h
 ·rename_i a
  split at h
  ·rename_i k' k hk hd
   split at h
   ·rename_i hs
    simp only [oJ] at h; subst h
    simp only [SV.conc, E.val_i hk]
    rw [(OT _ _ F ρ).1]
    have hik : P.intKind dst = k := by simp [Program.intKind, hd]
    have := run_convert_int (P := P) w src dst k' (a.den F ρ) hs (by rw [hik]; exact hd)
    simp_all
   ·cases h
  ·cases h
 ·cases h
theorem Uf {src dst : TypeId} {x v : SV} (h : Ke P src dst x = some v) : v.ok p := by
 unfold Ke at h
 split at h
 ·split at h
  ·split at h
   ·simp only [oJ] at h; subst h; trivial
   ·cases h
  ·cases h
 ·cases h
end
structure Fr (M : Nat -> Prop) (w w' : World) : Prop where
 os : w'.os = w.os
 tape : w'.tape = w.tape
 output : w'.output = w.output
 size : w.heap.size <= w'.heap.size
 block : ∀ k, k < w.heap.size -> ¬ M k -> w'.heap[k]? = w.heap[k]?
theorem Fr.refl (M : Nat -> Prop) (w : World) : Fr M w w := ⟨rfl, rfl, rfl, Nat.le_refl _, fun _ _ _ => rfl⟩
theorem Fr.mono {M M' : Nat -> Prop} {w w' : World} (h : Fr M w w') (hm : ∀ b, M b -> M' b) : Fr M' w w' := ⟨h.os, h.tape, h.output, h.size, fun k hk hn => h.block k hk fun x => hn (hm k x)⟩
theorem Fr.trans {M M' : Nat -> Prop} {w w' w'' : World} (h : Fr M w w') (h' : Fr M' w' w'') (hm : ∀ b, b < w.heap.size -> M' b -> M b) : Fr M w w'' :=
 ⟨h'.os.trans h.os, h'.tape.trans h.tape, h'.output.trans h.output, Nat.le_trans h.size h'.size, fun k hk hn => (h'.block k (Nat.lt_of_lt_of_le hk h.size) fun x => hn (hm k hk x)).trans (h.block k hk hn)⟩
theorem Fr.grown {w w' : World} {row : Option Nat} (h : w.grownBy w' row) : Fr (fun b => row = some b) w w' := ⟨h.os, h.tape, h.output, h.size, fun k hk hn => h.block k hk fun e => hn e.symm⟩
theorem Fr.below {M : Nat -> Prop} {w w' : World} (h : Below w.heap.size w w') : Fr M w w' := ⟨h.os, h.tape, h.output, h.size, fun k hk _ => h.block k hk⟩
theorem Fr.toBelow {w w' : World} (h : Fr (fun _ => False) w w') : Below w.heap.size w w' := ⟨h.os, h.tape, h.output, h.size, fun k hk => h.block k hk fun x => x⟩
theorem Fr.alloc (M : Nat -> Prop) (w : World) (o : Obj) : Fr M w (w.alloc o) := Fr.below ((Below.refl _ _).alloc (Nat.le_refl _) o)
theorem Fr.drew (M : Nat -> Prop) (w : World) : Fr M w { w with drawn := w.drawn + 1 } := ⟨rfl, rfl, rfl, Nat.le_refl _, fun _ _ _ => rfl⟩
theorem Fr.cell {M : Nat -> Prop} {w w' : World} (h : Fr M w w') {b o : Nat} (hb : b < w.heap.size) (hn : ¬ M b) : w'.cell? ⟨b, o, none⟩ = w.cell? ⟨b, o, none⟩ := by
 simp [World.cell?, h.block b hb hn]
theorem Fr.setRow {w : World} (g : Nat) (cs : Array Value) : Fr (fun b => b = g) w (w.setRow g cs) := ⟨rfl, rfl, rfl, by simp, fun k _ hn => setRow_other w g k cs hn⟩
def RowV (w : World) (Im : Nat -> Prop) : Row -> List Int -> List Value -> Prop
 | .nil, zs, vs => zs = [] /\ vs = []
 | .c k r, zs, vs => ∃ z zs' vs', zs = z :: zs' /\ vs = k.val z :: vs' /\ k.norm z = z /\ RowV w Im r zs' vs'
 | .ls _ q r, zs, vs => ∃ z zs' h vs', zs = z :: zs' /\ vs = Hd.sl h (dc z).length :: vs' /\ (isCd z /\ (dc z).length <= maxLen /\ (dc z).length <= h.cap /\ (dc z ≠ [] -> Im h.blk) /\
  (∀ i r', (dc z)[i]? = some r' -> ∃ us, RowV w Im q r' us /\ ∀ j u, us[j]? = some u -> w.cell? ⟨h.blk, h.off + i * q.size + j, none⟩ = some u)) /\ RowV w Im r zs' vs'
def ShL (w : World) (Im : Nat -> Prop) (q : Row) (h : Hd) (l : RL) : Prop :=
 l.length <= maxLen /\ l.length <= h.cap /\ (l ≠ [] -> Im h.blk) /\ ∀ i r', l[i]? = some r' -> ∃ us, RowV w Im q r' us /\ ∀ j u, us[j]? = some u -> w.cell? ⟨h.blk, h.off + i * q.size + j, none⟩ = some u
def RowsV (w : World) (Im : Nat -> Prop) (q : Row) : RL -> List Value -> Prop
 | [], xs => xs = []
 | r :: l, xs => ∃ us ys, xs = us ++ ys /\ RowV w Im q r us /\ RowsV w Im q l ys
def OwL (w : World) (Im : Nat -> Prop) (ty : Nat) (q : Row) (h : Hd) (l : RL) : Prop :=
 l.length <= maxLen /\ ∃ xs, w.ownsRow 0 ty q.size (h.sl l.length) l.length xs /\ RowsV w Im q l xs
section
variable {w w' : World} {Im Im' M : Nat -> Prop} {q : Row} {h : Hd} {l : RL}
theorem RowV.len : ∀ {q : Row} {zs : List Int} {vs : List Value}, RowV w Im q zs vs -> vs.length = q.size /\ zs.length = q.size
 | .nil, zs, vs, h => by obtain ⟨rfl, rfl⟩ := h; exact ⟨rfl, rfl⟩
 | .c k r, zs, vs, h => by obtain ⟨z, zs', vs', rfl, rfl, _, h'⟩ := h; have := RowV.len h'; simp [Row.size, this.1, this.2]
 | .ls ty p r, zs, vs, h => by obtain ⟨z, zs', hd, vs', rfl, rfl, _, h'⟩ := h; have := RowV.len h'; simp [Row.size, this.1, this.2]
theorem Hd.sl_one (h : Hd) (n : Nat) : (h.sl n).oneCell' = true := by unfold Hd.sl; cases h.nil && n == 0 <;> rfl
theorem K.val_one (k : K) (z : Int) : (k.val z).oneCell' = true := by cases k <;> rfl
theorem RowV.one : ∀ {q : Row} {zs : List Int} {vs : List Value}, RowV w Im q zs vs -> ∀ v ∈ vs, v.oneCell' = true
 | .nil, zs, vs, h => by obtain ⟨rfl, rfl⟩ := h; simp
 | .c k r, zs, vs, h => by
   obtain ⟨z, zs', vs', rfl, rfl, _, h'⟩ := h
   intro v hv
   rcases List.mem_cons.1 hv with rfl | hv
   ·exact K.val_one k z
   ·exact RowV.one h' v hv
 | .ls ty p r, zs, vs, h => by
   obtain ⟨z, zs', hd, vs', rfl, rfl, _, h'⟩ := h
   intro v hv
   rcases List.mem_cons.1 hv with rfl | hv
   ·exact Hd.sl_one _ _
   ·exact RowV.one h' v hv
theorem RowV.fr (hI : ∀ b, Im b -> Im' b /\ w'.heap[b]? = w.heap[b]?) : ∀ {q : Row} {zs : List Int} {vs : List Value}, RowV w Im q zs vs -> RowV w' Im' q zs vs
 | .nil, zs, vs, h => h
 | .c k r, zs, vs, h => by
   obtain ⟨z, zs', vs', h1, h2, h3, h'⟩ := h
   exact ⟨z, zs', vs', h1, h2, h3, RowV.fr hI h'⟩
 | .ls ty p r, zs, vs, h => by
   obtain ⟨z, zs', hd, vs', h1, h2, ⟨h3, h4, h5, h6, h7⟩, h'⟩ := h
   refine ⟨z, zs', hd, vs', h1, h2, ⟨h3, h4, h5, fun hn => (hI _ (h6 hn)).1, fun i r' hi => ?_⟩, RowV.fr hI h'⟩
   obtain ⟨us, u1, u2⟩ := h7 i r' hi
   have hne : dc z ≠ [] := fun e => by simp_all
   refine ⟨us, RowV.fr hI u1, fun j u hu => ?_⟩
   have := u2 j u hu
   simp only [World.cell?, (hI _ (h6 hne)).2] at this ⊢
   exact this
theorem ShL.fr (hI : ∀ b, Im b -> Im' b /\ w'.heap[b]? = w.heap[b]?) (hs : ShL w Im q h l) : ShL w' Im' q h l := by
 obtain ⟨h1, h2, h3, h4⟩ := hs
 refine ⟨h1, h2, fun hn => (hI _ (h3 hn)).1, fun i r' hi => ?_⟩
 obtain ⟨us, u1, u2⟩ := h4 i r' hi
 have hne : l ≠ [] := fun e => by simp_all
 refine ⟨us, RowV.fr hI u1, fun j u hu => ?_⟩
 have := u2 j u hu
 simp only [World.cell?, (hI _ (h3 hne)).2] at this ⊢
 exact this
theorem RowsV.fr (hI : ∀ b, Im b -> Im' b /\ w'.heap[b]? = w.heap[b]?) : ∀ {l : RL} {xs : List Value}, RowsV w Im q l xs -> RowsV w' Im' q l xs
 | [], xs, h => h
 | r :: l, xs, h => by
   obtain ⟨us, ys, h1, h2, h3⟩ := h
   exact ⟨us, ys, h1, RowV.fr hI h2, RowsV.fr hI h3⟩
theorem RowsV.len : ∀ {l : RL} {xs : List Value}, RowsV w Im q l xs -> xs.length = l.length * q.size
 | [], xs, h => by simp only [RowsV] at h; subst h; simp
 | r :: l, xs, h => by
   obtain ⟨us, ys, rfl, h2, h3⟩ := h
   rw [List.length_append, h2.len.1, RowsV.len h3, List.length_cons, Nat.succ_mul, Nat.add_comm]
theorem RowsV.one : ∀ {l : RL} {xs : List Value}, RowsV w Im q l xs -> ∀ v ∈ xs, v.oneCell' = true
 | [], xs, h => by simp only [RowsV] at h; subst h; simp
 | r :: l, xs, h => by
   obtain ⟨us, ys, rfl, h2, h3⟩ := h
   intro v hv
   rcases List.mem_append.1 hv with hv | hv
   ·exact h2.one v hv
   ·exact RowsV.one h3 v hv
theorem RowsV.append : ∀ {l l' : RL} {xs xs' : List Value}, RowsV w Im q l xs -> RowsV w Im q l' xs' -> RowsV w Im q (l ++ l') (xs ++ xs')
 | [], l', xs, xs', h, h' => by simp only [RowsV] at h; subst h; exact h'
 | r :: l, l', xs, xs', h, h' => by
   obtain ⟨us, ys, rfl, h2, h3⟩ := h
   exact ⟨us, ys ++ xs', by rw [List.append_assoc], h2, RowsV.append h3 h'⟩
theorem RowsV.get : ∀ {l : RL} {xs : List Value}, RowsV w Im q l xs -> ∀ i r, l[i]? = some r -> ∃ us, RowV w Im q r us /\ ∀ j u, us[j]? = some u -> xs[i * q.size + j]? = some u
 | [], xs, h, i, r, hi => by simp at hi
 | r :: l, xs, h, 0, r', hi => by
   obtain ⟨us, ys, rfl, h2, h3⟩ := h
   grind
 | r :: l, xs, h, i + 1, r', hi => by
   obtain ⟨us, ys, rfl, h2, h3⟩ := h
   obtain ⟨vs, v1, v2⟩ := RowsV.get h3 i r' (by simpa using hi)
   refine ⟨vs, v1, fun j u hu => ?_⟩
   have hl := h2.len.1
   grind
theorem RowsV.set : ∀ {l : RL} {xs : List Value}, RowsV w Im q l xs -> ∀ i r us, i < l.length -> RowV w Im q r us -> RowsV w Im q (l.set i r) (xs.take (i * q.size) ++ us ++ xs.drop (i * q.size + q.size))
 | [], xs, h, i, r, us, hi, hr => by simp at hi
 | r0 :: l, xs, h, 0, r, us, hi, hr => by
   obtain ⟨us0, ys, rfl, h2, h3⟩ := h
   have hl := h2.len.1
   refine ⟨us, ys, ?_, hr, h3⟩
   simp [<- hl]
 | r0 :: l, xs, h, i + 1, r, us, hi, hr => by
   obtain ⟨us0, ys, rfl, h2, h3⟩ := h
   have hl := h2.len.1
   refine ⟨us0, ys.take (i * q.size) ++ us ++ ys.drop (i * q.size + q.size), ?_, h2, RowsV.set h3 i r us (by simpa using hi) hr⟩
   have e1 : (i + 1) * q.size = us0.length + i * q.size := by rw [Nat.succ_mul, hl]; omega
   have e2 : (i + 1) * q.size + q.size = us0.length + (i * q.size + q.size) := by rw [e1]; omega
   rw [e2, e1, List.take_append, List.drop_append]
   rw [List.take_of_length_le (l := us0) (by omega), List.drop_of_length_le (l := us0) (by omega)]
   simp
theorem OwL.fr (hI : ∀ b, Im b -> Im' b /\ w'.heap[b]? = w.heap[b]?) (hb : ∀ b, (h.sl l.length).ownBlock = some b -> w'.heap[b]? = w.heap[b]?) {ty : Nat} (ho : OwL w Im ty q h l) : OwL w' Im' ty q h l := by
 obtain ⟨h1, xs, h2, h3⟩ := ho
 refine ⟨h1, xs, ⟨h2.1, ?_⟩, h3.fr hI⟩
 rcases h2.2 with hn | ⟨g, cap, cur, e, k1, k2, k3⟩
 ·exact .inl hn
 ·exact .inr ⟨g, cap, cur, e, k1, by rw [hb g (by rw [e]; rfl)]; exact k2, k3⟩
theorem Hd.own_blk {h : Hd} {n b : Nat} (e : (h.sl n).ownBlock = some b) : b = h.blk := by
 unfold Hd.sl at e
 cases hn : h.nil && n == 0 <;> rw [hn] at e <;> simp [Value.ownBlock] at e
 exact e.symm
theorem OwL.share {ty : Nat} (ho : OwL w Im ty q h l) : ShL w (fun b => Im b \/ (h.sl l.length).ownBlock = some b) q h l := by
 obtain ⟨h1, xs, h2, h3⟩ := ho
 have hI : ∀ b, Im b -> (Im b \/ (h.sl l.length).ownBlock = some b) /\ w.heap[b]? = w.heap[b]? := fun b hb => ⟨Or.inl hb, rfl⟩
 rcases h2.2 with ⟨hn, hl⟩ | ⟨g, cap, cur, e, k1, k2, k3, k4, k5, k6⟩
 ·have hl' : l = [] := List.eq_nil_of_length_eq_zero hl
  subst hl'
  exact ⟨Nat.zero_le _, Nat.zero_le _, fun x => (x rfl).elim, fun i r' hi => by simp at hi⟩
 ·have hg : (h.sl l.length).ownBlock = some g := by rw [e]; rfl
  have hgb := Hd.own_blk hg
  subst hgb
  have hoff : h.off = 0 /\ h.cap = cap := by
   unfold Hd.sl at e
   cases hnn : h.nil && l.length == 0
   ·simp_all
   ·simp_all
  refine ⟨h1, by omega, fun _ => Or.inr hg, fun i r' hi => ?_⟩
  obtain ⟨us, u1, u2⟩ := h3.get i r' hi
  refine ⟨us, u1.fr hI, fun j u hu => ?_⟩
  have hx := u2 j u hu
  rw [hoff.1, Nat.zero_add]
  have := h2.cells hg (i * q.size + j) u hx
  rwa [Addr.add_none, Nat.zero_add] at this
end
inductive Blk where
 | cells (ty : Nat) (cs : List SV)
 | lst (ty : Nat) (row : Row) (own : Bool) (le c : E)
 | mp (ks vs : List K) (kag vag : Bool) (c : E)
 | seg (ty : Nat) (cs : List SV) (ks : List K) (c : E)
 | dead
 deriving Repr, Inhabited
def Blk.cs : Blk -> List SV
 | .cells _ cs => cs
 | .seg _ cs _ _ => cs
 | _ => []
abbrev Mem := List (Option (E × Blk))
def Mem.at (m : Mem) (n : Nat) : Option (E × Blk) := m.getD n none
def al (m : Mem) (n : Nat) : Prop := (m.at n).isSome = true
abbrev Glob := Nat -> Nat -> Option SV
theorem Mem.at_lt {m : Mem} {n : Nat} {x} (h : m.at n = some x) : n < m.length := by
 unfold Mem.at at h
 grind
theorem Mem.at_set_same {m : Mem} {n : Nat} (h : n < m.length) (x : Option (E × Blk)) : Mem.at (List.set m n x) n = x := by
 simp [Mem.at, List.getD, h]
theorem Mem.at_set_other {m : Mem} {n k : Nat} (h : n ≠ k) (x : Option (E × Blk)) : Mem.at (List.set m n x) k = m.at k := by
 simp [Mem.at, List.getD, List.getElem?_set, h]
def numV (ks : List K) (zs : List Int) : List Value := List.zipWith K.val ks zs
def Bf (ks : List K) (l : RL) : List Value := (l.map (numV ks)).flatten
def keyV (ks : List K) (ag : Bool) (zs : List Int) : Value := bif ag then .agg (numV ks zs).toArray else (numV ks zs).getD 0 undef
def EntV (ks vs : List K) (kag vag : Bool) (e : MapEntry) (r : List Int) : Prop := fits (ks ++ vs) r /\ e.key = keyV ks kag (r.take ks.length) /\ e.val = keyV vs vag (r.drop ks.length)
def MapZ (ks vs : List K) (kag vag : Bool) : List MapEntry -> RL -> Prop
 | [], [] => True
 | e :: es, r :: l => EntV ks vs kag vag e r /\ MapZ ks vs kag vag es l
 | _, _ => False
def SortedR (n : Nat) (l : RL) : Prop := l.Pairwise fun a b => ltR (a.take n) (b.take n) = true
def MapV (ks vs : List K) (kag vag : Bool) (es : Array MapEntry) (l : RL) : Prop := SortedR ks.length l /\ ∃ l' : RL, l'.Perm l /\ MapZ ks vs kag vag es.toList l'
def mutB (F : Fam) (ρ : Nat -> Int) (ad : Nat -> Hd) (n : Nat) : Blk -> Option Nat
 | .cells _ _ => some (ad n).blk
 | .lst _ _ true le _ => ((ad n).sl (le.den F ρ).toNat).ownBlock
 | .lst _ _ false _ _ => none
 | .mp .. => some (ad n).blk
 | .seg .. => some (ad n).blk
 | .dead => none
def BlkOK (F : Fam) (ρ : Nat -> Int) (Im : Nat -> Prop) (ad : Nat -> Hd) (n : Nat) (w : World) : Blk -> Prop
 | .cells ty cs => w.heap[(ad n).blk]? = some (.cells (SV.concL F ρ ad cs).toArray ty (0, 0))
 | .lst ty row own le c => isCd (c.den F ρ) /\ le.den F ρ = ((dc (c.den F ρ)).length : Int) /\
  (bif own then OwL w Im ty row (ad n) (dc (c.den F ρ)) else ShL w Im row (ad n) (dc (c.den F ρ)))
 | .mp ks vs kag vag c => isCd (c.den F ρ) /\ ∃ es ck, w.heap[(ad n).blk]? = some (.map es ck) /\ MapV ks vs kag vag es (dc (c.den F ρ))
 | .seg ty cs ks c => isCd (c.den F ρ) /\ (∀ r ∈ dc (c.den F ρ), fits ks r) /\ w.heap[(ad n).blk]? = some (.cells (SV.concL F ρ ad cs ++ Bf ks (dc (c.den F ρ))).toArray ty (0, 0))
 | .dead => True
structure RelI (F : Fam) (ρ : Nat -> Int) (w0 : World) (M0 Im : Nat -> Prop) (ad : Nat -> Hd) (m : Mem) (w : World) : Prop where
 ent : ∀ n g x, m.at n = some (g, x) -> g.tt F ρ = true -> BlkOK F ρ Im ad n w x /\ ∀ b, mutB F ρ ad n x = some b -> (M0 b \/ w0.heap.size <= b) /\ ¬ Im b /\ b < w.heap.size
 ok : ∀ n g x, m.at n = some (g, x) -> SV.okL (al m) x.cs
 inj : ∀ n k g x g' y b, m.at n = some (g, x) -> g.tt F ρ = true -> m.at k = some (g', y) -> g'.tt F ρ = true -> mutB F ρ ad n x = some b -> mutB F ρ ad k y = some b -> n = k
 im : ∀ b, Im b -> b < w.heap.size
 fr : Fr M0 w0 w
def Rel (F : Fam) (ρ : Nat -> Int) (w0 : World) (M0 Im0 : Nat -> Prop) (ad : Nat -> Hd) (m : Mem) (w : World) : Prop :=
 (∀ b, M0 b -> ¬ Im0 b /\ b < w0.heap.size) /\ ∃ Im : Nat -> Prop, (∀ b, Im0 b -> Im b) /\ (∀ b, Im b -> Im0 b \/ M0 b \/ w0.heap.size <= b) /\ RelI F ρ w0 M0 Im ad m w
def GOK (G : Glob) (Im0 : Nat -> Prop) (w0 : World) : Prop :=
 ∀ (F : Fam) (ρ : Nat -> Int) b off v, G b off = some v -> Im0 b /\ b < w0.heap.size /\ w0.cell? ⟨b, off, none⟩ = some (v.conc F ρ (fun _ => default)) /\ v.ok (fun _ => False)
structure Ext (ad ad' : Nat -> Hd) (m m' : Mem) : Prop where
 same : ∀ k, al m k -> ad k = ad' k
 keep : ∀ k, al m k -> al m' k
theorem Ext.refl (ad : Nat -> Hd) (m : Mem) : Ext ad ad m m := ⟨fun _ _ => rfl, fun _ h => h⟩
theorem Ext.trans {ad ad' ad'' : Nat -> Hd} {m m' m'' : Mem} (h : Ext ad ad' m m') (h' : Ext ad' ad'' m' m'') : Ext ad ad'' m m'' :=
 ⟨fun k hk => (h.same k hk).trans (h'.same k (h.keep k hk)), fun k hk => h'.keep k (h.keep k hk)⟩
section
variable {P : Program} {F : Fam} {ρ : Nat -> Int} {G : Glob} {w0 w w' : World} {M0 Im0 Im Im' T : Nat -> Prop} {ad ad' : Nat -> Hd} {m m' : Mem}
theorem Mem.at_al {n : Nat} {x} (h : m.at n = some x) : al m n := by simp [al, h]
theorem GOK.fr (h : GOK G Im0 w0) (hM : ∀ b, M0 b -> ¬ Im0 b /\ b < w0.heap.size) (hf : Fr M0 w0 w) {Im1 : Nat -> Prop} (hI : ∀ b, Im0 b -> Im1 b) : GOK G Im1 w := fun F ρ b off v hv => by
 obtain ⟨h0, h1, h2, h3⟩ := h F ρ b off v hv
 exact ⟨hI b h0, Nat.lt_of_lt_of_le h1 hf.size, (hf.cell h1 fun x => (hM b x).1 h0).trans h2, h3⟩
theorem Cx {b : Nat} {c : Array Value} {t : TypeId} {fr : Nat × Nat} (h : w.heap[b]? = some (.cells c t fr)) (o : Nat) : w.cell? ⟨b, o, none⟩ = c[o]? := by
 simp [World.cell?, h]
theorem AW {n : Nat} {x : Blk} (h : ad' n = ad n) : mutB F ρ ad' n x = mutB F ρ ad n x := by
 simp_all [mutB]
theorem BlkOK.fr {n : Nat} {x : Blk} (h : BlkOK F ρ Im ad n w x) (hI : ∀ b, Im b -> Im' b /\ w'.heap[b]? = w.heap[b]?) (hb : ∀ b, mutB F ρ ad n x = some b -> w'.heap[b]? = w.heap[b]?)
 (hn : ad' n = ad n) (hc : SV.concL F ρ ad' x.cs = SV.concL F ρ ad x.cs) : BlkOK F ρ Im' ad' n w' x := by
 cases x with
 | cells ty cs =>
   simp only [BlkOK] at h ⊢
   have hc' : SV.concL F ρ ad' cs = SV.concL F ρ ad cs := hc
   rw [hn, hb _ rfl, hc']
   exact h
 | lst ty row own le c =>
   obtain ⟨h1, h2, h3⟩ := h
   refine ⟨h1, h2, ?_⟩
   grind [OwL.fr, mutB, ShL.fr]
 | mp ks vs kag vag c =>
   obtain ⟨h1, es, ck, h2, h3⟩ := h
   exact ⟨h1, es, ck, by rw [hn, hb _ rfl]; exact h2, h3⟩
 | seg ty cs ks c =>
   obtain ⟨h1, h2, h3⟩ := h
   have hc' : SV.concL F ρ ad' cs = SV.concL F ρ ad cs := hc
   exact ⟨h1, h2, by rw [hn, hb _ rfl, hc']; exact h3⟩
 | dead => trivial
theorem RelI.step (hR : RelI F ρ w0 M0 Im ad m w) (hf : Fr T w w') (hT : ∀ b, b < w.heap.size -> T b -> (M0 b \/ w0.heap.size <= b) /\ ¬ Im b)
 (hI : ∀ b, Im b -> Im' b) (hIw : ∀ b, Im' b -> b < w'.heap.size) (hx : ∀ k, al m k -> ad k = ad' k) (hk : ∀ k, al m k -> al m' k)
 (hE : ∀ n g x, m'.at n = some (g, x) -> g.tt F ρ = true ->
  ((∃ g', m.at n = some (g', x) /\ g'.tt F ρ = true) /\ ∀ b, mutB F ρ ad n x = some b -> ¬ T b /\ ¬ Im' b) \/
  (BlkOK F ρ Im' ad' n w' x /\ ∀ b, mutB F ρ ad' n x = some b -> ((M0 b \/ w0.heap.size <= b) /\ ¬ Im' b /\ b < w'.heap.size) /\ (T b \/ w.heap.size <= b)))
 (hok : ∀ n g x, m'.at n = some (g, x) -> SV.okL (al m') x.cs)
 (hN : ∀ n k g x g' y b, m'.at n = some (g, x) -> g.tt F ρ = true -> m'.at k = some (g', y) -> g'.tt F ρ = true -> mutB F ρ ad' n x = some b -> mutB F ρ ad' k y = some b -> (T b \/ w.heap.size <= b) -> n = k) :
 RelI F ρ w0 M0 Im' ad' m' w' := by
 have hIm : ∀ b, Im b -> Im' b /\ w'.heap[b]? = w.heap[b]? := fun b hb => ⟨hI b hb, hf.block b (hR.im b hb) fun t => (hT b (hR.im b hb) t).2 hb⟩
 refine ⟨fun n g x hn hg => ?_, hok, fun n k g x g' y b h1 h2 h3 h4 h5 h6 => ?_, hIw, hR.fr.trans hf fun b hb t => ?_⟩
 ·rcases hE n g x hn hg with ⟨⟨g', h1, h2⟩, h3⟩ | ⟨h1, h2⟩
  ·obtain ⟨i1, i2⟩ := hR.ent n g' x h1 h2
   have hadn := (hx n (Mem.at_al h1)).symm
   refine ⟨i1.fr hIm (fun b hb => hf.block b (i2 b hb).2.2 (h3 b hb).1) hadn ?_, fun b hb => ?_⟩
   ·exact (SV.concL_congr hx x.cs (hR.ok n g' x h1)).symm
   ·rw [AW hadn] at hb
    exact ⟨(i2 b hb).1, (h3 b hb).2, Nat.lt_of_lt_of_le (i2 b hb).2.2 hf.size⟩
  simp_all
 ·by_cases ht : T b \/ w.heap.size <= b
  ·grind
  ·rcases hE n g x h1 h2 with ⟨⟨g1, e1, e2⟩, e3⟩ | ⟨_, e2⟩
   ·rcases hE k g' y h3 h4 with ⟨⟨g2, f1, f2⟩, f3⟩ | ⟨_, f2⟩
    ·rw [AW (hx n (Mem.at_al e1)).symm] at h5
     rw [AW (hx k (Mem.at_al f1)).symm] at h6
     exact hR.inj n k g1 x g2 y b e1 e2 f1 f2 h5 h6
    simp_all
   simp_all
 ·by_cases hb' : b < w.heap.size
  ·grind
  ·have := hR.fr.size; omega
theorem RelI.refl_w (hR : RelI F ρ w0 M0 Im ad m w) {w1 : World} (h : w1.heap = w.heap) (hf : Fr M0 w0 w1) : RelI F ρ w0 M0 Im ad m w1 := by
 refine ⟨fun n g x hn hg => ?_, hR.ok, hR.inj, fun b hb => by rw [h]; exact hR.im b hb, hf⟩
 obtain ⟨i1, i2⟩ := hR.ent n g x hn hg
 grind [BlkOK.fr]
def Bv (m : Mem) (n : Nat) : Mem :=
 match m.at n with
 | some (g, .lst ty row true le c) => m.set n (some (g, .lst ty row false le c))
 | _ => m
theorem C8 {m : Mem} {n : Nat} {x y} (h : m.at n = some x) (k : Nat) : al (m.set n (some y)) k ↔ al m k := by
 grind [Mem.at_lt, al, Mem.at_set_same, Mem.at_set_other]
theorem EL {m : Mem} {n : Nat} {y} (h : n < m.length) (k : Nat) : al m k -> al (m.set n (some y)) k := by
 grind [al, Mem.at_set_same, Mem.at_set_other]
theorem Rel.share (hR : Rel F ρ w0 M0 Im0 ad m w) (n : Nat) : Rel F ρ w0 M0 Im0 ad (Bv m n) w := by
 unfold Bv
 split
 ·rename_i g ty row le c hn
  obtain ⟨hM, Im, h1, h2, hI⟩ := hR
  have hl := Mem.at_lt hn
  by_cases hg : g.tt F ρ = true
  ·obtain ⟨i1, i2⟩ := hI.ent n g _ hn hg
   obtain ⟨j1, j2, j3⟩ := i1
   simp only [cond_true] at j3
   have hlen : (le.den F ρ).toNat = (dc (c.den F ρ)).length := by rw [j2]; simp
   refine ⟨hM, fun b => Im b \/ ((ad n).sl (dc (c.den F ρ)).length).ownBlock = some b, fun b hb => Or.inl (h1 b hb), fun b hb => ?_, ?_⟩
   ·grind [mutB]
   ·refine hI.step (T := fun _ => False) (Fr.refl _ _) (fun b _ hb => hb.elim) (fun b hb => Or.inl hb) (fun b hb => ?_) (fun _ _ => rfl) (fun k hk => (C8 hn k).2 hk) (fun k g' x hk hg' => ?_) (fun k g' x hk => ?_) (fun k k' g1 x g2 y b a1 a2 a3 a4 a5 a6 a7 => ?_)
    ·grind [RelI.im, mutB]
    ·by_cases hkn : n = k
     ·subst hkn
      rw [Mem.at_set_same hl] at hk
      simp only [oJ, pJ] at hk
      obtain ⟨rfl, rfl⟩ := hk
      right
      exact ⟨⟨j1, j2, j3.share⟩, fun b hb => by simp [mutB] at hb⟩
     ·rw [Mem.at_set_other hkn] at hk
      left
      refine ⟨⟨g', hk, hg'⟩, fun b hb => ⟨fun x => x, fun hb' => ?_⟩⟩
      rcases hb' with hb' | hb'
      ·exact ((hI.ent k g' x hk hg').2 b hb).2.1 hb'
      ·exact hkn (hI.inj n k g _ g' x b hn hg hk hg' (by simp only [mutB, hlen]; exact hb') hb)
    ·by_cases hkn : n = k
     ·subst hkn
      rw [Mem.at_set_same hl] at hk
      simp only [oJ, pJ] at hk
      obtain ⟨_, rfl⟩ := hk
      trivial
     ·rw [Mem.at_set_other hkn] at hk
      exact SV.okL_mono (fun k hk => (C8 hn k).2 hk) _ (hI.ok k g' x hk)
    ·rcases a7 with a7 | a7
     ·exact a7.elim
     ·exfalso
      by_cases hkn : n = k
      ·grind [Mem.at_set_same, mutB]
      ·rw [Mem.at_set_other hkn] at a1
       have := ((hI.ent k g1 x a1 a2).2 b a5).2.2
       omega
  ·refine ⟨hM, Im, h1, h2, hI.step (T := fun _ => False) (Fr.refl _ _) (fun b _ hb => hb.elim) (fun b hb => hb) hI.im (fun _ _ => rfl) (fun k hk => (C8 hn k).2 hk) (fun k g' x hk hg' => ?_) (fun k g' x hk => ?_) (fun k k' g1 x g2 y b a1 a2 a3 a4 a5 a6 a7 => ?_)⟩
   ·grind [Mem.at_set_same, Mem.at_set_other, RelI.ent]
   ·by_cases hkn : n = k
    ·subst hkn
     rw [Mem.at_set_same hl] at hk
     simp only [oJ, pJ] at hk
     obtain ⟨_, rfl⟩ := hk
     trivial
    ·rw [Mem.at_set_other hkn] at hk
     exact SV.okL_mono (fun k hk => (C8 hn k).2 hk) _ (hI.ok k g' x hk)
   ·rcases a7 with a7 | a7
    ·exact a7.elim
    ·exfalso
     by_cases hkn : n = k
     ·grind [Mem.at_set_same]
     ·rw [Mem.at_set_other hkn] at a1
      have := ((hI.ent k g1 x a1 a2).2 b a5).2.2
      omega
 ·exact hR
theorem R0 (m : Mem) (n k : Nat) : al (Bv m n) k ↔ al m k := by
 grind [Bv, C8]
def shareL (m : Mem) : List Nat -> Mem
 | [] => m
 | n :: r => shareL (Bv m n) r
theorem Rel.shareL : ∀ (ns : List Nat) {m : Mem}, Rel F ρ w0 M0 Im0 ad m w -> Rel F ρ w0 M0 Im0 ad (Ew.shareL m ns) w
 | [], _, hR => hR
 | n :: r, _, hR => Rel.shareL r (hR.share n)
theorem BG : ∀ (ns : List Nat) (m : Mem) (k : Nat), al (shareL m ns) k ↔ al m k
 | [], m, k => Iff.rfl
 | n :: r, m, k => (BG r (Bv m n) k).trans (R0 m n k)
end
def getL (get : Operand -> Option SV) : List Operand -> Option (List SV)
 | [] => some []
 | x :: r => match get x, getL get r with
   | some v, some l => some (v :: l)
   | _, _ => none
def D5 (get : Operand -> Option SV) : List (Nat × Operand) -> Option (List (Nat × SV))
 | [] => some []
 | (i, x) :: r => match get x, D5 get r with
   | some v, some l => some ((i, v) :: l)
   | _, _ => none
def ldD (v : SV) (sz : Nat) (ag : Bool) : Option D :=
 match v with
 | .ptr n off => some (.ld n off sz ag)
 | .pi n off s e => match e.ub with
   | some m => if m < 10000 /\ e.sound = true then some (.ldi n off s (m.toNat + 1) e sz ag) else none
   | none => none
 | .gl b off => some (.ldg b off sz ag)
 | _ => none
def stD (v : SV) (cs : List SV) : Option D :=
 match v with
 | .ptr n off => some (.st n off cs)
 | .pi n off s e => match e.ub with
   | some m => if m < 10000 /\ e.sound = true then some (.sti n off s (m.toNat + 1) e cs) else none
   | none => none
 | _ => none
def R3 : SV -> Bool
 | .ptr .. | .pi .. | .gl .. | .pe .. => true
 | _ => false
def JF (P : Program) (f : Nat) : Bool :=
 match P.funcs[f]? with
 | some fn => !(fn.name == "runtime.NumGoroutine") && fn.body.isSome
 | none => false
def P0 (P : Program) (get : Operand -> Option SV) (c : Call) : Option D :=
 match c.callee with
 | .value x => match get x, getL get c.args.toList with
   | some (.fn f caps), some args => if JF P f = true then some (.call f (args ++ caps)) else none
   | _, _ => none
 | .builtin .len => match c.args.toList, c.argTypes.toList with
   | [x], [t] => match get x, P.underlying t with
     | some (.sl _ _ len _), some (.slice _) => if len < 1000000000 then some (.val (.sc (.lit (.i .i64) len))) else none
     | _, _ => none
   | _, _ => none
 | .builtin .max => match c.args.toList with
   | [x, y] => match get x, get y with
     | some (.sc a), some (.sc b) => match a.kind with
       | .i k => if b.kind = .i k then some (.val (.sc (mkIte (mkCmp .gtr b a) b a))) else none
       | _ => none
     | _, _ => none
   | _ => none
 | .builtin .min => match c.args.toList with
   | [x, y] => match get x, get y with
     | some (.sc a), some (.sc b) => match a.kind with
       | .i k => if b.kind = .i k then some (.val (.sc (mkIte (mkCmp .lss b a) b a))) else none
       | _ => none
     | _, _ => none
   | _ => none
 | _ => none
def litX (get : Operand -> Option SV) (d : Nat) : Option Operand -> Option Nat
 | none => some d
 | some x => match get x with
   | some (.sc (.lit (.i .i64) (.ofNat n))) => if n < 1000000000 then some n else none
   | _ => none
def desc (P : Program) (get : Operand -> Option SV) : Op -> Option D
 | .move x => (get x).map .val
 | .assign x => (get x).map .val
 | .alloc t => (DP P t).map fun cs => .new t cs none
 | .box t x => match get x with
   | some v => if v.cells.all SV.one = true then some (.new t v.cells none) else none
   | none => none
 | .build t parts => match D5 get parts.toList with
   | some ps => (HG P t ps).map fun cs => .val (.agg cs)
   | none => none
 | .buildSlice t len parts => match D5 get parts.toList with
   | some ps => (BP P t len ps).map fun x => .new x.1 x.2 (some len)
   | none => none
 | .load t a => match get a, EI P t, szOf P t with
   | some v, some ag, some sz => ldD v sz ag
   | _, _, _ => none
 | .store t a x => match get a, get x, szOf P t with
   | some q, some v, some sz => if v.cells.length = sz /\ v.cells.all SV.one = true then stD q v.cells else none
   | _, _, _ => none
 | .nilCheck x => match get x with
   | some v => if R3 v = true then some (.val v) else none
   | none => none
 | .binOp op t x y _ => match get x, get y with
   | some a, some b => (binS P op t a b).map .val
   | _, _ => none
 | .unOp op _ x => match get x with
   | some a => (unS op a).map .val
   | none => none
 | .convert src dst x => match get x with
   | some a => (Ke P src dst a).map .val
   | none => none
 | .makeFunc (.func f) first caps => if first.toList.length = 0 then (getL get caps.toList).map fun cs => .val (.fn f cs) else none
 | .fieldAddr t x i => match get x with
   | some a => (DQ P t a i).map .val
   | none => none
 | .field t x i => match get x with
   | some a => (HJ P t a i).map .val
   | none => none
 | .indexAddr t x ix => match get x, get ix with
   | some a, some i => (DR P t a i).map .val
   | _, _ => none
 | .index t x ix => match get x, get ix with
   | some a, some i => (HI P t a i).map .val
   | _, _ => none
 | .extract x i => match get x with
   | some (.tup vs) => match vs[i]? with
     | some v => some (.val v)
     | none => none
   | _ => none
 | .call c => P0 P get c
 | .slice t x lo hi none => match P.underlying t, get x with
   | some (.array n el), some (.ptr nm off) => match litX get 0 lo, litX get n hi, szOf P el with
     | some l, some u, some sz => if l <= u /\ u <= n /\ l < n then some (.val (.sl nm (off + l * sz) (u - l) (n - l))) else none
     | _, _, _ => none
   | _, _ => none
 | _ => none
section
variable {P : Program} {F : Fam} {ρ : Nat -> Int} {ad : Nat -> Hd} {p : Nat -> Prop} {w : World} {get : Operand -> Option SV} {ev : Operand -> Value}
theorem HM (hg : ∀ x v, get x = some v -> ev x = v.conc F ρ ad /\ v.ok p) : ∀ {l : List Operand} {vs : List SV}, getL get l = some vs -> l.map ev = SV.concL F ρ ad vs /\ SV.okL p vs
 | [], vs, h => by simp [getL] at h; subst h; exact ⟨rfl, trivial⟩
 | x :: r, vs, h => by
   simp only [getL] at h
   split at h
   ·rename_i v l h1 h2
    simp only [oJ] at h; subst h
    obtain ⟨i1, i2⟩ := HM hg h2
    obtain ⟨j1, j2⟩ := hg x v h1
    exact ⟨by simp [SV.concL, i1, j1], j2, i2⟩
   ·cases h
theorem EG (hg : ∀ x v, get x = some v -> ev x = v.conc F ρ ad /\ v.ok p) : ∀ {l : List (Nat × Operand)} {vs : List (Nat × SV)}, D5 get l = some vs ->
 l.map (fun x => (x.1, ev x.2)) = vs.map (fun x => (x.1, x.2.conc F ρ ad)) /\ ∀ x ∈ vs, x.2.ok p
 | [], vs, h => by grind [D5]
 | (i, x) :: r, vs, h => by
   simp only [D5] at h
   split at h
   ·rename_i v l h1 h2
    simp only [oJ] at h; subst h
    obtain ⟨i1, i2⟩ := EG hg h2
    grind
   ·cases h
theorem Kf {t e : TypeId} {len : Nat} {parts : List (Nat × SV)} {out : List SV} (h : BP P t len parts = some (e, out)) : out.all SV.one = true := by
 unfold BP at h
 split at h
 ·split at h
  ·rename_i n z hn hz
   split at h
   ·rename_i hc
    obtain ⟨o, hf, h2⟩ := Option.map_eq_some_iff.1 h
    simp only [pJ] at h2
    obtain ⟨rfl, rfl⟩ := h2
    refine L7 hf ?_
    rw [List.all_eq_true]
    intro v hv
    obtain ⟨i, _, rfl⟩ := List.mem_map.1 hv
    have hi : i % z.length < z.length := Nat.mod_lt _ hc.2.2
    have hz' := (FF (p := fun _ => True) hz).2
    simp_all
   ·cases h
  ·cases h
 ·cases h
theorem P3 {f : Nat} {args : Array Value} (h : JF P f = true) : (callFunc f args).run P w = .ok (.enter f args) w := by
 unfold JF at h
 split at h
 ·rename_i fn hf
  simp only [Bool.and_eq_true, Bool.not_eq_true'] at h
  have hb : fn.body.isNone = false := by cases hx : fn.body <;> simp_all
  simp only [callFunc, Sem.run_bind, run_program, Result.andThen_ok, hf, h.1, hb, Bool.false_eq_true, if_false]
  rfl
 ·cases h
theorem R4 {o : Oper} {c : Call} {d : D} (ho : o.op = .call c) (hg : ∀ x v, get x = some v -> ev x = v.conc F ρ ad /\ v.ok p) (h : P0 P get c = some d) :
 (execOp ev o).run P w = d.run P F ρ ad w /\ d.good F ρ p := by
 unfold P0 at h
 split at h
 ·rename_i x hc
  split at h
  ·rename_i f caps args h1 h2
   split at h
   ·rename_i hcall
    simp only [oJ] at h; subst h
    obtain ⟨e1, k1⟩ := hg x _ h1
    obtain ⟨e2, k2⟩ := HM hg h2
    refine ⟨?_, ?_⟩
    ·have ea : c.args.map ev = (SV.concL F ρ ad args).toArray := by
      rw [<- e2]; apply Array.ext'; simp
     simp only [execOp, ho, resolve, hc, e1, SV.conc, Deferred.ofValue, invoke, ea, D.run]
     grind [P3, Ac]
    grind [D.good, GX, SV.ok]
   ·cases h
  ·cases h
 ·rename_i hc
  split at h
  ·rename_i x t hargs htys
   split at h
   ·rename_i n off len cap e h1 hu
    split at h
    ·rename_i hlen
     simp only [oJ] at h; subst h
     obtain ⟨e1, _⟩ := hg x _ h1
     refine ⟨?_, trivial⟩
     have ea : c.args.map ev = #[ev x] := by apply Array.ext'; simp [hargs]
     have et : c.argTypes = #[t] := by apply Array.ext'; simpa using htys
     have hel : P.elem t = e := by simp [Program.elem, hu]
     have hl := run_len_slice (P := P) w t o.type (some ⟨(ad n).blk, off, none⟩) len cap (by rw [hel]; exact hu)
     have hw : (E.lit (.i .i64) (len : Int)).val F ρ = .int .i64 len := by
      simp only [E.val, E.kind, E.den, K.norm, IntKind.wrap, IntKind.signed, IntKind.bits]
      simp
      split <;> omega
     simp only [execOp, ho, resolve, hc, ea, et, Sem.run_bind, Sem.run_pure, Result.andThen_ok, invoke, builtin, e1, SV.conc, hl, D.run, goInt, hw]
    ·cases h
   ·cases h
  ·cases h
 ·rename_i hc
  split at h
  ·rename_i x y hargs
   split at h
   ·rename_i a b h1 h2
    split at h
    ·rename_i k hk
     split at h
     ·rename_i hb
      simp only [oJ] at h; subst h
      obtain ⟨e1, _⟩ := hg x _ h1
      obtain ⟨e2, _⟩ := hg y _ h2
      refine ⟨?_, trivial⟩
      have ea : c.args.map ev = #[ev x, ev y] := by apply Array.ext'; simp [hargs]
      have hm := run_max_int2 (P := P) w c.argTypes o.type k k (a.den F ρ) (b.den F ρ)
      have hcmp := Ae .gtr b a F ρ
      have hite := A9 (mkCmp .gtr b a) b a hcmp.2 (by rw [hb, hk]) F ρ
      simp only [execOp, ho, resolve, hc, ea, Sem.run_bind, Sem.run_pure, Result.andThen_ok, invoke, builtin, e1, e2, SV.conc, E.val_i hk, E.val_i hb, hm, D.run, hite.1, hcmp.1]
      grind [E.den, cmpB]
     ·cases h
    ·cases h
   ·cases h
  ·cases h
 ·rename_i hc
  split at h
  ·rename_i x y hargs
   split at h
   ·rename_i a b h1 h2
    split at h
    ·rename_i k hk
     split at h
     ·rename_i hb
      simp only [oJ] at h; subst h
      obtain ⟨e1, _⟩ := hg x _ h1
      obtain ⟨e2, _⟩ := hg y _ h2
      refine ⟨?_, trivial⟩
      have ea : c.args.map ev = #[ev x, ev y] := by apply Array.ext'; simp [hargs]
      have hm := run_min_int2 (P := P) w c.argTypes o.type k k (a.den F ρ) (b.den F ρ)
      have hcmp := Ae .lss b a F ρ
      have hite := A9 (mkCmp .lss b a) b a hcmp.2 (by rw [hb, hk]) F ρ
      simp only [execOp, ho, resolve, hc, ea, Sem.run_bind, Sem.run_pure, Result.andThen_ok, invoke, builtin, e1, e2, SV.conc, E.val_i hk, E.val_i hb, hm, D.run, hite.1, hcmp.1]
      grind [E.den, cmpB]
     ·cases h
    ·cases h
   ·cases h
  ·cases h
 ·cases h
theorem CY {t : TypeId} {b off sz : Nat} {ag : Bool} (ha : EI P t = some ag) (hs : szOf P t = some sz) :
 (do pure (Next.value (<- Instr.loadAt t (.pointer (some ⟨b, off, none⟩))))).run P w = BF P w b off sz ag := by
 unfold BF
 cases ag
 ·simp only [Instr.loadAt, Instr.sureAddr, loadVar, Sem.run_bind, Sem.run_pure, Result.andThen_ok, EJ w ha, Bool.false_eq_true, if_false]
 ·simp only [Instr.loadAt, Instr.sureAddr, loadVar, Sem.run_bind, Sem.run_pure, Result.andThen_ok, EJ w ha, if_true, Ai w hs]
  cases (loadCells ⟨b, off, none⟩ sz).run P w <;> rfl
theorem En {t : TypeId} {b off sz : Nat} {v : SV} (hs : szOf P t = some sz) (h1 : v.cells.length = sz) (h2 : v.cells.all SV.one = true) :
 (do Instr.storeAt t (.pointer (some ⟨b, off, none⟩)) (v.conc F ρ ad); pure Next.skip).run P w = BR P w b off (SV.concL F ρ ad v.cells) := by
 unfold BR
 have hc := SV.cells_conc (F := F) (ρ := ρ) (ad := ad) h2
 have hl : (SV.concL F ρ ad v.cells).toArray.size = sz := by rw [Ac]; simpa using h1
 simp only [Instr.storeAt, Instr.sureAddr, storeVar, Sem.run_bind, Sem.run_pure, Result.andThen_ok, hc, Ai w hs, hl, ne_eq, not_true_eq_false, if_false]
theorem FG (hg : ∀ x v, get x = some v -> ev x = v.conc F ρ ad /\ v.ok p) {d n : Nat} : ∀ {lo : Option Operand}, litX get d lo = some n -> (lo.map ev = none /\ n = d) \/ lo.map ev = some (.int .i64 n)
 | none, h => by grind [litX]
 | some x, h => by
   simp only [litX] at h
   split at h
   ·rename_i k hx
    split at h
    ·rename_i hk
     simp only [oJ] at h; subst h
     obtain ⟨e1, _⟩ := hg x _ hx
     have hw : (E.lit (.i .i64) (Int.ofNat k)).val F ρ = .int .i64 k := by
      simp only [E.val, E.kind, E.den, K.norm, IntKind.wrap, IntKind.signed, IntKind.bits, Int.ofNat_eq_natCast]
      simp
      split <;> omega
     grind [SV.conc]
    ·cases h
   ·cases h
theorem FH (w : World) {t el n sz b off : Nat} (ht : P.underlying t = some (.array n el)) (hs : szOf P el = some sz) (lo hi : Option Value) {l u : Nat}
 (hl : (lo = none /\ l = 0) \/ lo = some (.int .i64 l)) (hu : (hi = none /\ u = n) \/ hi = some (.int .i64 u)) (h1 : l <= u) (h2 : u <= n) (h3 : l < n) :
 (Instr.sliceAt t (.pointer (some ⟨b, off, none⟩)) lo hi none).run P w = .ok (.slice (some ⟨b, off + l * sz, none⟩) (u - l) (n - l)) w := by
 have b1 : (u : Int) <= (n : Int) := by omega
 have b2 : (l : Int) <= (u : Int) := by omega
 have b3 : (l : Int) <= (n : Int) := by omega
 have hne : ¬ n = l := by omega
 rcases hl with ⟨rfl, rfl⟩ | rfl <;> rcases hu with ⟨rfl, rfl⟩ | rfl <;>
  simp [Instr.sliceAt, Instr.sureAddr, Instr.sliceBounds, Instr.sliceBound, asIntOf, run_underlying ht, Ai w hs, b1, b2, b3, h1, h2, hne, Addr.add_none]
theorem JG {o : Oper} {d : D} (hg : ∀ x v, get x = some v -> ev x = v.conc F ρ ad /\ v.ok p) (h : desc P get o.op = some d) :
 (execOp ev o).run P w = d.run P F ρ ad w /\ d.good F ρ p := by
 unfold desc at h
 split at h
 ·rename_i x ho
  obtain ⟨v, h1, rfl⟩ := Option.map_eq_some_iff.1 h
  obtain ⟨e1, k1⟩ := hg x v h1
  exact ⟨by simp [execOp, ho, e1, D.run], k1⟩
 ·rename_i x ho
  obtain ⟨v, h1, rfl⟩ := Option.map_eq_some_iff.1 h
  obtain ⟨e1, k1⟩ := hg x v h1
  exact ⟨by simp [execOp, ho, e1, D.run], k1⟩
 ·rename_i t ho
  obtain ⟨cs, h1, rfl⟩ := Option.map_eq_some_iff.1 h
  obtain ⟨z, r1, r2⟩ := Gi (P := P) (F := F) (ρ := ρ) (ad := ad) w h1
  refine ⟨?_, FF h1⟩
  simp [execOp, ho, Instr.alloc, r1, newVar, newRow, D.run, r2]
 ·rename_i t x ho
  split at h
  ·rename_i v h1
   split at h
   ·rename_i hone
    simp only [oJ] at h; subst h
    obtain ⟨e1, k1⟩ := hg x v h1
    refine ⟨?_, SV.ok_cells k1, hone⟩
    simp [execOp, ho, Instr.box, e1, newVar, newRow, D.run, SV.cells_conc hone]
   ·cases h
  ·cases h
 ·rename_i t parts ho
  split at h
  ·rename_i ps h1
   obtain ⟨cs, h2, rfl⟩ := Option.map_eq_some_iff.1 h
   obtain ⟨e1, k1⟩ := EG hg h1
   refine ⟨?_, RU h2 k1⟩
   have hb := Nj (F := F) (ρ := ρ) (ad := ad) h2
   have hr := run_build w t (parts.map fun x => (x.1, ev x.2)) _ (by rw [Array.toList_map, e1]; exact hb)
   simp only [execOp, ho, Sem.run_bind, D.run, SV.conc]
   rw [hr]
   rfl
  ·cases h
 ·rename_i t len parts ho
  split at h
  ·rename_i ps h1
   obtain ⟨x, h2, rfl⟩ := Option.map_eq_some_iff.1 h
   obtain ⟨e, cs⟩ := x
   obtain ⟨e1, k1⟩ := EG hg h1
   refine ⟨?_, Lx h2 k1, Kf h2⟩
   have hr := Kd (w := w) (F := F) (ρ := ρ) (ad := ad) h2
   have ea : (parts.map fun x => (x.1, ev x.2)) = (ps.map fun x => (x.1, x.2.conc F ρ ad)).toArray := by apply Array.ext'; rw [Array.toList_map, e1]
   simp only [execOp, ho, Sem.run_bind, D.run]
   rw [ea, hr]
   rfl
  ·cases h
 ·rename_i t a ho
  split at h
  ·rename_i v ag sz h1 h2 h3
   obtain ⟨e1, k1⟩ := hg a v h1
   simp only [execOp, ho, e1]
   unfold ldD at h
   split at h
   ·simp only [oJ] at h; subst h
    exact ⟨CY h2 h3, k1⟩
   ·split at h
    ·rename_i m hm
     split at h
     ·rename_i hc
      simp only [oJ] at h; subst h
      have hu := E.ub_spec F ρ _ m hc.2 hm
      exact ⟨CY h2 h3, k1, by omega, hu.1⟩
     ·cases h
    ·cases h
   ·simp only [oJ] at h; subst h
    exact ⟨CY h2 h3, trivial⟩
   ·cases h
  ·cases h
 ·rename_i t a x ho
  split at h
  ·rename_i q v sz h1 h2 h3
   obtain ⟨e1, k1⟩ := hg a q h1
   obtain ⟨e2, k2⟩ := hg x v h2
   split at h
   ·rename_i hc
    simp only [execOp, ho, e1, e2]
    unfold stD at h
    split at h
    ·simp only [oJ] at h; subst h
     exact ⟨En h3 hc.1 hc.2, k1, SV.ok_cells k2, hc.2⟩
    ·split at h
     ·rename_i m hm
      split at h
      ·rename_i hcc
       simp only [oJ] at h; subst h
       have hu := E.ub_spec F ρ _ m hcc.2 hm
       exact ⟨En h3 hc.1 hc.2, k1, SV.ok_cells k2, hc.2, by omega, hu.1⟩
      ·cases h
     ·cases h
    ·cases h
   ·cases h
  ·cases h
 ·rename_i x ho
  split at h
  ·rename_i v h1
   split at h
   ·rename_i hi
    simp only [oJ] at h; subst h
    obtain ⟨e1, k1⟩ := hg x v h1
    refine ⟨?_, k1⟩
    unfold R3 at hi
    split at hi
    ·simp [execOp, ho, e1, SV.conc, D.run]
    ·simp [execOp, ho, e1, SV.conc, D.run]
    ·simp [execOp, ho, e1, SV.conc, D.run]
    ·simp [execOp, ho, e1, SV.conc, D.run]
    ·cases hi
   ·cases h
  ·cases h
 ·rename_i op t x y t' ho
  split at h
  ·rename_i a b h1 h2
   obtain ⟨v, h3, rfl⟩ := Option.map_eq_some_iff.1 h
   obtain ⟨e1, k1⟩ := hg x a h1
   obtain ⟨e2, k2⟩ := hg y b h2
   refine ⟨?_, Vf h3⟩
   simp only [execOp, ho, e1, e2, D.run]
   rw [Sem.run_bind, Ue h3]
   rfl
  ·cases h
 ·rename_i op t x ho
  split at h
  ·rename_i a h1
   obtain ⟨v, h3, rfl⟩ := Option.map_eq_some_iff.1 h
   obtain ⟨e1, k1⟩ := hg x a h1
   refine ⟨?_, VN h3⟩
   simp only [execOp, ho, e1, D.run]
   simp_all [Vg]
  ·cases h
 ·rename_i src dst x ho
  split at h
  ·rename_i a h1
   obtain ⟨v, h3, rfl⟩ := Option.map_eq_some_iff.1 h
   obtain ⟨e1, k1⟩ := hg x a h1
   refine ⟨?_, Uf h3⟩
   simp only [execOp, ho, e1, D.run]
   simp_all [RZ]
  ·cases h
 ·rename_i f first caps ho
  split at h
  ·rename_i hf
   obtain ⟨cs, h3, rfl⟩ := Option.map_eq_some_iff.1 h
   obtain ⟨e1, k1⟩ := HM hg h3
   refine ⟨?_, by simpa [D.good, SV.ok] using k1⟩
   have ef : first = #[] := by apply Array.ext'; simpa using hf
   have ea : caps.map ev = (SV.concL F ρ ad cs).toArray := by apply Array.ext'; simp [e1]
   simp [execOp, ho, ef, ea, Instr.makeFunc, D.run, SV.conc]
  ·cases h
 ·rename_i t x i ho
  split at h
  ·rename_i a h1
   obtain ⟨v, h3, rfl⟩ := Option.map_eq_some_iff.1 h
   obtain ⟨e1, k1⟩ := hg x a h1
   refine ⟨?_, MG h3 k1⟩
   simp only [execOp, ho, e1, D.run]
   simp_all [Lz]
  ·cases h
 ·rename_i t x i ho
  split at h
  ·rename_i a h1
   obtain ⟨v, h3, rfl⟩ := Option.map_eq_some_iff.1 h
   obtain ⟨e1, k1⟩ := hg x a h1
   refine ⟨?_, RX h3 k1⟩
   simp only [execOp, ho, e1, D.run]
   simp_all [PZ]
  ·cases h
 ·rename_i t x ix ho
  split at h
  ·rename_i a i h1 h2
   obtain ⟨v, h3, rfl⟩ := Option.map_eq_some_iff.1 h
   obtain ⟨e1, k1⟩ := hg x a h1
   obtain ⟨e2, k2⟩ := hg ix i h2
   refine ⟨?_, MH h3 k1⟩
   simp only [execOp, ho, e1, e2, D.run]
   simp_all [LA]
  ·cases h
 ·rename_i t x ix ho
  split at h
  ·rename_i a i h1 h2
   obtain ⟨v, h3, rfl⟩ := Option.map_eq_some_iff.1 h
   obtain ⟨e1, k1⟩ := hg x a h1
   obtain ⟨e2, k2⟩ := hg ix i h2
   refine ⟨?_, RW h3 k1⟩
   simp only [execOp, ho, e1, e2, D.run]
   simp_all [PY]
  ·cases h
 ·rename_i x i ho
  split at h
  ·rename_i vs h1
   split at h
   ·rename_i v h2
    simp only [oJ] at h; subst h
    obtain ⟨e1, k1⟩ := hg x _ h1
    refine ⟨?_, CX (by simpa [SV.ok] using k1) h2⟩
    have : (SV.concL F ρ ad vs)[i]? = some (v.conc F ρ ad) := by rw [Ac]; simp [h2]
    simp [execOp, ho, e1, SV.conc, Instr.extract, this, D.run]
   ·cases h
  ·cases h
 ·grind [R4]
 ·rename_i t x lo hi ho
  split at h
  ·rename_i n el nm off ht h1
   split at h
   ·rename_i l u sz hl hu hs
    split at h
    ·rename_i hc
     simp only [oJ] at h; subst h
     obtain ⟨e1, k1⟩ := hg x _ h1
     refine ⟨?_, k1⟩
     have q := FH (P := P) w ht hs (b := (ad nm).blk) (off := off) (lo.map ev) (hi.map ev) (l := l) (u := u) (FG hg hl) (FG hg hu) hc.1 hc.2.1 hc.2.2
     simp only [execOp, ho, e1, SV.conc, D.run, Option.map_none]
     simp_all
    ·cases h
   ·cases h
  ·cases h
 ·cases h
end
def valN (r : Result Value) : Result Next := r.andThen fun v w => .ok (.value v) w
inductive X where
 | old (d : D)
 | len (x : SV)
 | lde (n str : Nat) (i : E) (o sz : Nat) (ag : Bool)
 | ste (n str : Nat) (i : E) (o : Nat) (cs : List SV)
 | app (t e rt : Nat) (x y : SV)
 | sub (t e : Nat) (x : SV) (lo hi : Option E)
 | mk (t e : Nat) (n c : E)
 | bl (e : Nat) (ks : List K) (cs : List SV) (len : Nat)
 | mnew (t : Nat)
 | mlk (t n : Nat) (k : SV) (ok : Bool)
 | mup (t n : Nat) (k v : SV)
 | mdl (t kt ty n : Nat) (k : SV)
 | mln (t ty n : Nat)
 | vix (t n str : Nat) (l0 lo hi i : E)
 | clr (t ty e n : Nat) (le : E)
 | lds (n off str : Nat) (e : E) (sz : Nat) (ag : Bool)
 | sts (n off str : Nat) (e : E) (cs : List SV)
 | ldl (n str : Nat) (i : E) (o : Nat)
 | stl (n str : Nat) (i : E) (o : Nat) (x : SV)
 | mkl (t e : Nat) (n c : E)
 | gsl (e b off n : Nat)
 deriving Repr, Inhabited
def lenR (v : Value) (w : World) : Result Next :=
 match v with
 | .slice _ n _ => .ok (.value (goInt n)) w
 | _ => .halt (.stuck "") w
def X.run (P : Program) (F : Fam) (ρ : Nat -> Int) (ad : Nat -> Hd) (w : World) : X -> Result Next
 | .old d => d.run P F ρ ad w
 | .len x => lenR (x.conc F ρ ad) w
 | .lde n str i o sz ag => BF P w (ad n).blk ((ad n).off + (i.den F ρ).toNat * str + o) sz ag
 | .ste n str i o cs => BR P w (ad n).blk ((ad n).off + (i.den F ρ).toNat * str + o) (SV.concL F ρ ad cs)
 | .app t _ rt x y => valN ((Builtin.append_ #[t, t] rt #[x.conc F ρ ad, y.conc F ρ ad]).run P w)
 | .sub t _ x lo hi => valN ((Instr.sliceAt t (x.conc F ρ ad) (lo.map (E.val F ρ)) (hi.map (E.val F ρ)) none).run P w)
 | .mk t _ n c => valN ((Instr.makeSlice t (n.val F ρ) (c.val F ρ)).run P w)
 | .bl e _ cs nl => (D.new e cs (some nl)).run P F ρ ad w
 | .mnew t => .ok (.value (.map (some w.heap.size))) (w.alloc (.map #[] 0))
 | .mlk t n k ok => valN ((Instr.lookup t (.map (some (ad n).blk)) (k.conc F ρ ad) ok).run P w)
 | .mup t n k v => ((Instr.mapUpdate t (.map (some (ad n).blk)) (k.conc F ρ ad) (v.conc F ρ ad)).run P w).andThen fun _ w' => .ok .skip w'
 | .mdl t kt ty n k => valN ((Builtin.delete_ #[t, kt] ty #[.map (some (ad n).blk), k.conc F ρ ad]).run P w)
 | .mln t ty n => valN ((Builtin.len_ #[t] ty #[.map (some (ad n).blk)]).run P w)
 | .vix t n str l0 lo hi i => valN ((Instr.indexAt t ((SV.sv n str l0 lo hi).conc F ρ ad) (i.val F ρ)).run P w)
 | .clr t ty e n le => valN ((Builtin.clear_ #[t] ty #[(SV.ls n le).conc F ρ ad]).run P w)
 | .lds n off str e sz ag => BF P w (ad n).blk (off + (e.den F ρ).toNat * str) sz ag
 | .sts n off str e cs => BR P w (ad n).blk (off + (e.den F ρ).toNat * str) (SV.concL F ρ ad cs)
 | .ldl n str i o => BF P w (ad n).blk ((ad n).off + (i.den F ρ).toNat * str + o) 1 false
 | .stl n str i o x => BR P w (ad n).blk ((ad n).off + (i.den F ρ).toNat * str + o) (SV.concL F ρ ad [x])
 | .mkl t _ n c => valN ((Instr.makeSlice t (n.val F ρ) (c.val F ρ)).run P w)
 | .gsl _ b off n => .ok (.value (.slice (some ⟨b, off, none⟩) n n)) w
def X.good (F : Fam) (ρ : Nat -> Int) (p : Nat -> Prop) : X -> Prop
 | .old d => d.good F ρ p
 | .len x => x.ok p
 | .lde n .. => p n
 | .ste n _ _ _ cs => p n /\ SV.okL p cs /\ cs.all SV.one = true
 | .app _ _ _ x y => x.ok p /\ y.ok p
 | .sub _ _ x _ _ => x.ok p
 | .mk .. => True
 | .bl e _ cs nl => (D.new e cs (some nl)).good F ρ p
 | .mnew _ => True
 | .mlk _ n k _ => p n /\ k.ok p
 | .mup _ n k v => p n /\ k.ok p /\ v.ok p
 | .mdl _ _ _ n k => p n /\ k.ok p
 | .mln _ _ n => p n
 | .vix _ n .. => p n
 | .clr _ _ _ n _ => p n
 | .lds n .. => p n
 | .sts n _ _ _ cs => p n /\ SV.okL p cs /\ cs.all SV.one = true
 | .ldl n .. => p n
 | .stl n _ _ _ x => p n /\ SV.okL p [x] /\ [x].all SV.one = true
 | .mkl .. => True
 | .gsl .. => True
def BH (leaf : TypeId -> Option (List K)) (P : Program) : List (TypeId × Nat) -> Nat -> Option (List K)
 | [], _ => some []
 | (t, o) :: r, off => if o = off then
  match leaf t with
  | some ks => if P.cellsOf t = ks.length then (BH leaf P r (off + ks.length)).map (ks ++ ·) else none
  | none => none
   else none
def AV (P : Program) : Nat -> TypeId -> Option (List K)
 | 0, _ => none
 | n + 1, t => match P.underlying t with
   | some .bool => some [.b]
   | some (.int k) => some [.i k]
   | some (.struct fs) => match BH (AV P n) P (fs.toList.map fun f => (f.type, f.offset)) 0 with
     | some ks => if P.cellsOf t = ks.length then some ks else none
     | none => none
   | some (.array m e) => match BH (AV P n) P ((List.range m).map fun i => (e, i * P.cellsOf e)) 0 with
     | some ks => if P.cellsOf t = ks.length then some ks else none
     | none => none
   | _ => none
def scs : List K -> List SV -> Option (List E)
 | [], [] => some []
 | k :: ks, .sc e :: cs => if e.kind = k /\ e.sound = true then (scs ks cs).map (e :: ·) else none
 | _, _ => none
def Dk (ks : List K) : Nat -> List SV -> E -> Option E
 | 0, cs, c => if cs.length = 0 then some c else none
 | n + 1, cs, c => match scs ks (cs.take ks.length) with
   | some es => Dk ks n (cs.drop ks.length) (.app .x 0 3 (c :: es))
   | none => none
def Ba (bytes : Nat) : Nat := 140737488355328 / (max bytes 1)
def Cy (P : Program) (e : Nat) : Option (Nat × Nat) := (P.info? e).bind fun i => (i.zero).bind fun z => if z.cells.size = i.size /\ 0 < i.size then some (i.size, i.bytes) else none
def lift (P : Program) : D -> X
 | .new e cs (some len) => match AV P 20 e, Cy P e with
   | some ks, some (size, bytes) => bif (Dk ks len cs NILL).isSome && decide (size = ks.length) && decide ((len : Int) <= Ba bytes) then .bl e ks cs len else .old (.new e cs (some len))
   | _, _ => .old (.new e cs (some len))
 | d => .old d
def nilE : SV -> Option E
 | .nilp .nP => some (mkB true)
 | .ptr .. | .pi .. | .pe .. | .gl .. => some (mkB false)
 | .ite c a b => match nilE a, nilE b with
   | some x, some y => if c.kind = .b /\ x.kind = .b /\ y.kind = .b then some (mkIte c x y) else none
   | _, _ => none
 | _ => none
def Kg : SV -> Bool
 | .nilp .nP => true
 | _ => false
def ptrT (P : Program) (t : Nat) : Bool :=
 match P.underlying t with
 | some (.pointer _) => true
 | _ => false
def inB (i le : E) : E := mkAnd (mkCmp .geq i (.lit (.i .i64) 0)) (mkCmp .lss i le)
def scI (get : Operand -> Option SV) (x : Operand) : Option E :=
 match get x with
 | some (.sc e) => match e.kind with
   | .i .i64 => some e
   | _ => none
 | _ => none
def scO (get : Operand -> Option SV) : Option Operand -> Option (Option E)
 | none => some none
 | some x => (scI get x).map some
def Ay (P : Program) (t : Nat) : Option Nat :=
 match P.underlying t with
 | some (.slice e) => some e
 | _ => none
def Eo : SV -> Bool
 | .ls .. | .sv .. | .nilp .nS => true
 | .ite _ a b => Eo a && Eo b
 | .sl .. => true
 | _ => false
def HN (P : Program) (get : Operand -> Option SV) (o : Oper) : Option (E × X) :=
 match o.op with
 | .load t a => match get a, EI P t, szOf P t with
   | some (.pe n s i f), some ag, some sz => some (mkB true, .lde n s i f sz ag)
   | _, _, _ => none
 | .store t a x => match get a, get x, szOf P t with
   | some (.pe n s i f), some v, some sz => if v.cells.length = sz /\ v.cells.all SV.one = true then some (mkB true, .ste n s i f v.cells) else none
   | _, _, _ => none
 | .indexAddr t x ix => match Ay P t, get x, scI get ix with
   | some e, some (.ls n le), some i => match szOf P e with
     | some s => some (inB i le, X.old (.val (.pe n s i 0)))
     | none => none
   | _, _, _ => none
 | .binOp op t x y _ => match get x, get y with
   | some a, some b => if ptrT P t = true then
    match op, Kg a, Kg b with
    | .eql, _, true => (nilE a).map fun e => (mkB true, X.old (.val (.sc e)))
    | .eql, true, _ => (nilE b).map fun e => (mkB true, X.old (.val (.sc e)))
    | .neq, _, true => (nilE a).map fun e => (mkB true, X.old (.val (.sc (Ak e))))
    | .neq, true, _ => (nilE b).map fun e => (mkB true, X.old (.val (.sc (Ak e))))
    | _, _, _ => none
     else none
   | _, _ => none
 | .slice t x lo hi none => match Ay P t, get x, scO get lo, scO get hi with
   | some e, some v, some l, some h => if Eo v = true then some (mkB true, .sub t e v l h) else none
   | _, _, _, _ => none
 | .makeSlice t l c => match Ay P t, scI get l, scI get c with
   | some e, some n, some k => some (mkB true, .mk t e n k)
   | _, _, _ => none
 | .call c => match c.callee, c.args.toList, c.argTypes.toList with
   | .builtin .len, [x], [t] => match Ay P t, get x with
     | some _, some v => if Eo v = true then some (mkB true, .len v) else none
     | _, _ => none
   | .builtin .append, [x, y], [t, t'] => match Ay P t, get x, get y with
     | some e, some a, some b => if t' = t /\ Eo a = true /\ Eo b = true then some (mkB true, .app t e o.type a b) else none
     | _, _, _ => none
   | _, _, _ => none
 | _ => none
def badP : SV -> Bool
 | .nilp _ => true
 | .und => true
 | _ => false
def Bg : SV -> E × SV
 | .ite c a b =>
   if c.kind = .b then
    bif badP a then (mkAnd (Ak c) (Bg b).1, (Bg b).2)
    else bif badP b then (mkAnd c (Bg a).1, (Bg a).2)
    else (mkB true, .ite c a b)
   else (mkB true, .ite c a b)
 | v => (mkB true, v)
section
variable {P : Program} {F : Fam} {ρ : Nat -> Int} {ad : Nat -> Hd} {p : Nat -> Prop} {w : World} {get : Operand -> Option SV} {ev : Operand -> Value}
theorem FA (w : World) (d : Nat) (t : Nat) (q : Option Addr) (h : P.underlying t = some (.pointer (P.pointee t))) : (Op.equalIn (d + 1) t (.pointer none) (.pointer q)).run P w = .ok q.isNone w := by
 cases q <;> simp [Op.equalIn, run_underlying h]
theorem Du (w : World) (t : Nat) (q : Option Addr) (h : P.underlying t = some (.pointer (P.pointee t))) : (Op.equal t (.pointer none) (.pointer q)).run P w = .ok q.isNone w :=
 FA w 9999 t q h
theorem Bl : ∀ v : SV, (Bg v).1.kind = .b
 | .ite c a b => by
   simp only [Bg]
   split
   ·rename_i hk
    cases badP a
    ·cases badP b
     ·exact Af _
     ·exact (Aa c _ hk (Bl a) (fun _ _ _ => 0) fun _ => 0).2
    ·exact (Aa (Ak c) _ (Ad c (fun _ _ _ => 0) fun _ => 0).2 (Bl b) (fun _ _ _ => 0) fun _ => 0).2
   ·exact Af _
 | .sc _ | .ptr .. | .pi .. | .sl .. | .ls .. | .sv .. | .pe .. | .mp .. | .oq .. | .fn .. | .agg .. | .tup .. | .gd .. | .und | .nilp _ | .gl .. => by simp [Bg]
theorem BJ : ∀ v : SV, ((Bg v).1.tt F ρ = true -> v.conc F ρ ad = (Bg v).2.conc F ρ ad) /\ (v.ok p -> (Bg v).2.ok p)
 | .ite c a b => by
   simp only [Bg]
   split
   ·rename_i hk
    cases badP a
    ·cases badP b
     ·simp_all
     ·simp only [cond_true, cond_false]
      have h1 := (Aa c _ hk (Bl a) F ρ).1
      obtain ⟨i1, i2⟩ := BJ a
      refine ⟨fun h => ?_, fun h => i2 h.1⟩
      grind [SV.conc]
    ·simp only [cond_true]
     have h1 := (Aa (Ak c) _ (Ad c F ρ).2 (Bl b) F ρ).1
     obtain ⟨i1, i2⟩ := BJ b
     refine ⟨fun h => ?_, fun h => i2 h.2⟩
     grind [Ad, E.tt, SV.conc]
   simp_all
 | .sc _ | .ptr .. | .pi .. | .sl .. | .ls .. | .sv .. | .pe .. | .mp .. | .oq .. | .fn .. | .agg .. | .tup .. | .gd .. | .und | .nilp _ | .gl .. => by simp [Bg]
def Kh (get : Operand -> Option SV) (ts : List Nat) : Operand -> Option SV
 | .tmp t => if ts.contains t = true then (get (.tmp t)).map fun v => (Bg v).2 else none
 | x => get x
def CZ (get : Operand -> Option SV) : List Nat -> E
 | [] => mkB true
 | t :: r => match get (.tmp t) with
   | some v => mkAnd (Bg v).1 (CZ get r)
   | none => CZ get r
def Fl : List Operand -> List Nat
 | [] => []
 | .tmp t :: r => t :: Fl r
 | _ :: r => Fl r
theorem Cz (get : Operand -> Option SV) : ∀ l, (CZ get l).kind = .b
 | [] => Af _
 | x :: r => by
   simp only [CZ]
   split
   ·exact (Aa _ _ (Bl _) (Cz get r) (fun _ _ _ => 0) fun _ => 0).2
   ·exact Cz get r
theorem Fm : ∀ {l : List Nat}, (CZ get l).tt F ρ = true -> ∀ x ∈ l, ∀ v, get (.tmp x) = some v -> (Bg v).1.tt F ρ = true
 | [], _, x, hx, _, _ => by cases hx
 | y :: r, h, x, hx, v, hv => by
   simp only [CZ] at h
   split at h
   ·rename_i u hu
    rw [(Aa _ _ (Bl _) (Cz get r) F ρ).1, Bool.and_eq_true] at h
    rcases List.mem_cons.1 hx with rfl | hx
    ·simp_all
    ·exact Fm h.2 x hx v hv
   ·rename_i hu
    rcases List.mem_cons.1 hx with rfl | hx
    ·rw [hv] at hu; cases hu
    ·exact Fm h x hx v hv
theorem FY (hg : ∀ x v, get x = some v -> ev x = v.conc F ρ ad /\ v.ok p) {ts : List Nat} (hf : (CZ get ts).tt F ρ = true) : ∀ x v, Kh get ts x = some v -> ev x = v.conc F ρ ad /\ v.ok p := by
 intro x v h
 cases x with
 | tmp t =>
   simp only [Kh] at h
   split at h
   ·rename_i hc
    obtain ⟨u, h1, rfl⟩ := Option.map_eq_some_iff.1 h
    obtain ⟨i1, i2⟩ := hg _ u h1
    have hft := Fm hf t (by simpa using hc) u h1
    grind [BJ]
   ·cases h
 | const _ => exact hg _ v h
 | global _ => exact hg _ v h
 | func _ => exact hg _ v h
theorem Dv : ∀ {v : SV} {e : E}, nilE v = some e -> e.kind = .b /\ ∃ a, v.conc F ρ ad = .pointer a /\ e.tt F ρ = a.isNone
 | .nilp c, e, h => by
   cases c <;> simp only [nilE, oJ, reduceCtorEq] at h
   subst h
   exact ⟨rfl, none, rfl, by simp⟩
 | .ptr .., e, h | .pi .., e, h | .pe .., e, h | .gl .., e, h => by
   simp only [nilE, oJ] at h
   subst h
   exact ⟨rfl, _, rfl, by simp⟩
 | .ite c a b, e, h => by
   simp only [nilE] at h
   split at h
   ·rename_i x y hx hy
    split at h
    ·rename_i hk
     simp only [oJ] at h
     subst h
     obtain ⟨i1, pa, i2, i3⟩ := Dv (v := a) hx
     obtain ⟨j1, pb, j2, j3⟩ := Dv (v := b) hy
     have hm := A9 c x y hk.1 (by rw [hk.2.1, hk.2.2]) F ρ
     grind [E.val_b, E.tt, SV.conc]
    ·cases h
   ·cases h
 | .sc _, e, h | .sl .., e, h | .ls .., e, h | .sv .., e, h | .mp .., e, h | .oq .., e, h | .fn .., e, h | .agg .., e, h | .tup .., e, h | .gd .., e, h | .und, e, h => by simp [nilE] at h
theorem CA (hg : ∀ x v, get x = some v -> ev x = v.conc F ρ ad /\ v.ok p) {x : Operand} {e : E} (h : scI get x = some e) : ev x = .int .i64 (e.den F ρ) /\ e.kind = .i .i64 := by
 grind [scI, SV.conc, E.val_i]
theorem Nn (hg : ∀ x v, get x = some v -> ev x = v.conc F ρ ad /\ v.ok p) {x : Option Operand} {e : Option E} (h : scO get x = some e) : x.map ev = e.map (E.val F ρ) := by
 cases x with
 | none => grind [scO]
 | some y =>
   obtain ⟨e', h1, rfl⟩ := Option.map_eq_some_iff.1 h
   obtain ⟨i1, i2⟩ := CA hg h1
   simp [i1, E.val_i i2]
theorem A8 {t e : Nat} (h : Ay P t = some e) : P.underlying t = some (.slice e) := by
 grind [Ay]
theorem R5 {t : Nat} (h : ptrT P t = true) : P.underlying t = some (.pointer (P.pointee t)) := by
 unfold ptrT at h
 split at h
 ·rename_i e hu; simp [Program.pointee, hu]
 ·cases h
theorem Al {i le : E} : (inB i le).kind = .b /\ ((inB i le).tt F ρ = true -> 0 <= i.den F ρ /\ i.den F ρ < le.den F ρ) := by
 have h1 := Ae .geq i (.lit (.i .i64) 0) F ρ
 have h2 := Ae .lss i le F ρ
 have h3 := Aa _ _ h1.2 h2.2 F ρ
 refine ⟨h3.2, fun h => ?_⟩
 unfold inB at h
 rw [h3.1, h1.1, h2.1, Bool.and_eq_true] at h
 simp only [cmpB, decide_eq_true_eq] at h
 have h0 : (E.lit (.i .i64) 0).den F ρ = 0 := by rfl
 omega
theorem GY : ∀ {v : SV}, Eo v = true -> ∃ a n c, v.conc F ρ ad = .slice a n c
 | .ls n le, _ => by
   simp only [SV.conc, Hd.sl]
   cases (ad n).nil && (E.den F ρ le).toNat == 0
   ·simp_all
   simp_all
 | .sv n str l0 lo hi, _ => by
   simp only [SV.conc, Hd.sl]
   cases ((ad n).part (l0.den F ρ).toNat (lo.den F ρ).toNat str).nil && ((hi.den F ρ).toNat - (lo.den F ρ).toNat) == 0
   ·simp_all
   simp_all
 | .nilp c, h => by cases c <;> simp [Eo] at h; exact ⟨_, _, _, rfl⟩
 | .sl .., _ => ⟨_, _, _, rfl⟩
 | .ite c a b, h => by
   simp only [Eo, Bool.and_eq_true] at h
   simp only [SV.conc]
   cases c.tt F ρ
   ·exact GY h.2
   ·exact GY h.1
 | .sc _, h | .ptr .., h | .pi .., h | .pe .., h | .mp .., h | .oq .., h | .fn .., h | .agg .., h | .tup .., h | .gd .., h | .und, h | .gl .., h => by simp [Eo] at h
theorem OW {o : Oper} {g : E} {x : X} (h : HN P get o = some (g, x)) : g.kind = .b := by
 unfold HN at h
 repeat' split at h
 all_goals first
  | (simp only [oJ, pJ] at h; obtain ⟨rfl, rfl⟩ := h; (first | exact Af _ | exact (Al (F := fun _ _ _ => 0) (ρ := fun _ => 0)).1))
  | (obtain ⟨e, he, hp⟩ := Option.map_eq_some_iff.1 h; simp only [pJ] at hp; obtain ⟨rfl, rfl⟩ := hp; exact Af _)
  | cases h
theorem P4 {o : Oper} {g : E} {x : X} (hg : ∀ x v, get x = some v -> ev x = v.conc F ρ ad /\ v.ok p) (h : HN P get o = some (g, x)) :
 g.kind = .b /\ (g.tt F ρ = true -> (execOp ev o).run P w = x.run P F ρ ad w) /\ x.good F ρ p := by
 unfold HN at h
 split at h
 ·rename_i t a ho
  split at h
  ·rename_i n s i f ag sz h1 h2 h3
   simp only [oJ, pJ] at h
   obtain ⟨rfl, rfl⟩ := h
   obtain ⟨e1, k1⟩ := hg a _ h1
   refine ⟨rfl, fun _ => ?_, k1⟩
   have := CY (P := P) (w := w) (b := (ad n).blk) (off := (ad n).off + (i.den F ρ).toNat * s + f) h2 h3
   simp only [execOp, ho, e1, SV.conc, X.run]
   exact this
  ·cases h
 ·rename_i t a x ho
  split at h
  ·rename_i n s i f v sz h1 h2 h3
   split at h
   ·rename_i hc
    simp only [oJ, pJ] at h
    obtain ⟨rfl, rfl⟩ := h
    obtain ⟨e1, k1⟩ := hg a _ h1
    obtain ⟨e2, k2⟩ := hg x _ h2
    refine ⟨rfl, fun _ => ?_, k1, SV.ok_cells k2, hc.2⟩
    have := En (P := P) (F := F) (ρ := ρ) (ad := ad) (w := w) (b := (ad n).blk) (off := (ad n).off + (i.den F ρ).toNat * s + f) h3 hc.1 hc.2
    simp only [execOp, ho, e1, e2, SV.conc, X.run]
    exact this
   ·cases h
  ·cases h
 ·rename_i t x ix ho
  split at h
  ·rename_i e n le i h1 h2 h3
   split at h
   ·rename_i s hs
    simp only [oJ, pJ] at h
    obtain ⟨rfl, rfl⟩ := h
    obtain ⟨e2, k2⟩ := hg x _ h2
    obtain ⟨e3, k3⟩ := CA hg h3
    refine ⟨(Al (F := F) (ρ := ρ)).1, fun hb => ?_, k2⟩
    obtain ⟨b1, b2⟩ := (Al (F := F) (ρ := ρ)).2 hb
    have hu := A8 h1
    have hsl : (ad n).sl (le.den F ρ).toNat = .slice (some ⟨(ad n).blk, (ad n).off, none⟩) (le.den F ρ).toNat (ad n).cap := by
     unfold Hd.sl
     have : ((le.den F ρ).toNat == 0) = false := by simp; omega
     rw [this]; simp
    have hlt : i.den F ρ < ((le.den F ρ).toNat : Int) := by omega
    simp [execOp, ho, e2, e3, SV.conc, hsl, X.run, D.run, Instr.indexAt, run_underlying hu, asIntOf, b1, hlt, Ai w hs, Addr.add_none]
    intro hh
    omega
   ·cases h
  ·cases h
 ·rename_i op t x y t' ho
  split at h
  ·rename_i a b h1 h2
   split at h
   ·rename_i ht
    obtain ⟨e1, k1⟩ := hg x _ h1
    obtain ⟨e2, k2⟩ := hg y _ h2
    have hu := R5 ht
    have nilv : ∀ v : SV, Kg v = true -> v.conc F ρ ad = .pointer none := fun v hv => by
     unfold Kg at hv
     split at hv
     ·rfl
     ·cases hv
    have eqr : ∀ (q : Option Addr), (binOp .eql t (.pointer q) (.pointer none)).run P w = .ok (.bool q.isNone) w := fun q => by
     simp only [binOp, Sem.run_bind, run_equal_pointer_nil w t q hu, Result.andThen_ok]
     rfl
    have eql : ∀ (q : Option Addr), (binOp .eql t (.pointer none) (.pointer q)).run P w = .ok (.bool q.isNone) w := fun q => by
     have : (Op.equal t (.pointer none) (.pointer q)).run P w = .ok q.isNone w := Du w t q hu
     simp only [binOp, Sem.run_bind, this, Result.andThen_ok]
     rfl
    have neql : ∀ (q : Option Addr), (binOp .neq t (.pointer none) (.pointer q)).run P w = .ok (.bool (!q.isNone)) w := fun q => by
     have : (Op.equal t (.pointer none) (.pointer q)).run P w = .ok q.isNone w := Du w t q hu
     simp only [binOp, Sem.run_bind, this, Result.andThen_ok]
     rfl
    have neqr : ∀ (q : Option Addr), (binOp .neq t (.pointer q) (.pointer none)).run P w = .ok (.bool (!q.isNone)) w := fun q => by
     simp only [binOp, Sem.run_bind, run_equal_pointer_nil w t q hu, Result.andThen_ok]
     rfl
    have gd : ∀ (op : BinOp) (q r : Option Addr), (eqGuard op t x y (.pointer q) (.pointer r)).run P w = .ok () w := fun op q r => by
     cases op <;> rfl
    have fin : ∀ (op : BinOp) (q r : Option Addr) (z : Bool), o.op = .binOp op t x y t' -> ev x = .pointer q -> ev y = .pointer r -> (binOp op t (.pointer q) (.pointer r)).run P w = .ok (.bool z) w -> (execOp ev o).run P w = .ok (.value (.bool z)) w := fun op q r z ho hx hy hb => by
     simp [execOp, ho, hx, hy, gd, hb]
    split at h
    ·rename_i hb
     obtain ⟨e, he, hp⟩ := Option.map_eq_some_iff.1 h
     simp only [pJ] at hp
     obtain ⟨rfl, rfl⟩ := hp
     obtain ⟨i1, q, i2, i3⟩ := Dv (F := F) (ρ := ρ) (ad := ad) he
     refine ⟨rfl, fun _ => ?_, trivial⟩
     grind [X.run, D.run, SV.conc, E.val_b]
    ·rename_i hb hn
     obtain ⟨e, he, hp⟩ := Option.map_eq_some_iff.1 h
     simp only [pJ] at hp
     obtain ⟨rfl, rfl⟩ := hp
     obtain ⟨i1, q, i2, i3⟩ := Dv (F := F) (ρ := ρ) (ad := ad) he
     refine ⟨rfl, fun _ => ?_, trivial⟩
     grind [X.run, D.run, SV.conc, E.val_b]
    ·rename_i hb
     obtain ⟨e, he, hp⟩ := Option.map_eq_some_iff.1 h
     simp only [pJ] at hp
     obtain ⟨rfl, rfl⟩ := hp
     obtain ⟨i1, q, i2, i3⟩ := Dv (F := F) (ρ := ρ) (ad := ad) he
     have hn := Ad e F ρ
     refine ⟨rfl, fun _ => ?_, trivial⟩
     grind [X.run, D.run, SV.conc, E.val_b]
    ·rename_i hb hn
     obtain ⟨e, he, hp⟩ := Option.map_eq_some_iff.1 h
     simp only [pJ] at hp
     obtain ⟨rfl, rfl⟩ := hp
     obtain ⟨i1, q, i2, i3⟩ := Dv (F := F) (ρ := ρ) (ad := ad) he
     have hn := Ad e F ρ
     refine ⟨rfl, fun _ => ?_, trivial⟩
     grind [X.run, D.run, SV.conc, E.val_b]
    ·cases h
   ·cases h
  ·cases h
 ·rename_i t x lo hi ho
  split at h
  ·rename_i e v l u h1 h2 h3 h4
   split at h
   ·rename_i hv
    simp only [oJ, pJ] at h
    obtain ⟨rfl, rfl⟩ := h
    obtain ⟨e2, k2⟩ := hg x _ h2
    have e3 := Nn (F := F) (ρ := ρ) (ad := ad) (p := p) hg h3
    have e4 := Nn (F := F) (ρ := ρ) (ad := ad) (p := p) hg h4
    refine ⟨rfl, fun _ => ?_, k2⟩
    simp only [execOp, ho, e2, e3, e4, X.run, valN, Option.map_none]
    simp_all
   ·cases h
  ·cases h
 ·rename_i t l c ho
  split at h
  ·rename_i e n k h1 h2 h3
   simp only [oJ, pJ] at h
   obtain ⟨rfl, rfl⟩ := h
   obtain ⟨e2, k2⟩ := CA (F := F) (ρ := ρ) (ad := ad) (p := p) hg h2
   obtain ⟨e3, k3⟩ := CA (F := F) (ρ := ρ) (ad := ad) (p := p) hg h3
   refine ⟨rfl, fun _ => ?_, trivial⟩
   simp only [execOp, ho, e2, e3, X.run, valN, E.val_i k2, E.val_i k3]
   simp_all
  ·cases h
 ·rename_i c ho
  split at h
  ·rename_i x t hcal hargs htys
   split at h
   ·rename_i e v h1 h2
    split at h
    ·rename_i hv
     simp only [oJ, pJ] at h
     obtain ⟨rfl, rfl⟩ := h
     obtain ⟨e2, k2⟩ := hg x _ h2
     refine ⟨rfl, fun _ => ?_, k2⟩
     obtain ⟨a, n, cp, hc⟩ := GY (F := F) (ρ := ρ) (ad := ad) hv
     have hu := A8 h1
     have ea : c.args.map ev = #[ev x] := by apply Array.ext'; simp [hargs]
     have et : c.argTypes = #[t] := by apply Array.ext'; simpa using htys
     have hel : P.elem t = e := by simp [Program.elem, hu]
     have hl := run_len_slice (P := P) w t o.type a n cp (by rw [hel]; exact hu)
     simp only [execOp, ho, resolve, hcal, ea, et, Sem.run_bind, Sem.run_pure, Result.andThen_ok, invoke, builtin, e2, hc, hl, X.run, lenR]
    ·cases h
   ·cases h
  ·rename_i x y t t' hcal hargs htys
   split at h
   ·rename_i e a b h1 h2 h3
    split at h
    ·rename_i hv
     simp only [oJ, pJ] at h
     obtain ⟨rfl, rfl⟩ := h
     obtain ⟨rfl, _, _⟩ := hv
     obtain ⟨e2, k2⟩ := hg x _ h2
     obtain ⟨e3, k3⟩ := hg y _ h3
     refine ⟨rfl, fun _ => ?_, k2, k3⟩
     have ea : c.args.map ev = #[ev x, ev y] := by apply Array.ext'; simp [hargs]
     have et : c.argTypes = #[t', t'] := by apply Array.ext'; simpa using htys
     simp only [execOp, ho, resolve, hcal, ea, et, Sem.run_bind, Sem.run_pure, Result.andThen_ok, invoke, builtin, e2, e3, X.run, valN]
    ·cases h
   ·cases h
  ·cases h
 ·cases h
def toL (P : Program) (o : Oper) (x : X) : X :=
 match o.op, x with
 | .load t _, .lde n s i f sz ag => bif (Ay P t).isSome && (sz == 1) && !ag then .ldl n s i f else .lde n s i f sz ag
 | .store t _ _, .ste n s i f [v] => bif (Ay P t).isSome then .stl n s i f v else .ste n s i f [v]
 | .makeSlice .., .mk t e n c => bif (Ay P e).isSome then .mkl t e n c else .mk t e n c
 | _, x => x
def MK (P : Program) (get : Operand -> Option SV) (o : Oper) : Option (E × X) := (HN P get o).map fun r => (r.1, toL P o r.2)
theorem Vh {o : Oper} {x : X} : (toL P o x).run P F ρ ad w = x.run P F ρ ad w /\ (x.good F ρ p -> (toL P o x).good F ρ p) := by
 unfold toL
 split
 ·rename_i n s i f sz ag _
  cases hb : (Ay P _).isSome && (sz == 1) && !ag with
  | true =>
    simp only [Bool.and_eq_true, beq_iff_eq, Bool.not_eq_true'] at hb
    obtain ⟨⟨_, rfl⟩, rfl⟩ := hb
    exact ⟨rfl, fun h => h⟩
  | false => simp_all
 ·cases (Ay P _).isSome <;> exact ⟨rfl, fun h => h⟩
 ·cases (Ay P _).isSome <;> exact ⟨rfl, fun h => h⟩
 simp_all
theorem P5 {o : Oper} {g : E} {x : X} (h : MK P get o = some (g, x)) : g.kind = .b := by
 obtain ⟨r, hr, he⟩ := Option.map_eq_some_iff.1 h
 grind [OW]
theorem Ma {o : Oper} {g : E} {x : X} (hg : ∀ x v, get x = some v -> ev x = v.conc F ρ ad /\ v.ok p) (h : MK P get o = some (g, x)) :
 g.kind = .b /\ (g.tt F ρ = true -> (execOp ev o).run P w = x.run P F ρ ad w) /\ x.good F ρ p := by
 obtain ⟨r, hr, he⟩ := Option.map_eq_some_iff.1 h
 simp only [pJ] at he
 obtain ⟨rfl, rfl⟩ := he
 obtain ⟨a, b, c⟩ := P4 (g := r.1) (x := r.2) (w := w) hg hr
 grind [Vh]
def P8 (get : Operand -> Option SV) (o : Oper) : Option (E × X) :=
 match o.op with
 | .binOp .quo _ x y _ => match get x, get y with
   | some (.sc a), some (.sc b) => match a.kind with
     | .i k => if b.kind = .i k then some (mkCmp .neq b (.lit (.i k) 0), .old (.val (.sc (.app (.i k) 0 20 [a, b])))) else none
     | _ => none
   | _, _ => none
 | .binOp .rem _ x y _ => match get x, get y with
   | some (.sc a), some (.sc b) => match a.kind with
     | .i k => if b.kind = .i k /\ a.sound = true then some (mkCmp .neq b (.lit (.i k) 0), .old (.val (.sc (.app (.i k) 0 21 [a, b])))) else none
     | _ => none
   | _, _ => none
 | .binOp .shr _ x y _ => match get x, get y with
   | some (.sc a), some (.sc b) => match a.kind, b.kind with
     | .i k, .i k' => if a.sound = true then some (mkCmp .geq b (.lit (.i k') 0), .old (.val (.sc (mkSh .shr k a b)))) else none
     | _, _ => none
   | _, _ => none
 | .binOp .shl _ x y _ => match get x, get y with
   | some (.sc a), some (.sc b) => match a.kind, b.kind with
     | .i k, .i k' => if a.sound = true then some (mkCmp .geq b (.lit (.i k') 0), .old (.val (.sc (mkSh .shl k a b)))) else none
     | _, _ => none
   | _, _ => none
 | _ => none
theorem R6 (hB : ∀ j xs, F 0 j xs = bi j xs) {o : Oper} {g : E} {x : X} (hg : ∀ x v, get x = some v -> ev x = v.conc F ρ ad /\ v.ok p) (h : P8 get o = some (g, x)) :
 g.kind = .b /\ (g.tt F ρ = true -> (execOp ev o).run P w = x.run P F ρ ad w /\ x.good F ρ p) := by
 unfold P8 at h
 split at h
 ·rename_i t x y t' ho
  split at h
  ·rename_i a b h1 h2
   split at h
   ·rename_i k hk
    split at h
    ·rename_i hb
     simp only [oJ, pJ] at h
     obtain ⟨rfl, rfl⟩ := h
     have hs := Ae .neq b (.lit (.i k) 0) F ρ
     refine ⟨hs.2, fun ht => ⟨?_, trivial⟩⟩
     rw [hs.1] at ht
     have hz : (E.lit (.i k) 0).den F ρ = 0 := by simp only [E.den, K.norm]; cases k <;> decide
     have hne : b.den F ρ ≠ 0 := by simpa [cmpB, hz] using ht
     have hv : (E.app (.i k) 0 20 [a, b]).den F ρ = k.wrap ((a.den F ρ).tdiv (b.den F ρ)) := by simp only [E.den, E.denL, K.norm, hB]; rfl
     have e1 := (hg x _ h1).1
     have e2 := (hg y _ h2).1
     simp only [SV.conc, E.val_i hk, E.val_i hb] at e1 e2
     simp only [execOp, ho, e1, e2, X.run, D.run, SV.conc, E.val_i (show (E.app (.i k) 0 20 [a, b]).kind = .i k from rfl), hv]
     simp [eqGuard, binOp_quo, Op.intDiv, hne]
    ·cases h
   ·cases h
  ·cases h
 ·rename_i t x y t' ho
  split at h
  ·rename_i a b h1 h2
   split at h
   ·rename_i k hk
    split at h
    ·rename_i hb
     simp only [oJ, pJ] at h
     obtain ⟨rfl, rfl⟩ := h
     have hs := Ae .neq b (.lit (.i k) 0) F ρ
     refine ⟨hs.2, fun ht => ⟨?_, trivial⟩⟩
     rw [hs.1] at ht
     have hz : (E.lit (.i k) 0).den F ρ = 0 := by simp only [E.den, K.norm]; cases k <;> decide
     have hne : b.den F ρ ≠ 0 := by simpa [cmpB, hz] using ht
     have hn := E.den_norm F ρ a hb.2
     rw [hk] at hn
     have hv : (E.app (.i k) 0 21 [a, b]).den F ρ = (a.den F ρ).tmod (b.den F ρ) := by
      simp only [E.den, E.denL, K.norm, hB]
      exact HB k _ _ hn
     have e1 := (hg x _ h1).1
     have e2 := (hg y _ h2).1
     simp only [SV.conc, E.val_i hk, E.val_i hb.1] at e1 e2
     simp only [execOp, ho, e1, e2, X.run, D.run, SV.conc, E.val_i (show (E.app (.i k) 0 21 [a, b]).kind = .i k from rfl), hv]
     simp [eqGuard, binOp_rem, Op.intDiv, hne]
    ·cases h
   ·cases h
  ·cases h
 ·rename_i t x y t' ho
  split at h
  ·rename_i a b h1 h2
   split at h
   ·rename_i k k' hk hk'
    split at h
    ·rename_i hb
     simp only [oJ, pJ] at h
     obtain ⟨rfl, rfl⟩ := h
     have hs := Ae .geq b (.lit (.i k') 0) F ρ
     refine ⟨hs.2, fun ht => ⟨?_, trivial⟩⟩
     rw [hs.1] at ht
     have hz : (E.lit (.i k') 0).den F ρ = 0 := by simp only [E.den, K.norm]; cases k' <;> decide
     have h0 : 0 <= b.den F ρ := by simpa [cmpB, hz] using ht
     have e1 := (hg x _ h1).1
     have e2 := (hg y _ h2).1
     simp only [SV.conc, E.val_i hk, E.val_i hk'] at e1 e2
     simp only [execOp, ho, e1, e2, X.run, D.run, SV.conc, (FD _ k a b hb hk F ρ).1]
     simp [eqGuard, binOp_shr, Op.shift, Int.not_lt.2 h0, shI]
    ·cases h
   ·cases h
  ·cases h
 ·rename_i t x y t' ho
  split at h
  ·rename_i a b h1 h2
   split at h
   ·rename_i k k' hk hk'
    split at h
    ·rename_i hb
     simp only [oJ, pJ] at h
     obtain ⟨rfl, rfl⟩ := h
     have hs := Ae .geq b (.lit (.i k') 0) F ρ
     refine ⟨hs.2, fun ht => ⟨?_, trivial⟩⟩
     rw [hs.1] at ht
     have hz : (E.lit (.i k') 0).den F ρ = 0 := by simp only [E.den, K.norm]; cases k' <;> decide
     have h0 : 0 <= b.den F ρ := by simpa [cmpB, hz] using ht
     have e1 := (hg x _ h1).1
     have e2 := (hg y _ h2).1
     simp only [SV.conc, E.val_i hk, E.val_i hk'] at e1 e2
     simp only [execOp, ho, e1, e2, X.run, D.run, SV.conc, (FD _ k a b hb hk F ρ).1]
     simp [eqGuard, binOp_shl, Op.shift, Int.not_lt.2 h0, shI]
    ·cases h
   ·cases h
  ·cases h
 ·cases h
def mapT (P : Program) (t : Nat) : Bool :=
 match P.underlying t with
 | some (.map _ _) => true
 | _ => false
def big9 : E := .lit (.i .i64) 1000000000
def ixA (P : Program) (t : Nat) (x : SV) (i : E) : Option (E × X) :=
 match P.underlying t with
 | some (.array len elem) => match szOf P elem, x with
   | some s, .ptr n off => if len <= 1000000 then some (inB i (.lit (.i .i64) len), .old (.val (.pi n off s i))) else none
   | some s, .pi n off s0 e0 => if s0 = len * s /\ len <= 1000000 then some (mkAnd (inB e0 big9) (inB i (.lit (.i .i64) len)), .old (.val (.pi n off s (Cg .add .i64 (Cg .mul .i64 e0 (.lit (.i .i64) len)) i)))) else none
   | _, _ => none
 | _ => none
def P9 (P : Program) (get : Operand -> Option SV) (o : Oper) : Option (E × X) :=
 match o.op with
 | .makeMap t none => some (mkB true, .mnew t)
 | .lookup t x ix ok => match get x, get ix with
   | some (.mp n), some k => some (mkB true, .mlk t n k ok)
   | _, _ => none
 | .mapUpdate t x ix y => match get x, get ix, get y with
   | some (.mp n), some k, some v => some (mkB true, .mup t n k v)
   | _, _, _ => none
 | .insert t x ix y => match get x, get ix, get y with
   | some (.mp n), some k, some v => some (mkB true, .mup t n k v)
   | _, _, _ => none
 | .indexAddr t x ix => match get x, scI get ix with
   | some (.sv n str l0 lo hi), some i => some (mkB true, .vix t n str l0 lo hi i)
   | some v, some i => ixA P t v i
   | _, _ => none
 | .load t a => match get a, EI P t, szOf P t with
   | some (.pi n off s e), some ag, some sz => some (mkB true, .lds n off s e sz ag)
   | _, _, _ => none
 | .store t a x => match get a, get x, szOf P t with
   | some (.pi n off s e), some v, some sz => if v.cells.length = sz /\ v.cells.all SV.one = true then some (mkB true, .sts n off s e v.cells) else none
   | _, _, _ => none
 | .call c => match c.callee, c.args.toList, c.argTypes.toList with
   | .builtin .delete, [x, y], [t, kt] => match get x, get y with
     | some (.mp n), some k => some (mkB true, .mdl t kt o.type n k)
     | _, _ => none
   | .builtin .len, [x], [t] => match get x with
     | some (.mp n) => some (mkB true, .mln t o.type n)
     | _ => none
   | .builtin .clear, [x], [t] => match Ay P t, get x with
     | some e, some (.ls n le) => some (mkB true, .clr t o.type e n le)
     | _, _ => none
   | _, _, _ => none
 | _ => none
theorem BK {n : Nat} (h : n <= 1000000000) : (E.lit (.i .i64) (n : Int)).den F ρ = n := by
 simp only [E.den, K.norm, IntKind.wrap, IntKind.signed, IntKind.bits]
 simp
 split <;> omega
theorem Vi {t : Nat} {x : SV} {i : E} {g : E} {y : X} (hi : i.kind = .i .i64) (hx : x.ok p) (h : ixA P t x i = some (g, y)) :
 g.kind = .b /\ (g.tt F ρ = true -> valN ((Instr.indexAt t (x.conc F ρ ad) (i.val F ρ)).run P w) = y.run P F ρ ad w) /\ y.good F ρ p := by
 unfold ixA at h
 split at h
 ·rename_i len elem hu
  split at h
  ·rename_i s n off hs
   split at h
   ·rename_i hl
    simp only [oJ, pJ] at h
    obtain ⟨rfl, rfl⟩ := h
    refine ⟨(Al (F := F) (ρ := ρ)).1, fun hb => ?_, hx⟩
    obtain ⟨b1, b2⟩ := (Al (F := F) (ρ := ρ)).2 hb
    rw [BK (by omega)] at b2
    rw [E.val_i hi]
    simp [SV.conc, X.run, D.run, valN, Instr.indexAt, run_underlying hu, Instr.sureAddr, asIntOf, b1, b2, Ai w hs, Addr.add_none]
   ·cases h
  ·rename_i s n off s0 e0 hs
   split at h
   ·rename_i hl
    obtain ⟨rfl, hl⟩ := hl
    simp only [oJ, pJ] at h
    obtain ⟨rfl, rfl⟩ := h
    have hm := Aa (inB e0 big9) (inB i (.lit (.i .i64) len)) (Al (F := F) (ρ := ρ)).1 (Al (F := F) (ρ := ρ)).1 F ρ
    refine ⟨hm.2, fun hb => ?_, hx⟩
    rw [hm.1, Bool.and_eq_true] at hb
    obtain ⟨b1, b2⟩ := (Al (F := F) (ρ := ρ)).2 hb.2
    obtain ⟨c1, c2⟩ := (Al (F := F) (ρ := ρ)).2 hb.1
    rw [BK (by omega)] at b2
    have hbig : big9.den F ρ = 1000000000 := BK (n := 1000000000) (Nat.le_refl _)
    rw [hbig] at c2
    have hsum : (Cg .add .i64 (Cg .mul .i64 e0 (.lit (.i .i64) len)) i).den F ρ = e0.den F ρ * len + i.den F ρ := by
     have p1 := AR .mul .i64 e0 (.lit (.i .i64) len) F ρ
     have q1 := p1.1
     rw [E.val_i p1.2] at q1
     simp only [Value.int.injEq, true_and, binI, BK (show len <= 1000000000 by omega)] at q1
     have p2 := AR .add .i64 (Cg .mul .i64 e0 (.lit (.i .i64) len)) i F ρ
     have q2 := p2.1
     rw [E.val_i p2.2] at q2
     simp only [Value.int.injEq, true_and, binI, q1] at q2
     have hmul : 0 <= e0.den F ρ * len /\ e0.den F ρ * len <= 1000000000 * 1000000 := by
      constructor
      ·exact Int.mul_nonneg c1 (by omega)
      ·exact Int.mul_le_mul (by omega) (by omega) (by omega) (by omega)
     have w1 : IntKind.i64.wrap (e0.den F ρ * len) = e0.den F ρ * len := by
      simp only [IntKind.wrap, IntKind.signed, IntKind.bits]; simp; split <;> omega
     rw [w1] at q2
     rw [q2]
     simp only [IntKind.wrap, IntKind.signed, IntKind.bits]; simp; split <;> omega
    rw [E.val_i hi]
    simp only [SV.conc, X.run, D.run, hsum]
    have hto : (e0.den F ρ * len + i.den F ρ).toNat = (e0.den F ρ).toNat * len + (i.den F ρ).toNat := by
     obtain ⟨a, ha⟩ := Int.eq_ofNat_of_zero_le c1
     obtain ⟨b, hb⟩ := Int.eq_ofNat_of_zero_le b1
     rw [ha, hb]
     have : ((a : Int) * len + b) = ((a * len + b : Nat) : Int) := by push_cast; rfl
     rw [this, Int.toNat_natCast]; simp
    rw [hto, Nat.add_mul, Nat.mul_assoc]
    simp [valN, Instr.indexAt, run_underlying hu, Instr.sureAddr, asIntOf, b1, b2, Ai w hs, Addr.add_none, Nat.add_assoc]
   ·cases h
  ·cases h
 ·cases h
theorem R7 {o : Oper} {g : E} {x : X} (hg : ∀ x v, get x = some v -> ev x = v.conc F ρ ad /\ v.ok p) (h : P9 P get o = some (g, x)) :
 g.kind = .b /\ (g.tt F ρ = true -> (execOp ev o).run P w = x.run P F ρ ad w) /\ x.good F ρ p := by
 unfold P9 at h
 split at h
 ·rename_i t ho
  simp only [oJ, pJ] at h
  obtain ⟨rfl, rfl⟩ := h
  exact ⟨rfl, fun _ => by simp [execOp, ho, X.run, Instr.makeMap, Result.andThen], trivial⟩
 ·rename_i t x ix ok ho
  split at h
  ·rename_i n k h1 h2
   simp only [oJ, pJ] at h
   obtain ⟨rfl, rfl⟩ := h
   obtain ⟨e1, k1⟩ := hg x _ h1
   obtain ⟨e2, k2⟩ := hg ix _ h2
   exact ⟨rfl, fun _ => by simp [execOp, ho, e1, e2, X.run, SV.conc, valN], k1, k2⟩
  ·cases h
 ·rename_i t x ix y ho
  split at h
  ·rename_i n k v h1 h2 h3
   simp only [oJ, pJ] at h
   obtain ⟨rfl, rfl⟩ := h
   obtain ⟨e1, k1⟩ := hg x _ h1
   obtain ⟨e2, k2⟩ := hg ix _ h2
   obtain ⟨e3, k3⟩ := hg y _ h3
   exact ⟨rfl, fun _ => by simp [execOp, ho, e1, e2, e3, X.run, SV.conc], k1, k2, k3⟩
  ·cases h
 ·rename_i t x ix y ho
  split at h
  ·rename_i n k v h1 h2 h3
   simp only [oJ, pJ] at h
   obtain ⟨rfl, rfl⟩ := h
   obtain ⟨e1, k1⟩ := hg x _ h1
   obtain ⟨e2, k2⟩ := hg ix _ h2
   obtain ⟨e3, k3⟩ := hg y _ h3
   exact ⟨rfl, fun _ => by simp [execOp, ho, e1, e2, e3, X.run, SV.conc], k1, k2, k3⟩
  ·cases h
 ·rename_i t x ix ho
  split at h
  ·rename_i n str l0 lo hi i h1 h2
   simp only [oJ, pJ] at h
   obtain ⟨rfl, rfl⟩ := h
   obtain ⟨e1, k1⟩ := hg x _ h1
   obtain ⟨e2, k2⟩ := CA hg h2
   exact ⟨rfl, fun _ => by simp [execOp, ho, e1, e2, X.run, valN, E.val_i k2], k1⟩
  ·rename_i v i _ h1 h2
   obtain ⟨e1, k1⟩ := hg x _ h1
   obtain ⟨e2, k2⟩ := CA hg h2
   obtain ⟨i1, i2, i3⟩ := Vi (F := F) (ρ := ρ) (ad := ad) (p := p) (w := w) k2 k1 h
   refine ⟨i1, fun hb => ?_, i3⟩
   rw [<- i2 hb]
   simp [execOp, ho, e1, e2, valN, E.val_i k2]
  ·cases h
 ·rename_i t a ho
  split at h
  ·rename_i n off s e ag sz h1 h2 h3
   simp only [oJ, pJ] at h
   obtain ⟨rfl, rfl⟩ := h
   obtain ⟨e1, k1⟩ := hg a _ h1
   refine ⟨rfl, fun _ => ?_, k1⟩
   have := CY (P := P) (w := w) (b := (ad n).blk) (off := off + (e.den F ρ).toNat * s) h2 h3
   simp only [execOp, ho, e1, SV.conc, X.run]
   exact this
  ·cases h
 ·rename_i t a x ho
  split at h
  ·rename_i n off s e v sz h1 h2 h3
   split at h
   ·rename_i hc
    simp only [oJ, pJ] at h
    obtain ⟨rfl, rfl⟩ := h
    obtain ⟨e1, k1⟩ := hg a _ h1
    obtain ⟨e2, k2⟩ := hg x _ h2
    refine ⟨rfl, fun _ => ?_, k1, SV.ok_cells k2, hc.2⟩
    have := En (P := P) (F := F) (ρ := ρ) (ad := ad) (w := w) (b := (ad n).blk) (off := off + (e.den F ρ).toNat * s) h3 hc.1 hc.2
    simp only [execOp, ho, e1, e2, SV.conc, X.run]
    exact this
   ·cases h
  ·cases h
 ·rename_i c ho
  have hc : ∀ (b : Builtin) (xs : List Operand) (ts : List Nat), c.callee = .builtin b -> c.args.toList = xs -> c.argTypes.toList = ts -> (execOp ev o).run P w = (builtin b ts.toArray o.type (xs.map fun | .const _ => true | _ => false).toArray (xs.map ev).toArray).run P w := fun b xs ts h1 h2 h3 => by
   have h2' : c.args = xs.toArray := by rw [<- h2]
   have h3' : c.argTypes = ts.toArray := by rw [<- h3]
   simp [execOp, ho, resolve, h1, h2', h3', invoke]
   rfl
  split at h
  ·rename_i x y t kt h1 h2 h3
   split at h
   ·rename_i n k g1 g2
    simp only [oJ, pJ] at h
    obtain ⟨rfl, rfl⟩ := h
    obtain ⟨e1, k1⟩ := hg x _ g1
    obtain ⟨e2, k2⟩ := hg y _ g2
    exact ⟨rfl, fun _ => by rw [hc _ _ _ h1 h2 h3]; simp [builtin, e1, e2, X.run, SV.conc, valN], k1, k2⟩
   ·cases h
  ·rename_i x t h1 h2 h3
   split at h
   ·rename_i n g1
    simp only [oJ, pJ] at h
    obtain ⟨rfl, rfl⟩ := h
    obtain ⟨e1, k1⟩ := hg x _ g1
    exact ⟨rfl, fun _ => by rw [hc _ _ _ h1 h2 h3]; simp [builtin, e1, X.run, SV.conc, valN], k1⟩
   ·cases h
  ·rename_i x t h1 h2 h3
   split at h
   ·rename_i e n le g1 g2
    simp only [oJ, pJ] at h
    obtain ⟨rfl, rfl⟩ := h
    obtain ⟨e1, k1⟩ := hg x _ g2
    exact ⟨rfl, fun _ => by rw [hc _ _ _ h1 h2 h3]; simp [builtin, e1, X.run, valN], k1⟩
   ·cases h
  ·cases h
 ·cases h
def eqE : List E -> List E -> E
 | a :: aZ, b :: bs => mkAnd (mkCmp .eql a b) (eqE aZ bs)
 | _, _ => mkB true
theorem No : ∀ (aZ bs : List E), aZ.length = bs.length -> (eqE aZ bs).kind = .b /\ (eqE aZ bs).tt F ρ = decide (aZ.map (E.den F ρ) = bs.map (E.den F ρ))
 | [], [], _ => ⟨Af _, by simp [eqE, HA]⟩
 | [], _ :: _, h => by simp at h
 | _ :: _, [], h => by simp at h
 | a :: aZ, b :: bs, h => by
   obtain ⟨h1, h2⟩ := No aZ bs (by simpa using h)
   grind [Ae, Aa, eqE, cmpB]
def litV : Value -> Lit
 | .bool b => .bool b
 | .int k n => .int k n
 | _ => .bool false
def KV : List K -> List Value -> Prop
 | [], vs => vs = []
 | .b :: ks, vs => ∃ b r, vs = .bool b :: r /\ KV ks r
 | .i k :: ks, vs => ∃ n r, vs = .int k n :: r /\ k.wrap n = n /\ KV ks r
 | .x :: _, _ => False
theorem KV.len : ∀ {ks : List K} {vs : List Value}, KV ks vs -> vs.length = ks.length
 | [], vs, h => by simp only [KV] at h; subst h; rfl
 | .b :: ks, vs, h => by obtain ⟨b, r, rfl, h⟩ := h; simp [h.len]
 | .i k :: ks, vs, h => by obtain ⟨n, r, rfl, _, h⟩ := h; simp [h.len]
 | .x :: _, _, h => h.elim
theorem KV.app : ∀ {ks ks' : List K} {vs : List Value}, KV (ks ++ ks') vs -> KV ks (vs.take ks.length) /\ KV ks' (vs.drop ks.length)
 | [], ks', vs, h => ⟨by simp [KV], h⟩
 | .b :: ks, ks', vs, h => by
   obtain ⟨b, r, rfl, h⟩ := h
   obtain ⟨h1, h2⟩ := KV.app h
   exact ⟨⟨b, _, rfl, h1⟩, h2⟩
 | .i k :: ks, ks', vs, h => by
   obtain ⟨n, r, rfl, hw, h⟩ := h
   obtain ⟨h1, h2⟩ := KV.app h
   exact ⟨⟨n, _, rfl, hw, h1⟩, h2⟩
 | .x :: _, _, _, h => h.elim
theorem JH : ∀ {ks : List K} {xs ys : List Value}, KV ks xs -> KV ks ys -> xs.map litV = ys.map litV -> xs = ys
 | [], xs, ys, h1, h2, _ => by grind [KV]
 | .b :: ks, xs, ys, h1, h2, h => by
   obtain ⟨b, r, rfl, h1⟩ := h1
   obtain ⟨b', r', rfl, h2⟩ := h2
   simp only [List.map_cons, List.cons.injEq, litV, Lit.bool.injEq] at h
   rw [h.1, JH h1 h2 h.2]
 | .i k :: ks, xs, ys, h1, h2, h => by
   obtain ⟨b, r, rfl, _, h1⟩ := h1
   obtain ⟨b', r', rfl, _, h2⟩ := h2
   simp only [List.map_cons, List.cons.injEq, litV, Lit.int.injEq, true_and] at h
   rw [h.1, JH h1 h2 h.2]
 | .x :: _, _, _, h, _, _ => h.elim
theorem Jr {P : Program} {leaf : TypeId -> Option (List K)} {D : Nat} {Q : TypeId -> Prop} (hl : ∀ t ks vs, Q t -> leaf t = some ks -> KV ks vs -> P.keyLits D t vs = some (vs.map litV)) : ∀ (l : List (TypeId × Nat)) (off : Nat) (ks : List K) (cs : List Value), (∀ q ∈ l, Q q.1) -> BH leaf P l off = some ks -> KV ks (cs.drop off) ->
 ∃ LL, (l.mapM fun q => P.keyLits D q.1 ((cs.drop q.2).take (P.cellsOf q.1))) = some LL /\ LL.flatten = (cs.drop off).map litV
 | [], off, ks, cs, _, h, hk => by
   simp_all [BH, KV]
 | (t, o) :: r, off, ks, cs, hq, h, hk => by
   simp only [BH] at h
   split at h
   ·rename_i ho
    subst ho
    split at h
    ·rename_i ks1 h1
     split at h
     ·rename_i hc
      obtain ⟨ks2, h2, rfl⟩ := Option.map_eq_some_iff.1 h
      obtain ⟨k1, k2⟩ := hk.app
      rw [List.drop_drop] at k2
      obtain ⟨LL, e1, e2⟩ := Jr hl r _ _ cs (fun q hq' => hq q (List.mem_cons_of_mem _ hq')) h2 k2
      refine ⟨((cs.drop o).take ks1.length).map litV :: LL, ?_, ?_⟩
      ·simp_all
      ·rw [List.flatten_cons, e2, <- List.map_append, <- List.drop_drop, List.take_append_drop]
     ·cases h
    ·cases h
   ·cases h
theorem JI {α β γ : Type} (g : α -> β) (f : β -> Option γ) : ∀ l : List α, (l.map g).mapM f = l.mapM fun a => f (g a)
 | [] => rfl
 | a :: l => by rw [List.map_cons, List.mapM_cons, List.mapM_cons, JI g f l]
theorem HO {P : Program} : ∀ (n m : Nat) (t : TypeId) (ks : List K) (vs : List Value), AV P n t = some ks -> P.keyTypeAt m t = true -> KV ks vs -> ∀ D, n <= D -> P.keyLits D t vs = some (vs.map litV)
 | 0, _, _, _, _, h, _, _, _, _ => by simp [AV] at h
 | n + 1, 0, _, _, _, _, h, _, _, _ => by simp [Program.keyTypeAt] at h
 | n + 1, m + 1, t, ks, vs, h, hm, hk, D, hD => by
   obtain ⟨D, rfl⟩ : ∃ D', D = D' + 1 := ⟨D - 1, by omega⟩
   have pc : ∀ l : List (TypeId × Nat), (∀ q ∈ l, P.keyTypeAt m q.1 = true) -> BH (AV P n) P l 0 = some ks -> ∃ LL, (l.mapM fun q => P.keyLits D q.1 ((vs.drop q.2).take (P.cellsOf q.1))) = some LL /\ LL.flatten = vs.map litV := fun l hq hp => by
    obtain ⟨LL, e1, e2⟩ := Jr (Q := fun t => P.keyTypeAt m t = true) (fun t ks vs h1 h2 h3 => HO n m t ks vs h2 h1 h3 D (by omega)) l 0 ks vs hq hp (by simp_all)
    simp_all
   have hlen := hk.len
   unfold AV at h
   unfold Program.keyTypeAt at hm
   unfold Program.keyLits
   cases hu : P.underlying t with
   | none => simp [hu] at h
   | some kd =>
     rw [hu] at h hm
     cases kd with
     | bool =>
       simp only [oJ] at h
       subst h
       obtain ⟨b, r, rfl, h2⟩ := hk
       simp only [KV] at h2
       subst h2; rfl
     | int k =>
       simp only [oJ] at h
       subst h
       obtain ⟨z, r, rfl, hw, h2⟩ := hk
       simp only [KV] at h2
       subst h2
       have hwf : (Lit.int k z).wf = true := by
        rw [<- hw]
        cases k <;> (simp [Lit.wf, IntKind.wrap, IntKind.min, IntKind.max, IntKind.signed, IntKind.bits]; try (split <;> omega)) <;> omega
       grind [litV]
     | struct fs =>
       simp only [Bool.and_eq_true] at h hm
       have hall := Array.all_eq_true_iff_forall_mem.1 hm.1.1
       grind [JI]
     | array c e =>
       grind [JI]
     | _ => simp at h
theorem Np : ∀ {ks : List K} {xs : List SV} {aZ : List E}, scs ks xs = some aZ -> ks.all (fun k => decide (k ≠ .x)) = true -> KV ks (SV.concL F ρ ad xs)
 | [], [], aZ, h, _ => rfl
 | [], _ :: _, aZ, h, _ => by simp [scs] at h
 | k :: ks, [], aZ, h, _ => by simp [scs] at h
 | k :: ks, x :: xs, aZ, h, hx => by
   cases x <;> simp only [scs] at h <;> try cases h
   rename_i e
   split at h
   ·rename_i hk
    obtain ⟨l, hl, rfl⟩ := Option.map_eq_some_iff.1 h
    simp only [List.all_cons, Bool.and_eq_true, decide_eq_true_eq] at hx
    have ih := Np hl hx.2
    cases k with
    | b => exact ⟨e.tt F ρ, _, by simp only [SV.concL, SV.conc, E.val_b hk.1], ih⟩
    | i k => exact ⟨e.den F ρ, _, by simp only [SV.concL, SV.conc, E.val_i hk.1], (by have := E.den_norm F ρ e hk.2; rw [hk.1] at this; exact this), ih⟩
    | x => exact absurd rfl hx.1
   ·cases h
theorem R8 : ∀ {ks : List K} {xs ys : List SV} {aZ bs : List E}, scs ks xs = some aZ -> scs ks ys = some bs -> ks.all (fun k => decide (k ≠ .x)) = true -> aZ.length = bs.length /\ (SV.concL F ρ ad xs = SV.concL F ρ ad ys ↔ aZ.map (E.den F ρ) = bs.map (E.den F ρ))
 | [], [], [], aZ, bs, h, h', _ => by simp_all
 | [], _ :: _, _, aZ, bs, h, _, _ => by simp [scs] at h
 | [], [], _ :: _, aZ, bs, _, h, _ => by simp [scs] at h
 | k :: ks, [], _, aZ, bs, h, _, _ => by simp [scs] at h
 | k :: ks, _ :: _, [], aZ, bs, _, h, _ => by simp [scs] at h
 | k :: ks, x :: xs, y :: ys, aZ, bs, h, h', hx => by
   cases x <;> simp only [scs] at h <;> try cases h
   cases y <;> simp only [scs] at h' <;> try cases h'
   rename_i e e'
   split at h
   ·rename_i hk
    split at h'
    ·rename_i hk'
     obtain ⟨l, hl, rfl⟩ := Option.map_eq_some_iff.1 h
     obtain ⟨l', hl', rfl⟩ := Option.map_eq_some_iff.1 h'
     simp only [List.all_cons, Bool.and_eq_true, decide_eq_true_eq] at hx
     obtain ⟨i1, i2⟩ := R8 hl hl' hx.2
     refine ⟨by simp [i1], ?_⟩
     simp only [SV.concL, SV.conc, List.cons.injEq, List.map_cons, i2]
     have n1 := E.den_norm F ρ e hk.2
     have n2 := E.den_norm F ρ e' hk'.2
     rw [hk.1] at n1
     rw [hk'.1] at n2
     have : e.val F ρ = e'.val F ρ ↔ e.den F ρ = e'.den F ρ := by
      cases k with
      | b =>
        rw [E.val_b hk.1, E.val_b hk'.1, Value.bool.injEq]
        simp only [K.norm] at n1 n2
        grind [E.tt, E.den, i2b]
      | i k => simp_all [E.val_i]
      | x => exact absurd rfl hx.1
     rw [this]
    ·cases h'
   ·cases h
def Qa (P : Program) (t : Nat) : Bool := match P.underlying t with
 | some (.array _ _) | some (.struct _) => true
 | _ => false
def Qb (P : Program) (get : Operand -> Option SV) (o : Oper) : Option (E × X) :=
 match o.op with
 | .binOp op t x y _ => match AV P 20 t, get x, get y with
   | some ks, some (.agg xs), some (.agg ys) => match scs ks xs, scs ks ys with
     | some aZ, some bs => if P.keyTypeAt 20 t = true /\ Qa P t = true /\ P.cellsOf t = ks.length /\ P.eqGuardType P.depth t = false /\ ks.all (fun k => decide (k ≠ .x)) = true then match op with
       | .eql => some (mkB true, X.old (.val (.sc (eqE aZ bs))))
       | .neq => some (mkB true, X.old (.val (.sc (Ak (eqE aZ bs)))))
       | _ => none
       else none
     | _, _ => none
   | _, _, _ => none
 | _ => none
theorem Qc {t : TypeId} {ks : List K} {xs ys : List Value} (h1 : AV P 20 t = some ks) (h2 : P.keyTypeAt 20 t = true) (h3 : Qa P t = true) (h4 : P.cellsOf t = ks.length) (hx : KV ks xs) (hy : KV ks ys) :
 ∃ r : Bool, (Op.equal t (.agg xs.toArray) (.agg ys.toArray)).run P w = .ok r w /\ (r = true ↔ xs = ys) := by
 have fm : ∀ zs : List Value, KV ks zs -> (Value.agg zs.toArray).formed P t = true := fun zs hz => by
  have := hz.len
  unfold Qa at h3
  split at h3
  ·rename_i hu; simp [Value.formed, hu, this, h4]
  ·rename_i hu; simp [Value.formed, hu, this, h4]
  ·cases h3
 obtain ⟨r, hr, hiff⟩ := run_equalIn_deep (P := P) 9980 20 t h2 w 20 20 (.agg xs.toArray) (.agg ys.toArray) (xs.map litV) (ys.map litV) (fm _ hx) (fm _ hy) (by
  simp only [Value.cells]
  grind [HO]) (by
  simp only [Value.cells]
  grind [HO])
 unfold Op.equal Op.maxDepth
 grind [JH]
theorem R9 {o : Oper} {g : E} {x : X} (hg : ∀ x v, get x = some v -> ev x = v.conc F ρ ad /\ v.ok p) (h : Qb P get o = some (g, x)) :
 g.kind = .b /\ (g.tt F ρ = true -> (execOp ev o).run P w = x.run P F ρ ad w /\ x.good F ρ p) := by
 unfold Qb at h
 split at h
 ·rename_i op t x y t' ho
  split at h
  ·rename_i ks xs ys ht h1 h2
   split at h
   ·rename_i aZ bs ha hb
    split at h
    ·rename_i hc
     obtain ⟨c1, c2, c3, c4, c5⟩ := hc
     have e1 := (hg x _ h1).1
     have e2 := (hg y _ h2).1
     simp only [SV.conc] at e1 e2
     obtain ⟨r, hq, hiff⟩ := Qc (w := w) ht c1 c2 c3 (Np (F := F) (ρ := ρ) (ad := ad) ha c5) (Np (F := F) (ρ := ρ) (ad := ad) hb c5)
     obtain ⟨s1, s2⟩ := R8 (F := F) (ρ := ρ) (ad := ad) ha hb c5
     have hs := No (F := F) (ρ := ρ) aZ bs s1
     have hd : r = decide (aZ.map (E.den F ρ) = bs.map (E.den F ρ)) := by rw [Bool.eq_iff_iff, hiff, s2, decide_eq_true_eq]
     subst hd
     clear s2 hiff
     generalize hA : SV.concL F ρ ad xs = VA at e1 hq
     generalize hB' : SV.concL F ρ ad ys = VB at e2 hq
     split at h
     ·simp only [oJ, pJ] at h
      obtain ⟨rfl, rfl⟩ := h
      refine ⟨Af _, fun _ => ⟨?_, trivial⟩⟩
      simp only [execOp, ho, e1, e2, X.run, D.run, SV.conc]
      rw [E.val_b hs.1, hs.2]
      simp [eqGuard, run_program, c4, binOp, hq]
     ·simp only [oJ, pJ] at h
      obtain ⟨rfl, rfl⟩ := h
      refine ⟨Af _, fun _ => ⟨?_, trivial⟩⟩
      have hn := Ad (eqE aZ bs) F ρ
      simp only [execOp, ho, e1, e2, X.run, D.run, SV.conc]
      rw [E.val_b hn.2, hn.1, hs.2]
      simp [eqGuard, run_program, c4, binOp, hq]
     ·cases h
    ·cases h
   ·cases h
  ·cases h
 ·cases h
def Qd (P : Program) (get : Operand -> Option SV) (o : Oper) : Option (E × X) :=
 match o.op with
 | .indexAddr t x ix => match Ay P t, get x, get ix with
   | some e, some (.ls n le), some (.sc i) => match szOf P e with
     | some s => if i.kind = .i .u8 /\ i.sound = true then some (inB (.conv .i64 i) le, X.old (.val (.pe n s (.conv .i64 i) 0))) else none
     | none => none
   | _, _, _ => match P.underlying t, get x, scI get ix with
     | some (.array cnt el), some (.pe nm s i f), some e => match szOf P el with
       | some z => if z = 1 /\ s <= 1000 /\ cnt <= 1000000 then some (mkAnd (inB i big9) (inB e (.lit (.i .i64) cnt)), X.old (.val (.pe nm 1 (.bin .add .i64 (.bin .mul .i64 i (.lit (.i .i64) s)) e) f))) else none
       | none => none
     | _, _, _ => none
 | _ => none
theorem Sa {o : Oper} {g : E} {x : X} (hg : ∀ x v, get x = some v -> ev x = v.conc F ρ ad /\ v.ok p) (h : Qd P get o = some (g, x)) :
 g.kind = .b /\ (g.tt F ρ = true -> (execOp ev o).run P w = x.run P F ρ ad w /\ x.good F ρ p) := by
 unfold Qd at h
 split at h
 ·rename_i t x ix ho
  split at h
  ·rename_i e n le i h1 h2 h3
   split at h
   ·rename_i s hs
    split at h
    ·rename_i hk
     simp only [oJ, pJ] at h
     obtain ⟨rfl, rfl⟩ := h
     obtain ⟨e2, k2⟩ := hg x _ h2
     obtain ⟨e3, k3⟩ := hg ix _ h3
     refine ⟨(Al (F := F) (ρ := ρ)).1, fun hb => ?_⟩
     obtain ⟨b1, b2⟩ := (Al (F := F) (ρ := ρ)).2 hb
     have n1 := E.den_norm F ρ i hk.2
     rw [hk.1] at n1
     have hd : (E.conv .i64 i).den F ρ = i.den F ρ := by
      show IntKind.i64.wrap (i.den F ρ) = _
      have n1 : IntKind.u8.wrap (i.den F ρ) = i.den F ρ := n1
      rw [IntKind.wrap_u8] at n1
      rw [IntKind.wrap_i64]; omega
     rw [hd] at b1 b2
     have hu := A8 h1
     have hsl : (ad n).sl (le.den F ρ).toNat = .slice (some ⟨(ad n).blk, (ad n).off, none⟩) (le.den F ρ).toNat (ad n).cap := by
      unfold Hd.sl
      have : ((le.den F ρ).toNat == 0) = false := by simp; omega
      rw [this]; simp
     have hlt : i.den F ρ < ((le.den F ρ).toNat : Int) := by omega
     refine ⟨?_, k2⟩
     simp only [execOp, ho, e2, e3, SV.conc, E.val_i hk.1, hsl, X.run, D.run, hd]
     simp [Instr.indexAt, run_underlying hu, asIntOf, b1, Ai w hs, Addr.add_none]
     omega
    ·cases h
   ·cases h
  ·split at h
   ·rename_i cnt el nm s i f e hu h2 h3
    split at h
    ·rename_i z hs
     split at h
     ·rename_i hc
      obtain ⟨rfl, hs1, hc1⟩ := hc
      simp only [oJ, pJ] at h
      obtain ⟨rfl, rfl⟩ := h
      obtain ⟨e2, k2⟩ := hg x _ h2
      obtain ⟨e3, k3⟩ := CA hg h3
      have hm := Aa (inB i big9) (inB e (.lit (.i .i64) cnt)) (Al (F := F) (ρ := ρ)).1 (Al (F := F) (ρ := ρ)).1 F ρ
      refine ⟨hm.2, fun hb => ?_⟩
      rw [hm.1, Bool.and_eq_true] at hb
      have hbig : big9.den F ρ = 1000000000 := by
       show IntKind.i64.wrap 1000000000 = 1000000000
       rw [IntKind.wrap_i64]; omega
      have hcn : (E.lit (.i .i64) (cnt : Int)).den F ρ = cnt := by
       show IntKind.i64.wrap (cnt : Int) = cnt
       rw [IntKind.wrap_i64]; omega
      obtain ⟨b1, b2⟩ := (Al (F := F) (ρ := ρ)).2 hb.1
      obtain ⟨b3, b4⟩ := (Al (F := F) (ρ := ρ)).2 hb.2
      rw [hbig] at b2
      rw [hcn] at b4
      have hd : (E.bin .add .i64 (.bin .mul .i64 i (.lit (.i .i64) (s : Int))) e).den F ρ = i.den F ρ * s + e.den F ρ := by
       have m1 : 0 <= i.den F ρ * (s : Int) := Int.mul_nonneg b1 (by omega)
       have m2 : i.den F ρ * (s : Int) <= 1000000000 * 1000 := Int.mul_le_mul (by omega) (by omega) (by omega) (by omega)
       show IntKind.i64.wrap (IntKind.i64.wrap (i.den F ρ * IntKind.i64.wrap (s : Int)) + e.den F ρ) = _
       have w1 : IntKind.i64.wrap (s : Int) = s := by rw [IntKind.wrap_i64]; omega
       rw [w1]
       have w2 : IntKind.i64.wrap (i.den F ρ * (s : Int)) = i.den F ρ * s := by rw [IntKind.wrap_i64]; omega
       rw [w2, IntKind.wrap_i64]
       omega
      have hadr : (ad nm).off + (i.den F ρ).toNat * s + f + (e.den F ρ).toNat = (ad nm).off + (i.den F ρ * s + e.den F ρ).toNat * 1 + f := by
       have e1 : i.den F ρ = ((i.den F ρ).toNat : Int) := by omega
       have e2 : i.den F ρ * s + e.den F ρ = (((i.den F ρ).toNat * s : Nat) : Int) + e.den F ρ := by rw [Int.natCast_mul, <- e1]
       omega
      refine ⟨?_, k2⟩
      simp only [execOp, ho, e2, e3, SV.conc, X.run, D.run, hd, <- hadr]
      simp [Instr.indexAt, run_underlying hu, Instr.sureAddr, asIntOf, b3, b4, Ai w hs, Addr.add_none]
     ·cases h
    ·cases h
   ·cases h
 ·cases h
def Qe (P : Program) (get : Operand -> Option SV) (o : Oper) : Option (E × X) :=
 match o.op with
 | .slice t x none none none => match P.underlying t, get x with
   | some (.array n el), some (.gl b off) => match szOf P el with
     | some _ => if 0 < n then some (mkB true, .gsl el b off n) else none
     | none => none
   | _, _ => none
 | _ => none
theorem Sb {o : Oper} {g : E} {x : X} (hg : ∀ x v, get x = some v -> ev x = v.conc F ρ ad /\ v.ok p) (h : Qe P get o = some (g, x)) :
 g.kind = .b /\ (g.tt F ρ = true -> (execOp ev o).run P w = x.run P F ρ ad w /\ x.good F ρ p) := by
 unfold Qe at h
 split at h
 ·rename_i t x ho
  split at h
  ·rename_i n el b off ht h1
   split at h
   ·rename_i sz hs
    split at h
    ·rename_i hn
     simp only [oJ, pJ] at h
     obtain ⟨rfl, rfl⟩ := h
     obtain ⟨e1, k1⟩ := hg x _ h1
     refine ⟨Af _, fun _ => ⟨?_, trivial⟩⟩
     have q := FH (P := P) w ht hs (b := b) (off := off) none none (l := 0) (u := n) (FG (ev := ev) hg (show litX get 0 none = some 0 from rfl)) (FG (ev := ev) hg (show litX get n none = some n from rfl)) (Nat.zero_le _) (Nat.le_refl _) hn
     simp only [execOp, ho, e1, SV.conc, X.run, Option.map_none]
     simp_all
    ·cases h
   ·cases h
  ·cases h
 ·cases h
def Qf (P : Program) (get : Operand -> Option SV) (o : Oper) : Option (E × X) :=
 match o.op with
 | .indexAddr t x ix => match P.underlying t, get x, scI get ix with
   | some (.array n el), some (.ptr nm off), some e => match szOf P el with
     | some s => if n <= 255 /\ (E.dv .rem .u8 (.conv .u8 e) n).sound = true then some (inB e (.lit (.i .i64) n), X.old (.val (.pi nm off s (.dv .rem .u8 (.conv .u8 e) n)))) else none
     | none => none
   | _, _, _ => none
 | _ => none
theorem Sc {o : Oper} {g : E} {x : X} (hg : ∀ x v, get x = some v -> ev x = v.conc F ρ ad /\ v.ok p) (h : Qf P get o = some (g, x)) :
 g.kind = .b /\ (g.tt F ρ = true -> (execOp ev o).run P w = x.run P F ρ ad w /\ x.good F ρ p) := by
 unfold Qf at h
 split at h
 ·rename_i t x ix ho
  split at h
  ·rename_i n el nm off e hu h1 h2
   split at h
   ·rename_i s hs
    split at h
    ·rename_i hc
     simp only [oJ, pJ] at h
     obtain ⟨rfl, rfl⟩ := h
     obtain ⟨e1, k1⟩ := hg x _ h1
     obtain ⟨e2, k2⟩ := CA hg h2
     have hs' := Al (F := F) (ρ := ρ) (i := e) (le := .lit (.i .i64) n)
     refine ⟨hs'.1, fun hh => ⟨?_, k1⟩⟩
     obtain ⟨b1, b2⟩ := hs'.2 hh
     have hn : (E.lit (.i .i64) (n : Int)).den F ρ = n := by
      show IntKind.i64.wrap (n : Int) = n
      rw [IntKind.wrap_i64]; omega
     rw [hn] at b2
     have hd : (E.dv .rem .u8 (.conv .u8 e) n).den F ρ = e.den F ρ := by
      show (IntKind.u8.wrap (e.den F ρ)).tmod n = e.den F ρ
      have : IntKind.u8.wrap (e.den F ρ) = e.den F ρ := by rw [IntKind.wrap_u8]; omega
      rw [this, Int.tmod_eq_emod_of_nonneg b1, Int.emod_eq_of_lt b1 b2]
     simp only [execOp, ho, e1, e2, SV.conc, X.run, D.run, hd]
     simp [Instr.indexAt, run_underlying hu, Instr.sureAddr, asIntOf, b1, b2, Ai w hs, Addr.add_none]
    ·cases h
   ·cases h
  ·cases h
 ·cases h
def Qg (P : Program) (get : Operand -> Option SV) (o : Oper) : Option (E × X) :=
 match P8 get o with
 | some r => some r
 | none => match Qb P get o with
   | some r => some r
   | none => match Qe P get o with
     | some r => some r
     | none => match Qf P get o with
       | some r => some r
       | none => Qd P get o
theorem Sd (hB : ∀ j xs, F 0 j xs = bi j xs) {o : Oper} {g : E} {x : X} (hg : ∀ x v, get x = some v -> ev x = v.conc F ρ ad /\ v.ok p) (h : Qg P get o = some (g, x)) :
 g.kind = .b /\ (g.tt F ρ = true -> (execOp ev o).run P w = x.run P F ρ ad w /\ x.good F ρ p) := by
 grind [Qg, R6, R9, Sb, Sc, Sa]
def Qh (P : Program) (get : Operand -> Option SV) (o : Oper) : Option (E × X) :=
 match desc P get o.op with
 | some d => some (mkB true, lift P d)
 | none => match MK P get o with
   | some x => some x
   | none => match P9 P get o with
    | some x => some x
    | none => match Qg P get o with
    | some x => some x
    | none => match desc P (Kh get (Fl o.op.operands.toList)) o.op with
     | some d => some (CZ get (Fl o.op.operands.toList), lift P d)
     | none => (MK P (Kh get (Fl o.op.operands.toList)) o).map fun x => (mkAnd (CZ get (Fl o.op.operands.toList)) x.1, x.2)
theorem Nq {d : D} : (lift P d).run P F ρ ad w = d.run P F ρ ad w := by
 unfold lift
 split
 ·split
  ·rename_i ks size bytes _ _
   cases (Dk ks _ _ NILL).isSome && decide (size = ks.length) && decide ((_ : Int) <= Ba bytes) <;> rfl
  ·rfl
 ·rfl
theorem Mb {d : D} (h : d.good F ρ p) : (lift P d).good F ρ p := by
 unfold lift
 split
 ·split
  ·rename_i ks size bytes _ _
   cases (Dk ks _ _ NILL).isSome && decide (size = ks.length) && decide ((_ : Int) <= Ba bytes) <;> exact h
  ·exact h
 ·exact h
theorem HP (hB : ∀ j xs, F 0 j xs = bi j xs) {o : Oper} {g : E} {x : X} (hg : ∀ x v, get x = some v -> ev x = v.conc F ρ ad /\ v.ok p) (h : Qh P get o = some (g, x)) :
 g.kind = .b /\ (g.tt F ρ = true -> (execOp ev o).run P w = x.run P F ρ ad w /\ x.good F ρ p) := by
 unfold Qh at h
 split at h
 ·rename_i d hd
  simp only [oJ, pJ] at h
  obtain ⟨rfl, rfl⟩ := h
  exact ⟨rfl, fun _ => by grind [Nq, JG, Mb]⟩
 ·split at h
  ·grind [Ma]
  ·split at h
   ·grind [R7]
   split at h
   ·grind [Sd]
   split at h
   ·rename_i d hd
    simp only [oJ, pJ] at h
    obtain ⟨rfl, rfl⟩ := h
    exact ⟨Cz _ _, fun hh => by rw [Nq]; exact ⟨(JG (FY hg hh) hd).1, Mb (JG (w := w) (FY hg hh) hd).2⟩⟩
   ·obtain ⟨⟨g1, y⟩, hy, he⟩ := Option.map_eq_some_iff.1 h
    simp only [pJ] at he
    obtain ⟨rfl, rfl⟩ := he
    have hk : g1.kind = .b := by
     have := P5 hy
     exact this
    have hm := Aa _ _ (Cz get (Fl o.op.operands.toList)) hk F ρ
    refine ⟨hm.2, fun hh => ?_⟩
    rw [hm.1, Bool.and_eq_true] at hh
    obtain ⟨i1, i2, i3⟩ := Ma (w := w) (FY hg hh.1) hy
    exact ⟨i2 hh.2, i3⟩
end
end Go.Proofs.Ytnockichpnaoeaa.Ew

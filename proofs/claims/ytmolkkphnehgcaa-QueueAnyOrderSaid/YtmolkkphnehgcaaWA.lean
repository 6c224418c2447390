/- The expressions and the symbolic values of a small evaluator for straight Go code, and what they denote. No program is in sight here. -/
import Derived.WalkKit
import Derived.Orders
set_option linter.unusedVariables false
set_option linter.unusedSimpArgs false
namespace Go.Proofs.Ytmolkkphnehgcaa.Ew
open Go Go.RowKit

/-- The kind of a scalar: a truth value, an integer kind, or the code of a list. -/
inductive K where
  | b
  | i (k : IntKind)
  | x
  deriving DecidableEq, Repr, Inhabited

def K.norm : K → Int → Int
  | .b, n => if n = 0 then 0 else 1
  | .i k, n => k.wrap n
  | .x, n => n

def b2i (b : Bool) : Int := bif b then 1 else 0
def i2b (n : Int) : Bool := !(n == 0)

@[simp] theorem i2b_b2i (b : Bool) : i2b (b2i b) = b := by cases b <;> rfl

/-- Scalar expressions. -/
inductive E where
  | lit (k : K) (n : Int)
  | var (k : K) (i : Nat)
  | app (k : K) (f j : Nat) (args : List E)
  | bin (op : BinOp) (k : IntKind) (a b : E)
  | dv (op : BinOp) (k : IntKind) (a : E) (n : Int)
  | sh (op : BinOp) (k : IntKind) (a b : E)
  | cmp (op : BinOp) (a b : E)
  | conv (k : IntKind) (a : E)
  | not (a : E)
  | and (a b : E)
  | or (a b : E)
  | ite (c a b : E)
  deriving Repr, Inhabited

def bitsI (op : BinOp) (k : IntKind) (x y : Int) : Int :=
  let a := BitVec.ofInt k.bits x
  let b := BitVec.ofInt k.bits y
  match op with
  | .and => k.wrap (a &&& b).toNat
  | .or => k.wrap (a ||| b).toNat
  | .xor => k.wrap (a ^^^ b).toNat
  | _ => k.wrap (a &&& ~~~b).toNat

def binI (op : BinOp) (k : IntKind) (x y : Int) : Int :=
  match op with
  | .add => k.wrap (x + y)
  | .sub => k.wrap (x - y)
  | .mul => k.wrap (x * y)
  | op => bitsI op k x y

def dvI (op : BinOp) (k : IntKind) (x n : Int) : Int :=
  match op with
  | .quo => k.wrap (x.tdiv n)
  | _ => x.tmod n

def shI (op : BinOp) (k : IntKind) (x y : Int) : Int :=
  match op with
  | .shl => k.wrap (x * 2 ^ (min y.toNat k.bits))
  | _ => x.fdiv (2 ^ (min y.toNat k.bits))

def cmpB (op : BinOp) (x y : Int) : Bool :=
  match op with
  | .eql => x == y
  | .neq => x != y
  | .lss => decide (x < y)
  | .leq => decide (x ≤ y)
  | .gtr => decide (x > y)
  | _ => decide (x ≥ y)

/-- What the functions that are taken by their summaries compute: function, component, arguments. -/
abbrev Fam := Nat → Nat → List Int → Int

mutual
def E.den (F : Fam) (ρ : Nat → Int) : E → Int
  | .lit k n => k.norm n
  | .var k i => k.norm (ρ i)
  | .app k f j as => k.norm (F f j (E.denL F ρ as))
  | .bin op k a b => binI op k (E.den F ρ a) (E.den F ρ b)
  | .dv op k a n => dvI op k (E.den F ρ a) n
  | .sh op k a b => shI op k (E.den F ρ a) (E.den F ρ b)
  | .cmp op a b => b2i (cmpB op (E.den F ρ a) (E.den F ρ b))
  | .conv k a => k.wrap (E.den F ρ a)
  | .not a => b2i (!i2b (E.den F ρ a))
  | .and a b => b2i (i2b (E.den F ρ a) && i2b (E.den F ρ b))
  | .or a b => b2i (i2b (E.den F ρ a) || i2b (E.den F ρ b))
  | .ite c a b => bif i2b (E.den F ρ c) then E.den F ρ a else E.den F ρ b
def E.denL (F : Fam) (ρ : Nat → Int) : List E → List Int
  | [] => []
  | e :: r => E.den F ρ e :: E.denL F ρ r
end

theorem denL_eq (F : Fam) (ρ : Nat → Int) (l : List E) : E.denL F ρ l = l.map (E.den F ρ) := by
  induction l with
  | nil => simp [E.denL]
  | cons e r ih => simp [E.denL, ih]

def E.kind : E → K
  | .lit k _ | .var k _ | .app k .. => k
  | .bin _ k .. | .dv _ k .. | .sh _ k .. | .conv k _ => .i k
  | .cmp .. | .not _ | .and .. | .or .. => .b
  | .ite _ a _ => a.kind

/-- The Bool of an expression. -/
def E.tt (F : Fam) (ρ : Nat → Int) (e : E) : Bool := i2b (e.den F ρ)

/-! ### equality of expressions, for the evaluator's own use -/
mutual
def E.same : E → E → Bool
  | .lit k n, .lit k' n' => decide (k = k') && decide (n = n')
  | .var k i, .var k' i' => decide (k = k') && decide (i = i')
  | .app k f j as, .app k' f' j' as' => decide (k = k') && decide (f = f') && decide (j = j') && E.sameL as as'
  | .bin op k a b, .bin op' k' a' b' => decide (op = op') && decide (k = k') && E.same a a' && E.same b b'
  | .dv op k a n, .dv op' k' a' n' => decide (op = op') && decide (k = k') && E.same a a' && decide (n = n')
  | .sh op k a b, .sh op' k' a' b' => decide (op = op') && decide (k = k') && E.same a a' && E.same b b'
  | .cmp op a b, .cmp op' a' b' => decide (op = op') && E.same a a' && E.same b b'
  | .conv k a, .conv k' a' => decide (k = k') && E.same a a'
  | .not a, .not a' => E.same a a'
  | .and a b, .and a' b' => E.same a a' && E.same b b'
  | .or a b, .or a' b' => E.same a a' && E.same b b'
  | .ite c a b, .ite c' a' b' => E.same c c' && E.same a a' && E.same b b'
  | _, _ => false
def E.sameL : List E → List E → Bool
  | [], [] => true
  | e :: r, e' :: r' => E.same e e' && E.sameL r r'
  | _, _ => false
end

mutual
theorem E.same_eq : ∀ (a b : E), E.same a b = true → a = b
  | .lit .., b, h => by cases b <;> simp_all [E.same]
  | .var .., b, h => by cases b <;> simp_all [E.same]
  | .app k f j as, b, h => by
    cases b <;> simp [E.same] at h
    obtain ⟨⟨⟨rfl, rfl⟩, rfl⟩, h4⟩ := h
    rw [E.sameL_eq _ _ h4]
  | .bin op k a b, c, h => by
    cases c <;> simp [E.same] at h
    obtain ⟨⟨⟨rfl, rfl⟩, h3⟩, h4⟩ := h
    rw [E.same_eq _ _ h3, E.same_eq _ _ h4]
  | .dv op k a n, c, h => by
    cases c <;> simp [E.same] at h
    obtain ⟨⟨⟨rfl, rfl⟩, h3⟩, rfl⟩ := h
    rw [E.same_eq _ _ h3]
  | .sh op k a b, c, h => by
    cases c <;> simp [E.same] at h
    obtain ⟨⟨⟨rfl, rfl⟩, h3⟩, h4⟩ := h
    rw [E.same_eq _ _ h3, E.same_eq _ _ h4]
  | .cmp op a b, c, h => by
    cases c <;> simp [E.same] at h
    obtain ⟨⟨rfl, h3⟩, h4⟩ := h
    rw [E.same_eq _ _ h3, E.same_eq _ _ h4]
  | .conv k a, c, h => by
    cases c <;> simp [E.same] at h
    obtain ⟨rfl, h3⟩ := h
    rw [E.same_eq _ _ h3]
  | .not a, c, h => by
    cases c <;> simp [E.same] at h
    rw [E.same_eq _ _ h]
  | .and a b, c, h => by
    cases c <;> simp [E.same] at h
    rw [E.same_eq _ _ h.1, E.same_eq _ _ h.2]
  | .or a b, c, h => by
    cases c <;> simp [E.same] at h
    rw [E.same_eq _ _ h.1, E.same_eq _ _ h.2]
  | .ite a b d, c, h => by
    cases c <;> simp [E.same] at h
    rw [E.same_eq _ _ h.1.1, E.same_eq _ _ h.1.2, E.same_eq _ _ h.2]
theorem E.sameL_eq : ∀ (a b : List E), E.sameL a b = true → a = b
  | [], [], _ => rfl
  | [], _ :: _, h => by simp [E.sameL] at h
  | _ :: _, [], h => by simp [E.sameL] at h
  | e :: r, e' :: r', h => by
    simp [E.sameL] at h
    rw [E.same_eq _ _ h.1, E.sameL_eq _ _ h.2]
end

/-! ### smart constructors -/
def E.lit? : E → Option Int
  | .lit k n => some (k.norm n)
  | _ => none

theorem E.lit?_den {e : E} {n : Int} (h : e.lit? = some n) (F : Fam) (ρ : Nat → Int) : e.den F ρ = n := by
  cases e <;> simp_all [E.lit?, E.den]

theorem K.norm_norm (k : K) (n : Int) : k.norm (k.norm n) = k.norm n := by
  cases k with
  | b => simp only [K.norm]; split <;> simp
  | i k => cases k <;> simp only [K.norm, IntKind.wrap, IntKind.signed, IntKind.bits] <;> simp <;> (try split) <;> (try split) <;> omega
  | x => rfl

theorem wrap_wrap (k : IntKind) (n : Int) : k.wrap (k.wrap n) = k.wrap n := K.norm_norm (.i k) n

/-- The literal of an expression's value, where all is literal. -/
def mkB (b : Bool) : E := .lit .b (b2i b)

@[simp] theorem mkB_den (b : Bool) (F : Fam) (ρ : Nat → Int) : (mkB b).den F ρ = b2i b := by cases b <;> simp [mkB, E.den, K.norm, b2i]
@[simp] theorem mkB_tt (b : Bool) (F : Fam) (ρ : Nat → Int) : (mkB b).tt F ρ = b := by simp [E.tt]

/-- Every expression of kind b is 0 or 1, every one of an integer kind is in range. -/
theorem tmod_wrap (k : IntKind) (x n : Int) (h : k.wrap x = x) : k.wrap (x.tmod n) = x.tmod n := by
  have hb : -(x.natAbs : Int) ≤ x.tmod n ∧ x.tmod n ≤ x.natAbs ∧ (0 ≤ x → 0 ≤ x.tmod n) ∧ (x ≤ 0 → x.tmod n ≤ 0) := by
    have h1 : (x.tmod n).natAbs ≤ x.natAbs := by rw [Int.natAbs_tmod]; exact Nat.mod_le _ _
    rcases Int.le_total 0 x with hx | hx
    · have := Int.tmod_nonneg n hx
      omega
    · have e : x.tmod n = -((-x).tmod n) := by rw [Int.neg_tmod]; simp
      have := Int.tmod_nonneg n (show 0 ≤ -x by omega)
      omega
  revert h hb
  generalize x.tmod n = y
  intro h hb
  cases k <;> simp only [IntKind.wrap, IntKind.signed, IntKind.bits] at h ⊢ <;> simp at h ⊢ <;> (try split at h) <;> (try split) <;> omega

theorem fdiv_wrap (k : IntKind) (x : Int) (m : Nat) (h : k.wrap x = x) : k.wrap (x.fdiv (2 ^ m)) = x.fdiv (2 ^ m) := by
  have hp : (0 : Int) < 2 ^ m := Int.pow_pos (by decide)
  have hb : (0 ≤ x → 0 ≤ x.fdiv (2 ^ m) ∧ x.fdiv (2 ^ m) ≤ x) ∧ (x < 0 → x ≤ x.fdiv (2 ^ m) ∧ x.fdiv (2 ^ m) < 0) := by
    rw [Int.fdiv_eq_ediv_of_nonneg _ (by omega)]
    constructor
    · intro hx
      exact ⟨Int.ediv_nonneg hx (by omega), Int.ediv_le_self _ hx⟩
    · intro hx
      refine ⟨?_, Int.ediv_neg_of_neg_of_pos hx hp⟩
      rw [Int.le_ediv_iff_mul_le hp]
      have : x * 2 ^ m ≤ x * 1 := Int.mul_le_mul_of_nonpos_left (by omega) (by omega)
      omega
  revert h hb
  generalize x.fdiv (2 ^ m) = y
  intro h hb
  cases k <;> simp only [IntKind.wrap, IntKind.signed, IntKind.bits] at h ⊢ <;> simp at h ⊢ <;> (try split at h) <;> (try split) <;> omega

def E.sound : E → Bool
  | .lit .. | .var .. | .app .. | .bin .. | .cmp .. | .not _ | .and .. | .or .. => true
  | .conv _ a => a.sound
  | .dv _ k a n => decide (a.kind = .i k) && decide (n ≠ 0) && a.sound
  | .sh op k a _ => (decide (op = .shl) || decide (a.kind = .i k)) && a.sound
  | .ite _ a b => decide (a.kind = b.kind) && a.sound && b.sound

theorem norm_b2i (b : Bool) : K.b.norm (b2i b) = b2i b := by cases b <;> rfl

theorem E.den_norm (F : Fam) (ρ : Nat → Int) : ∀ (e : E), e.sound = true → e.kind.norm (e.den F ρ) = e.den F ρ
  | .lit k n, _ => by simp only [E.den, E.kind]; exact K.norm_norm k n
  | .var k i, _ => by simp only [E.den, E.kind]; exact K.norm_norm k _
  | .app k f j as, _ => by simp only [E.den, E.kind]; exact K.norm_norm k _
  | .bin op k a b, _ => by
    simp only [E.den, E.kind, K.norm]
    cases op <;> simp only [binI, bitsI, wrap_wrap]
  | .dv op k a n, h => by
    simp only [E.sound, Bool.and_eq_true, decide_eq_true_eq] at h
    have ih := E.den_norm F ρ a h.2
    rw [h.1.1] at ih
    simp only [E.den, E.kind, K.norm]
    cases op <;> simp only [dvI, wrap_wrap] <;> exact tmod_wrap k _ n ih
  | .sh op k a b, h => by
    simp only [E.sound, Bool.and_eq_true, Bool.or_eq_true, decide_eq_true_eq] at h
    have ih := E.den_norm F ρ a h.2
    simp only [E.den, E.kind, K.norm]
    rcases h.1 with h1 | h1
    · subst h1; simp only [shI, wrap_wrap]
    · rw [h1] at ih
      cases op <;> simp only [shI, wrap_wrap] <;> exact fdiv_wrap k _ _ ih
  | .cmp .., _ => by simp only [E.den, E.kind]; exact norm_b2i _
  | .conv k a, _ => by simp only [E.den, E.kind, K.norm]; exact wrap_wrap k _
  | .not _, _ => by simp only [E.den, E.kind]; exact norm_b2i _
  | .and .., _ => by simp only [E.den, E.kind]; exact norm_b2i _
  | .or .., _ => by simp only [E.den, E.kind]; exact norm_b2i _
  | .ite c a b, h => by
    simp only [E.sound, Bool.and_eq_true, decide_eq_true_eq] at h
    have iha := E.den_norm F ρ a h.1.2
    have ihb := E.den_norm F ρ b h.2
    simp only [E.den, E.kind]
    cases i2b (E.den F ρ c)
    · simp only [cond_false]; rw [h.1.1]; exact ihb
    · simp only [cond_true]; exact iha

theorem tt_b2i {F : Fam} {ρ : Nat → Int} {e : E} (hs : e.sound = true) (hk : e.kind = .b) : b2i (e.tt F ρ) = e.den F ρ := by
  have h := E.den_norm F ρ e hs
  rw [hk] at h
  unfold E.tt
  revert h
  generalize e.den F ρ = x
  intro h
  simp only [K.norm] at h
  split at h
  · subst h; rfl
  · subst h; rfl

/-- The scalar that an expression stands for. -/
def E.val (F : Fam) (ρ : Nat → Int) (e : E) : Value :=
  match e.kind with
  | .b => .bool (e.tt F ρ)
  | .i k => .int k (e.den F ρ)
  | .x => .int .i64 (e.den F ρ)

theorem E.val_x {F : Fam} {ρ : Nat → Int} {e : E} (h : e.kind = .x) : e.val F ρ = .int .i64 (e.den F ρ) := by simp [E.val, h]
theorem E.val_b {F : Fam} {ρ : Nat → Int} {e : E} (h : e.kind = .b) : e.val F ρ = .bool (e.tt F ρ) := by simp [E.val, h]
theorem E.val_i {F : Fam} {ρ : Nat → Int} {e : E} {k : IntKind} (h : e.kind = .i k) : e.val F ρ = .int k (e.den F ρ) := by simp [E.val, h]
@[simp] theorem mkB_kind (b : Bool) : (mkB b).kind = .b := rfl
@[simp] theorem mkB_val (b : Bool) (F : Fam) (ρ : Nat → Int) : (mkB b).val F ρ = .bool b := by simp [E.val]

theorem lit?_tt {e : E} {n : Int} (h : e.lit? = some n) (F : Fam) (ρ : Nat → Int) : e.tt F ρ = i2b n := by unfold E.tt; rw [E.lit?_den h]

def mkNot (e : E) : E :=
  match e.lit? with
  | some n => mkB (!i2b n)
  | none => match e with
    | .not a => if a.kind = .b then a else .not e
    | e => .not e
theorem mkNot_spec (e : E) (F : Fam) (ρ : Nat → Int) : (mkNot e).tt F ρ = !e.tt F ρ ∧ (mkNot e).kind = .b := by
  unfold mkNot
  split
  · rename_i n h; simp [lit?_tt h]
  · split
    · rename_i a _
      split
      · rename_i ha; exact ⟨by simp [E.tt, E.den], ha⟩
      · exact ⟨by simp [E.tt, E.den], rfl⟩
    · exact ⟨by simp [E.tt, E.den], rfl⟩

def mkAnd (a b : E) : E :=
  match a.lit? with
  | some n => bif i2b n then b else mkB false
  | none => match b.lit? with
    | some n => bif i2b n then a else mkB false
    | none => if a.same b then a else .and a b
theorem mkAnd_spec (a b : E) (ha : a.kind = .b) (hb : b.kind = .b) (F : Fam) (ρ : Nat → Int) : (mkAnd a b).tt F ρ = (a.tt F ρ && b.tt F ρ) ∧ (mkAnd a b).kind = .b := by
  unfold mkAnd
  split
  · rename_i n h; rw [lit?_tt h]; cases i2b n <;> simp [hb]
  · split
    · rename_i n h; rw [lit?_tt h]; cases i2b n <;> simp [ha]
    · split
      · rename_i h; rw [← E.same_eq _ _ h]; simp [ha]
      · exact ⟨by simp [E.tt, E.den], rfl⟩

def mkOr (a b : E) : E :=
  match a.lit? with
  | some n => bif i2b n then mkB true else b
  | none => match b.lit? with
    | some n => bif i2b n then mkB true else a
    | none => if a.same b then a else .or a b
theorem mkOr_spec (a b : E) (ha : a.kind = .b) (hb : b.kind = .b) (F : Fam) (ρ : Nat → Int) : (mkOr a b).tt F ρ = (a.tt F ρ || b.tt F ρ) ∧ (mkOr a b).kind = .b := by
  unfold mkOr
  split
  · rename_i n h; rw [lit?_tt h]; cases i2b n <;> simp [hb]
  · split
    · rename_i n h; rw [lit?_tt h]; cases i2b n <;> simp [ha]
    · split
      · rename_i h; rw [← E.same_eq _ _ h]; simp [ha]
      · exact ⟨by simp [E.tt, E.den], rfl⟩

/-- A choice between two numbers of one kind. -/
def mkIteI (k : IntKind) (c a b : E) : E :=
  match a, b with
  | .bin .add k' x p, b => if k' = k ∧ x.same b = true ∧ b.sound = true ∧ b.kind = .i k then .bin .add k b (.ite c p (.lit (.i k) 0)) else .ite c a b
  | a, .bin .add k' x p => if k' = k ∧ x.same a = true ∧ a.sound = true ∧ a.kind = .i k then .bin .add k a (.ite c (.lit (.i k) 0) p) else .ite c a b
  | a, b => .ite c a b

theorem wrap_zero (k : IntKind) : k.wrap 0 = 0 := by cases k <;> rfl

theorem mkIteI_spec (k : IntKind) (c a b : E) (ha : a.kind = .i k) (hb : b.kind = .i k) (F : Fam) (ρ : Nat → Int) :
    (mkIteI k c a b).den F ρ = (bif c.tt F ρ then a.den F ρ else b.den F ρ) ∧ (mkIteI k c a b).kind = .i k := by
  have key : ∀ (x : E), x.sound = true → x.kind = .i k → k.wrap (x.den F ρ + 0) = x.den F ρ := fun x h1 h2 => by
    have := E.den_norm F ρ x h1
    rw [h2] at this
    simpa [K.norm] using this
  unfold mkIteI
  split
  · rename_i k' x p
    split
    · rename_i h
      obtain ⟨rfl, h2, h3, h4⟩ := h
      have e := E.same_eq _ _ h2
      subst e
      refine ⟨?_, rfl⟩
      simp only [E.den, binI, E.tt, K.norm, wrap_zero]
      cases i2b (E.den F ρ c) <;> simp only [cond_true, cond_false]
      exact key _ h3 h4
    · exact ⟨by simp [E.den, E.tt], by simpa [E.kind] using ha⟩
  · rename_i k' x p _
    split
    · rename_i h
      obtain ⟨rfl, h2, h3, h4⟩ := h
      have e := E.same_eq _ _ h2
      subst e
      refine ⟨?_, rfl⟩
      simp only [E.den, binI, E.tt, K.norm, wrap_zero]
      cases i2b (E.den F ρ c) <;> simp only [cond_true, cond_false]
      exact key _ h3 h4
    · exact ⟨by simp [E.den, E.tt], by simpa [E.kind] using ha⟩
  · exact ⟨by simp [E.den, E.tt], by simpa [E.kind] using ha⟩

/-- A choice between two scalars of one kind. -/
def mkIte (c a b : E) : E :=
  match c.lit? with
  | some n => bif i2b n then a else b
  | none =>
    if a.same b then a else
    match a.kind with
    | .b => match a.lit?, b.lit? with
      | some n, _ => bif i2b n then mkOr c b else mkAnd (mkNot c) b
      | _, some n => bif i2b n then mkOr (mkNot c) a else mkAnd c a
      | none, none => .ite c a b
    | .i k => mkIteI k c a b
    | .x => .ite c a b

theorem mkIte_spec (c a b : E) (hc : c.kind = .b) (hk : a.kind = b.kind) (F : Fam) (ρ : Nat → Int) :
    (mkIte c a b).val F ρ = (bif c.tt F ρ then a.val F ρ else b.val F ρ) ∧ (mkIte c a b).kind = a.kind := by
  unfold mkIte
  split
  · rename_i n h; rw [lit?_tt h]; cases i2b n <;> simp [hk]
  · split
    · rename_i h; rw [← E.same_eq _ _ h]; cases c.tt F ρ <;> simp
    · split
      · rename_i ha
        have hb : b.kind = .b := by rw [← hk, ha]
        rw [E.val_b ha, E.val_b hb]
        split
        · rename_i n h
          rw [lit?_tt h]
          cases i2b n
          · have h1 := mkAnd_spec (mkNot c) b (mkNot_spec c F ρ).2 hb F ρ
            simp only [cond_false]
            rw [E.val_b h1.2, h1.1, (mkNot_spec c F ρ).1]
            exact ⟨by cases c.tt F ρ <;> simp, by rw [h1.2, ha]⟩
          · have h1 := mkOr_spec c b hc hb F ρ
            simp only [cond_true]
            rw [E.val_b h1.2, h1.1]
            exact ⟨by cases c.tt F ρ <;> simp, by rw [h1.2, ha]⟩
        · rename_i n h _
          rw [lit?_tt h]
          cases i2b n
          · have h1 := mkAnd_spec c a hc ha F ρ
            simp only [cond_false]
            rw [E.val_b h1.2, h1.1]
            exact ⟨by cases c.tt F ρ <;> simp, by rw [h1.2, ha]⟩
          · have h1 := mkOr_spec (mkNot c) a (mkNot_spec c F ρ).2 ha F ρ
            simp only [cond_true]
            rw [E.val_b h1.2, h1.1, (mkNot_spec c F ρ).1]
            exact ⟨by cases c.tt F ρ <;> simp, by rw [h1.2, ha]⟩
        · refine ⟨?_, by simp [E.kind, ha]⟩
          rw [E.val_b (by simpa [E.kind] using ha)]
          simp only [E.tt, E.den]
          cases i2b (E.den F ρ c) <;> simp
      · rename_i k ha
        have hb : b.kind = .i k := by rw [← hk, ha]
        have h1 := mkIteI_spec k c a b ha hb F ρ
        rw [E.val_i ha, E.val_i hb, E.val_i h1.2, h1.1]
        exact ⟨by cases c.tt F ρ <;> simp, by rw [h1.2, ha]⟩
      · rename_i ha
        have hb : b.kind = .x := by rw [← hk, ha]
        refine ⟨?_, by simp [E.kind, ha]⟩
        rw [E.val_x ha, E.val_x hb, E.val_x (by simpa [E.kind] using ha)]
        simp only [E.tt, E.den]
        cases i2b (E.den F ρ c) <;> simp

def mkBin (op : BinOp) (k : IntKind) (a b : E) : E :=
  match a.lit?, b.lit? with
  | some x, some y => .lit (.i k) (binI op k x y)
  | _, _ => .bin op k a b
theorem binI_wrap (op : BinOp) (k : IntKind) (x y : Int) : k.wrap (binI op k x y) = binI op k x y := by
  cases op <;> simp only [binI, bitsI, wrap_wrap]
theorem mkBin_spec (op : BinOp) (k : IntKind) (a b : E) (F : Fam) (ρ : Nat → Int) : (mkBin op k a b).val F ρ = .int k (binI op k (a.den F ρ) (b.den F ρ)) ∧ (mkBin op k a b).kind = .i k := by
  unfold mkBin
  split
  · rename_i x y h1 h2
    refine ⟨?_, rfl⟩
    rw [E.val_i rfl, E.lit?_den h1, E.lit?_den h2]
    simp [E.den, K.norm, binI_wrap]
  · exact ⟨by rw [E.val_i rfl]; simp [E.den], rfl⟩

def mkDv (op : BinOp) (k : IntKind) (a : E) (n : Int) : E :=
  match a.lit? with
  | some x => .lit (.i k) (dvI op k x n)
  | none => .dv op k a n
theorem mkDv_spec (op : BinOp) (k : IntKind) (a : E) (n : Int) (hs : a.sound = true) (hk : a.kind = .i k) (F : Fam) (ρ : Nat → Int) :
    (mkDv op k a n).val F ρ = .int k (dvI op k (a.den F ρ) n) ∧ (mkDv op k a n).kind = .i k := by
  unfold mkDv
  split
  · rename_i x h
    refine ⟨?_, rfl⟩
    have hx := E.den_norm F ρ a hs
    rw [hk, E.lit?_den h] at hx
    rw [E.val_i rfl, E.lit?_den h]
    simp only [E.den, K.norm]
    cases op <;> simp only [dvI, wrap_wrap] <;> rw [tmod_wrap k x n hx]
  · exact ⟨by rw [E.val_i rfl]; simp [E.den], rfl⟩

def mkSh (op : BinOp) (k : IntKind) (a b : E) : E :=
  match a.lit?, b.lit? with
  | some x, some y => .lit (.i k) (shI op k x y)
  | _, _ => .sh op k a b
theorem mkSh_spec (op : BinOp) (k : IntKind) (a b : E) (hs : a.sound = true) (hk : a.kind = .i k) (F : Fam) (ρ : Nat → Int) :
    (mkSh op k a b).val F ρ = .int k (shI op k (a.den F ρ) (b.den F ρ)) ∧ (mkSh op k a b).kind = .i k := by
  unfold mkSh
  split
  · rename_i x y h h'
    refine ⟨?_, rfl⟩
    have hx := E.den_norm F ρ a hs
    rw [hk, E.lit?_den h] at hx
    rw [E.val_i rfl, E.lit?_den h, E.lit?_den h']
    simp only [E.den, K.norm]
    cases op <;> simp only [shI, wrap_wrap] <;> rw [fdiv_wrap k x _ hx]
  · exact ⟨by rw [E.val_i rfl]; simp [E.den], rfl⟩

def mkCmp (op : BinOp) (a b : E) : E :=
  match a.lit?, b.lit? with
  | some x, some y => mkB (cmpB op x y)
  | _, _ => bif a.same b then mkB (cmpB op 0 0) else .cmp op a b
theorem cmpB_same (op : BinOp) (x : Int) : cmpB op x x = cmpB op 0 0 := by cases op <;> simp [cmpB]
theorem mkCmp_spec (op : BinOp) (a b : E) (F : Fam) (ρ : Nat → Int) : (mkCmp op a b).tt F ρ = cmpB op (a.den F ρ) (b.den F ρ) ∧ (mkCmp op a b).kind = .b := by
  unfold mkCmp
  split
  · rename_i x y h1 h2
    rw [E.lit?_den h1, E.lit?_den h2]
    simp
  · cases hs : a.same b
    · exact ⟨by simp [E.tt, E.den], rfl⟩
    · rw [E.same_eq _ _ hs, cmpB_same op (E.den F ρ b)]
      simp

def mkConv (k : IntKind) (a : E) : E :=
  match a.lit? with
  | some x => .lit (.i k) x
  | none => .conv k a
theorem mkConv_spec (k : IntKind) (a : E) (F : Fam) (ρ : Nat → Int) : (mkConv k a).val F ρ = .int k (k.wrap (a.den F ρ)) ∧ (mkConv k a).kind = .i k := by
  unfold mkConv
  split
  · rename_i x h
    rw [E.val_i rfl, E.lit?_den h]
    exact ⟨rfl, rfl⟩
  · exact ⟨by rw [E.val_i rfl]; simp [E.den], rfl⟩

/-- Whether two truth values are one. -/
def mkEqB (a b : E) : E :=
  match a.lit?, b.lit? with
  | some x, _ => bif i2b x then b else mkNot b
  | _, some y => bif i2b y then a else mkNot a
  | none, none => .cmp .eql a b
theorem mkEqB_spec (a b : E) (ha : a.kind = .b) (hb : b.kind = .b) (sa : a.sound = true) (sb : b.sound = true) (F : Fam) (ρ : Nat → Int) :
    (mkEqB a b).tt F ρ = (a.tt F ρ == b.tt F ρ) ∧ (mkEqB a b).kind = .b := by
  unfold mkEqB
  split
  · rename_i x h
    rw [lit?_tt h]
    have := mkNot_spec b F ρ
    cases i2b x <;> simp [hb, this]
  · rename_i y h _
    rw [lit?_tt h]
    have := mkNot_spec a F ρ
    cases i2b y <;> simp [ha, this]
  · refine ⟨?_, rfl⟩
    have ea := tt_b2i (F := F) (ρ := ρ) sa ha
    have eb := tt_b2i (F := F) (ρ := ρ) sb hb
    show i2b (b2i (cmpB .eql (a.den F ρ) (b.den F ρ))) = _
    rw [i2b_b2i, ← ea, ← eb]
    cases a.tt F ρ <;> cases b.tt F ρ <;> rfl

def litsOf : List E → Option (List Int)
  | [] => some []
  | e :: r => match e.lit?, litsOf r with
    | some n, some l => some (n :: l)
    | _, _ => none
theorem litsOf_den {l : List E} {ns : List Int} (h : litsOf l = some ns) (F : Fam) (ρ : Nat → Int) : l.map (E.den F ρ) = ns := by
  induction l generalizing ns with
  | nil => simp [litsOf] at h; simp [h]
  | cons e r ih =>
    simp only [litsOf] at h
    split at h
    · rename_i n l' h1 h2
      simp only [Option.some.injEq] at h
      subst h
      simp [E.lit?_den h1, ih h2]
    · cases h

def mkApp (F : Fam) (k : K) (f j : Nat) (as : List E) : E :=
  match litsOf as with
  | some ns => .lit k (F f j ns)
  | none => .app k f j as
theorem mkApp_spec (F : Fam) (k : K) (f j : Nat) (as : List E) (ρ : Nat → Int) : (mkApp F k f j as).den F ρ = k.norm (F f j (as.map (E.den F ρ))) ∧ (mkApp F k f j as).kind = k ∧ (mkApp F k f j as).sound = true := by
  unfold mkApp
  split
  · rename_i ns h
    refine ⟨?_, rfl, rfl⟩
    rw [litsOf_den h]
    simp [E.den]
  · exact ⟨by simp [E.den, denL_eq], rfl, rfl⟩

/-! ### bounds, for indices -/
def kindMax : K → Option Int
  | .b => some 1
  | .i .u8 => some 255
  | .i .u16 => some 65535
  | .i .u32 => some 4294967295
  | .i .u64 => some 18446744073709551615
  | _ => none

/-- An upper bound of an expression that is not negative. -/
def E.ub : E → Option Int
  | .lit k n => if 0 ≤ k.norm n then some (k.norm n) else none
  | .dv .rem k a n => match E.ub a with
    | some m => if 0 < n then some (min m (n - 1)) else none
    | none => none
  | .conv k a => match E.ub a with
    | some m => if k.wrap m = m ∧ (k.signed = false ∨ 0 ≤ m) then some m else kindMax (.i k)
    | none => kindMax (.i k)
  | .ite _ a b => match E.ub a, E.ub b with
    | some m, some n => some (max m n)
    | _, _ => none
  | e => kindMax e.kind

theorem kindMax_spec {k : K} {m n : Int} (h : kindMax k = some m) (hn : k.norm n = n) : 0 ≤ n ∧ n ≤ m := by
  cases k with
  | b =>
    simp only [kindMax, Option.some.injEq] at h
    simp only [K.norm] at hn
    split at hn <;> omega
  | i k =>
    cases k <;> simp only [kindMax, Option.some.injEq, reduceCtorEq] at h <;> simp only [K.norm, IntKind.wrap, IntKind.signed, IntKind.bits] at hn <;> simp at hn <;> omega
  | x => simp [kindMax] at h

theorem E.ub_spec (F : Fam) (ρ : Nat → Int) : ∀ (e : E) (m : Int), e.sound = true → e.ub = some m → 0 ≤ e.den F ρ ∧ e.den F ρ ≤ m
  | .lit k n, m, hs, h => by
    simp only [E.ub] at h
    split at h
    · simp only [Option.some.injEq] at h; simp only [E.den]; omega
    · cases h
  | .dv op k a n, m, hs, h => by
    have hn := E.den_norm F ρ _ hs
    cases op
    case rem =>
      simp only [E.ub] at h
      simp only [E.sound, Bool.and_eq_true] at hs
      split at h
      · rename_i m' hm
        have ih := E.ub_spec F ρ a m' hs.2 hm
        split at h
        · rename_i hn0
          simp only [Option.some.injEq] at h
          simp only [E.den, dvI]
          have h1 := Int.tmod_nonneg n ih.1
          have h2 := Int.tmod_lt_of_pos (E.den F ρ a) hn0
          have h3 : ((E.den F ρ a).tmod n).natAbs ≤ (E.den F ρ a).natAbs := by rw [Int.natAbs_tmod]; exact Nat.mod_le _ _
          omega
        · cases h
      · cases h
    all_goals
      simp only [E.ub] at h
      exact kindMax_spec h hn
  | .conv k a, m, hs, h => by
    have hn := E.den_norm F ρ _ hs
    simp only [E.ub] at h
    split at h
    · rename_i m' hm
      have ih := E.ub_spec F ρ a m' (by simpa [E.sound] using hs) hm
      split at h
      · rename_i hk
        simp only [Option.some.injEq] at h
        subst h
        simp only [E.den]
        obtain ⟨h1, h2⟩ := hk
        revert h1 h2 ih
        generalize E.den F ρ a = x
        intro ih h1 h2
        cases k <;> simp only [IntKind.wrap, IntKind.signed, IntKind.bits] at h1 ⊢ <;> simp at h1 ⊢ <;> (try split at h1) <;> (try split) <;> omega
      · exact kindMax_spec h hn
    · exact kindMax_spec h hn
  | .ite c a b, m, hs, h => by
    simp only [E.ub] at h
    simp only [E.sound, Bool.and_eq_true] at hs
    split at h
    · rename_i m1 m2 h1 h2
      simp only [Option.some.injEq] at h
      have i1 := E.ub_spec F ρ a m1 hs.1.2 h1
      have i2 := E.ub_spec F ρ b m2 hs.2 h2
      simp only [E.den]
      cases i2b (E.den F ρ c) <;> simp only [cond_true, cond_false] <;> omega
    · cases h
  | .var k i, m, hs, h => by have hn := E.den_norm F ρ _ hs; simp only [E.ub] at h; exact kindMax_spec h hn
  | .app k f j as, m, hs, h => by have hn := E.den_norm F ρ _ hs; simp only [E.ub] at h; exact kindMax_spec h hn
  | .bin op k a b, m, hs, h => by have hn := E.den_norm F ρ _ hs; simp only [E.ub] at h; exact kindMax_spec h hn
  | .sh op k a b, m, hs, h => by have hn := E.den_norm F ρ _ hs; simp only [E.ub] at h; exact kindMax_spec h hn
  | .cmp op a b, m, hs, h => by have hn := E.den_norm F ρ _ hs; simp only [E.ub] at h; exact kindMax_spec h hn
  | .not a, m, hs, h => by have hn := E.den_norm F ρ _ hs; simp only [E.ub] at h; exact kindMax_spec h hn
  | .and a b, m, hs, h => by have hn := E.den_norm F ρ _ hs; simp only [E.ub] at h; exact kindMax_spec h hn
  | .or a b, m, hs, h => by have hn := E.den_norm F ρ _ hs; simp only [E.ub] at h; exact kindMax_spec h hn

/-! ### codes of lists of rows of numbers -/
def prN (a b : Nat) : Nat := 2 ^ a * (2 * b + 1)
theorem prN_inj {a b c d : Nat} (h : prN a b = prN c d) : a = c ∧ b = d := by
  unfold prN at h
  have key : ∀ {a b c d : Nat}, a < c → 2 ^ a * (2 * b + 1) = 2 ^ c * (2 * d + 1) → False := fun {a b c d} hl h => by
    obtain ⟨k, rfl⟩ : ∃ k, c = a + 1 + k := ⟨c - a - 1, by omega⟩
    rw [show a + 1 + k = a + (1 + k) by omega, Nat.pow_add, Nat.mul_assoc] at h
    have := Nat.eq_of_mul_eq_mul_left (Nat.two_pow_pos a) h
    rw [Nat.pow_add, Nat.pow_one, Nat.mul_assoc] at this
    omega
  rcases Nat.lt_trichotomy a c with hl | hl | hl
  · exact (key hl h).elim
  · subst hl
    have := Nat.eq_of_mul_eq_mul_left (Nat.two_pow_pos a) h
    omega
  · exact (key hl h.symm).elim
def zzN : Int → Nat
  | .ofNat n => 2 * n
  | .negSucc n => 2 * n + 1
theorem zzN_inj : ∀ {a b : Int}, zzN a = zzN b → a = b
  | .ofNat _, .ofNat _, h => by simp only [zzN] at h; congr 1; omega
  | .ofNat _, .negSucc _, h => by simp only [zzN] at h; omega
  | .negSucc _, .ofNat _, h => by simp only [zzN] at h; omega
  | .negSucc _, .negSucc _, h => by simp only [zzN] at h; congr 1; omega
def rowN : List Int → Nat
  | [] => 0
  | a :: l => prN (zzN a) (rowN l)
theorem prN_pos (a b : Nat) : 0 < prN a b := Nat.mul_pos (Nat.two_pow_pos a) (by omega)
theorem rowN_inj : ∀ {a b : List Int}, rowN a = rowN b → a = b
  | [], [], _ => rfl
  | [], x :: l, h => by have := prN_pos (zzN x) (rowN l); simp only [rowN] at h; omega
  | x :: l, [], h => by have := prN_pos (zzN x) (rowN l); simp only [rowN] at h; omega
  | x :: l, y :: r, h => by
    simp only [rowN] at h
    obtain ⟨h1, h2⟩ := prN_inj h
    rw [zzN_inj h1, rowN_inj h2]
def rowsN : List (List Int) → Nat
  | [] => 0
  | a :: l => prN (rowN a) (rowsN l)
theorem rowsN_inj : ∀ {a b : List (List Int)}, rowsN a = rowsN b → a = b
  | [], [], _ => rfl
  | [], x :: l, h => by have := prN_pos (rowN x) (rowsN l); simp only [rowsN] at h; omega
  | x :: l, [], h => by have := prN_pos (rowN x) (rowsN l); simp only [rowsN] at h; omega
  | x :: l, y :: r, h => by
    simp only [rowsN] at h
    obtain ⟨h1, h2⟩ := prN_inj h
    rw [rowN_inj h1, rowsN_inj h2]
/-- Rows of numbers: what a list holds. A number may itself be the code of rows. -/
abbrev RL := List (List Int)
/-- The code of rows, and the rows of a code. -/
def cd (l : RL) : Int := (rowsN l : Int)
open Classical in
noncomputable def dc (n : Int) : RL := if h : ∃ l, cd l = n then h.choose else []
@[simp] theorem dc_cd (l : RL) : dc (cd l) = l := by
  unfold dc
  have h : ∃ r, cd r = cd l := ⟨l, rfl⟩
  rw [dif_pos h]
  have : cd h.choose = cd l := h.choose_spec
  exact rowsN_inj (Int.ofNat_inj.1 this)
/-- The numbers that are codes. -/
def isCd (n : Int) : Prop := cd (dc n) = n
@[simp] theorem isCd_cd (l : RL) : isCd (cd l) := by unfold isCd; rw [dc_cd]

/-! ### what is done with lists -/
def splR (r : List Int) (j : Nat) (vs : List Int) : List Int := r.take j ++ vs ++ r.drop (j + vs.length)
/-- The order of keys. -/
def ltR : List Int → List Int → Bool
  | [], [] => false
  | [], _ :: _ => true
  | _ :: _, [] => false
  | a :: l, b :: r => bif decide (a < b) then true else bif a == b then ltR l r else false
/-- A map's entries lie in the order of their keys: one is written, or put where it belongs; it is taken out. -/
def putR (n : Nat) (row : List Int) : RL → RL
  | [] => [row]
  | r :: l => if r.take n == row.take n then row :: l else if ltR (row.take n) (r.take n) = true then row :: r :: l else r :: putR n row l
def delR (k : List Int) : RL → RL
  | [] => []
  | r :: l => if r.take k.length == k then l else r :: delR k l
noncomputable def bi : Nat → List Int → Int
  | 0, [c] => ((dc c).length : Int)
  | 1, [c, i, j] => ((dc c).getD i.toNat []).getD j.toNat 0
  | 2, [] => cd []
  | 3, c :: row => cd (dc c ++ [row])
  | 4, [c, d] => cd (dc c ++ dc d)
  | 5, [c, a, b] => cd (((dc c).take b.toNat).drop a.toNat)
  | 6, c :: i :: j :: vs => cd ((dc c).set i.toNat (splR ((dc c).getD i.toNat []) j.toNat vs))
  | 7, n :: row => cd (List.replicate n.toNat row)
  | 8, c :: row => b2i ((dc c).any fun r => r.take row.length == row)
  | 9, c :: n :: j :: row => (((dc c).find? fun r => r.take row.length == row).getD (row ++ List.replicate n.toNat 0)).getD j.toNat 0
  | 10, c :: n :: row => cd (putR n.toNat row (dc c))
  | 11, c :: row => cd (delR row (dc c))
  | 12, c :: n :: row => cd (List.replicate (dc c).length row)
  | 20, [x, y] => x.tdiv y
  | 21, [x, y] => x.tmod y
  | _, _ => 0

def LEN (c : E) : E := .app (.i .i64) 0 0 [c]
def CEL (k : K) (c i : E) (j : Nat) : E := .app k 0 1 [c, i, .lit .x j]
def NILL : E := .app .x 0 2 []
end Go.Proofs.Ytmolkkphnehgcaa.Ew

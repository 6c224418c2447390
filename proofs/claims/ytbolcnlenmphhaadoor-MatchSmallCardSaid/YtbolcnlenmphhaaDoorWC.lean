/- The expressions and the symbolic values of a small evaluator for straight Go code, and what they denote. No program is in sight here. -/
import Derived.WalkKit
import Derived.Orders
set_option linter.unusedVariables false
set_option linter.unusedSimpArgs false
namespace Go.Proofs.YtbolcnlenmphhaaDoor.Ew
open Go Go.RowKit

/-- The kind of a scalar: a truth value, an integer kind, or the code of a list. -/
inductive K where
  | b
  | i (k : IntKind)
  | x
  deriving DecidableEq, Repr, Inhabited

def K.norm : K → Int → Int
  | .b, n => if n = 0 then 0 else 1
  | .i k, n => k.wrap n
  | .x, n => n

def b2i (b : Bool) : Int := bif b then 1 else 0
def i2b (n : Int) : Bool := !(n == 0)

@[simp] theorem i2b_b2i (b : Bool) : i2b (b2i b) = b := by cases b <;> rfl

/-- Scalar expressions. -/
inductive E where
  | lit (k : K) (n : Int)
  | var (k : K) (i : Nat)
  | app (k : K) (f j : Nat) (args : List E)
  | bin (op : BinOp) (k : IntKind) (a b : E)
  | dv (op : BinOp) (k : IntKind) (a : E) (n : Int)
  | sh (op : BinOp) (k : IntKind) (a b : E)
  | cmp (op : BinOp) (a b : E)
  | conv (k : IntKind) (a : E)
  | not (a : E)
  | and (a b : E)
  | or (a b : E)
  | ite (c a b : E)
  deriving Repr, Inhabited

def bitsI (op : BinOp) (k : IntKind) (x y : Int) : Int :=
  let a := BitVec.ofInt k.bits x
  let b := BitVec.ofInt k.bits y
  match op with
  | .and => k.wrap (a &&& b).toNat
  | .or => k.wrap (a ||| b).toNat
  | .xor => k.wrap (a ^^^ b).toNat
  | _ => k.wrap (a &&& ~~~b).toNat

def binI (op : BinOp) (k : IntKind) (x y : Int) : Int :=
  match op with
  | .add => k.wrap (x + y)
  | .sub => k.wrap (x - y)
  | .mul => k.wrap (x * y)
  | op => bitsI op k x y

def dvI (op : BinOp) (k : IntKind) (x n : Int) : Int :=
  match op with
  | .quo => k.wrap (x.tdiv n)
  | _ => x.tmod n

def shI (op : BinOp) (k : IntKind) (x y : Int) : Int :=
  match op with
  | .shl => k.wrap (x * 2 ^ (min y.toNat k.bits))
  | _ => x.fdiv (2 ^ (min y.toNat k.bits))

def cmpB (op : BinOp) (x y : Int) : Bool :=
  match op with
  | .eql => x == y
  | .neq => x != y
  | .lss => decide (x < y)
  | .leq => decide (x ≤ y)
  | .gtr => decide (x > y)
  | _ => decide (x ≥ y)

/-- What the functions that are taken by their summaries compute: function, component, arguments. -/
abbrev Fam := Nat → Nat → List Int → Int

mutual
def E.den (F : Fam) (ρ : Nat → Int) : E → Int
  | .lit k n => k.norm n
  | .var k i => k.norm (ρ i)
  | .app k f j as => k.norm (F f j (E.denL F ρ as))
  | .bin op k a b => binI op k (E.den F ρ a) (E.den F ρ b)
  | .dv op k a n => dvI op k (E.den F ρ a) n
  | .sh op k a b => shI op k (E.den F ρ a) (E.den F ρ b)
  | .cmp op a b => b2i (cmpB op (E.den F ρ a) (E.den F ρ b))
  | .conv k a => k.wrap (E.den F ρ a)
  | .not a => b2i (!i2b (E.den F ρ a))
  | .and a b => b2i (i2b (E.den F ρ a) && i2b (E.den F ρ b))
  | .or a b => b2i (i2b (E.den F ρ a) || i2b (E.den F ρ b))
  | .ite c a b => bif i2b (E.den F ρ c) then E.den F ρ a else E.den F ρ b
def E.denL (F : Fam) (ρ : Nat → Int) : List E → List Int
  | [] => []
  | e :: r => E.den F ρ e :: E.denL F ρ r
end

theorem denL_eq (F : Fam) (ρ : Nat → Int) (l : List E) : E.denL F ρ l = l.map (E.den F ρ) := by
  induction l with
  | nil => simp [E.denL]
  | cons e r ih => simp [E.denL, ih]

def E.kind : E → K
  | .lit k _ | .var k _ | .app k .. => k
  | .bin _ k .. | .dv _ k .. | .sh _ k .. | .conv k _ => .i k
  | .cmp .. | .not _ | .and .. | .or .. => .b
  | .ite _ a _ => a.kind

/-- The Bool of an expression. -/
def E.tt (F : Fam) (ρ : Nat → Int) (e : E) : Bool := i2b (e.den F ρ)

/-! ### equality of expressions, for the evaluator's own use -/
mutual
def E.same : E → E → Bool
  | .lit k n, .lit k' n' => decide (k = k') && decide (n = n')
  | .var k i, .var k' i' => decide (k = k') && decide (i = i')
  | .app k f j as, .app k' f' j' as' => decide (k = k') && decide (f = f') && decide (j = j') && E.sameL as as'
  | .bin op k a b, .bin op' k' a' b' => decide (op = op') && decide (k = k') && E.same a a' && E.same b b'
  | .dv op k a n, .dv op' k' a' n' => decide (op = op') && decide (k = k') && E.same a a' && decide (n = n')
  | .sh op k a b, .sh op' k' a' b' => decide (op = op') && decide (k = k') && E.same a a' && E.same b b'
  | .cmp op a b, .cmp op' a' b' => decide (op = op') && E.same a a' && E.same b b'
  | .conv k a, .conv k' a' => decide (k = k') && E.same a a'
  | .not a, .not a' => E.same a a'
  | .and a b, .and a' b' => E.same a a' && E.same b b'
  | .or a b, .or a' b' => E.same a a' && E.same b b'
  | .ite c a b, .ite c' a' b' => E.same c c' && E.same a a' && E.same b b'
  | _, _ => false
def E.sameL : List E → List E → Bool
  | [], [] => true
  | e :: r, e' :: r' => E.same e e' && E.sameL r r'
  | _, _ => false
end

mutual
theorem E.same_eq : ∀ (a b : E), E.same a b = true → a = b
  | .lit .., b, h => by cases b <;> simp_all [E.same]
  | .var .., b, h => by cases b <;> simp_all [E.same]
  | .app k f j as, b, h => by
    cases b <;> simp [E.same] at h
    obtain ⟨⟨⟨rfl, rfl⟩, rfl⟩, h4⟩ := h
    rw [E.sameL_eq _ _ h4]
  | .bin op k a b, c, h => by
    cases c <;> simp [E.same] at h
    obtain ⟨⟨⟨rfl, rfl⟩, h3⟩, h4⟩ := h
    rw [E.same_eq _ _ h3, E.same_eq _ _ h4]
  | .dv op k a n, c, h => by
    cases c <;> simp [E.same] at h
    obtain ⟨⟨⟨rfl, rfl⟩, h3⟩, rfl⟩ := h
    rw [E.same_eq _ _ h3]
  | .sh op k a b, c, h => by
    cases c <;> simp [E.same] at h
    obtain ⟨⟨⟨rfl, rfl⟩, h3⟩, h4⟩ := h
    rw [E.same_eq _ _ h3, E.same_eq _ _ h4]
  | .cmp op a b, c, h => by
    cases c <;> simp [E.same] at h
    obtain ⟨⟨rfl, h3⟩, h4⟩ := h
    rw [E.same_eq _ _ h3, E.same_eq _ _ h4]
  | .conv k a, c, h => by
    cases c <;> simp [E.same] at h
    obtain ⟨rfl, h3⟩ := h
    rw [E.same_eq _ _ h3]
  | .not a, c, h => by
    cases c <;> simp [E.same] at h
    rw [E.same_eq _ _ h]
  | .and a b, c, h => by
    cases c <;> simp [E.same] at h
    rw [E.same_eq _ _ h.1, E.same_eq _ _ h.2]
  | .or a b, c, h => by
    cases c <;> simp [E.same] at h
    rw [E.same_eq _ _ h.1, E.same_eq _ _ h.2]
  | .ite a b d, c, h => by
    cases c <;> simp [E.same] at h
    rw [E.same_eq _ _ h.1.1, E.same_eq _ _ h.1.2, E.same_eq _ _ h.2]
theorem E.sameL_eq : ∀ (a b : List E), E.sameL a b = true → a = b
  | [], [], _ => rfl
  | [], _ :: _, h => by simp [E.sameL] at h
  | _ :: _, [], h => by simp [E.sameL] at h
  | e :: r, e' :: r', h => by
    simp [E.sameL] at h
    rw [E.same_eq _ _ h.1, E.sameL_eq _ _ h.2]
end

/-! ### smart constructors -/
def E.lit? : E → Option Int
  | .lit k n => some (k.norm n)
  | _ => none

theorem E.lit?_den {e : E} {n : Int} (h : e.lit? = some n) (F : Fam) (ρ : Nat → Int) : e.den F ρ = n := by
  cases e <;> simp_all [E.lit?, E.den]

theorem K.norm_norm (k : K) (n : Int) : k.norm (k.norm n) = k.norm n := by
  cases k with
  | b => simp only [K.norm]; split <;> simp
  | i k => cases k <;> simp only [K.norm, IntKind.wrap, IntKind.signed, IntKind.bits] <;> simp <;> (try split) <;> (try split) <;> omega
  | x => rfl

theorem wrap_wrap (k : IntKind) (n : Int) : k.wrap (k.wrap n) = k.wrap n := K.norm_norm (.i k) n

/-- The literal of an expression's value, where all is literal. -/
def mkB (b : Bool) : E := .lit .b (b2i b)

@[simp] theorem mkB_den (b : Bool) (F : Fam) (ρ : Nat → Int) : (mkB b).den F ρ = b2i b := by cases b <;> simp [mkB, E.den, K.norm, b2i]
@[simp] theorem mkB_tt (b : Bool) (F : Fam) (ρ : Nat → Int) : (mkB b).tt F ρ = b := by simp [E.tt]

/-- Every expression of kind b is 0 or 1, every one of an integer kind is in range. -/
theorem tmod_wrap (k : IntKind) (x n : Int) (h : k.wrap x = x) : k.wrap (x.tmod n) = x.tmod n := by
  have hb : -(x.natAbs : Int) ≤ x.tmod n ∧ x.tmod n ≤ x.natAbs ∧ (0 ≤ x → 0 ≤ x.tmod n) ∧ (x ≤ 0 → x.tmod n ≤ 0) := by
    have h1 : (x.tmod n).natAbs ≤ x.natAbs := by rw [Int.natAbs_tmod]; exact Nat.mod_le _ _
    rcases Int.le_total 0 x with hx | hx
    · have := Int.tmod_nonneg n hx
      omega
    · have e : x.tmod n = -((-x).tmod n) := by rw [Int.neg_tmod]; simp
      have := Int.tmod_nonneg n (show 0 ≤ -x by omega)
      omega
  revert h hb
  generalize x.tmod n = y
  intro h hb
  cases k <;> simp only [IntKind.wrap, IntKind.signed, IntKind.bits] at h ⊢ <;> simp at h ⊢ <;> (try split at h) <;> (try split) <;> omega

theorem fdiv_wrap (k : IntKind) (x : Int) (m : Nat) (h : k.wrap x = x) : k.wrap (x.fdiv (2 ^ m)) = x.fdiv (2 ^ m) := by
  have hp : (0 : Int) < 2 ^ m := Int.pow_pos (by decide)
  have hb : (0 ≤ x → 0 ≤ x.fdiv (2 ^ m) ∧ x.fdiv (2 ^ m) ≤ x) ∧ (x < 0 → x ≤ x.fdiv (2 ^ m) ∧ x.fdiv (2 ^ m) < 0) := by
    rw [Int.fdiv_eq_ediv_of_nonneg _ (by omega)]
    constructor
    · intro hx
      exact ⟨Int.ediv_nonneg hx (by omega), Int.ediv_le_self _ hx⟩
    · intro hx
      refine ⟨?_, Int.ediv_neg_of_neg_of_pos hx hp⟩
      rw [Int.le_ediv_iff_mul_le hp]
      have : x * 2 ^ m ≤ x * 1 := Int.mul_le_mul_of_nonpos_left (by omega) (by omega)
      omega
  revert h hb
  generalize x.fdiv (2 ^ m) = y
  intro h hb
  cases k <;> simp only [IntKind.wrap, IntKind.signed, IntKind.bits] at h ⊢ <;> simp at h ⊢ <;> (try split at h) <;> (try split) <;> omega

def E.sound : E → Bool
  | .lit .. | .var .. | .app .. | .bin .. | .cmp .. | .not _ | .and .. | .or .. => true
  | .conv _ a => a.sound
  | .dv _ k a n => decide (a.kind = .i k) && decide (n ≠ 0) && a.sound
  | .sh op k a _ => (decide (op = .shl) || decide (a.kind = .i k)) && a.sound
  | .ite _ a b => decide (a.kind = b.kind) && a.sound && b.sound

theorem norm_b2i (b : Bool) : K.b.norm (b2i b) = b2i b := by cases b <;> rfl

theorem E.den_norm (F : Fam) (ρ : Nat → Int) : ∀ (e : E), e.sound = true → e.kind.norm (e.den F ρ) = e.den F ρ
  | .lit k n, _ => by simp only [E.den, E.kind]; exact K.norm_norm k n
  | .var k i, _ => by simp only [E.den, E.kind]; exact K.norm_norm k _
  | .app k f j as, _ => by simp only [E.den, E.kind]; exact K.norm_norm k _
  | .bin op k a b, _ => by
    simp only [E.den, E.kind, K.norm]
    cases op <;> simp only [binI, bitsI, wrap_wrap]
  | .dv op k a n, h => by
    simp only [E.sound, Bool.and_eq_true, decide_eq_true_eq] at h
    have ih := E.den_norm F ρ a h.2
    rw [h.1.1] at ih
    simp only [E.den, E.kind, K.norm]
    cases op <;> simp only [dvI, wrap_wrap] <;> exact tmod_wrap k _ n ih
  | .sh op k a b, h => by
    simp only [E.sound, Bool.and_eq_true, Bool.or_eq_true, decide_eq_true_eq] at h
    have ih := E.den_norm F ρ a h.2
    simp only [E.den, E.kind, K.norm]
    rcases h.1 with h1 | h1
    · subst h1; simp only [shI, wrap_wrap]
    · rw [h1] at ih
      cases op <;> simp only [shI, wrap_wrap] <;> exact fdiv_wrap k _ _ ih
  | .cmp .., _ => by simp only [E.den, E.kind]; exact norm_b2i _
  | .conv k a, _ => by simp only [E.den, E.kind, K.norm]; exact wrap_wrap k _
  | .not _, _ => by simp only [E.den, E.kind]; exact norm_b2i _
  | .and .., _ => by simp only [E.den, E.kind]; exact norm_b2i _
  | .or .., _ => by simp only [E.den, E.kind]; exact norm_b2i _
  | .ite c a b, h => by
    simp only [E.sound, Bool.and_eq_true, decide_eq_true_eq] at h
    have iha := E.den_norm F ρ a h.1.2
    have ihb := E.den_norm F ρ b h.2
    simp only [E.den, E.kind]
    cases i2b (E.den F ρ c)
    · simp only [cond_false]; rw [h.1.1]; exact ihb
    · simp only [cond_true]; exact iha

theorem tt_b2i {F : Fam} {ρ : Nat → Int} {e : E} (hs : e.sound = true) (hk : e.kind = .b) : b2i (e.tt F ρ) = e.den F ρ := by
  have h := E.den_norm F ρ e hs
  rw [hk] at h
  unfold E.tt
  revert h
  generalize e.den F ρ = x
  intro h
  simp only [K.norm] at h
  split at h
  · subst h; rfl
  · subst h; rfl

/-- The scalar that an expression stands for. -/
def E.val (F : Fam) (ρ : Nat → Int) (e : E) : Value :=
  match e.kind with
  | .b => .bool (e.tt F ρ)
  | .i k => .int k (e.den F ρ)
  | .x => .int .i64 (e.den F ρ)

theorem E.val_x {F : Fam} {ρ : Nat → Int} {e : E} (h : e.kind = .x) : e.val F ρ = .int .i64 (e.den F ρ) := by simp [E.val, h]
theorem E.val_b {F : Fam} {ρ : Nat → Int} {e : E} (h : e.kind = .b) : e.val F ρ = .bool (e.tt F ρ) := by simp [E.val, h]
theorem E.val_i {F : Fam} {ρ : Nat → Int} {e : E} {k : IntKind} (h : e.kind = .i k) : e.val F ρ = .int k (e.den F ρ) := by simp [E.val, h]
@[simp] theorem mkB_kind (b : Bool) : (mkB b).kind = .b := rfl
@[simp] theorem mkB_val (b : Bool) (F : Fam) (ρ : Nat → Int) : (mkB b).val F ρ = .bool b := by simp [E.val]

theorem lit?_tt {e : E} {n : Int} (h : e.lit? = some n) (F : Fam) (ρ : Nat → Int) : e.tt F ρ = i2b n := by unfold E.tt; rw [E.lit?_den h]

def mkNot (e : E) : E :=
  match e.lit? with
  | some n => mkB (!i2b n)
  | none => match e with
    | .not a => if a.kind = .b then a else .not e
    | e => .not e
theorem mkNot_spec (e : E) (F : Fam) (ρ : Nat → Int) : (mkNot e).tt F ρ = !e.tt F ρ ∧ (mkNot e).kind = .b := by
  unfold mkNot
  split
  · rename_i n h; simp [lit?_tt h]
  · split
    · rename_i a _
      split
      · rename_i ha; exact ⟨by simp [E.tt, E.den], ha⟩
      · exact ⟨by simp [E.tt, E.den], rfl⟩
    · exact ⟨by simp [E.tt, E.den], rfl⟩

def mkAnd (a b : E) : E :=
  match a.lit? with
  | some n => bif i2b n then b else mkB false
  | none => match b.lit? with
    | some n => bif i2b n then a else mkB false
    | none => if a.same b then a else .and a b
theorem mkAnd_spec (a b : E) (ha : a.kind = .b) (hb : b.kind = .b) (F : Fam) (ρ : Nat → Int) : (mkAnd a b).tt F ρ = (a.tt F ρ && b.tt F ρ) ∧ (mkAnd a b).kind = .b := by
  unfold mkAnd
  split
  · rename_i n h; rw [lit?_tt h]; cases i2b n <;> simp [hb]
  · split
    · rename_i n h; rw [lit?_tt h]; cases i2b n <;> simp [ha]
    · split
      · rename_i h; rw [← E.same_eq _ _ h]; simp [ha]
      · exact ⟨by simp [E.tt, E.den], rfl⟩

def mkOr (a b : E) : E :=
  match a.lit? with
  | some n => bif i2b n then mkB true else b
  | none => match b.lit? with
    | some n => bif i2b n then mkB true else a
    | none => if a.same b then a else .or a b
theorem mkOr_spec (a b : E) (ha : a.kind = .b) (hb : b.kind = .b) (F : Fam) (ρ : Nat → Int) : (mkOr a b).tt F ρ = (a.tt F ρ || b.tt F ρ) ∧ (mkOr a b).kind = .b := by
  unfold mkOr
  split
  · rename_i n h; rw [lit?_tt h]; cases i2b n <;> simp [hb]
  · split
    · rename_i n h; rw [lit?_tt h]; cases i2b n <;> simp [ha]
    · split
      · rename_i h; rw [← E.same_eq _ _ h]; simp [ha]
      · exact ⟨by simp [E.tt, E.den], rfl⟩

/-- A choice between two numbers of one kind. -/
def mkIteI (k : IntKind) (c a b : E) : E :=
  match a, b with
  | .bin .add k' x p, b => if k' = k ∧ x.same b = true ∧ b.sound = true ∧ b.kind = .i k then .bin .add k b (.ite c p (.lit (.i k) 0)) else .ite c a b
  | a, .bin .add k' x p => if k' = k ∧ x.same a = true ∧ a.sound = true ∧ a.kind = .i k then .bin .add k a (.ite c (.lit (.i k) 0) p) else .ite c a b
  | a, b => .ite c a b

theorem wrap_zero (k : IntKind) : k.wrap 0 = 0 := by cases k <;> rfl

theorem mkIteI_spec (k : IntKind) (c a b : E) (ha : a.kind = .i k) (hb : b.kind = .i k) (F : Fam) (ρ : Nat → Int) :
    (mkIteI k c a b).den F ρ = (bif c.tt F ρ then a.den F ρ else b.den F ρ) ∧ (mkIteI k c a b).kind = .i k := by
  have key : ∀ (x : E), x.sound = true → x.kind = .i k → k.wrap (x.den F ρ + 0) = x.den F ρ := fun x h1 h2 => by
    have := E.den_norm F ρ x h1
    rw [h2] at this
    simpa [K.norm] using this
  unfold mkIteI
  split
  · rename_i k' x p
    split
    · rename_i h
      obtain ⟨rfl, h2, h3, h4⟩ := h
      have e := E.same_eq _ _ h2
      subst e
      refine ⟨?_, rfl⟩
      simp only [E.den, binI, E.tt, K.norm, wrap_zero]
      cases i2b (E.den F ρ c) <;> simp only [cond_true, cond_false]
      exact key _ h3 h4
    · exact ⟨by simp [E.den, E.tt], by simpa [E.kind] using ha⟩
  · rename_i k' x p _
    split
    · rename_i h
      obtain ⟨rfl, h2, h3, h4⟩ := h
      have e := E.same_eq _ _ h2
      subst e
      refine ⟨?_, rfl⟩
      simp only [E.den, binI, E.tt, K.norm, wrap_zero]
      cases i2b (E.den F ρ c) <;> simp only [cond_true, cond_false]
      exact key _ h3 h4
    · exact ⟨by simp [E.den, E.tt], by simpa [E.kind] using ha⟩
  · exact ⟨by simp [E.den, E.tt], by simpa [E.kind] using ha⟩

/-- A choice between two scalars of one kind. -/
def mkIte (c a b : E) : E :=
  match c.lit? with
  | some n => bif i2b n then a else b
  | none =>
    if a.same b then a else
    match a.kind with
    | .b => match a.lit?, b.lit? with
      | some n, _ => bif i2b n then mkOr c b else mkAnd (mkNot c) b
      | _, some n => bif i2b n then mkOr (mkNot c) a else mkAnd c a
      | none, none => .ite c a b
    | .i k => mkIteI k c a b
    | .x => .ite c a b

theorem mkIte_spec (c a b : E) (hc : c.kind = .b) (hk : a.kind = b.kind) (F : Fam) (ρ : Nat → Int) :
    (mkIte c a b).val F ρ = (bif c.tt F ρ then a.val F ρ else b.val F ρ) ∧ (mkIte c a b).kind = a.kind := by
  unfold mkIte
  split
  · rename_i n h; rw [lit?_tt h]; cases i2b n <;> simp [hk]
  · split
    · rename_i h; rw [← E.same_eq _ _ h]; cases c.tt F ρ <;> simp
    · split
      · rename_i ha
        have hb : b.kind = .b := by rw [← hk, ha]
        rw [E.val_b ha, E.val_b hb]
        split
        · rename_i n h
          rw [lit?_tt h]
          cases i2b n
          · have h1 := mkAnd_spec (mkNot c) b (mkNot_spec c F ρ).2 hb F ρ
            simp only [cond_false]
            rw [E.val_b h1.2, h1.1, (mkNot_spec c F ρ).1]
            exact ⟨by cases c.tt F ρ <;> simp, by rw [h1.2, ha]⟩
          · have h1 := mkOr_spec c b hc hb F ρ
            simp only [cond_true]
            rw [E.val_b h1.2, h1.1]
            exact ⟨by cases c.tt F ρ <;> simp, by rw [h1.2, ha]⟩
        · rename_i n h _
          rw [lit?_tt h]
          cases i2b n
          · have h1 := mkAnd_spec c a hc ha F ρ
            simp only [cond_false]
            rw [E.val_b h1.2, h1.1]
            exact ⟨by cases c.tt F ρ <;> simp, by rw [h1.2, ha]⟩
          · have h1 := mkOr_spec (mkNot c) a (mkNot_spec c F ρ).2 ha F ρ
            simp only [cond_true]
            rw [E.val_b h1.2, h1.1, (mkNot_spec c F ρ).1]
            exact ⟨by cases c.tt F ρ <;> simp, by rw [h1.2, ha]⟩
        · refine ⟨?_, by simp [E.kind, ha]⟩
          rw [E.val_b (by simpa [E.kind] using ha)]
          simp only [E.tt, E.den]
          cases i2b (E.den F ρ c) <;> simp
      · rename_i k ha
        have hb : b.kind = .i k := by rw [← hk, ha]
        have h1 := mkIteI_spec k c a b ha hb F ρ
        rw [E.val_i ha, E.val_i hb, E.val_i h1.2, h1.1]
        exact ⟨by cases c.tt F ρ <;> simp, by rw [h1.2, ha]⟩
      · rename_i ha
        have hb : b.kind = .x := by rw [← hk, ha]
        refine ⟨?_, by simp [E.kind, ha]⟩
        rw [E.val_x ha, E.val_x hb, E.val_x (by simpa [E.kind] using ha)]
        simp only [E.tt, E.den]
        cases i2b (E.den F ρ c) <;> simp

def mkBin (op : BinOp) (k : IntKind) (a b : E) : E :=
  match a.lit?, b.lit? with
  | some x, some y => .lit (.i k) (binI op k x y)
  | _, _ => .bin op k a b
theorem binI_wrap (op : BinOp) (k : IntKind) (x y : Int) : k.wrap (binI op k x y) = binI op k x y := by
  cases op <;> simp only [binI, bitsI, wrap_wrap]
theorem mkBin_spec (op : BinOp) (k : IntKind) (a b : E) (F : Fam) (ρ : Nat → Int) : (mkBin op k a b).val F ρ = .int k (binI op k (a.den F ρ) (b.den F ρ)) ∧ (mkBin op k a b).kind = .i k := by
  unfold mkBin
  split
  · rename_i x y h1 h2
    refine ⟨?_, rfl⟩
    rw [E.val_i rfl, E.lit?_den h1, E.lit?_den h2]
    simp [E.den, K.norm, binI_wrap]
  · exact ⟨by rw [E.val_i rfl]; simp [E.den], rfl⟩

def mkDv (op : BinOp) (k : IntKind) (a : E) (n : Int) : E :=
  match a.lit? with
  | some x => .lit (.i k) (dvI op k x n)
  | none => .dv op k a n
theorem mkDv_spec (op : BinOp) (k : IntKind) (a : E) (n : Int) (hs : a.sound = true) (hk : a.kind = .i k) (F : Fam) (ρ : Nat → Int) :
    (mkDv op k a n).val F ρ = .int k (dvI op k (a.den F ρ) n) ∧ (mkDv op k a n).kind = .i k := by
  unfold mkDv
  split
  · rename_i x h
    refine ⟨?_, rfl⟩
    have hx := E.den_norm F ρ a hs
    rw [hk, E.lit?_den h] at hx
    rw [E.val_i rfl, E.lit?_den h]
    simp only [E.den, K.norm]
    cases op <;> simp only [dvI, wrap_wrap] <;> rw [tmod_wrap k x n hx]
  · exact ⟨by rw [E.val_i rfl]; simp [E.den], rfl⟩

def mkSh (op : BinOp) (k : IntKind) (a b : E) : E :=
  match a.lit?, b.lit? with
  | some x, some y => .lit (.i k) (shI op k x y)
  | _, _ => .sh op k a b
theorem mkSh_spec (op : BinOp) (k : IntKind) (a b : E) (hs : a.sound = true) (hk : a.kind = .i k) (F : Fam) (ρ : Nat → Int) :
    (mkSh op k a b).val F ρ = .int k (shI op k (a.den F ρ) (b.den F ρ)) ∧ (mkSh op k a b).kind = .i k := by
  unfold mkSh
  split
  · rename_i x y h h'
    refine ⟨?_, rfl⟩
    have hx := E.den_norm F ρ a hs
    rw [hk, E.lit?_den h] at hx
    rw [E.val_i rfl, E.lit?_den h, E.lit?_den h']
    simp only [E.den, K.norm]
    cases op <;> simp only [shI, wrap_wrap] <;> rw [fdiv_wrap k x _ hx]
  · exact ⟨by rw [E.val_i rfl]; simp [E.den], rfl⟩

def mkCmp (op : BinOp) (a b : E) : E :=
  match a.lit?, b.lit? with
  | some x, some y => mkB (cmpB op x y)
  | _, _ => bif a.same b then mkB (cmpB op 0 0) else .cmp op a b
theorem cmpB_same (op : BinOp) (x : Int) : cmpB op x x = cmpB op 0 0 := by cases op <;> simp [cmpB]
theorem mkCmp_spec (op : BinOp) (a b : E) (F : Fam) (ρ : Nat → Int) : (mkCmp op a b).tt F ρ = cmpB op (a.den F ρ) (b.den F ρ) ∧ (mkCmp op a b).kind = .b := by
  unfold mkCmp
  split
  · rename_i x y h1 h2
    rw [E.lit?_den h1, E.lit?_den h2]
    simp
  · cases hs : a.same b
    · exact ⟨by simp [E.tt, E.den], rfl⟩
    · rw [E.same_eq _ _ hs, cmpB_same op (E.den F ρ b)]
      simp

def mkConv (k : IntKind) (a : E) : E :=
  match a.lit? with
  | some x => .lit (.i k) x
  | none => .conv k a
theorem mkConv_spec (k : IntKind) (a : E) (F : Fam) (ρ : Nat → Int) : (mkConv k a).val F ρ = .int k (k.wrap (a.den F ρ)) ∧ (mkConv k a).kind = .i k := by
  unfold mkConv
  split
  · rename_i x h
    rw [E.val_i rfl, E.lit?_den h]
    exact ⟨rfl, rfl⟩
  · exact ⟨by rw [E.val_i rfl]; simp [E.den], rfl⟩

/-- Whether two truth values are one. -/
def mkEqB (a b : E) : E :=
  match a.lit?, b.lit? with
  | some x, _ => bif i2b x then b else mkNot b
  | _, some y => bif i2b y then a else mkNot a
  | none, none => .cmp .eql a b
theorem mkEqB_spec (a b : E) (ha : a.kind = .b) (hb : b.kind = .b) (sa : a.sound = true) (sb : b.sound = true) (F : Fam) (ρ : Nat → Int) :
    (mkEqB a b).tt F ρ = (a.tt F ρ == b.tt F ρ) ∧ (mkEqB a b).kind = .b := by
  unfold mkEqB
  split
  · rename_i x h
    rw [lit?_tt h]
    have := mkNot_spec b F ρ
    cases i2b x <;> simp [hb, this]
  · rename_i y h _
    rw [lit?_tt h]
    have := mkNot_spec a F ρ
    cases i2b y <;> simp [ha, this]
  · refine ⟨?_, rfl⟩
    have ea := tt_b2i (F := F) (ρ := ρ) sa ha
    have eb := tt_b2i (F := F) (ρ := ρ) sb hb
    show i2b (b2i (cmpB .eql (a.den F ρ) (b.den F ρ))) = _
    rw [i2b_b2i, ← ea, ← eb]
    cases a.tt F ρ <;> cases b.tt F ρ <;> rfl

def litsOf : List E → Option (List Int)
  | [] => some []
  | e :: r => match e.lit?, litsOf r with
    | some n, some l => some (n :: l)
    | _, _ => none
theorem litsOf_den {l : List E} {ns : List Int} (h : litsOf l = some ns) (F : Fam) (ρ : Nat → Int) : l.map (E.den F ρ) = ns := by
  induction l generalizing ns with
  | nil => simp [litsOf] at h; simp [h]
  | cons e r ih =>
    simp only [litsOf] at h
    split at h
    · rename_i n l' h1 h2
      simp only [Option.some.injEq] at h
      subst h
      simp [E.lit?_den h1, ih h2]
    · cases h

def mkApp (F : Fam) (k : K) (f j : Nat) (as : List E) : E :=
  match litsOf as with
  | some ns => .lit k (F f j ns)
  | none => .app k f j as
theorem mkApp_spec (F : Fam) (k : K) (f j : Nat) (as : List E) (ρ : Nat → Int) : (mkApp F k f j as).den F ρ = k.norm (F f j (as.map (E.den F ρ))) ∧ (mkApp F k f j as).kind = k ∧ (mkApp F k f j as).sound = true := by
  unfold mkApp
  split
  · rename_i ns h
    refine ⟨?_, rfl, rfl⟩
    rw [litsOf_den h]
    simp [E.den]
  · exact ⟨by simp [E.den, denL_eq], rfl, rfl⟩

/-! ### bounds, for indices -/
def kindMax : K → Option Int
  | .b => some 1
  | .i .u8 => some 255
  | .i .u16 => some 65535
  | .i .u32 => some 4294967295
  | .i .u64 => some 18446744073709551615
  | _ => none

/-- An upper bound of an expression that is not negative. -/
def E.ub : E → Option Int
  | .lit k n => if 0 ≤ k.norm n then some (k.norm n) else none
  | .dv .rem k a n => match E.ub a with
    | some m => if 0 < n then some (min m (n - 1)) else none
    | none => none
  | .conv k a => match E.ub a with
    | some m => if k.wrap m = m ∧ (k.signed = false ∨ 0 ≤ m) then some m else kindMax (.i k)
    | none => kindMax (.i k)
  | .ite _ a b => match E.ub a, E.ub b with
    | some m, some n => some (max m n)
    | _, _ => none
  | e => kindMax e.kind

theorem kindMax_spec {k : K} {m n : Int} (h : kindMax k = some m) (hn : k.norm n = n) : 0 ≤ n ∧ n ≤ m := by
  cases k with
  | b =>
    simp only [kindMax, Option.some.injEq] at h
    simp only [K.norm] at hn
    split at hn <;> omega
  | i k =>
    cases k <;> simp only [kindMax, Option.some.injEq, reduceCtorEq] at h <;> simp only [K.norm, IntKind.wrap, IntKind.signed, IntKind.bits] at hn <;> simp at hn <;> omega
  | x => simp [kindMax] at h

theorem E.ub_spec (F : Fam) (ρ : Nat → Int) : ∀ (e : E) (m : Int), e.sound = true → e.ub = some m → 0 ≤ e.den F ρ ∧ e.den F ρ ≤ m
  | .lit k n, m, hs, h => by
    simp only [E.ub] at h
    split at h
    · simp only [Option.some.injEq] at h; simp only [E.den]; omega
    · cases h
  | .dv op k a n, m, hs, h => by
    have hn := E.den_norm F ρ _ hs
    cases op
    case rem =>
      simp only [E.ub] at h
      simp only [E.sound, Bool.and_eq_true] at hs
      split at h
      · rename_i m' hm
        have ih := E.ub_spec F ρ a m' hs.2 hm
        split at h
        · rename_i hn0
          simp only [Option.some.injEq] at h
          simp only [E.den, dvI]
          have h1 := Int.tmod_nonneg n ih.1
          have h2 := Int.tmod_lt_of_pos (E.den F ρ a) hn0
          have h3 : ((E.den F ρ a).tmod n).natAbs ≤ (E.den F ρ a).natAbs := by rw [Int.natAbs_tmod]; exact Nat.mod_le _ _
          omega
        · cases h
      · cases h
    all_goals
      simp only [E.ub] at h
      exact kindMax_spec h hn
  | .conv k a, m, hs, h => by
    have hn := E.den_norm F ρ _ hs
    simp only [E.ub] at h
    split at h
    · rename_i m' hm
      have ih := E.ub_spec F ρ a m' (by simpa [E.sound] using hs) hm
      split at h
      · rename_i hk
        simp only [Option.some.injEq] at h
        subst h
        simp only [E.den]
        obtain ⟨h1, h2⟩ := hk
        revert h1 h2 ih
        generalize E.den F ρ a = x
        intro ih h1 h2
        cases k <;> simp only [IntKind.wrap, IntKind.signed, IntKind.bits] at h1 ⊢ <;> simp at h1 ⊢ <;> (try split at h1) <;> (try split) <;> omega
      · exact kindMax_spec h hn
    · exact kindMax_spec h hn
  | .ite c a b, m, hs, h => by
    simp only [E.ub] at h
    simp only [E.sound, Bool.and_eq_true] at hs
    split at h
    · rename_i m1 m2 h1 h2
      simp only [Option.some.injEq] at h
      have i1 := E.ub_spec F ρ a m1 hs.1.2 h1
      have i2 := E.ub_spec F ρ b m2 hs.2 h2
      simp only [E.den]
      cases i2b (E.den F ρ c) <;> simp only [cond_true, cond_false] <;> omega
    · cases h
  | .var k i, m, hs, h => by have hn := E.den_norm F ρ _ hs; simp only [E.ub] at h; exact kindMax_spec h hn
  | .app k f j as, m, hs, h => by have hn := E.den_norm F ρ _ hs; simp only [E.ub] at h; exact kindMax_spec h hn
  | .bin op k a b, m, hs, h => by have hn := E.den_norm F ρ _ hs; simp only [E.ub] at h; exact kindMax_spec h hn
  | .sh op k a b, m, hs, h => by have hn := E.den_norm F ρ _ hs; simp only [E.ub] at h; exact kindMax_spec h hn
  | .cmp op a b, m, hs, h => by have hn := E.den_norm F ρ _ hs; simp only [E.ub] at h; exact kindMax_spec h hn
  | .not a, m, hs, h => by have hn := E.den_norm F ρ _ hs; simp only [E.ub] at h; exact kindMax_spec h hn
  | .and a b, m, hs, h => by have hn := E.den_norm F ρ _ hs; simp only [E.ub] at h; exact kindMax_spec h hn
  | .or a b, m, hs, h => by have hn := E.den_norm F ρ _ hs; simp only [E.ub] at h; exact kindMax_spec h hn

/-! ### codes of lists of rows of numbers -/
def prN (a b : Nat) : Nat := 2 ^ a * (2 * b + 1)
theorem prN_inj {a b c d : Nat} (h : prN a b = prN c d) : a = c ∧ b = d := by
  unfold prN at h
  have key : ∀ {a b c d : Nat}, a < c → 2 ^ a * (2 * b + 1) = 2 ^ c * (2 * d + 1) → False := fun {a b c d} hl h => by
    obtain ⟨k, rfl⟩ : ∃ k, c = a + 1 + k := ⟨c - a - 1, by omega⟩
    rw [show a + 1 + k = a + (1 + k) by omega, Nat.pow_add, Nat.mul_assoc] at h
    have := Nat.eq_of_mul_eq_mul_left (Nat.two_pow_pos a) h
    rw [Nat.pow_add, Nat.pow_one, Nat.mul_assoc] at this
    omega
  rcases Nat.lt_trichotomy a c with hl | hl | hl
  · exact (key hl h).elim
  · subst hl
    have := Nat.eq_of_mul_eq_mul_left (Nat.two_pow_pos a) h
    omega
  · exact (key hl h.symm).elim
def zzN : Int → Nat
  | .ofNat n => 2 * n
  | .negSucc n => 2 * n + 1
theorem zzN_inj : ∀ {a b : Int}, zzN a = zzN b → a = b
  | .ofNat _, .ofNat _, h => by simp only [zzN] at h; congr 1; omega
  | .ofNat _, .negSucc _, h => by simp only [zzN] at h; omega
  | .negSucc _, .ofNat _, h => by simp only [zzN] at h; omega
  | .negSucc _, .negSucc _, h => by simp only [zzN] at h; congr 1; omega
def rowN : List Int → Nat
  | [] => 0
  | a :: l => prN (zzN a) (rowN l)
theorem prN_pos (a b : Nat) : 0 < prN a b := Nat.mul_pos (Nat.two_pow_pos a) (by omega)
theorem rowN_inj : ∀ {a b : List Int}, rowN a = rowN b → a = b
  | [], [], _ => rfl
  | [], x :: l, h => by have := prN_pos (zzN x) (rowN l); simp only [rowN] at h; omega
  | x :: l, [], h => by have := prN_pos (zzN x) (rowN l); simp only [rowN] at h; omega
  | x :: l, y :: r, h => by
    simp only [rowN] at h
    obtain ⟨h1, h2⟩ := prN_inj h
    rw [zzN_inj h1, rowN_inj h2]
def rowsN : List (List Int) → Nat
  | [] => 0
  | a :: l => prN (rowN a) (rowsN l)
theorem rowsN_inj : ∀ {a b : List (List Int)}, rowsN a = rowsN b → a = b
  | [], [], _ => rfl
  | [], x :: l, h => by have := prN_pos (rowN x) (rowsN l); simp only [rowsN] at h; omega
  | x :: l, [], h => by have := prN_pos (rowN x) (rowsN l); simp only [rowsN] at h; omega
  | x :: l, y :: r, h => by
    simp only [rowsN] at h
    obtain ⟨h1, h2⟩ := prN_inj h
    rw [rowN_inj h1, rowsN_inj h2]
/-- Rows of numbers: what a list holds. A number may itself be the code of rows. -/
abbrev RL := List (List Int)
/-- The code of rows, and the rows of a code. -/
def cd (l : RL) : Int := (rowsN l : Int)
open Classical in
noncomputable def dc (n : Int) : RL := if h : ∃ l, cd l = n then h.choose else []
@[simp] theorem dc_cd (l : RL) : dc (cd l) = l := by
  unfold dc
  have h : ∃ r, cd r = cd l := ⟨l, rfl⟩
  rw [dif_pos h]
  have : cd h.choose = cd l := h.choose_spec
  exact rowsN_inj (Int.ofNat_inj.1 this)
/-- The numbers that are codes. -/
def isCd (n : Int) : Prop := cd (dc n) = n
@[simp] theorem isCd_cd (l : RL) : isCd (cd l) := by unfold isCd; rw [dc_cd]

/-! ### what is done with lists -/
def splR (r : List Int) (j : Nat) (vs : List Int) : List Int := r.take j ++ vs ++ r.drop (j + vs.length)
/-- A map's entry of a key is written, or put at the end; it is taken out. -/
def putR (n : Nat) (row : List Int) : RL → RL
  | [] => [row]
  | r :: l => if r.take n == row.take n then row :: l else r :: putR n row l
def delR (k : List Int) : RL → RL
  | [] => []
  | r :: l => if r.take k.length == k then l else r :: delR k l
noncomputable def bi : Nat → List Int → Int
  | 0, [c] => ((dc c).length : Int)
  | 1, [c, i, j] => ((dc c).getD i.toNat []).getD j.toNat 0
  | 2, [] => cd []
  | 3, c :: row => cd (dc c ++ [row])
  | 4, [c, d] => cd (dc c ++ dc d)
  | 5, [c, a, b] => cd (((dc c).take b.toNat).drop a.toNat)
  | 6, c :: i :: j :: vs => cd ((dc c).set i.toNat (splR ((dc c).getD i.toNat []) j.toNat vs))
  | 7, n :: row => cd (List.replicate n.toNat row)
  | 8, c :: row => b2i ((dc c).any fun r => r.take row.length == row)
  | 9, c :: n :: j :: row => (((dc c).find? fun r => r.take row.length == row).getD (row ++ List.replicate n.toNat 0)).getD j.toNat 0
  | 10, c :: n :: row => cd (putR n.toNat row (dc c))
  | 11, c :: row => cd (delR row (dc c))
  | 12, c :: n :: row => cd (List.replicate (dc c).length row)
  | 20, [x, y] => x.tdiv y
  | 21, [x, y] => x.tmod y
  | _, _ => 0

def LEN (c : E) : E := .app (.i .i64) 0 0 [c]
def CEL (k : K) (c i : E) (j : Nat) : E := .app k 0 1 [c, i, .lit .x j]
def NILL : E := .app .x 0 2 []
end Go.Proofs.YtbolcnlenmphhaaDoor.Ew

/- The symbolic values of the evaluator and what they denote; merging; shapes of arguments and results. No program is in sight here. -/
set_option linter.unusedVariables false
set_option linter.unusedSimpArgs false
namespace Go.Proofs.YtbolcnlenmphhaaDoor.Ew
open Go Go.RowKit

/-- Values that are there once: the nil ones. -/
inductive CV where
  | nP
  | nF
  | nS
  | nI
  | nM
  | nC
  deriving Repr, Inhabited, DecidableEq
def CV.val : CV → Value
  | .nP => .pointer none
  | .nF => .nilFunc
  | .nS => .slice none 0 0
  | .nI => .nilIface
  | .nM => .map none
  | .nC => .chan none

/-- Where a named thing lies: a block (with an offset in it), a slice's capacity, whether it is nil. -/
structure Hd where
  blk : Nat
  off : Nat := 0
  cap : Nat := 0
  nil : Bool := false
  v : Value := undef
  deriving Inhabited
/-- The header of a slice of so many elements. -/
def Hd.sl (h : Hd) (len : Nat) : Value := bif h.nil && len == 0 then .slice none 0 0 else .slice (some ⟨h.blk, h.off, none⟩) len h.cap

/-- Symbolic values. Memory blocks of the call's own have names (numbers). -/
inductive SV where
  | sc (e : E)
  | ptr (n off : Nat)
  | pi (n off str : Nat) (e : E)
  | sl (n off len cap : Nat)
  | ls (n : Nat) (le : E)
  | pe (n str : Nat) (i : E) (o : Nat)
  | mp (n : Nat)
  | oq (n : Nat)
  | fn (f : Nat) (cs : List SV)
  | agg (cs : List SV)
  | tup (vs : List SV)
  | gd (gs : List E) (v : SV)
  | ite (c : E) (a b : SV)
  | und
  | nilp (c : CV)
  | gl (b off : Nat)
  deriving Repr, Inhabited

mutual
def SV.conc (F : Fam) (ρ : Nat → Int) (ad : Nat → Hd) : SV → Value
  | .sc e => e.val F ρ
  | .ptr n off => .pointer (some ⟨(ad n).blk, off, none⟩)
  | .pi n off str e => .pointer (some ⟨(ad n).blk, off + (e.den F ρ).toNat * str, none⟩)
  | .sl n off len cap => .slice (some ⟨(ad n).blk, off, none⟩) len cap
  | .ls n le => (ad n).sl (le.den F ρ).toNat
  | .pe n str i o => .pointer (some ⟨(ad n).blk, (ad n).off + (i.den F ρ).toNat * str + o, none⟩)
  | .mp n => .map (some (ad n).blk)
  | .oq n => (ad n).v
  | .fn f cs => .func (.func f) #[] (SV.concL F ρ ad cs).toArray
  | .agg cs => .agg (SV.concL F ρ ad cs).toArray
  | .tup vs => .tuple (SV.concL F ρ ad vs).toArray
  | .gd gs v => bif gs.all (fun g => g.tt F ρ) then SV.conc F ρ ad v else undef
  | .ite c a b => bif c.tt F ρ then SV.conc F ρ ad a else SV.conc F ρ ad b
  | .und => undef
  | .nilp c => c.val
  | .gl b off => .pointer (some ⟨b, off, none⟩)
def SV.concL (F : Fam) (ρ : Nat → Int) (ad : Nat → Hd) : List SV → List Value
  | [] => []
  | v :: r => SV.conc F ρ ad v :: SV.concL F ρ ad r
end

theorem concL_eq (F : Fam) (ρ : Nat → Int) (ad : Nat → Hd) (l : List SV) : SV.concL F ρ ad l = l.map (SV.conc F ρ ad) := by
  induction l with
  | nil => simp [SV.concL]
  | cons e r ih => simp [SV.concL, ih]

/- All names that occur satisfy p. -/
mutual
def SV.ok (p : Nat → Prop) : SV → Prop
  | .ptr n _ | .pi n _ _ _ | .sl n _ _ _ | .ls n _ | .pe n _ _ _ | .mp n | .oq n => p n
  | .fn _ cs | .agg cs | .tup cs => SV.okL p cs
  | .gd _ v => SV.ok p v
  | .ite _ a b => SV.ok p a ∧ SV.ok p b
  | _ => True
def SV.okL (p : Nat → Prop) : List SV → Prop
  | [] => True
  | v :: r => SV.ok p v ∧ SV.okL p r
end

theorem okL_iff (p : Nat → Prop) (l : List SV) : SV.okL p l ↔ ∀ v ∈ l, v.ok p := by
  induction l with
  | nil => simp [SV.okL]
  | cons v r ih => simp [SV.okL, ih]

mutual
theorem SV.ok_mono {p q : Nat → Prop} (h : ∀ n, p n → q n) : ∀ v : SV, v.ok p → v.ok q
  | .ptr n _, hv | .pi n _ _ _, hv | .sl n _ _ _, hv | .ls n _, hv | .pe n _ _ _, hv | .mp n, hv | .oq n, hv => by simp only [SV.ok] at hv ⊢; exact h _ hv
  | .fn _ cs, hv | .agg cs, hv | .tup cs, hv => by simp only [SV.ok] at hv ⊢; exact SV.okL_mono h cs hv
  | .gd _ v, hv => by simp only [SV.ok] at hv ⊢; exact SV.ok_mono h v hv
  | .ite _ a b, hv => by simp only [SV.ok] at hv ⊢; exact ⟨SV.ok_mono h a hv.1, SV.ok_mono h b hv.2⟩
  | .sc _, _ | .und, _ | .nilp _, _ | .gl _ _, _ => by simp [SV.ok]
theorem SV.okL_mono {p q : Nat → Prop} (h : ∀ n, p n → q n) : ∀ l : List SV, SV.okL p l → SV.okL q l
  | [], _ => trivial
  | v :: r, hv => by simp only [SV.okL] at hv ⊢; exact ⟨SV.ok_mono h v hv.1, SV.okL_mono h r hv.2⟩
end

mutual
theorem SV.conc_congr {F : Fam} {ρ : Nat → Int} {ad ad' : Nat → Hd} {p : Nat → Prop} (h : ∀ n, p n → ad n = ad' n) : ∀ v : SV, v.ok p → v.conc F ρ ad = v.conc F ρ ad'
  | .ptr n _, hv | .pi n _ _ _, hv | .sl n _ _ _, hv | .ls n _, hv | .pe n _ _ _, hv | .mp n, hv | .oq n, hv => by simp only [SV.ok] at hv; simp only [SV.conc, h n hv]
  | .fn _ cs, hv | .agg cs, hv | .tup cs, hv => by simp only [SV.ok] at hv; simp only [SV.conc, SV.concL_congr h cs hv]
  | .gd gs v, hv => by simp only [SV.ok] at hv; simp only [SV.conc, SV.conc_congr h v hv]
  | .ite _ a b, hv => by simp only [SV.ok] at hv; simp only [SV.conc, SV.conc_congr h a hv.1, SV.conc_congr h b hv.2]
  | .sc _, _ | .und, _ | .nilp _, _ | .gl _ _, _ => by simp [SV.conc]
theorem SV.concL_congr {F : Fam} {ρ : Nat → Int} {ad ad' : Nat → Hd} {p : Nat → Prop} (h : ∀ n, p n → ad n = ad' n) : ∀ l : List SV, SV.okL p l → SV.concL F ρ ad l = SV.concL F ρ ad' l
  | [], _ => rfl
  | v :: r, hv => by simp only [SV.okL] at hv; simp only [SV.concL, SV.conc_congr h v hv.1, SV.concL_congr h r hv.2]
end

/-- One cell. -/
def SV.one : SV → Bool
  | .sc _ | .ptr .. | .pi .. | .sl .. | .ls .. | .pe .. | .mp _ | .fn .. | .nilp _ | .gl .. => true
  | _ => false

theorem E.val_one (F : Fam) (ρ : Nat → Int) (e : E) : (e.val F ρ).oneCell' = true := by unfold E.val; split <;> rfl
theorem SV.one_conc {F : Fam} {ρ : Nat → Int} {ad : Nat → Hd} {v : SV} (h : v.one = true) : (v.conc F ρ ad).oneCell' = true := by
  cases v with
  | sc e => exact E.val_one F ρ e
  | nilp c => cases c <;> rfl
  | ls n le => simp only [SV.conc, Hd.sl]; cases (ad n).nil && (E.den F ρ le).toNat == 0 <;> rfl
  | _ => simp_all [SV.one, SV.conc, Value.oneCell']

def SV.cells : SV → List SV
  | .agg cs => cs
  | v => [v]
theorem one_cells {v : Value} (h : v.oneCell' = true) : v.cells = #[v] := by cases v <;> simp_all [Value.oneCell', Value.cells]
theorem SV.cells_conc {F : Fam} {ρ : Nat → Int} {ad : Nat → Hd} {v : SV} (h : v.cells.all SV.one = true) : (v.conc F ρ ad).cells = (SV.concL F ρ ad v.cells).toArray := by
  cases v with
  | agg cs => simp [SV.cells, SV.conc, Value.cells]
  | _ =>
    simp only [SV.cells, List.all_cons, List.all_nil, Bool.and_true] at h
    rw [one_cells (SV.one_conc h)]
    simp [SV.cells, SV.concL]
theorem SV.ok_cells {p : Nat → Prop} {v : SV} (h : v.ok p) : SV.okL p v.cells := by
  cases v <;> simp_all [SV.cells, SV.ok, SV.okL]

/-! ### equality, for the evaluator's own use -/
mutual
def SV.same : SV → SV → Bool
  | .sc e, .sc e' => e.same e'
  | .ptr n o, .ptr n' o' => decide (n = n') && decide (o = o')
  | .pi n o s e, .pi n' o' s' e' => decide (n = n') && decide (o = o') && decide (s = s') && e.same e'
  | .sl n o l c, .sl n' o' l' c' => decide (n = n') && decide (o = o') && decide (l = l') && decide (c = c')
  | .ls n e, .ls n' e' => decide (n = n') && e.same e'
  | .pe n s e o, .pe n' s' e' o' => decide (n = n') && decide (s = s') && e.same e' && decide (o = o')
  | .mp n, .mp n' => decide (n = n')
  | .oq n, .oq n' => decide (n = n')
  | .fn f cs, .fn f' cs' => decide (f = f') && SV.sameL cs cs'
  | .agg cs, .agg cs' => SV.sameL cs cs'
  | .tup cs, .tup cs' => SV.sameL cs cs'
  | .und, .und => true
  | .nilp a, .nilp b => decide (a = b)
  | .gl b o, .gl b' o' => decide (b = b') && decide (o = o')
  | .gd gs v, .gd gs' v' => E.sameL gs gs' && SV.same v v'
  | .ite c a b, .ite c' a' b' => c.same c' && SV.same a a' && SV.same b b'
  | _, _ => false
def SV.sameL : List SV → List SV → Bool
  | [], [] => true
  | e :: r, e' :: r' => SV.same e e' && SV.sameL r r'
  | _, _ => false
end
mutual
theorem SV.same_eq : ∀ (a b : SV), SV.same a b = true → a = b
  | .sc e, c, h => by cases c <;> simp [SV.same] at h; rw [E.same_eq _ _ h]
  | .ptr .., c, h => by cases c <;> simp_all [SV.same]
  | .pi n o s e, c, h => by
    cases c <;> simp [SV.same] at h
    obtain ⟨⟨⟨rfl, rfl⟩, rfl⟩, h4⟩ := h
    rw [E.same_eq _ _ h4]
  | .sl .., c, h => by cases c <;> simp_all [SV.same]
  | .ls n e, c, h => by
    cases c <;> simp [SV.same] at h
    obtain ⟨rfl, h⟩ := h
    rw [E.same_eq _ _ h]
  | .pe n s e o, c, h => by
    cases c <;> simp [SV.same] at h
    obtain ⟨⟨⟨rfl, rfl⟩, h3⟩, rfl⟩ := h
    rw [E.same_eq _ _ h3]
  | .mp .., c, h | .oq .., c, h => by cases c <;> simp_all [SV.same]
  | .fn f cs, c, h => by
    cases c <;> simp [SV.same] at h
    obtain ⟨rfl, h⟩ := h
    rw [SV.sameL_eq _ _ h]
  | .agg cs, c, h => by cases c <;> simp [SV.same] at h; rw [SV.sameL_eq _ _ h]
  | .tup cs, c, h => by cases c <;> simp [SV.same] at h; rw [SV.sameL_eq _ _ h]
  | .und, c, h => by cases c <;> simp_all [SV.same]
  | .nilp _, c, h => by cases c <;> simp_all [SV.same]
  | .gl .., c, h => by cases c <;> simp_all [SV.same]
  | .gd gs v, c, h => by
    cases c <;> simp [SV.same] at h
    rw [E.sameL_eq _ _ h.1, SV.same_eq _ _ h.2]
  | .ite c a b, d, h => by
    cases d <;> simp [SV.same] at h
    rw [E.same_eq _ _ h.1.1, SV.same_eq _ _ h.1.2, SV.same_eq _ _ h.2]
theorem SV.sameL_eq : ∀ (a b : List SV), SV.sameL a b = true → a = b
  | [], [], _ => rfl
  | [], _ :: _, h => by simp [SV.sameL] at h
  | _ :: _, [], h => by simp [SV.sameL] at h
  | e :: r, e' :: r', h => by
    simp [SV.sameL] at h
    rw [SV.same_eq _ _ h.1, SV.sameL_eq _ _ h.2]
end

/-! ### a value under conditions -/
def holds (F : Fam) (ρ : Nat → Int) (cs : List E) : Bool := cs.all fun c => c.tt F ρ

def implied (cs : List E) (g : E) : Bool := cs.any fun c => c.same g

theorem implied_tt {F : Fam} {ρ : Nat → Int} {cs : List E} {g : E} (h : implied cs g = true) (hc : holds F ρ cs = true) : g.tt F ρ = true := by
  unfold implied at h
  unfold holds at hc
  obtain ⟨c, hm, hs⟩ := List.any_eq_true.1 h
  rw [← E.same_eq _ _ hs]
  exact List.all_eq_true.1 hc c hm

def strip (cs : List E) : SV → Option SV
  | .gd gs v => if gs.all (implied cs) = true then some v else none
  | .ite c a b => if implied cs c = true then some a else if implied cs (mkNot c) = true then some b else some (.ite c a b)
  | v => some v

theorem strip_conc {F : Fam} {ρ : Nat → Int} {ad : Nat → Hd} {cs : List E} {v v' : SV} (h : strip cs v = some v') (hc : holds F ρ cs = true) : v.conc F ρ ad = v'.conc F ρ ad := by
  unfold strip at h
  split at h
  · rename_i gs u
    split at h
    · rename_i hg
      simp only [Option.some.injEq] at h
      subst h
      have : gs.all (fun g => g.tt F ρ) = true := List.all_eq_true.2 fun g hm => implied_tt (List.all_eq_true.1 hg g hm) hc
      simp [SV.conc, this]
    · cases h
  · rename_i c a b
    split at h
    · rename_i hg
      simp only [Option.some.injEq] at h
      subst h
      simp [SV.conc, implied_tt hg hc]
    · split at h
      · rename_i hg
        simp only [Option.some.injEq] at h
        subst h
        have := implied_tt hg hc
        rw [(mkNot_spec c F ρ).1] at this
        have e : c.tt F ρ = false := by simpa using this
        simp [SV.conc, e]
      · simp only [Option.some.injEq] at h; rw [h]
  · simp only [Option.some.injEq] at h; rw [h]

theorem strip_ok {p : Nat → Prop} {cs : List E} {v v' : SV} (h : strip cs v = some v') (hv : v.ok p) : v'.ok p := by
  unfold strip at h
  split at h
  · split at h
    · simp only [Option.some.injEq] at h; subst h; simpa [SV.ok] using hv
    · cases h
  · simp only [SV.ok] at hv
    split at h
    · simp only [Option.some.injEq] at h; subst h; exact hv.1
    · split at h
      · simp only [Option.some.injEq] at h; subst h; exact hv.2
      · simp only [Option.some.injEq] at h; subst h; simpa [SV.ok] using hv
  · simp only [Option.some.injEq] at h; subst h; exact hv

/-! ### merging -/
mutual
def merge (c : E) : SV → SV → SV
  | .sc x, .sc y => if x.kind = y.kind then .sc (mkIte c x y) else .ite c (.sc x) (.sc y)
  | .agg xs, .agg ys => if xs.length = ys.length then .agg (mergeL c xs ys) else .ite c (.agg xs) (.agg ys)
  | a, b => if SV.same a b = true then a else .ite c a b
def mergeL (c : E) : List SV → List SV → List SV
  | x :: xs, y :: ys => merge c x y :: mergeL c xs ys
  | _, _ => []
end

mutual
theorem merge_conc {F : Fam} {ρ : Nat → Int} {ad : Nat → Hd} {c : E} (hc : c.kind = .b) : ∀ (a b : SV), (merge c a b).conc F ρ ad = bif c.tt F ρ then a.conc F ρ ad else b.conc F ρ ad
  | .sc x, b => by
    cases b with
    | sc y =>
      simp only [merge]
      split
      · rename_i hk; simp only [SV.conc]; exact (mkIte_spec c x y hc hk F ρ).1
      · simp [SV.conc]
    | _ => simp [merge, SV.same, SV.conc]
  | .agg xs, b => by
    cases b with
    | agg ys =>
      simp only [merge]
      split
      · rename_i hk; simp only [SV.conc]; rw [mergeL_conc hc xs ys hk]; cases c.tt F ρ <;> rfl
      · simp [SV.conc]
    | _ => simp [merge, SV.same, SV.conc]
  | .ptr .., b | .pi .., b | .sl .., b | .ls .., b | .pe .., b | .mp _, b | .oq _, b | .fn .., b | .tup .., b | .gd .., b | .ite .., b | .und, b | .nilp _, b | .gl .., b => by
    simp only [merge]
    split
    · rename_i h; rw [← SV.same_eq _ _ h]; cases c.tt F ρ <;> rfl
    · simp [SV.conc]
theorem mergeL_conc {F : Fam} {ρ : Nat → Int} {ad : Nat → Hd} {c : E} (hc : c.kind = .b) : ∀ (a b : List SV), a.length = b.length → SV.concL F ρ ad (mergeL c a b) = bif c.tt F ρ then SV.concL F ρ ad a else SV.concL F ρ ad b
  | [], [], _ => by cases c.tt F ρ <;> rfl
  | [], _ :: _, h => by simp at h
  | _ :: _, [], h => by simp at h
  | x :: xs, y :: ys, h => by
    simp only [mergeL, SV.concL, merge_conc hc x y, mergeL_conc hc xs ys (by simpa using h)]
    cases c.tt F ρ <;> rfl
end

mutual
theorem merge_ok {p : Nat → Prop} {c : E} : ∀ (a b : SV), a.ok p → b.ok p → (merge c a b).ok p
  | .sc x, b, ha, hb => by
    cases b with
    | sc y => simp only [merge]; split <;> simp [SV.ok]
    | _ => simp only [merge, SV.same, Bool.false_eq_true, if_false]; exact ⟨ha, hb⟩
  | .agg xs, b, ha, hb => by
    cases b with
    | agg ys =>
      simp only [merge]
      simp only [SV.ok] at ha hb
      split
      · simp only [SV.ok]; exact mergeL_ok xs ys ha hb
      · simp only [SV.ok]; exact ⟨ha, hb⟩
    | _ => simp only [merge, SV.same, Bool.false_eq_true, if_false]; exact ⟨ha, hb⟩
  | .ptr .., b, ha, hb | .pi .., b, ha, hb | .sl .., b, ha, hb | .ls .., b, ha, hb | .pe .., b, ha, hb | .mp _, b, ha, hb | .oq _, b, ha, hb | .fn .., b, ha, hb | .tup .., b, ha, hb | .gd .., b, ha, hb | .ite .., b, ha, hb | .und, b, ha, hb | .nilp _, b, ha, hb | .gl .., b, ha, hb => by
    simp only [merge]
    split
    · exact ha
    · simp only [SV.ok] at ha ⊢; exact ⟨ha, hb⟩
theorem mergeL_ok {p : Nat → Prop} {c : E} : ∀ (a b : List SV), SV.okL p a → SV.okL p b → SV.okL p (mergeL c a b)
  | [], _, _, _ => by simp [mergeL, SV.okL]
  | _ :: _, [], _, _ => by simp [mergeL, SV.okL]
  | x :: xs, y :: ys, ha, hb => by
    simp only [SV.okL] at ha hb
    simp only [mergeL, SV.okL]
    exact ⟨merge_ok x y ha.1 hb.1, mergeL_ok xs ys ha.2 hb.2⟩
end

theorem mergeL_length (c : E) : ∀ (a b : List SV), a.length = b.length → (mergeL c a b).length = a.length
  | [], [], _ => rfl
  | [], _ :: _, h => by simp at h
  | _ :: _, [], h => by simp at h
  | x :: xs, y :: ys, h => by simp [mergeL, mergeL_length c xs ys (by simpa using h)]

/-! ### numbers as values -/
def K.val : K → Int → Value
  | .b, n => .bool (i2b n)
  | .i k, n => .int k n
  | .x, n => .int .i64 n
theorem val_of_kind {F : Fam} {ρ : Nat → Int} {e : E} : e.kind.val (e.den F ρ) = e.val F ρ := by
  unfold E.val K.val E.tt
  cases e.kind <;> rfl

/-- The numbers are of these kinds. -/
def fits : List K → List Int → Prop
  | [], [] => True
  | k :: ks, x :: xs => k.norm x = x ∧ fits ks xs
  | _, _ => False
theorem fits_length : ∀ {ks : List K} {xs : List Int}, fits ks xs → xs.length = ks.length
  | [], [], _ => rfl
  | [], _ :: _, h => h.elim
  | _ :: _, [], h => h.elim
  | _ :: ks, _ :: xs, h => by simp [fits_length h.2]
theorem fits_get : ∀ {ks : List K} {xs : List Int}, fits ks xs → ∀ i k, ks[i]? = some k → k.norm (xs.getD i 0) = xs.getD i 0
  | [], [], _, i, k, hi => by simp at hi
  | [], _ :: _, h, _, _, _ => h.elim
  | _ :: _, [], h, _, _, _ => h.elim
  | _ :: ks, _ :: xs, h, 0, k, hi => by simp at hi; subst hi; exact h.1
  | _ :: ks, _ :: xs, h, i + 1, k, hi => by simpa using fits_get h.2 i k (by simpa using hi)

/-- What the cells of one row hold: numbers, or slices whose rows are again such. -/
inductive Row where
  | nil
  | c (k : K) (r : Row)
  | ls (ty : Nat) (q r : Row)
  deriving Repr, Inhabited, DecidableEq
def Row.size : Row → Nat
  | .nil => 0
  | .c _ r => r.size + 1
  | .ls _ _ r => r.size + 1
def Row.ofKs : List K → Row
  | [] => .nil
  | k :: ks => .c k (Row.ofKs ks)

end Go.Proofs.YtbolcnlenmphhaaDoor.Ew

/- What each operation of straight code does, told of symbolic operands. The program is a variable. -/
set_option linter.unusedVariables false
set_option linter.unusedSimpArgs false
namespace Go.Proofs.YtbolcnlenmphhaaDoor.Ew
open Go Go.RowKit

/-! ### from plain values to symbolic ones -/
def ofVal : Value → Option SV
  | .bool b => some (.sc (mkB b))
  | .int k n => if k.wrap n = n then some (.sc (.lit (.i k) n)) else none
  | .pointer none => some (.nilp .nP)
  | .nilFunc => some (.nilp .nF)
  | .slice none 0 0 => some (.nilp .nS)
  | .nilIface => some (.nilp .nI)
  | .map none => some (.nilp .nM)
  | .chan none => some (.nilp .nC)
  | _ => none

theorem ofVal_conc {F : Fam} {ρ : Nat → Int} {ad : Nat → Hd} {v : Value} {s : SV} (h : ofVal v = some s) : s.conc F ρ ad = v := by
  unfold ofVal at h
  split at h
  · simp only [Option.some.injEq] at h; subst h; simp [SV.conc]
  · split at h
    · rename_i hk; simp only [Option.some.injEq] at h; subst h; simp [SV.conc, E.val, E.kind, E.den, K.norm, hk]
    · cases h
  all_goals first | (simp only [Option.some.injEq] at h; subst h; simp [SV.conc, CV.val]) | cases h
theorem ofVal_ok {p : Nat → Prop} {v : Value} {s : SV} (h : ofVal v = some s) : s.ok p := by
  unfold ofVal at h
  split at h
  · simp only [Option.some.injEq] at h; subst h; trivial
  · split at h
    · simp only [Option.some.injEq] at h; subst h; trivial
    · cases h
  all_goals first | (simp only [Option.some.injEq] at h; subst h; trivial) | cases h
theorem ofVal_one {v : Value} {s : SV} (h : ofVal v = some s) : s.one = true := by
  unfold ofVal at h
  split at h
  · simp only [Option.some.injEq] at h; subst h; rfl
  · split at h
    · simp only [Option.some.injEq] at h; subst h; rfl
    · cases h
  all_goals first | (simp only [Option.some.injEq] at h; subst h; rfl) | cases h

def ofVals : List Value → Option (List SV)
  | [] => some []
  | v :: r => match ofVal v, ofVals r with
    | some s, some l => some (s :: l)
    | _, _ => none
theorem ofVals_spec {F : Fam} {ρ : Nat → Int} {ad : Nat → Hd} {p : Nat → Prop} : ∀ {l : List Value} {s : List SV}, ofVals l = some s → SV.concL F ρ ad s = l ∧ SV.okL p s ∧ s.all SV.one = true
  | [], s, h => by simp [ofVals] at h; subst h; exact ⟨rfl, trivial, rfl⟩
  | v :: r, s, h => by
    simp only [ofVals] at h
    split at h
    · rename_i a l h1 h2
      simp only [Option.some.injEq] at h
      subst h
      obtain ⟨i1, i2, i3⟩ := ofVals_spec (F := F) (ρ := ρ) (ad := ad) (p := p) h2
      exact ⟨by simp [SV.concL, ofVal_conc h1, i1], ⟨ofVal_ok h1, i2⟩, by simp [ofVal_one h1, i3]⟩
    · cases h

/-! ### types -/
def aggOf (P : Program) (t : TypeId) : Option Bool :=
  match P.underlying t with
  | some (.struct _) => some true
  | some (.array _ _) => some true
  | some _ => some false
  | none => none
def szOf (P : Program) (t : TypeId) : Option Nat := (P.info? t).map (·.size)
def zeroOf (P : Program) (t : TypeId) : Option (List SV) :=
  match P.info? t with
  | some i => match i.zero with
    | some z => ofVals z.cells.toList
    | none => none
  | none => none

section
variable {P : Program} (w : World)
theorem run_isAgg' {t : TypeId} {b : Bool} (h : aggOf P t = some b) : (isAgg t).run P w = .ok b w := by
  unfold aggOf at h
  split at h
  · rename_i hu; simp only [Option.some.injEq] at h; subst h; simp [isAgg, run_underlying hu]
  · rename_i hu; simp only [Option.some.injEq] at h; subst h; simp [isAgg, run_underlying hu]
  · rename_i d hu h1 h2
    simp only [Option.some.injEq] at h; subst h
    simp only [isAgg, Sem.run_bind, run_underlying h2, Result.andThen_ok]
    cases d <;> first | rfl | (exfalso; first | exact hu _ rfl | exact h1 _ _ rfl)
  · cases h
theorem run_sizeOf' {t : TypeId} {n : Nat} (h : szOf P t = some n) : (sizeOf t).run P w = .ok n w := by
  unfold szOf at h
  cases hi : P.info? t with
  | none => simp [hi] at h
  | some i => simp [hi] at h; simp [sizeOf, typeInfo, hi, h]
theorem run_zeroValue' {F : Fam} {ρ : Nat → Int} {ad : Nat → Hd} {t : TypeId} {cs : List SV} (h : zeroOf P t = some cs) :
    ∃ z, (zeroValue t).run P w = .ok z w ∧ z.cells = (SV.concL F ρ ad cs).toArray := by
  unfold zeroOf at h
  split at h
  · rename_i i hi
    split at h
    · rename_i z hz
      refine ⟨z, by simp [zeroValue, typeInfo, hi, hz], ?_⟩
      rw [(ofVals_spec (F := F) (ρ := ρ) (ad := ad) (p := fun _ => True) h).1]
    · cases h
  · cases h
end

theorem zeroOf_ok {P : Program} {p : Nat → Prop} {t : TypeId} {cs : List SV} (h : zeroOf P t = some cs) : SV.okL p cs ∧ cs.all SV.one = true := by
  unfold zeroOf at h
  split at h
  · split at h
    · exact ⟨(ofVals_spec (F := fun _ _ _ => 0) (ρ := fun _ => 0) (ad := fun _ => default) (p := p) h).2.1, (ofVals_spec (F := fun _ _ _ => 0) (ρ := fun _ => 0) (ad := fun _ => default) (p := p) h).2.2⟩
    · cases h
  · cases h

/-- A part of an aggregate's cells. -/
def partS (P : Program) (t : TypeId) (cs : List SV) (off : Nat) : Option SV :=
  match aggOf P t, szOf P t with
  | some true, some n => if off + n ≤ cs.length then some (.agg ((cs.drop off).take n)) else none
  | some false, _ => cs[off]?
  | _, _ => none

theorem okL_drop {p : Nat → Prop} {l : List SV} (h : SV.okL p l) (n : Nat) : SV.okL p (l.drop n) := by
  rw [okL_iff] at *; exact fun v hv => h v (List.mem_of_mem_drop hv)
theorem okL_take {p : Nat → Prop} {l : List SV} (h : SV.okL p l) (n : Nat) : SV.okL p (l.take n) := by
  rw [okL_iff] at *; exact fun v hv => h v (List.mem_of_mem_take hv)
theorem okL_append {p : Nat → Prop} {l m : List SV} (h : SV.okL p l) (h' : SV.okL p m) : SV.okL p (l ++ m) := by
  rw [okL_iff] at *; intro v hv; rcases List.mem_append.1 hv with h1 | h1; exact h v h1; exact h' v h1
theorem okL_get {p : Nat → Prop} {l : List SV} {i : Nat} {v : SV} (h : SV.okL p l) (hv : l[i]? = some v) : v.ok p := by
  rw [okL_iff] at h; exact h v (List.mem_of_getElem? hv)

theorem partS_run {P : Program} {w : World} {F : Fam} {ρ : Nat → Int} {ad : Nat → Hd} {t : TypeId} {cs : List SV} {off : Nat} {v : SV} (h : partS P t cs off = some v) :
    (part t (SV.concL F ρ ad cs).toArray off).run P w = .ok (v.conc F ρ ad) w := by
  unfold partS at h
  split at h
  · rename_i n h1 h2
    split at h
    · rename_i hn
      simp only [Option.some.injEq] at h
      subst h
      simp only [part, Sem.run_bind, run_isAgg' w h1, Result.andThen_ok, if_true, run_sizeOf' w h2, Sem.run_pure]
      congr 2
      simp only [SV.conc, concL_eq, List.map_take, List.map_drop]
      congr 1
      rw [List.extract_toArray]
      simp [List.extract_eq_take_drop]
    · cases h
  · rename_i h1
    simp only [part, Sem.run_bind, run_isAgg' w h1, Result.andThen_ok, Bool.false_eq_true, if_false]
    simp [concL_eq, h]
  · cases h
theorem partS_ok {P : Program} {p : Nat → Prop} {t : TypeId} {cs : List SV} {off : Nat} {v : SV} (h : partS P t cs off = some v) (hc : SV.okL p cs) : v.ok p := by
  unfold partS at h
  split at h
  · split at h
    · simp only [Option.some.injEq] at h; subst h; simp only [SV.ok]; exact okL_take (okL_drop hc _) _
    · cases h
  · exact okL_get hc h
  · cases h

/-! ### building -/
def splice (cs : List SV) (off : Nat) (vs : List SV) : List SV := cs.take off ++ vs ++ cs.drop (off + vs.length)

theorem splice_ok {p : Nat → Prop} {cs vs : List SV} {off : Nat} (h : SV.okL p cs) (h' : SV.okL p vs) : SV.okL p (splice cs off vs) :=
  okL_append (okL_append (okL_take h _) h') (okL_drop h _)
theorem splice_length {cs vs : List SV} {off : Nat} (h : off + vs.length ≤ cs.length) : (splice cs off vs).length = cs.length := by
  simp [splice]; omega

theorem foldl_splice : ∀ (vs : List Value) (off : Nat) (k : Nat) (cs : List Value), off + k + vs.length ≤ cs.length →
    ((vs.zipIdx k).foldl (fun (c : Array Value) x => c.setIfInBounds (off + x.2) x.1) cs.toArray) = (cs.take (off + k) ++ vs ++ cs.drop (off + k + vs.length)).toArray
  | [], off, k, cs, h => by simp
  | v :: vs, off, k, cs, h => by
    simp only [List.zipIdx_cons, List.foldl_cons, List.setIfInBounds_toArray]
    rw [foldl_splice vs off (k + 1) (cs.set (off + k) v) (by simp at h ⊢; omega)]
    congr 1
    simp only [List.length_cons] at h
    have h1 : (cs.set (off + k) v).take (off + (k + 1)) = cs.take (off + k) ++ [v] := by
      rw [← Nat.add_assoc, List.take_succ_eq_append_getElem (by simp; omega)]
      simp [List.take_set_of_le]
    have h2 : (cs.set (off + k) v).drop (off + (k + 1) + vs.length) = cs.drop (off + k + (vs.length + 1)) := by
      rw [List.drop_set_of_lt (by omega)]; congr 1; omega
    rw [h1, h2]
    simp

def fillS (place : Nat → Option (Nat × Nat)) (cells : List SV) : List (Nat × SV) → Option (List SV)
  | [] => some cells
  | (i, v) :: rest => match place i with
    | none => none
    | some (off, size) =>
      if v.cells.length = size ∧ off + size ≤ cells.length ∧ v.cells.all SV.one = true then fillS place (splice cells off v.cells) rest else none

theorem fillS_spec {F : Fam} {ρ : Nat → Int} {ad : Nat → Hd} {place : Nat → Option (Nat × Nat)} : ∀ {parts : List (Nat × SV)} {cells out : List SV}, fillS place cells parts = some out →
    Instr.fill place (SV.concL F ρ ad cells).toArray (parts.map fun x => (x.1, x.2.conc F ρ ad)) = some (SV.concL F ρ ad out).toArray
  | [], cells, out, h => by simp [fillS] at h; subst h; simp [Instr.fill]
  | (i, v) :: rest, cells, out, h => by
    simp only [fillS] at h
    split at h
    · cases h
    · rename_i off size hp
      split at h
      · rename_i hc
        have ih := fillS_spec (F := F) (ρ := ρ) (ad := ad) h
        have hcell := SV.cells_conc (F := F) (ρ := ρ) (ad := ad) hc.2.2
        have hlen : (SV.concL F ρ ad v.cells).length = size := by rw [concL_eq]; simpa using hc.1
        simp only [List.map_cons, Instr.fill, hp, hcell, List.size_toArray, hlen]
        rw [if_neg (by rw [concL_eq F ρ ad cells]; simp; omega), ← ih]
        congr 1
        have e := foldl_splice (SV.concL F ρ ad v.cells) off 0 (SV.concL F ρ ad cells) (by rw [hlen, concL_eq]; simp; omega)
        simp only [Nat.add_zero] at e
        have e2 : (SV.concL F ρ ad v.cells).toArray.zipIdx = ((SV.concL F ρ ad v.cells).zipIdx 0).toArray := by simp
        rw [e2]
        have e3 : ∀ (l : List (Value × Nat)) (c : Array Value), l.toArray.foldl (fun cs (x : Value × Nat) => match x with | (c, j) => cs.setIfInBounds (off + j) c) c = l.foldl (fun (c : Array Value) x => c.setIfInBounds (off + x.2) x.1) c := fun l c => by
          rw [List.foldl_toArray]
        rw [e3, e]
        congr 1
        simp only [splice, concL_eq, List.map_append, List.map_take, List.map_drop, List.length_map]
      · cases h
theorem fillS_ok {p : Nat → Prop} {place : Nat → Option (Nat × Nat)} : ∀ {parts : List (Nat × SV)} {cells out : List SV}, fillS place cells parts = some out → SV.okL p cells → (∀ x ∈ parts, x.2.ok p) → SV.okL p out
  | [], cells, out, h, hc, _ => by simp [fillS] at h; subst h; exact hc
  | (i, v) :: rest, cells, out, h, hc, hp => by
    simp only [fillS] at h
    split at h
    · cases h
    · split at h
      · exact fillS_ok h (splice_ok hc (SV.ok_cells (hp (i, v) (by simp)))) (fun x hx => hp x (by simp [hx]))
      · cases h
theorem fillS_one {place : Nat → Option (Nat × Nat)} : ∀ {parts : List (Nat × SV)} {cells out : List SV}, fillS place cells parts = some out → cells.all SV.one = true → out.all SV.one = true
  | [], cells, out, h, hc => by simp [fillS] at h; subst h; exact hc
  | (i, v) :: rest, cells, out, h, hc => by
    simp only [fillS] at h
    split at h
    · cases h
    · split at h
      · rename_i hv
        refine fillS_one h ?_
        simp only [splice, List.all_append, Bool.and_eq_true]
        rw [List.all_eq_true] at hc
        exact ⟨⟨List.all_eq_true.2 fun x hx => hc x (List.mem_of_mem_take hx), hv.2.2⟩, List.all_eq_true.2 fun x hx => hc x (List.mem_of_mem_drop hx)⟩
      · cases h

def placesOf (P : Program) (fs : List Field) : Option (List (Nat × Nat)) := fs.mapM fun f => (P.info? f.type).map fun i => (f.offset, i.size)

def buildS (P : Program) (t : TypeId) (parts : List (Nat × SV)) : Option (List SV) :=
  match zeroOf P t, P.underlying t with
  | some z, some (.array _ e) => match szOf P e with
    | some n => fillS (fun i => some (i * n, n)) z parts
    | none => none
  | some z, some (.struct fs) => match placesOf P fs.toList with
    | some places => fillS (places.toArray[·]?) z parts
    | none => none
  | _, _ => none

theorem buildS_built {P : Program} {F : Fam} {ρ : Nat → Int} {ad : Nat → Hd} {t : TypeId} {parts : List (Nat × SV)} {out : List SV} (h : buildS P t parts = some out) :
    P.built t (parts.map fun x => (x.1, x.2.conc F ρ ad)) = some (SV.concL F ρ ad out).toArray := by
  have hz : ∀ z, zeroOf P t = some z → ∃ it zv, P.info? t = some it ∧ it.zero = some zv ∧ zv.cells = (SV.concL F ρ ad z).toArray := by
    intro z hz
    unfold zeroOf at hz
    split at hz
    · rename_i i hi
      split at hz
      · rename_i zv hzv
        exact ⟨i, zv, hi, hzv, by rw [(ofVals_spec (F := F) (ρ := ρ) (ad := ad) (p := fun _ => True) hz).1]⟩
      · cases hz
    · cases hz
  unfold buildS at h
  split at h
  · rename_i z n e h1 h2
    obtain ⟨it, zv, i1, i2, i3⟩ := hz z h1
    split at h
    · rename_i m hm
      unfold szOf at hm
      cases hie : P.info? e with
      | none => simp [hie] at hm
      | some ie =>
        simp [hie] at hm
        subst hm
        simp only [Program.built, i1, h2, i2, hie, i3]
        exact fillS_spec h
    · cases h
  · rename_i z fs h1 h2
    obtain ⟨it, zv, i1, i2, i3⟩ := hz z h1
    split at h
    · rename_i places hp
      unfold placesOf at hp
      simp only [Program.built, i1, h2, i2, hp, i3]
      exact fillS_spec h
    · cases h
  · cases h
theorem buildS_ok {P : Program} {p : Nat → Prop} {t : TypeId} {parts : List (Nat × SV)} {out : List SV} (h : buildS P t parts = some out) (hp : ∀ x ∈ parts, x.2.ok p) : SV.okL p out := by
  unfold buildS at h
  split at h
  · rename_i h1 _
    split at h
    · exact fillS_ok h (zeroOf_ok h1).1 hp
    · cases h
  · rename_i h1 _
    split at h
    · exact fillS_ok h (zeroOf_ok h1).1 hp
    · cases h
  · cases h

/-- The cells of a slice literal. -/
def buildSliceS (P : Program) (t : TypeId) (len : Nat) (parts : List (Nat × SV)) : Option (TypeId × List SV) :=
  match P.underlying t with
  | some (.slice e) => match szOf P e, zeroOf P e with
    | some n, some z => if 0 < len * n ∧ len * n ≤ 16777216 ∧ 0 < z.length then (fillS (fun i => some (i * n, n)) ((List.range (len * n)).map fun i => z.getD (i % z.length) .und) parts).map (e, ·) else none
    | _, _ => none
  | _ => none

theorem concL_getD (F : Fam) (ρ : Nat → Int) (ad : Nat → Hd) (l : List SV) (i : Nat) (h : i < l.length) : (SV.concL F ρ ad l)[i]? = some ((l.getD i .und).conc F ρ ad) := by
  rw [concL_eq]; simp [h]

theorem buildSliceS_run {P : Program} {w : World} {F : Fam} {ρ : Nat → Int} {ad : Nat → Hd} {t e : TypeId} {len : Nat} {parts : List (Nat × SV)} {out : List SV} (h : buildSliceS P t len parts = some (e, out)) :
    (Instr.buildSlice t len (parts.map fun x => (x.1, x.2.conc F ρ ad)).toArray).run P w = .ok (.slice (some ⟨w.heap.size, 0, none⟩) len len) (w.alloc (.cells (SV.concL F ρ ad out).toArray e)) := by
  unfold buildSliceS at h
  split at h
  · rename_i e' hu
    split at h
    · rename_i n z hn hz
      split at h
      · rename_i hc
        cases hf : fillS (fun i => some (i * n, n)) ((List.range (len * n)).map fun i => z.getD (i % z.length) .und) parts with
        | none => rw [hf] at h; simp at h
        | some o =>
          rw [hf] at h
          simp only [Option.map_some, Option.some.injEq, Prod.mk.injEq] at h
          obtain ⟨rfl, rfl⟩ := h
          obtain ⟨zv, r1, r2⟩ := run_zeroValue' (P := P) (F := F) (ρ := ρ) (ad := ad) w hz
          have hs := fillS_spec (F := F) (ρ := ρ) (ad := ad) hf
          have hinit : ((Array.range (len * n)).map fun x => zv.cells[x % zv.cells.size]!) = (SV.concL F ρ ad ((List.range (len * n)).map fun i => z.getD (i % z.length) .und)).toArray := by
            rw [r2, concL_eq F ρ ad ((List.range (len * n)).map fun i => z.getD (i % z.length) .und), List.map_map]
            apply Array.ext'
            simp only [Array.toList_map, Array.toList_range]
            apply List.map_congr_left
            intro i _
            have hl : (SV.concL F ρ ad z).length = z.length := by rw [concL_eq]; simp
            have hi : i % z.length < z.length := Nat.mod_lt _ hc.2.2
            have := concL_getD F ρ ad z (i % z.length) hi
            simp only [List.size_toArray, hl, Function.comp]
            rw [getElem!_def]
            simp [this]
          simp only [Instr.buildSlice, Sem.run_bind, run_underlying hu, Result.andThen_ok, run_sizeOf' w hn, Sem.run_ite]
          rw [if_neg (by simpa using hc.2.1)]
          simp only [Sem.run_pure, Result.andThen_ok, Sem.run_ite]
          rw [if_neg (by omega)]
          simp only [Sem.run_bind, r1, Result.andThen_ok, Sem.run_pure, hinit]
          have hs' : Instr.fill (fun i => some (i * n, n)) (SV.concL F ρ ad ((List.range (len * n)).map fun i => z.getD (i % z.length) .und)).toArray (parts.map fun x => (x.1, x.2.conc F ρ ad)).toArray.toList = some (SV.concL F ρ ad o).toArray := by simpa using hs
          rw [hs']
          simp [newRow]
      · cases h
    · cases h
  · cases h
theorem buildSliceS_ok {P : Program} {p : Nat → Prop} {t e : TypeId} {len : Nat} {parts : List (Nat × SV)} {out : List SV} (h : buildSliceS P t len parts = some (e, out)) (hp : ∀ x ∈ parts, x.2.ok p) : SV.okL p out := by
  unfold buildSliceS at h
  split at h
  · split at h
    · rename_i n z hn hz
      split at h
      · rename_i hc
        cases hf : fillS (fun i => some (i * n, n)) ((List.range (len * n)).map fun i => z.getD (i % z.length) .und) parts with
        | none => rw [hf] at h; simp at h
        | some o =>
          rw [hf] at h
          simp only [Option.map_some, Option.some.injEq, Prod.mk.injEq] at h
          obtain ⟨rfl, rfl⟩ := h
          refine fillS_ok hf ?_ hp
          rw [okL_iff]
          intro v hv
          obtain ⟨i, _, rfl⟩ := List.mem_map.1 hv
          have hi : i % z.length < z.length := Nat.mod_lt _ hc.2.2
          have hz' := (zeroOf_ok (p := p) hz).1
          exact okL_get hz' (i := i % z.length) (by simp [hi])
      · cases h
    · cases h
  · cases h

/-! ### equality by type -/
def eqFs (P : Program) (g : TypeId → SV → SV → Option E) (xs ys : List SV) : List Field → Option E
  | [] => some (mkB true)
  | f :: fs =>
    if f.name ≠ "_" then
      match partS P f.type xs f.offset, partS P f.type ys f.offset with
      | some a, some b => match g f.type a b, eqFs P g xs ys fs with
        | some e, some e' => some (mkAnd e e')
        | _, _ => none
      | _, _ => none
    else eqFs P g xs ys fs
def eqS (P : Program) : Nat → TypeId → SV → SV → Option E
  | 0, _, _, _ => none
  | d + 1, t, x, y => match P.underlying t with
    | some .bool => match x, y with
      | .sc a, .sc b => if a.kind = .b ∧ b.kind = .b ∧ a.sound = true ∧ b.sound = true then some (mkEqB a b) else none
      | _, _ => none
    | some (.int _) => match x, y with
      | .sc a, .sc b => match a.kind with
        | .i k => if b.kind = .i k then some (mkCmp .eql a b) else none
        | _ => none
      | _, _ => none
    | some (.struct fs) => match x, y with
      | .agg xs, .agg ys => if P.stoodInHeld t = false then eqFs P (eqS P d) xs ys fs.toList else none
      | _, _ => none
    | _ => none

theorem eqFs_run {P : Program} {F : Fam} {ρ : Nat → Int} {ad : Nat → Hd} {g : TypeId → SV → SV → Option E} {d : Nat}
    (hg : ∀ (t : TypeId) (x y : SV) (e : E), g t x y = some e → e.kind = .b ∧ ∀ (m : Nat) (w : World), (Op.equalIn (m + d) t (x.conc F ρ ad) (y.conc F ρ ad)).run P w = .ok (e.tt F ρ) w) :
    ∀ (fs : List Field) (xs ys : List SV) (e : E), eqFs P g xs ys fs = some e → e.kind = .b ∧
    ∀ (m : Nat) (w : World), (Op.eqFields (m + d) (SV.concL F ρ ad xs).toArray (SV.concL F ρ ad ys).toArray fs).run P w = .ok (e.tt F ρ) w
  | [], xs, ys, e, h => by simp [eqFs] at h; subst h; exact ⟨rfl, fun m w => by simp [Op.eqFields]⟩
  | f :: fs, xs, ys, e, h => by
    simp only [eqFs] at h
    split at h
    · rename_i hn
      split at h
      · rename_i a b ha hb
        split at h
        · rename_i e1 e2 h1 h2
          simp only [Option.some.injEq] at h
          subst h
          obtain ⟨k1, r1⟩ := hg f.type a b e1 h1
          obtain ⟨k2, r2⟩ := eqFs_run hg fs xs ys e2 h2
          have hs := mkAnd_spec e1 e2 k1 k2 F ρ
          refine ⟨hs.2, fun m w => ?_⟩
          rw [hs.1]
          simp only [Op.eqFields, Sem.run_ite, if_pos hn, Sem.run_bind, partS_run ha, partS_run hb, Result.andThen_ok, r1 m w]
          cases e1.tt F ρ
          · simp
          · simp [r2 m w]
        · cases h
      · cases h
    · rename_i hn
      obtain ⟨k2, r2⟩ := eqFs_run hg fs xs ys e h
      refine ⟨k2, fun m w => ?_⟩
      simp only [Op.eqFields, Sem.run_ite, if_neg hn]
      exact r2 m w

theorem eqS_run {P : Program} {F : Fam} {ρ : Nat → Int} {ad : Nat → Hd} : ∀ (d : Nat) (t : TypeId) (x y : SV) (e : E), eqS P d t x y = some e → e.kind = .b ∧
    ∀ (m : Nat) (w : World), (Op.equalIn (m + d) t (x.conc F ρ ad) (y.conc F ρ ad)).run P w = .ok (e.tt F ρ) w
  | 0, _, _, _, _, h => by simp [eqS] at h
  | d + 1, t, x, y, e, h => by
    simp only [eqS] at h
    split at h
    · rename_i hu
      split at h
      · rename_i a b
        split at h
        · rename_i hc
          simp only [Option.some.injEq] at h
          subst h
          have hs := mkEqB_spec a b hc.1 hc.2.1 hc.2.2.1 hc.2.2.2 F ρ
          refine ⟨hs.2, fun m w => ?_⟩
          rw [hs.1]
          simp only [SV.conc, E.val_b hc.1, E.val_b hc.2.1]
          exact run_equalIn_bool w (m + d) t _ _ hu
        · cases h
      · cases h
    · rename_i k' hu
      split at h
      · rename_i a b
        split at h
        · rename_i k hk
          split at h
          · rename_i hb
            simp only [Option.some.injEq] at h
            subst h
            have hs := mkCmp_spec .eql a b F ρ
            refine ⟨hs.2, fun m w => ?_⟩
            rw [hs.1]
            simp only [SV.conc, E.val_i hk, E.val_i hb]
            exact run_equalIn_int w (m + d) t k k' _ _ hu
          · cases h
        · cases h
      · cases h
    · rename_i fs hu
      split at h
      · rename_i xs ys
        split at h
        · rename_i hp
          obtain ⟨hk, hr⟩ := eqFs_run (F := F) (ρ := ρ) (ad := ad) (eqS_run d) fs.toList xs ys e h
          refine ⟨hk, fun m w => ?_⟩
          simp only [SV.conc]
          have hf : P.fieldsOf t = fs := by simp [Program.fieldsOf, hu]
          rw [show m + (d + 1) = (m + d) + 1 from rfl, run_equalIn_struct w (m + d) t _ _ (by rw [hf]; exact hu) hp, hf]
          exact hr m w
        · cases h
      · cases h
    · cases h

end Go.Proofs.YtbolcnlenmphhaaDoor.Ew

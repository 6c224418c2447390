/- Lists in memory: rows of numbers that cells read as; lists that are shared and lists of the call's own; how a world may differ from an earlier one. -/
import Derived.Test.YtmolkkphnehgcaaWD
set_option linter.unusedVariables false
set_option linter.unusedSimpArgs false
namespace Go.Proofs.Ytmolkkphnehgcaa.Ew
open Go Go.RowKit

/-- The world w' is as w was, but for the blocks of M and new ones. -/
structure Fr (M : Nat → Prop) (w w' : World) : Prop where
  os : w'.os = w.os
  tape : w'.tape = w.tape
  output : w'.output = w.output
  size : w.heap.size ≤ w'.heap.size
  block : ∀ k, k < w.heap.size → ¬ M k → w'.heap[k]? = w.heap[k]?
theorem Fr.refl (M : Nat → Prop) (w : World) : Fr M w w := ⟨rfl, rfl, rfl, Nat.le_refl _, fun _ _ _ => rfl⟩
theorem Fr.mono {M M' : Nat → Prop} {w w' : World} (h : Fr M w w') (hm : ∀ b, M b → M' b) : Fr M' w w' := ⟨h.os, h.tape, h.output, h.size, fun k hk hn => h.block k hk fun x => hn (hm k x)⟩
theorem Fr.trans {M M' : Nat → Prop} {w w' w'' : World} (h : Fr M w w') (h' : Fr M' w' w'') (hm : ∀ b, b < w.heap.size → M' b → M b) : Fr M w w'' :=
  ⟨h'.os.trans h.os, h'.tape.trans h.tape, h'.output.trans h.output, Nat.le_trans h.size h'.size, fun k hk hn => (h'.block k (Nat.lt_of_lt_of_le hk h.size) fun x => hn (hm k hk x)).trans (h.block k hk hn)⟩
theorem Fr.grown {w w' : World} {row : Option Nat} (h : w.grownBy w' row) : Fr (fun b => row = some b) w w' := ⟨h.os, h.tape, h.output, h.size, fun k hk hn => h.block k hk fun e => hn e.symm⟩
theorem Fr.below {M : Nat → Prop} {w w' : World} (h : Below w.heap.size w w') : Fr M w w' := ⟨h.os, h.tape, h.output, h.size, fun k hk _ => h.block k hk⟩
theorem Fr.toBelow {w w' : World} (h : Fr (fun _ => False) w w') : Below w.heap.size w w' := ⟨h.os, h.tape, h.output, h.size, fun k hk => h.block k hk fun x => x⟩
theorem Fr.alloc (M : Nat → Prop) (w : World) (o : Obj) : Fr M w (w.alloc o) := Fr.below ((Below.refl _ _).alloc (Nat.le_refl _) o)
theorem Fr.drew (M : Nat → Prop) (w : World) : Fr M w { w with drawn := w.drawn + 1 } := ⟨rfl, rfl, rfl, Nat.le_refl _, fun _ _ _ => rfl⟩
theorem Fr.cell {M : Nat → Prop} {w w' : World} (h : Fr M w w') {b o : Nat} (hb : b < w.heap.size) (hn : ¬ M b) : w'.cell? ⟨b, o, none⟩ = w.cell? ⟨b, o, none⟩ := by
  simp [World.cell?, h.block b hb hn]
theorem Fr.setRow {w : World} (g : Nat) (cs : Array Value) : Fr (fun b => b = g) w (w.setRow g cs) := ⟨rfl, rfl, rfl, by simp, fun k _ hn => setRow_other w g k cs hn⟩

/-- The values of a row's cells. -/
def RowV (w : World) (Im : Nat → Prop) : Row → List Int → List Value → Prop
  | .nil, zs, vs => zs = [] ∧ vs = []
  | .c k r, zs, vs => ∃ z zs' vs', zs = z :: zs' ∧ vs = k.val z :: vs' ∧ k.norm z = z ∧ RowV w Im r zs' vs'
  | .ls _ q r, zs, vs => ∃ z zs' h vs', zs = z :: zs' ∧ vs = Hd.sl h (dc z).length :: vs' ∧ (isCd z ∧ (dc z).length ≤ maxLen ∧ (dc z).length ≤ h.cap ∧ (dc z ≠ [] → Im h.blk) ∧
      (∀ i r', (dc z)[i]? = some r' → ∃ us, RowV w Im q r' us ∧ ∀ j u, us[j]? = some u → w.cell? ⟨h.blk, h.off + i * q.size + j, none⟩ = some u)) ∧ RowV w Im r zs' vs'

/-- A list that is shared: it reads in blocks that do not turn. -/
def ShL (w : World) (Im : Nat → Prop) (q : Row) (h : Hd) (l : RL) : Prop :=
  l.length ≤ maxLen ∧ l.length ≤ h.cap ∧ (l ≠ [] → Im h.blk) ∧ ∀ i r', l[i]? = some r' → ∃ us, RowV w Im q r' us ∧ ∀ j u, us[j]? = some u → w.cell? ⟨h.blk, h.off + i * q.size + j, none⟩ = some u

def RowsV (w : World) (Im : Nat → Prop) (q : Row) : RL → List Value → Prop
  | [], xs => xs = []
  | r :: l, xs => ∃ us ys, xs = us ++ ys ∧ RowV w Im q r us ∧ RowsV w Im q l ys

/-- A list of the call's own. -/
def OwL (w : World) (Im : Nat → Prop) (ty : Nat) (q : Row) (h : Hd) (l : RL) : Prop :=
  l.length ≤ maxLen ∧ ∃ xs, w.ownsRow 0 ty q.size (h.sl l.length) l.length xs ∧ RowsV w Im q l xs

section
variable {w w' : World} {Im Im' M : Nat → Prop} {q : Row} {h : Hd} {l : RL}

theorem RowV.len : ∀ {q : Row} {zs : List Int} {vs : List Value}, RowV w Im q zs vs → vs.length = q.size ∧ zs.length = q.size
  | .nil, zs, vs, h => by obtain ⟨rfl, rfl⟩ := h; exact ⟨rfl, rfl⟩
  | .c k r, zs, vs, h => by obtain ⟨z, zs', vs', rfl, rfl, _, h'⟩ := h; have := RowV.len h'; simp [Row.size, this.1, this.2]
  | .ls ty p r, zs, vs, h => by obtain ⟨z, zs', hd, vs', rfl, rfl, _, h'⟩ := h; have := RowV.len h'; simp [Row.size, this.1, this.2]

theorem Hd.sl_one (h : Hd) (n : Nat) : (h.sl n).oneCell' = true := by unfold Hd.sl; cases h.nil && n == 0 <;> rfl
theorem K.val_one (k : K) (z : Int) : (k.val z).oneCell' = true := by cases k <;> rfl
theorem RowV.one : ∀ {q : Row} {zs : List Int} {vs : List Value}, RowV w Im q zs vs → ∀ v ∈ vs, v.oneCell' = true
  | .nil, zs, vs, h => by obtain ⟨rfl, rfl⟩ := h; simp
  | .c k r, zs, vs, h => by
    obtain ⟨z, zs', vs', rfl, rfl, _, h'⟩ := h
    intro v hv
    rcases List.mem_cons.1 hv with rfl | hv
    · exact K.val_one k z
    · exact RowV.one h' v hv
  | .ls ty p r, zs, vs, h => by
    obtain ⟨z, zs', hd, vs', rfl, rfl, _, h'⟩ := h
    intro v hv
    rcases List.mem_cons.1 hv with rfl | hv
    · exact Hd.sl_one _ _
    · exact RowV.one h' v hv

/-- What reads in blocks that do not turn reads on. -/
theorem RowV.fr (hI : ∀ b, Im b → Im' b ∧ w'.heap[b]? = w.heap[b]?) : ∀ {q : Row} {zs : List Int} {vs : List Value}, RowV w Im q zs vs → RowV w' Im' q zs vs
  | .nil, zs, vs, h => h
  | .c k r, zs, vs, h => by
    obtain ⟨z, zs', vs', h1, h2, h3, h'⟩ := h
    exact ⟨z, zs', vs', h1, h2, h3, RowV.fr hI h'⟩
  | .ls ty p r, zs, vs, h => by
    obtain ⟨z, zs', hd, vs', h1, h2, ⟨h3, h4, h5, h6, h7⟩, h'⟩ := h
    refine ⟨z, zs', hd, vs', h1, h2, ⟨h3, h4, h5, fun hn => (hI _ (h6 hn)).1, fun i r' hi => ?_⟩, RowV.fr hI h'⟩
    obtain ⟨us, u1, u2⟩ := h7 i r' hi
    have hne : dc z ≠ [] := fun e => by rw [e] at hi; simp at hi
    refine ⟨us, RowV.fr hI u1, fun j u hu => ?_⟩
    have := u2 j u hu
    simp only [World.cell?, (hI _ (h6 hne)).2] at this ⊢
    exact this

theorem ShL.fr (hI : ∀ b, Im b → Im' b ∧ w'.heap[b]? = w.heap[b]?) (hs : ShL w Im q h l) : ShL w' Im' q h l := by
  obtain ⟨h1, h2, h3, h4⟩ := hs
  refine ⟨h1, h2, fun hn => (hI _ (h3 hn)).1, fun i r' hi => ?_⟩
  obtain ⟨us, u1, u2⟩ := h4 i r' hi
  have hne : l ≠ [] := fun e => by rw [e] at hi; simp at hi
  refine ⟨us, RowV.fr hI u1, fun j u hu => ?_⟩
  have := u2 j u hu
  simp only [World.cell?, (hI _ (h3 hne)).2] at this ⊢
  exact this

theorem RowsV.fr (hI : ∀ b, Im b → Im' b ∧ w'.heap[b]? = w.heap[b]?) : ∀ {l : RL} {xs : List Value}, RowsV w Im q l xs → RowsV w' Im' q l xs
  | [], xs, h => h
  | r :: l, xs, h => by
    obtain ⟨us, ys, h1, h2, h3⟩ := h
    exact ⟨us, ys, h1, RowV.fr hI h2, RowsV.fr hI h3⟩
theorem RowsV.len : ∀ {l : RL} {xs : List Value}, RowsV w Im q l xs → xs.length = l.length * q.size
  | [], xs, h => by simp only [RowsV] at h; subst h; simp
  | r :: l, xs, h => by
    obtain ⟨us, ys, rfl, h2, h3⟩ := h
    rw [List.length_append, h2.len.1, RowsV.len h3, List.length_cons, Nat.succ_mul, Nat.add_comm]
theorem RowsV.one : ∀ {l : RL} {xs : List Value}, RowsV w Im q l xs → ∀ v ∈ xs, v.oneCell' = true
  | [], xs, h => by simp only [RowsV] at h; subst h; simp
  | r :: l, xs, h => by
    obtain ⟨us, ys, rfl, h2, h3⟩ := h
    intro v hv
    rcases List.mem_append.1 hv with hv | hv
    · exact h2.one v hv
    · exact RowsV.one h3 v hv
theorem RowsV.append : ∀ {l l' : RL} {xs xs' : List Value}, RowsV w Im q l xs → RowsV w Im q l' xs' → RowsV w Im q (l ++ l') (xs ++ xs')
  | [], l', xs, xs', h, h' => by simp only [RowsV] at h; subst h; exact h'
  | r :: l, l', xs, xs', h, h' => by
    obtain ⟨us, ys, rfl, h2, h3⟩ := h
    exact ⟨us, ys ++ xs', by rw [List.append_assoc], h2, RowsV.append h3 h'⟩
theorem RowsV.single {r : List Int} {us : List Value} (h : RowV w Im q r us) : RowsV w Im q [r] us := ⟨us, [], by simp, h, rfl⟩
/-- One row of many. -/
theorem RowsV.get : ∀ {l : RL} {xs : List Value}, RowsV w Im q l xs → ∀ i r, l[i]? = some r → ∃ us, RowV w Im q r us ∧ ∀ j u, us[j]? = some u → xs[i * q.size + j]? = some u
  | [], xs, h, i, r, hi => by simp at hi
  | r :: l, xs, h, 0, r', hi => by
    obtain ⟨us, ys, rfl, h2, h3⟩ := h
    simp at hi
    subst hi
    refine ⟨us, h2, fun j u hu => ?_⟩
    rw [Nat.zero_mul, Nat.zero_add, List.getElem?_append_left (List.getElem?_eq_some_iff.1 hu).1]
    exact hu
  | r :: l, xs, h, i + 1, r', hi => by
    obtain ⟨us, ys, rfl, h2, h3⟩ := h
    obtain ⟨vs, v1, v2⟩ := RowsV.get h3 i r' (by simpa using hi)
    refine ⟨vs, v1, fun j u hu => ?_⟩
    have hl := h2.len.1
    rw [List.getElem?_append_right (by rw [hl, Nat.succ_mul]; omega), hl]
    have := v2 j u hu
    rw [Nat.succ_mul]
    rwa [show i * q.size + q.size + j - q.size = i * q.size + j by omega]
/-- One row is replaced. -/
theorem RowsV.set : ∀ {l : RL} {xs : List Value}, RowsV w Im q l xs → ∀ i r us, i < l.length → RowV w Im q r us → RowsV w Im q (l.set i r) (xs.take (i * q.size) ++ us ++ xs.drop (i * q.size + q.size))
  | [], xs, h, i, r, us, hi, hr => by simp at hi
  | r0 :: l, xs, h, 0, r, us, hi, hr => by
    obtain ⟨us0, ys, rfl, h2, h3⟩ := h
    have hl := h2.len.1
    refine ⟨us, ys, ?_, hr, h3⟩
    simp [← hl]
  | r0 :: l, xs, h, i + 1, r, us, hi, hr => by
    obtain ⟨us0, ys, rfl, h2, h3⟩ := h
    have hl := h2.len.1
    refine ⟨us0, ys.take (i * q.size) ++ us ++ ys.drop (i * q.size + q.size), ?_, h2, RowsV.set h3 i r us (by simpa using hi) hr⟩
    have e1 : (i + 1) * q.size = us0.length + i * q.size := by rw [Nat.succ_mul, hl]; omega
    have e2 : (i + 1) * q.size + q.size = us0.length + (i * q.size + q.size) := by rw [e1]; omega
    rw [e2, e1, List.take_append, List.drop_append]
    rw [List.take_of_length_le (l := us0) (by omega), List.drop_of_length_le (l := us0) (by omega)]
    simp

theorem OwL.fr (hI : ∀ b, Im b → Im' b ∧ w'.heap[b]? = w.heap[b]?) (hb : ∀ b, (h.sl l.length).ownBlock = some b → w'.heap[b]? = w.heap[b]?) {ty : Nat} (ho : OwL w Im ty q h l) : OwL w' Im' ty q h l := by
  obtain ⟨h1, xs, h2, h3⟩ := ho
  refine ⟨h1, xs, ⟨h2.1, ?_⟩, h3.fr hI⟩
  rcases h2.2 with hn | ⟨g, cap, cur, e, k1, k2, k3⟩
  · exact .inl hn
  · exact .inr ⟨g, cap, cur, e, k1, by rw [hb g (by rw [e]; rfl)]; exact k2, k3⟩

theorem Hd.own_blk {h : Hd} {n b : Nat} (e : (h.sl n).ownBlock = some b) : b = h.blk := by
  unfold Hd.sl at e
  cases hn : h.nil && n == 0 <;> rw [hn] at e <;> simp [Value.ownBlock] at e
  exact e.symm

/-- What is of the call's own can be shared: its block does not turn any more. -/
theorem OwL.share {ty : Nat} (ho : OwL w Im ty q h l) : ShL w (fun b => Im b ∨ (h.sl l.length).ownBlock = some b) q h l := by
  obtain ⟨h1, xs, h2, h3⟩ := ho
  have hI : ∀ b, Im b → (Im b ∨ (h.sl l.length).ownBlock = some b) ∧ w.heap[b]? = w.heap[b]? := fun b hb => ⟨Or.inl hb, rfl⟩
  rcases h2.2 with ⟨hn, hl⟩ | ⟨g, cap, cur, e, k1, k2, k3, k4, k5, k6⟩
  · have hl' : l = [] := List.eq_nil_of_length_eq_zero hl
    subst hl'
    exact ⟨Nat.zero_le _, Nat.zero_le _, fun x => (x rfl).elim, fun i r' hi => by simp at hi⟩
  · have hg : (h.sl l.length).ownBlock = some g := by rw [e]; rfl
    have hgb := Hd.own_blk hg
    subst hgb
    have hoff : h.off = 0 ∧ h.cap = cap := by
      unfold Hd.sl at e
      cases hnn : h.nil && l.length == 0
      · rw [hnn] at e; simp at e; exact e
      · rw [hnn] at e; simp at e
    refine ⟨h1, by omega, fun _ => Or.inr hg, fun i r' hi => ?_⟩
    obtain ⟨us, u1, u2⟩ := h3.get i r' hi
    refine ⟨us, u1.fr hI, fun j u hu => ?_⟩
    have hx := u2 j u hu
    rw [hoff.1, Nat.zero_add]
    have := h2.cells hg (i * q.size + j) u hx
    rwa [Addr.add_none, Nat.zero_add] at this
end
end Go.Proofs.Ytmolkkphnehgcaa.Ew

/- Arguments whose types have numbers and truth values alone at their leaves: opened to a list of numbers; they read the same in every world. -/
import Derived.Test.YtbolcnlenmphhaaDoorEvK
import Derived.ProofKit
import Derived.OpenShut
set_option linter.unusedVariables false
namespace Go.Proofs.YtbolcnlenmphhaaDoor.Ev
open Go Go.RowKit Go.ChangeShapes Go.WideShapes

def pieces (leaf : TypeId → Option (List K)) (P : Program) : List (TypeId × Nat) → Nat → Option (List K)
  | [], _ => some []
  | (t, o) :: r, off => if o = off then
      match leaf t with
      | some ks => if P.cellsOf t = ks.length then (pieces leaf P r (off + ks.length)).map (ks ++ ·) else none
      | none => none
    else none

/-- The kinds of a type's leaves. -/
def leafOf (P : Program) : Nat → TypeId → Option (List K)
  | 0, _ => none
  | n + 1, t => match P.underlying t with
    | some .bool => some [.b]
    | some (.int k) => some [.i k]
    | some (.struct fs) => match pieces (leafOf P n) P (fs.toList.map fun f => (f.type, f.offset)) 0 with
      | some ks => if P.cellsOf t = ks.length then some ks else none
      | none => none
    | some (.array m e) => match pieces (leafOf P n) P ((List.range m).map fun i => (e, i * P.cellsOf e)) 0 with
      | some ks => if P.cellsOf t = ks.length then some ks else none
      | none => none
    | _ => none

theorem vals_append : ∀ {ks ls : List K} {xs ys : List Int}, fits ks xs → vals (ks ++ ls) (xs ++ ys) = vals ks xs ++ vals ls ys
  | [], _, [], _, _ => rfl
  | [], _, _ :: _, _, h => h.elim
  | _ :: _, _, [], _, h => h.elim
  | _ :: ks, _, _ :: xs, _, h => by simp [vals, vals_append h.2]

section
variable {H : Type} {enc : TypeId × Value → H} {P : Program} {w : World} {base : Nat} {spare : Nat → Bool} {held : Bool}

/-- What is said of a type: what reads so is numbers of these kinds; it reads so in every world. -/
def LeafOK (enc : TypeId × Value → H) (P : Program) (t : TypeId) (ks : List K) : Prop :=
  ∀ (w : World) (base : Nat) (spare : Nat → Bool) (held : Bool) (fuel : Nat) (cs : List Value) (x : DataW H × List MemPlace), DataW.trod enc P w base spare held fuel t cs = some x →
    ∃ xs, cs = vals ks xs ∧ fits ks xs ∧ x.2 = [] ∧ ∀ (w' : World) (base' : Nat) (spare' : Nat → Bool) (held' : Bool), DataW.trod enc P w' base' spare' held' fuel t cs = some x

theorem wf_wrap {k : IntKind} {n : Int} (h : (Lit.int k n).wf = true) : k.wrap n = n := by
  simp only [Lit.wf, Bool.and_eq_true, decide_eq_true_eq] at h
  cases k <;> simp [IntKind.wrap, IntKind.signed, IntKind.bits] <;> simp [IntKind.min, IntKind.max, IntKind.signed, IntKind.bits] at h <;> omega

theorem fits_vals_length {ks : List K} {xs : List Int} (h : fits ks xs) : (vals ks xs).length = ks.length := by
  induction ks generalizing xs with
  | nil => cases xs <;> simp [vals]
  | cons k ks ih => cases xs with
    | nil => exact h.elim
    | cons x xs => simp [vals, ih h.2]

theorem pieces_ok {leaf : TypeId → Option (List K)} (hleaf : ∀ t ks, leaf t = some ks → LeafOK enc P t ks) {fuel : Nat} (cs : List Value) :
    ∀ (l : List (TypeId × Nat)) (off : Nat) (ks : List K) (ys : List (DataW H × List MemPlace)), pieces leaf P l off = some ks → (cs.drop off).length = ks.length →
      (l.mapM fun p => DataW.trod enc P w base spare held fuel p.1 ((cs.drop p.2).take (P.cellsOf p.1))) = some ys →
      ∃ xs, cs.drop off = vals ks xs ∧ fits ks xs ∧ ys.flatMap (·.2) = [] ∧ ∀ (w' : World) (base' : Nat) (spare' : Nat → Bool) (held' : Bool), (l.mapM fun p => DataW.trod enc P w' base' spare' held' fuel p.1 ((cs.drop p.2).take (P.cellsOf p.1))) = some ys
  | [], off, ks, ys, hp, hl, hm => by
    simp only [pieces, Option.some.injEq] at hp
    subst hp
    simp only [List.mapM_nil, Option.pure_def, Option.some.injEq] at hm
    subst hm
    refine ⟨[], ?_, trivial, rfl, fun _ _ _ _ => by simp⟩
    simp only [vals]
    exact List.eq_nil_of_length_eq_zero (by simpa using hl)
  | (t, o) :: r, off, ks, ys, hp, hl, hm => by
    simp only [pieces] at hp
    split at hp
    · rename_i ho
      subst ho
      split at hp
      · rename_i k1 hk1
        split at hp
        · rename_i hc
          obtain ⟨k2, hk2, rfl⟩ := Option.map_eq_some_iff.1 hp
          simp only [List.mapM_cons, Option.bind_eq_bind, Option.pure_def, Option.bind_eq_some_iff, Option.some.injEq] at hm
          obtain ⟨y, hy, ys', hys', rfl⟩ := hm
          rw [hc] at hy
          obtain ⟨xs1, e1, f1, p1, a1⟩ := hleaf t k1 hk1 _ _ _ _ _ _ _ hy
          have hl2 : (cs.drop (o + k1.length)).length = k2.length := by
            simp only [List.length_drop, List.length_append] at hl ⊢
            omega
          obtain ⟨xs2, e2, f2, p2, a2⟩ := pieces_ok hleaf cs r (o + k1.length) k2 ys' hk2 hl2 hys'
          refine ⟨xs1 ++ xs2, ?_, fits_append f1 f2, by simp [p1, p2], fun w' base' spare' held' => ?_⟩
          · rw [vals_append f1, ← e1, ← e2, ← List.drop_drop, List.take_append_drop]
          · simp only [List.mapM_cons, Option.bind_eq_bind, Option.pure_def, a2 w' base' spare' held', hc, a1 w' base' spare' held', Option.bind_some]
        · cases hp
      · cases hp
    · cases hp

theorem mapM_map' {α β γ : Type} (f : α → β) (g : β → Option γ) (l : List α) : (l.map f).mapM g = l.mapM fun a => g (f a) := by
  induction l with
  | nil => simp
  | cons a r ih => simp [List.mapM_cons, ih]

theorem leafOf_ok : ∀ (n : Nat) (t : TypeId) (ks : List K), leafOf P n t = some ks → LeafOK enc P t ks
  | 0, _, _, h => by simp [leafOf] at h
  | n + 1, t, ks, h => by
    intro w base spare held fuel cs x hx
    simp only [leafOf] at h
    split at h
    · rename_i hu
      simp only [Option.some.injEq] at h; subst h
      obtain ⟨b, rfl, rfl⟩ := DataW.trod_bool hu hx
      refine ⟨[b2i b], by simp [vals, K.val], ⟨by simp [norm_b2i], trivial⟩, rfl, fun w' base' spare' held' => ?_⟩
      cases fuel with
      | zero => simp [DataW.trod] at hx
      | succ m => simp [DataW.trod, hu]
    · rename_i k hu
      simp only [Option.some.injEq] at h; subst h
      obtain ⟨z, rfl, rfl, hw⟩ := DataW.trod_int hu hx
      refine ⟨[z], by simp [vals, K.val], ⟨wf_wrap hw, trivial⟩, rfl, fun w' base' spare' held' => ?_⟩
      cases fuel with
      | zero => simp [DataW.trod] at hx
      | succ m => simp [DataW.trod, hu, hw]
    · rename_i fs hu
      split at h
      · rename_i ks' hp
        split at h
        · rename_i hc
          simp only [Option.some.injEq] at h; subst h
          cases fuel with
          | zero => simp [DataW.trod] at hx
          | succ m =>
            have un : ∀ (w : World) (base : Nat) (spare : Nat → Bool) (held : Bool), DataW.trod enc P w base spare held (m + 1) t cs = if cs.length = P.cellsOf t then ((fs.toList.map fun f => (f.type, f.offset)).mapM fun p => DataW.trod enc P w base spare held m p.1 ((cs.drop p.2).take (P.cellsOf p.1))).map (fun xs => (.agg (xs.map (·.1)), xs.flatMap (·.2))) else none := by
              intro w base spare held
              rw [mapM_map', DataW.trod]
              simp only [hu]
            rw [un] at hx
            split at hx
            · rename_i hl
              obtain ⟨ys, hys, rfl⟩ := Option.map_eq_some_iff.1 hx
              obtain ⟨xs, e1, f1, p1, a1⟩ := pieces_ok (fun t ks ht => leafOf_ok n t ks ht) cs _ 0 ks' ys hp (by simp [hl, hc]) hys
              refine ⟨xs, by simpa using e1, f1, p1, fun w' base' spare' held' => ?_⟩
              rw [un, if_pos hl, a1 w' base' spare' held']
              rfl
            · cases hx
        · cases h
      · cases h
    · rename_i m' e hu
      split at h
      · rename_i ks' hp
        split at h
        · rename_i hc
          simp only [Option.some.injEq] at h; subst h
          cases fuel with
          | zero => simp [DataW.trod] at hx
          | succ m =>
            have un : ∀ (w : World) (base : Nat) (spare : Nat → Bool) (held : Bool), DataW.trod enc P w base spare held (m + 1) t cs = if cs.length = P.cellsOf t then (((List.range m').map fun i => (e, i * P.cellsOf e)).mapM fun p => DataW.trod enc P w base spare held m p.1 ((cs.drop p.2).take (P.cellsOf p.1))).map (fun xs => (.agg (xs.map (·.1)), xs.flatMap (·.2))) else none := by
              intro w base spare held
              rw [mapM_map']
              conv => lhs; unfold DataW.trod
              rw [hu]
            rw [un] at hx
            split at hx
            · rename_i hl
              obtain ⟨ys, hys, rfl⟩ := Option.map_eq_some_iff.1 hx
              obtain ⟨xs, e1, f1, p1, a1⟩ := pieces_ok (fun t ks ht => leafOf_ok n t ks ht) cs _ 0 ks' ys hp (by simp [hl, hc]) hys
              refine ⟨xs, by simpa using e1, f1, p1, fun w' base' spare' held' => ?_⟩
              rw [un, if_pos hl, a1 w' base' spare' held']
              rfl
            · cases hx
        · cases h
      · cases h
    · cases h

/-- A parameter's shape. -/
def shOf (P : Program) (t : TypeId) : Option Sh1 :=
  match P.underlying t with
  | some (.struct _) | some (.array _ _) => (leafOf P 9 t).map .a
  | some .bool => some (.s .b)
  | some (.int k) => some (.s (.i k))
  | _ => none
def shsOf (P : Program) : List TypeId → Option (List Sh1)
  | [] => some []
  | t :: r => match shOf P t, shsOf P r with
    | some p, some ps => some (p :: ps)
    | _, _ => none

theorem okWide_array {n : Nat} {e t : TypeId} {v : Value} {r : Reach} (ht : P.underlying t = some (.array n e)) (h : Value.okWide P w r base t v) : ∃ cs, v = .agg cs ∧ cs.size = P.cellsOf t := by
  simp only [Value.okWide, ht] at h
  obtain ⟨cs, h1, h2, _⟩ := h
  exact ⟨cs, h1, h2⟩

theorem one_open {t : TypeId} {p : Sh1} {v : Value} {d : DataW H} {pl : List MemPlace} {r : Reach} {b0 : Nat} (hs : shOf P t = some p) (hv : Value.okWide P w r b0 t v) (h : DataW.Trod enc P w base spare held t v d pl) :
    ∃ xs, xs.length = p.n ∧ v = p.val xs ∧ fits p.ks xs ∧ pl = [] ∧ ∀ (w' : World) (base' : Nat) (spare' : Nat → Bool) (held' : Bool), DataW.Trod enc P w' base' spare' held' t v d [] := by
  obtain ⟨fuel, hf⟩ := h
  unfold shOf at hs
  split at hs
  · rename_i fs hu
    obtain ⟨ks, hk, rfl⟩ := Option.map_eq_some_iff.1 hs
    obtain ⟨cs, rfl, _⟩ := okWide_struct hu hv
    obtain ⟨xs, e1, f1, p1, a1⟩ := leafOf_ok 9 t ks hk _ _ _ _ _ _ _ hf
    simp only at p1
    subst p1
    refine ⟨xs, fits_length f1, ?_, f1, rfl, fun w' base' spare' held' => ⟨fuel, a1 w' base' spare' held'⟩⟩
    simp only [Value.cells] at e1
    simp only [Sh1.val, ← e1]
  · rename_i n e hu
    obtain ⟨ks, hk, rfl⟩ := Option.map_eq_some_iff.1 hs
    obtain ⟨cs, rfl, _⟩ := okWide_array hu hv
    obtain ⟨xs, e1, f1, p1, a1⟩ := leafOf_ok 9 t ks hk _ _ _ _ _ _ _ hf
    simp only at p1
    subst p1
    refine ⟨xs, fits_length f1, ?_, f1, rfl, fun w' base' spare' held' => ⟨fuel, a1 w' base' spare' held'⟩⟩
    simp only [Value.cells] at e1
    simp only [Sh1.val, ← e1]
  · rename_i hu
    simp only [Option.some.injEq] at hs; subst hs
    have hk : leafOf P 1 t = some [.b] := by simp [leafOf, hu]
    obtain ⟨b, rfl⟩ := okWide_bool hu hv
    obtain ⟨xs, e1, f1, p1, a1⟩ := leafOf_ok 1 t _ hk _ _ _ _ _ _ _ hf
    simp only at p1
    subst p1
    refine ⟨xs, fits_length f1, ?_, f1, rfl, fun w' base' spare' held' => ⟨fuel, a1 w' base' spare' held'⟩⟩
    match xs, f1 with
    | [x], _ => simpa [Value.cells, vals, Sh1.val] using e1
  · rename_i k hu
    simp only [Option.some.injEq] at hs; subst hs
    have hk : leafOf P 1 t = some [.i k] := by simp [leafOf, hu]
    obtain ⟨z, rfl⟩ := okWide_int hu hv
    obtain ⟨xs, e1, f1, p1, a1⟩ := leafOf_ok 1 t _ hk _ _ _ _ _ _ _ hf
    simp only at p1
    subst p1
    refine ⟨xs, fits_length f1, ?_, f1, rfl, fun w' base' spare' held' => ⟨fuel, a1 w' base' spare' held'⟩⟩
    match xs, f1 with
    | [x], _ => simpa [Value.cells, vals, Sh1.val] using e1
  · cases hs

theorem args_open {r : Reach} {b0 : Nat} : ∀ (ts : List TypeId) (ps : List Sh1) (vs : List Value) (ds : List (DataW H)) (pl : List MemPlace), shsOf P ts = some ps →
    (∀ (j : Nat) t v, ts[j]? = some t → vs[j]? = some v → Value.okWide P w r b0 t v) → DataW.TrodAll enc P w base spare held ts vs ds pl →
    ∃ xs, vs = argVals ps xs ∧ fits (allKs ps) xs ∧ pl = [] ∧ ∀ (w' : World) (base' : Nat) (spare' : Nat → Bool) (held' : Bool), DataW.TrodAll enc P w' base' spare' held' ts vs ds []
  | [], ps, vs, ds, pl, hs, hv, h => by
    simp only [shsOf, Option.some.injEq] at hs; subst hs
    cases vs with
    | nil => cases ds with
      | nil => exact ⟨[], rfl, trivial, h, fun _ _ _ _ => rfl⟩
      | cons _ _ => exact absurd h (by simp [DataW.TrodAll])
    | cons _ _ => exact absurd h (by simp [DataW.TrodAll])
  | t :: ts, ps, vs, ds, pl, hs, hv, h => by
    simp only [shsOf] at hs
    split at hs
    · rename_i p ps' hp hps
      simp only [Option.some.injEq] at hs; subst hs
      cases vs with
      | nil => exact absurd h (by simp [DataW.TrodAll])
      | cons v vs => cases ds with
        | nil => exact absurd h (by simp [DataW.TrodAll])
        | cons d ds =>
          obtain ⟨p1, q1, h1, h2, rfl⟩ := h
          obtain ⟨xs, l1, rfl, f1, rfl, a1⟩ := one_open hp (hv 0 t v rfl rfl) h1
          obtain ⟨ys, rfl, f2, rfl, a2⟩ := args_open ts ps' vs ds q1 hps (fun j t v ht hv' => hv (j + 1) t v (by simpa using ht) (by simpa using hv')) h2
          refine ⟨xs ++ ys, ?_, fits_append f1 f2, rfl, fun w' base' spare' held' => ⟨[], [], a1 w' base' spare' held', a2 w' base' spare' held', rfl⟩⟩
          simp only [argVals]
          rw [List.take_append_of_le_length (by omega), List.take_of_length_le (by omega), List.drop_append_of_le_length (by omega), List.drop_of_length_le (l := xs) (by omega), List.nil_append]
    · cases hs
end
end Go.Proofs.YtbolcnlenmphhaaDoor.Ev

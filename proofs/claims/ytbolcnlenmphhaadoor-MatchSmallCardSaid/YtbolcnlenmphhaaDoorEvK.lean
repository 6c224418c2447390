/- Summaries: a function that the evaluator has walked through, told by expressions in its arguments' scalars. -/
import Derived.Test.YtbolcnlenmphhaaDoorEvJ
set_option linter.unusedVariables false
set_option linter.unusedSimpArgs false
namespace Go.Proofs.YtbolcnlenmphhaaDoor.Ev
open Go Go.RowKit

structure Entry where
  key : Nat
  f : Nat
  ps : List Sh1
  rs : Sh
  fn : Nat → List Int → Int
abbrev Tabs := List Entry
def Tabs.get (l : Tabs) (k : Nat) : Option Entry := l.find? fun e => e.key == k
def Tabs.T (l : Tabs) : Tab := fun f => l.filterMap fun e => if e.f = f then (match l.get e.key with
  | some e' => if e'.f = f then some (e'.key, e'.ps, e'.rs) else none
  | none => none) else none
def Tabs.F (l : Tabs) : Fam := fun k j xs => match l.get k with
  | some e => e.fn j xs
  | none => 0

def outsE (fn : Nat → List Int → Int) (xs : List Int) : Nat → List K → List Int
  | _, [] => []
  | j, k :: ks => k.norm (fn j xs) :: outsE fn xs (j + 1) ks

/-- What a summary says: for all numbers of the right kinds, in every world in which the variables hold what they are said to hold. -/
def EntryOK (P : Program) (G : Glob) (e : Entry) : Prop :=
  ∀ xs, fits (allKs e.ps) xs → ∀ w, GOK G w → Calls P e.f (argVals e.ps xs).toArray w fun en w' => en = .returned (e.rs.val (outsE e.fn xs 0 e.rs.ks)) ∧ Below w.heap.size w w'
def TabsOK (P : Program) (G : Glob) (l : Tabs) : Prop := ∀ e ∈ l, EntryOK P G e

theorem TabsOK.nil (P : Program) (G : Glob) : TabsOK P G [] := fun _ h => by cases h
theorem TabsOK.cons {P : Program} {G : Glob} {l : Tabs} {e : Entry} (h : EntryOK P G e) (hl : TabsOK P G l) : TabsOK P G (e :: l) := fun x hx => by
  rcases List.mem_cons.1 hx with rfl | hx
  · exact h
  · exact hl x hx

theorem outs_outsE (l : Tabs) (k : Nat) (e : Entry) (he : l.get k = some e) (xs : List Int) : ∀ (ks : List K) (j : Nat), outs l.F k xs j ks = outsE e.fn xs j ks
  | [], _ => rfl
  | _ :: ks, j => by
    simp only [outs, outsE, outs_outsE l k e he xs ks (j + 1)]
    simp [Tabs.F, he]

theorem TabsOK.sum {P : Program} {G : Glob} {l : Tabs} (h : TabsOK P G l) : SumOK P l.F G l.T := by
  intro f k ps rs hT xs hx w hG
  unfold Tabs.T at hT
  obtain ⟨e0, _, h1⟩ := List.mem_filterMap.1 hT
  split at h1
  · split at h1
    · rename_i e he
      split at h1
      · rename_i hf
        simp only [Option.some.injEq, Prod.mk.injEq] at h1
        obtain ⟨hk, rfl, rfl⟩ := h1
        have hkk : e.key = e0.key := by
          have := List.find?_some he
          simpa using this
        have := h e (List.mem_of_find?_eq_some he) xs hx w hG
        rw [hf] at this
        rw [outs_outsE l k e (by rw [← hk, hkk]; exact he)]
        exact this
      · cases h1
    · cases h1
  · cases h1

/-- The arguments as variables. -/
def varEs : List K → Nat → List E
  | [], _ => []
  | k :: ks, i => .var k i :: varEs ks (i + 1)
theorem varEs_kinds : ∀ (ks : List K) (i : Nat), kinds ks (varEs ks i)
  | [], _ => trivial
  | k :: ks, i => ⟨rfl, varEs_kinds ks (i + 1)⟩
theorem varEs_den (F : Fam) (ys : List Int) : ∀ (ks : List K) (xs : List Int) (i : Nat), fits ks xs → (∀ j, ys.getD (i + j) 0 = xs.getD j 0) → (varEs ks i).map (E.den F fun k => ys.getD k 0) = xs
  | [], [], _, _, _ => rfl
  | [], _ :: _, _, h, _ => h.elim
  | _ :: _, [], _, h, _ => h.elim
  | k :: ks, x :: xs, i, h, hy => by
    simp only [varEs, List.map_cons, E.den]
    have h0 := hy 0
    simp only [Nat.add_zero, List.getD_cons_zero] at h0
    rw [h0, h.1, varEs_den F ys ks xs (i + 1) h.2 fun j => by have := hy (j + 1); simpa [Nat.add_assoc, Nat.add_comm 1 j] using this]

def resE (rs : Sh) (v : SV) : Option (List E) :=
  match rs with
  | .one s => get1 s v
  | .tup l => match v with
    | .tup vs => getArgs l vs
    | _ => none

/-- What the evaluator says of a function: its result's scalars. -/
def evE (P : Program) (G : Glob) (l : Tabs) (N n f : Nat) (ps : List Sh1) (rs : Sh) : Option (List E) :=
  match evFn P l.F G l.T N n f (argSVs ps (varEs (allKs ps) 0)) [] with
  | some (v, _) => resE rs v
  | none => none

def fnOf (l : Tabs) (es : List E) : Nat → List Int → Int := fun j xs => (es.getD j (mkB false)).den l.F fun i => xs.getD i 0

theorem fits_outs (fn : Nat → List Int → Int) (xs : List Int) : ∀ (ks : List K) (ys : List Int) (j : Nat), fits ks ys → (∀ i, i < ys.length → fn (j + i) xs = ys.getD i 0) → outsE fn xs j ks = ys
  | [], [], _, _, _ => rfl
  | [], _ :: _, _, h, _ => h.elim
  | _ :: _, [], _, h, _ => h.elim
  | k :: ks, y :: ys, j, h, hf => by
    have h0 := hf 0 (by simp)
    simp only [Nat.add_zero, List.getD_cons_zero] at h0
    simp only [outsE, h0, h.1]
    rw [fits_outs fn xs ks ys (j + 1) h.2 fun i hi => by have := hf (i + 1) (by simp; omega); simpa [Nat.add_assoc, Nat.add_comm 1 i] using this]

theorem Rel.start (F : Fam) (ρ : Nat → Int) (w : World) : Rel F ρ w (fun n => n) [] w :=
  ⟨fun n ty cs h => by simp [Mem.at] at h, fun n k h => by simp [al, Mem.at] at h, Below.refl _ _⟩

/-- What the evaluator says holds. -/
theorem evE_ok {P : Program} {G : Glob} {l : Tabs} (hm : P.follows .mixedOrders = true) (hl : TabsOK P G l) {N n f key : Nat} {ps : List Sh1} {rs : Sh} {es : List E} (h : evE P G l N n f ps rs = some es) :
    EntryOK P G ⟨key, f, ps, rs, fnOf l es⟩ := by
  intro xs hx w hG
  unfold evE at h
  split at h
  · rename_i v m' hv
    have hr := evFn_sound (F := l.F) (ρ := fun i => xs.getD i 0) (w0 := w) hm hl.sum hG n f _ [] v m' hv (fun n => n) w (Rel.start _ _ w) (argSVs_ok _ _ _)
    have ha := argSVs_conc l.F (fun i => xs.getD i 0) (fun n => n) ps _ (varEs_kinds (allKs ps) 0)
    rw [varEs_den l.F xs (allKs ps) xs 0 hx (fun j => by simp)] at ha
    rw [ha] at hr
    refine hr.mono ?_
    rintro e w' ⟨ad', rfl, hR, hxx, hvv⟩
    clear hvv hxx
    refine ⟨?_, hR.below⟩
    have key : v.conc l.F (fun i => xs.getD i 0) ad' = rs.val (es.map (E.den l.F fun i => xs.getD i 0)) ∧ fits rs.ks (es.map (E.den l.F fun i => xs.getD i 0)) := by
      unfold resE at h
      split at h
      · rename_i s
        obtain ⟨_, h2, h3⟩ := get1_spec l.F (fun i => xs.getD i 0) ad' s v es h
        exact ⟨h2, h3⟩
      · rename_i ls
        split at h
        · rename_i vs
          obtain ⟨h2, h3⟩ := getArgs_spec l.F (fun i => xs.getD i 0) ad' ls vs es h
          exact ⟨by simp only [SV.conc, h2, Sh.val], h3⟩
        · cases h
    rw [key.1]
    congr 2
    exact (fits_outs _ xs _ _ 0 key.2 fun i hi => by
      simp only [List.length_map] at hi
      simp [fnOf, hi]).symm
  · cases h

theorem EntryOK.congr {P : Program} {G : Glob} {e : Entry} (h : EntryOK P G e) {fn : Nat → List Int → Int} (hf : ∀ xs, fits (allKs e.ps) xs → outsE e.fn xs 0 e.rs.ks = outsE fn xs 0 e.rs.ks) : EntryOK P G ⟨e.key, e.f, e.ps, e.rs, fn⟩ := by
  intro xs hx w hG
  have := h xs hx w hG
  rw [hf xs hx] at this
  exact this

theorem fits_cons {k : K} {ks : List K} {xs : List Int} (h : fits (k :: ks) xs) : ∃ a r, xs = a :: r ∧ k.norm a = a ∧ fits ks r := by
  cases xs with
  | nil => exact h.elim
  | cons a r => exact ⟨a, r, rfl, h.1, h.2⟩
theorem fits_nil {xs : List Int} (h : fits [] xs) : xs = [] := by
  cases xs with
  | nil => rfl
  | cons a r => exact h.elim
theorem outs_one {fn fn' : Nat → List Int → Int} {xs : List Int} {k : K} (h : fn 0 xs = fn' 0 xs) : outsE fn xs 0 [k] = outsE fn' xs 0 [k] := by simp [outsE, h]
theorem outs_two {fn fn' : Nat → List Int → Int} {xs : List Int} {k l : K} (h : fn 0 xs = fn' 0 xs) (h' : fn 1 xs = fn' 1 xs) : outsE fn xs 0 [k, l] = outsE fn' xs 0 [k, l] := by simp [outsE, h, h']
theorem K.val_b2i (b : Bool) : K.val .b (b2i b) = .bool b := by cases b <;> rfl

end Go.Proofs.YtbolcnlenmphhaaDoor.Ev

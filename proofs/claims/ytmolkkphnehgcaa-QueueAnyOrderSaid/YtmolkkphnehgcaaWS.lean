/- Summaries of functions: shapes of what they take and give, and what is computed; how a call is taken by its summary. -/
import Derived.Test.YtmolkkphnehgcaaWR
set_option linter.unusedVariables false
set_option linter.unusedSimpArgs false
namespace Go.Proofs.Ytmolkkphnehgcaa.Ew
open Go Go.RowKit

/-- An object that gets new cells: its name among the parameters', its type, its tail (the kinds of a row; the rows' code stands ahead of the cells), the shapes of its cells. -/
structure Ob where
  j : Nat
  ty : Nat
  tl : Option (List K) := none
  cs : List Sh
  deriving Inhabited
/-- A block made of values; the values of a block. -/
def mkO (ty : Nat) (tl : Option (List K)) (vs : List SV) : Blk :=
  match tl, vs with
  | none, vs => .cells ty vs
  | some ks, .sc c :: vs => if c.kind = .x then .seg ty vs ks c else .dead
  | some _, _ => .dead
def unO : Blk → Option (Nat × Option (List K) × List SV)
  | .cells ty cs => some (ty, none, cs)
  | .seg ty cs ks c => if c.kind = .x then some (ty, some ks, .sc c :: cs) else none
  | _ => none
theorem mkO_unO {b : Blk} {ty : Nat} {tl : Option (List K)} {vs : List SV} (h : unO b = some (ty, tl, vs)) : mkO ty tl vs = b := by
  unfold unO at h
  split at h
  · simp only [Option.some.injEq, Prod.mk.injEq] at h
    obtain ⟨rfl, rfl, rfl⟩ := h; rfl
  · split at h
    · rename_i hk
      simp only [Option.some.injEq, Prod.mk.injEq] at h
      obtain ⟨rfl, rfl, rfl⟩ := h
      simp only [mkO, if_pos hk]
    · cases h
  · cases h
/-- The code stands ahead. -/
def isX : List SV → Bool
  | .sc c :: _ => decide (c.kind = .x)
  | _ => false
theorem mkO_same {F1 F2 : Fam} {ρ1 ρ2 : Nat → Int} {ad1 ad2 : Nat → Hd} {n j ty : Nat} {tl : Option (List K)} {vs us : List SV} (h : SV.concL F1 ρ1 ad1 vs = SV.concL F2 ρ2 ad2 us) (hx : isX vs = isX us) (hn : ad1 n = ad2 j) :
    mutB F1 ρ1 ad1 n (mkO ty tl vs) = mutB F2 ρ2 ad2 j (mkO ty tl us) ∧ ∀ (Im : Nat → Prop) (w : World), BlkOK F1 ρ1 Im ad1 n w (mkO ty tl vs) ↔ BlkOK F2 ρ2 Im ad2 j w (mkO ty tl us) := by
  cases tl with
  | none => simp only [mkO, mutB, BlkOK, h, hn, iff_self, implies_true, and_self]
  | some ks =>
    by_cases h1 : isX vs = true
    · have h2 := h1
      rw [hx] at h2
      unfold isX at h1 h2
      split at h1
      · rename_i c r
        split at h2
        · rename_i c' r'
          have k1 : c.kind = .x := by simpa using h1
          have k2 : c'.kind = .x := by simpa using h2
          simp only [SV.concL, List.cons.injEq, SV.conc, E.val_x k1, E.val_x k2, Value.int.injEq, true_and] at h
          simp only [mkO, if_pos k1, if_pos k2, mutB, BlkOK, h.1, h.2, hn, iff_self, implies_true, and_self]
        · cases h2
      · cases h1
    · have h1' : isX vs = false := by simpa using h1
      have h2' : isX us = false := by rw [← hx]; exact h1'
      have dead : ∀ l : List SV, isX l = false → mkO ty (some ks) l = .dead := fun l hl => by
        unfold isX at hl
        split at hl
        · rename_i c r
          have : ¬ c.kind = .x := by simpa using hl
          simp only [mkO, if_neg this]
        · rename_i hne
          cases l with
          | nil => rfl
          | cons v r =>
            cases v with
            | sc c => exact absurd rfl (hne c r)
            | _ => rfl
      rw [dead _ h1', dead _ h2']
      exact ⟨rfl, fun _ _ => Iff.rfl⟩
theorem mkO_ok {p : Nat → Prop} {ty : Nat} {tl : Option (List K)} {vs : List SV} (h : SV.okL p vs) : SV.okL p (mkO ty tl vs).cs := by
  unfold mkO
  split
  · exact h
  · split
    · exact h.2
    · trivial
  · trivial

structure Ent where
  key : Nat
  f : Nat
  ps : List Sh
  os : List Ob
  kp : List Nat
  rs : Sh
  fn : Nat → List Int → Int
  pre : List Int → Prop
abbrev Tabs := List Ent

def env (xs : List Int) : Nat → Int := fun i => xs.getD i 0
def varE (ks : List K) : Nat → E := fun i => match ks[i]? with | some k => .var k i | none => mkB false
def Ent.pks (e : Ent) : List K := Sh.ksL e.ps
def Ent.outL (e : Ent) : List Sh := e.os.flatMap (fun o => o.cs) ++ [e.rs]
def Ent.oks (e : Ent) : List K := Sh.ksL e.outL
def Ent.np (e : Ent) : Nat := e.pks.length
def Ent.nn (e : Ent) : Nat := Sh.nnL e.ps
def Ent.pgen (e : Ent) : List SV × Ents := Sh.genL (varE e.pks) id e.ps (mkB true) 0 0
def Ent.ogen (e : Ent) : List SV × Ents := Sh.genL (varE (e.pks ++ e.oks)) id e.outL (mkB true) e.np e.nn
/-- The objects' new cells among what is given. -/
def objE : List Ob → List SV → Ents
  | [], _ => []
  | o :: r, vs => (o.j, mkB true, mkO o.ty o.tl (vs.take o.cs.length)) :: objE r (vs.drop o.cs.length)
def keptE (kp : List Nat) (l : Ents) : Ents := l.filter fun x => kp.contains x.1
def lastV (l : List SV) : SV := l.getLastD .und
def Ent.oents (e : Ent) : Ents := objE e.os e.ogen.1 ++ (keptE e.kp e.pgen.2 ++ e.ogen.2)
def outsE (fn : Nat → List Int → Int) (xs : List Int) : Nat → List K → List Int
  | _, [] => []
  | j, k :: ks => k.norm (fn j xs) :: outsE fn xs (j + 1) ks

/-- What is told of named things holds in the world w. -/
structure RelE (F : Fam) (ρ : Nat → Int) (w0 : World) (M0 Im : Nat → Prop) (hs : Nat → Hd) (l : Ents) (w : World) : Prop where
  ent : ∀ x ∈ l, x.2.1.tt F ρ = true → BlkOK F ρ Im hs x.1 w x.2.2 ∧ ∀ b, mutB F ρ hs x.1 x.2.2 = some b → (M0 b ∨ w0.heap.size ≤ b) ∧ ¬ Im b ∧ b < w.heap.size
  inj : ∀ x ∈ l, ∀ y ∈ l, x.2.1.tt F ρ = true → y.2.1.tt F ρ = true → ∀ b, mutB F ρ hs x.1 x.2.2 = some b → mutB F ρ hs y.1 y.2.2 = some b → x.1 = y.1
  im : ∀ b, Im b → b < w.heap.size
  fr : Fr M0 w0 w

/-- What a summary says. -/
def EntryOK (P : Program) (G : Glob) (e : Ent) : Prop :=
  ∀ xs, fits e.pks xs → e.pre xs → ∀ (w : World) (M0 Im0 : Nat → Prop) (hs : Nat → Hd), (∀ b, M0 b → ¬ Im0 b ∧ b < w.heap.size) → GOK G Im0 w → RelE F0 (env xs) w M0 Im0 hs e.pgen.2 w →
    Calls P e.f (SV.concL F0 (env xs) hs e.pgen.1).toArray w fun en w' => ∃ (hs' : Nat → Hd) (Im' : Nat → Prop), (∀ j, j < e.nn → hs' j = hs j) ∧ (∀ b, Im0 b → Im' b) ∧ (∀ b, Im' b → Im0 b ∨ M0 b ∨ w.heap.size ≤ b) ∧
      en = .returned ((lastV e.ogen.1).conc F0 (env (xs ++ outsE e.fn xs 0 e.oks)) hs') ∧ RelE F0 (env (xs ++ outsE e.fn xs 0 e.oks)) w M0 Im' hs' e.oents w'

def Tabs.get (l : Tabs) (k : Nat) : Option Ent := l.find? fun e => e.key == k
def preC : Nat := 1000000
open Classical in
noncomputable def Tabs.F (l : Tabs) : Fam := fun k j xs => if k = 0 then bi j xs else match l.get k with
  | some e => if j = preC then (if e.pre xs then 1 else 0) else e.fn j xs
  | none => 0
theorem Tabs.BI (l : Tabs) : BI l.F := fun j xs => by simp [Tabs.F]

/-! ### a call that is taken by a summary -/
def appsE (key : Nat) (es : List E) : Nat → List K → List E
  | _, [] => []
  | j, k :: ks => .app k key j es :: appsE key es (j + 1) ks
/-- A summary whose key is as great as this gives its results names: fresh variables, with the condition that each is what it names. -/
def namB : Nat := 100000000
def varsE (b : Nat) : Nat → List K → List E
  | _, [] => []
  | j, k :: ks => .var k (b + j) :: varsE b (j + 1) ks
def eqsE : List E → List E → E
  | a :: l, b :: r => .and (.cmp .eql a b) (eqsE l r)
  | _, _ => mkB true
def outV (key nm : Nat) (es : List E) (ks : List K) : List E := bif decide (namB ≤ key) then varsE ((key * 100000 + nm) * 64) 0 ks else appsE key es 0 ks
def defG (key nm : Nat) (es : List E) (ks : List K) : E := bif decide (namB ≤ key) then eqsE (varsE ((key * 100000 + nm) * 64) 0 ks) (appsE key es 0 ks) else mkB true
def nvC (srcs : List Src) (N nm k : Nat) : Nat → Nat := fun j => if j < N then (match srcs[j]? with | some (.nm n) => n | _ => 1000000000 + j) else if j - N < k then nm + (j - N) else 1000000000 + j
def evC (es os : List E) : Nat → E := fun i => if i < es.length then es.getD i (mkB false) else os.getD (i - es.length) (mkB false)
/-- Which of the names may be written by way of a shape. -/
def mutJ (l : Ents) : List Nat := l.filterMap fun x => match x.2.2 with
  | .cells .. => some x.1
  | .lst _ _ true _ _ => some x.1
  | .mp .. => some x.1
  | .seg .. => some x.1
  | _ => none
def nodupB : List Nat → Bool
  | [] => true
  | n :: r => !r.contains n && nodupB r
def setEs (m : Mem) : List (Nat × E × Blk) → Mem
  | [] => m
  | (n, g, b) :: r => setEs (m.set n (some (g, b))) r
/-- The memory's own entries of the objects that get new cells. -/
def objSet (srcs : List Src) (m : Mem) : List Ob → List SV → Option (List (Nat × E × Blk))
  | [], _ => some []
  | o :: r, vs => match srcs[o.j]? with
    | some (.nm n) => match m.at n with
      | some (g, b) => if (unO b).isSome = true ∧ (unO b).map (·.1) = some o.ty ∧ (unO b).map (·.2.1) = some o.tl ∧ (o.tl.isSome = true → isX (vs.take o.cs.length) = true) then (objSet srcs m r (vs.drop o.cs.length)).map fun l => (n, g, mkO o.ty o.tl (vs.take o.cs.length)) :: l else none
      | _ => none
    | _ => none
def keptOK (srcs : List Src) (kp : List Nat) : Bool := kp.all fun j => match srcs[j]? with
  | some (.nm _) => true
  | some (.vw _ _ _ _) => true
  | some (.mpn _) => true
  | some (.mpv _ _) => true
  | _ => false
def isRef (srcs : List Src) (j : Nat) : Bool :=
  match srcs[j]? with
  | some (.nm _) => true
  | _ => false
def freeB (m : Mem) (nm k : Nat) : Bool := (List.range k).all fun i => decide (nm + i < m.length) && (m.at (nm + i)).isNone

/-- A call by one summary: the condition, the value, the memory behind it. -/
def callE (e : Ent) (m : Mem) (nm : Nat) (args : List SV) : Option (E × SV × Mem) :=
  match Sh.getL m e.ps [] args with
  | some (es, srcs, g) =>
    let os := outV e.key nm es e.oks
    let gen := Sh.genL (evC es os) (nvC srcs e.nn nm (Sh.nnL e.outL)) e.outL (mkB true) e.np e.nn
    let mj := mutJ e.pgen.2
    let dead := (mj.filter fun j => !e.kp.contains j && !(e.os.any fun o => o.j == j)).flatMap (srcOf srcs)
    match objSet srcs m e.os gen.1 with
    | some sets => if nodupB (mj.flatMap (srcOf srcs)) = true ∧ keptOK srcs e.kp = true ∧ freeB m nm (Sh.nnL e.outL) = true ∧ m.length < 1000000000 ∧ nodupB (e.os.map (·.j)) = true ∧
        (e.os.all fun o => mj.contains o.j && !e.kp.contains o.j) = true ∧
        e.key ≠ 0 ∧ e.oks.length < preC ∧ ((Sh.refsL e.outL).all fun j => isRef srcs j && decide (j < e.nn)) = true ∧ ((Sh.refsL e.ps).all fun j => decide (j < e.nn)) = true then
        some (mkAnd (mkAnd g (.app .b e.key preC es)) (defG e.key nm es e.oks), lastV gen.1, setEs (setEs (killL m dead) sets) (gen.2.map fun x => (nvC srcs e.nn nm (Sh.nnL e.outL) x.1, x.2.1, x.2.2)))
      else none
    | none => none
  | none => none
end Go.Proofs.Ytmolkkphnehgcaa.Ew

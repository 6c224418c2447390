/- Whether values and memory have a shape; that what has a shape reads as the shape's generic value. -/
import Derived.Test.YtmolkkphnehgcaaWP
set_option linter.unusedVariables false
set_option linter.unusedSimpArgs false
namespace Go.Proofs.Ytmolkkphnehgcaa.Ew
open Go Go.RowKit

/-- Where a name of a shape comes from. -/
inductive Src where
  | nm (n : Nat)
  | vw (ty : Nat) (row : Row) (v : SV) (V : LV)
  | dm
  | mpn (n : Nat)
  | mpv (v : SV) (ns : List Nat)
  deriving Repr, Inhabited
/-- Each name once. -/
def dd : List Nat → List Nat
  | [] => []
  | n :: r => bif r.contains n then dd r else n :: dd r
theorem mem_dd {n : Nat} : ∀ {l : List Nat}, n ∈ dd l ↔ n ∈ l
  | [] => Iff.rfl
  | k :: r => by
    simp only [dd]
    cases hc : r.contains k
    · simp only [cond_false, List.mem_cons, mem_dd (l := r)]
    · simp only [cond_true, List.mem_cons, mem_dd (l := r)]
      have hk : k ∈ r := by simpa using hc
      exact ⟨Or.inr, fun h => h.elim (fun e => e ▸ hk) id⟩
def Src.ns : Src → List Nat
  | .nm n => [n]
  | .vw _ _ _ V => dd V.ns
  | .dm => []
  | .mpn n => [n]
  | .mpv _ ns => dd ns
def isNm (l : List Src) (j n : Nat) : Bool :=
  match l[j]? with
  | some (.nm k) => k == n
  | _ => false

/-- A pointer that may be nil: when, and what it is otherwise. -/
def optV : SV → Option (E × Option SV)
  | .nilp .nP => some (mkB true, none)
  | .ite c (.nilp .nP) v => some (c, some v)
  | .ite c v (.nilp .nP) => some (mkNot c, some v)
  | .ptr n o => some (mkB false, some (.ptr n o))
  | _ => none
theorem optV_spec {F : Fam} {ρ : Nat → Int} {ad : Nat → Hd} {v : SV} {c : E} {u : Option SV} (h : optV v = some (c, u)) :
    (u = none → v = .nilp .nP ∧ c = mkB true) ∧ ∀ z, u = some z → v.conc F ρ ad = bif c.tt F ρ then .pointer none else z.conc F ρ ad := by
  unfold optV at h
  split at h <;> simp only [Option.some.injEq, Prod.mk.injEq, reduceCtorEq] at h <;> obtain ⟨rfl, rfl⟩ := h
  · exact ⟨fun _ => ⟨rfl, rfl⟩, fun z hz => by cases hz⟩
  · refine ⟨fun hz => (by cases hz), fun z hz => ?_⟩
    simp only [Option.some.injEq] at hz; subst hz
    rfl
  · refine ⟨fun hz => (by cases hz), fun z hz => ?_⟩
    simp only [Option.some.injEq] at hz; subst hz
    simp only [SV.conc, (mkNot_spec _ F ρ).1, CV.val]
    rename_i c _ _
    cases c.tt F ρ <;> rfl
  · refine ⟨fun hz => (by cases hz), fun z hz => ?_⟩
    simp only [Option.some.injEq] at hz; subst hz
    simp

def getLst (m : Mem) (ty : Nat) (row : Row) (own : Bool) (v : SV) : Option (List E × List Src × E) :=
  match viewL m ty row v with
  | some V => if (bif own then V.own else V.sh) = true then some ([V.c], [.vw ty row v V], V.g) else none
  | none => none
def getMp (m : Mem) (ks vs : List K) (kag vag : Bool) (n : Nat) : Option (List E × List Src × E) :=
  match m.at n with
  | some (g, .mp ks' vs' kag' vag' c) => if ks' = ks ∧ vs' = vs ∧ kag' = kag ∧ vag' = vag ∧ c.kind = .x ∧ g.kind = .b then some ([c], [.mpn n], g) else none
  | _ => none
/-- A map that is one of several. -/
def getMpV (m : Mem) (ks vs : List K) (kag vag : Bool) : SV → Option (E × List Nat × E)
  | .mp n => match m.at n with
    | some (g, .mp ks' vs' kag' vag' c) => if ks' = ks ∧ vs' = vs ∧ kag' = kag ∧ vag' = vag ∧ c.kind = .x ∧ g.kind = .b then some (c, [n], g) else none
    | _ => none
  | .ite p a b => match getMpV m ks vs kag vag a, getMpV m ks vs kag vag b with
    | some x, some y => if p.kind = .b then some (mkIte p x.1 y.1, x.2.1 ++ y.2.1, mkIte p x.2.2 y.2.2) else none
    | _, _ => none
  | _ => none
def mpHd (F : Fam) (ρ : Nat → Int) (ad : Nat → Hd) : SV → Hd
  | .mp n => ad n
  | .ite p a b => bif p.tt F ρ then mpHd F ρ ad a else mpHd F ρ ad b
  | _ => default
theorem getMpV_spec {m : Mem} {ks vs : List K} {kag vag : Bool} : ∀ {v : SV} {c : E} {ns : List Nat} {g : E}, getMpV m ks vs kag vag v = some (c, ns, g) → c.kind = .x ∧ g.kind = .b ∧ ∀ (F : Fam) (ρ : Nat → Int) (ad : Nat → Hd), g.tt F ρ = true →
    ∃ n ∈ ns, ∃ g' c', m.at n = some (g', .mp ks vs kag vag c') ∧ g'.tt F ρ = true ∧ c.den F ρ = c'.den F ρ ∧ mpHd F ρ ad v = ad n ∧ v.conc F ρ ad = .map (some (ad n).blk)
  | .mp n, c, ns, g, h => by
    simp only [getMpV] at h
    split at h
    · rename_i g' ks' vs' kag' vag' c' hn
      split at h
      · rename_i hc
        obtain ⟨rfl, rfl, rfl, rfl, h5, h6⟩ := hc
        simp only [Option.some.injEq, Prod.mk.injEq] at h
        obtain ⟨rfl, rfl, rfl⟩ := h
        exact ⟨h5, h6, fun F ρ ad hg => ⟨n, by simp, _, _, hn, hg, rfl, rfl, rfl⟩⟩
      · cases h
    · cases h
  | .ite p a b, c, ns, g, h => by
    simp only [getMpV] at h
    split at h
    · rename_i x y hx hy
      split at h
      · rename_i hp
        simp only [Option.some.injEq, Prod.mk.injEq] at h
        obtain ⟨rfl, rfl, rfl⟩ := h
        obtain ⟨x1, x2, x3⟩ := getMpV_spec (c := x.1) (ns := x.2.1) (g := x.2.2) hx
        obtain ⟨y1, y2, y3⟩ := getMpV_spec (c := y.1) (ns := y.2.1) (g := y.2.2) hy
        refine ⟨(mkIte_x (F := fun _ _ _ => 0) (ρ := fun _ => 0) hp x1 y1).1, (mkIte_b (F := fun _ _ _ => 0) (ρ := fun _ => 0) hp x2 y2).1, fun F ρ ad hg => ?_⟩
        rw [(mkIte_b hp x2 y2).2] at hg
        have hd := (mkIte_x (F := F) (ρ := ρ) hp x1 y1).2
        cases hpt : p.tt F ρ
        · rw [hpt] at hg hd
          obtain ⟨n, hn, g', c', q1, q2, q3, q4, q5⟩ := y3 F ρ ad hg
          exact ⟨n, List.mem_append_right _ hn, g', c', q1, q2, hd.trans q3, by simp only [mpHd, hpt, cond_false, q4], by simp only [SV.conc, hpt, cond_false, q5]⟩
        · rw [hpt] at hg hd
          obtain ⟨n, hn, g', c', q1, q2, q3, q4, q5⟩ := x3 F ρ ad hg
          exact ⟨n, List.mem_append_left _ hn, g', c', q1, q2, hd.trans q3, by simp only [mpHd, hpt, cond_true, q4], by simp only [SV.conc, hpt, cond_true, q5]⟩
      · cases h
    · cases h
  | .sc _, _, _, _, h | .ptr .., _, _, _, h | .pi .., _, _, _, h | .sl .., _, _, _, h | .ls .., _, _, _, h | .sv .., _, _, _, h | .pe .., _, _, _, h | .nilp _, _, _, _, h | .oq .., _, _, _, h | .fn .., _, _, _, h | .agg .., _, _, _, h | .tup .., _, _, _, h | .gd .., _, _, _, h | .und, _, _, _, h | .gl .., _, _, _, h => by simp [getMpV] at h
theorem getMpV_loc {m m2 : Mem} {ks vs : List K} {kag vag : Bool} : ∀ {v : SV} {r : E × List Nat × E}, getMpV m ks vs kag vag v = some r → (∀ n ∈ r.2.1, m2.at n = m.at n) → getMpV m2 ks vs kag vag v = some r
  | .mp n, r, h, ha => by
    have h0 := h
    simp only [getMpV] at h ⊢
    split at h
    · rename_i g' ks' vs' kag' vag' c' hn
      split at h
      · rename_i hc
        simp only [Option.some.injEq] at h; subst h
        have := ha n (by simp)
        rw [this, hn]
        simp only
        rw [if_pos hc]
      · cases h
    · cases h
  | .ite p a b, r, h, ha => by
    simp only [getMpV] at h ⊢
    split at h
    · rename_i x y hx hy
      split at h
      · rename_i hp
        simp only [Option.some.injEq] at h; subst h
        rw [getMpV_loc hx fun n hn => ha n (List.mem_append_left _ hn), getMpV_loc hy fun n hn => ha n (List.mem_append_right _ hn)]
        simp only [if_pos hp]
      · cases h
    · cases h
  | .sc _, _, h, _ | .ptr .., _, h, _ | .pi .., _, h, _ | .sl .., _, h, _ | .ls .., _, h, _ | .sv .., _, h, _ | .pe .., _, h, _ | .nilp _, _, h, _ | .oq .., _, h, _ | .fn .., _, h, _ | .agg .., _, h, _ | .tup .., _, h, _ | .gd .., _, h, _ | .und, _, h, _ | .gl .., _, h, _ => by simp [getMpV] at h
def getMpI (m : Mem) (ks vs : List K) (kag vag : Bool) (v : SV) : Option (List E × List Src × E) := (getMpV m ks vs kag vag v).map fun r => ([r.1], [.mpv v r.2.1], r.2.2)
def blkS (m : Mem) (n : Nat) : Option (E × Nat × List SV × List K × E) :=
  match m.at n with
  | some (g, .seg ty cs ks c) => if g.kind = .b ∧ c.kind = .x then some (g, ty, cs, ks, c) else none
  | _ => none
theorem blkS_spec {m : Mem} {n : Nat} {g : E} {ty : Nat} {cs : List SV} {ks : List K} {c : E} (h : blkS m n = some (g, ty, cs, ks, c)) : m.at n = some (g, .seg ty cs ks c) ∧ g.kind = .b ∧ c.kind = .x := by
  unfold blkS at h
  split at h
  · rename_i g' ty' cs' ks' c' hn
    split at h
    · rename_i hk
      simp only [Option.some.injEq, Prod.mk.injEq] at h
      obtain ⟨rfl, rfl, rfl, rfl, rfl⟩ := h
      exact ⟨hn, hk⟩
    · cases h
  · cases h
theorem getMp_spec {m : Mem} {ks vs : List K} {kag vag : Bool} {n : Nat} {r : List E × List Src × E} (h : getMp m ks vs kag vag n = some r) : ∃ g c, m.at n = some (g, .mp ks vs kag vag c) ∧ r = ([c], [.mpn n], g) ∧ c.kind = .x ∧ g.kind = .b := by
  unfold getMp at h
  split at h
  · rename_i g ks' vs' kag' vag' c hn
    split at h
    · rename_i hc
      obtain ⟨rfl, rfl, rfl, rfl, h5, h6⟩ := hc
      simp only [Option.some.injEq] at h
      exact ⟨g, c, hn, h.symm, h5, h6⟩
    · cases h
  · cases h
def getOpt (d : List E × List Src × E) (v : SV) (f : SV → Option (List E × List Src × E)) : Option (List E × List Src × E) :=
  match optV v with
  | some (_, none) => some d
  | some (c, some u) => if c.kind = .b ∧ c.sound = true then (f u).map fun r => (c :: r.1, r.2.1, mkOr c r.2.2) else none
  | none => none
mutual
def Sh.get (m : Mem) : Sh → List Src → SV → Option (List E × List Src × E)
  | .sc k, _, .sc e => if e.kind = k ∧ e.sound = true then some ([e], [], mkB true) else none
  | .lt k n, _, .sc (.lit k' n') => if k = k' ∧ n = n' then some ([], [], mkB true) else none
  | .agg l, acc, .agg vs => Sh.getL m l acc vs
  | .lst ty row own, _, v => getLst m ty row own v
  | .obj ty cs, acc, .ptr n 0 => match blkC m n with
    | some (g, ty', vs) => if ty' = ty then (Sh.getL m cs (acc ++ [.nm n]) vs).map fun r => (r.1, .nm n :: r.2.1, mkAnd g r.2.2) else none
    | none => none
  | .ref j, acc, .ptr n 0 => if isNm acc j n = true then some ([], [], mkB true) else none
  | .fnc f l, acc, .fn f' vs => if f = f' then Sh.getL m l acc vs else none
  | .nul c, _, .nilp c' => if c = c' then some ([], [], mkB true) else none
  | .tup l, acc, .tup vs => Sh.getL m l acc vs
  | .opt s, acc, v => getOpt (mkB true :: s.ks.map fun k => .lit k 0, List.replicate s.nn .dm, mkB true) v fun u => s.get m acc u
  | .und, _, .und => some ([], [], mkB true)
  | .mp ks vs kag vag, _, .mp n => getMp m ks vs kag vag n
  | .mp ks vs kag vag, _, .ite p a b => getMpI m ks vs kag vag (.ite p a b)
  | .seg ty ks cs, acc, .ptr n 0 => match blkS m n with
    | some (g, ty', vs, ks', c) => if ty' = ty ∧ ks' = ks then (Sh.getL m cs (acc ++ [.nm n]) vs).map fun r => (c :: r.1, .nm n :: r.2.1, mkAnd g r.2.2) else none
    | none => none
  | _, _, _ => none
def Sh.getL (m : Mem) : List Sh → List Src → List SV → Option (List E × List Src × E)
  | [], _, [] => some ([], [], mkB true)
  | s :: l, acc, v :: vs => match s.get m acc v with
    | some (es, ns, g) => (Sh.getL m l (acc ++ ns) vs).map fun r => (es ++ r.1, ns ++ r.2.1, mkAnd g r.2.2)
    | none => none
  | _, _, _ => none
end

open Classical in
noncomputable def srcHd (F : Fam) (ρ : Nat → Int) (w : World) (Im : Nat → Prop) (ad : Nat → Hd) (m : Mem) : Src → Hd
  | .nm n => ad n
  | .vw ty row v V => if h : ∃ hd, LVok F ρ w Im ad m ty row v V hd then h.choose else default
  | .dm => default
  | .mpn n => ad n
  | .mpv v _ => mpHd F ρ ad v

section
variable {F : Fam} {ρ ρ' : Nat → Int} {w0 w : World} {M0 Im : Nat → Prop} {ad hs : Nat → Hd} {m : Mem} {ev : Nat → E}

/-- The entries of a generic value hold, and what they allow to write is what the memory's own names allow. -/
structure EntOK (F : Fam) (ρ : Nat → Int) (ρ' : Nat → Int) (w : World) (Im : Nat → Prop) (ad hs : Nat → Hd) (m : Mem) (S : List Src) (src : Nat → List Nat) (x : Nat × E × Blk) : Prop where
  ok : BlkOK F0 ρ' Im hs x.1 w x.2.2
  mu : ∀ b, mutB F0 ρ' hs x.1 x.2.2 = some b → ∃ n ∈ src x.1, ∃ g y, m.at n = some (g, y) ∧ g.tt F ρ = true ∧ mutB F ρ ad n y = some b
  nm : ∀ n, S[x.1]? = some (.nm n) → (∃ ty cs, x.2.2 = .cells ty cs) ∨ ∃ ty cs ks c, x.2.2 = .seg ty cs ks c
  mp : ∀ n, S[x.1]? = some (.mpn n) → ∃ ks vs kag vag c g c', x.2.2 = .mp ks vs kag vag c ∧ m.at n = some (g, .mp ks vs kag vag c') ∧ c.den F0 ρ' = c'.den F ρ
  mv : ∀ v ns, S[x.1]? = some (.mpv v ns) → ∃ ks vs kag vag c n g c', x.2.2 = .mp ks vs kag vag c ∧ m.at n = some (g, .mp ks vs kag vag c') ∧ g.tt F ρ = true ∧ c.den F0 ρ' = c'.den F ρ ∧ hs x.1 = ad n
  vw : ∀ ty row v V, S[x.1]? = some (.vw ty row v V) → ∃ own le c, x.2.2 = .lst ty row own le c ∧ viewL m ty row v = some V ∧ c.den F0 ρ' = V.c.den F ρ ∧ v.conc F ρ ad = (hs x.1).sl (dc (V.c.den F ρ)).length ∧ V.g.tt F ρ = true ∧ (own = true → V.own = true)

def EvOK (F : Fam) (ρ ρ' : Nat → Int) (ev : Nat → E) (vi : Nat) (es : List E) : Prop := ∀ i e, es[i]? = some e → (ev (vi + i)).den F0 ρ' = e.den F ρ ∧ (ev (vi + i)).kind = e.kind

theorem EvOK.left {vi : Nat} {a b : List E} (h : EvOK F ρ ρ' ev vi (a ++ b)) : EvOK F ρ ρ' ev vi a := fun i e hi => h i e (by rw [List.getElem?_append_left (List.getElem?_eq_some_iff.1 hi).1]; exact hi)
theorem EvOK.right {vi : Nat} {a b : List E} (h : EvOK F ρ ρ' ev vi (a ++ b)) : EvOK F ρ ρ' ev (vi + a.length) b := fun i e hi => by
  have := h (a.length + i) e (by rw [List.getElem?_append_right (by omega)]; simpa using hi)
  rwa [← Nat.add_assoc] at this
theorem EvOK.tail {vi : Nat} {a : E} {b : List E} (h : EvOK F ρ ρ' ev vi (a :: b)) : EvOK F ρ ρ' ev (vi + 1) b := EvOK.right (a := [a]) h
theorem EvOK.head {vi : Nat} {a : E} {b : List E} (h : EvOK F ρ ρ' ev vi (a :: b)) : (ev vi).den F0 ρ' = a.den F ρ ∧ (ev vi).kind = a.kind := h 0 a rfl
theorem EvOK.val {vi : Nat} {a : E} {b : List E} (h : EvOK F ρ ρ' ev vi (a :: b)) : (ev vi).val F0 ρ' = a.val F ρ := by
  obtain ⟨h1, h2⟩ := h.head
  rw [← val_of_kind, ← val_of_kind, h1, h2]
theorem EvOK.tt {vi : Nat} {a : E} {b : List E} (h : EvOK F ρ ρ' ev vi (a :: b)) : (ev vi).tt F0 ρ' = a.tt F ρ := by unfold E.tt; rw [h.head.1]

/-- The lengths and kinds of what is got. -/
theorem E_kinds_append {a b : List E} {ks ls : List K} (h : a.map E.kind = ks) (h' : b.map E.kind = ls) : (a ++ b).map E.kind = ks ++ ls := by rw [List.map_append, h, h']

mutual
theorem get_kinds : ∀ (s : Sh) (acc : List Src) (v : SV) (r : List E × List Src × E), s.get m acc v = some r → r.1.map E.kind = s.ks ∧ r.2.1.length = s.nn ∧ r.2.2.kind = .b ∧ ∀ e ∈ r.1, e.kind ≠ .x → e.sound = true
  | .sc k, acc, v, r, h => by
    cases v <;> simp only [Sh.get, reduceCtorEq] at h
    split at h
    · rename_i hc
      simp only [Option.some.injEq] at h; subst h
      exact ⟨by simp [Sh.ks, hc.1], rfl, rfl, fun e he => by simp at he; subst he; exact fun _ => hc.2⟩
    · cases h
  | .lt k n, acc, v, r, h => by
    cases v with
    | sc e =>
      cases e <;> simp only [Sh.get, reduceCtorEq] at h
      split at h
      · simp only [Option.some.injEq] at h; subst h
        exact ⟨rfl, rfl, rfl, fun e he => by simp at he⟩
      · cases h
    | _ => simp [Sh.get] at h
  | .agg l, acc, v, r, h => by
    cases v <;> simp only [Sh.get, reduceCtorEq] at h
    exact getL_kinds l acc _ r h
  | .lst ty row own, acc, v, r, h => by
    have h' : getLst m ty row own v = some r := by cases v <;> simpa only [Sh.get] using h
    unfold getLst at h'
    split at h'
    · rename_i V hV
      split at h'
      · simp only [Option.some.injEq] at h'; subst h'
        obtain ⟨k1, k2, k3⟩ := viewL_kind hV
        exact ⟨by simp [Sh.ks, k2], rfl, k3, fun e he hx => by simp at he; subst he; exact (hx k2).elim⟩
      · cases h'
    · cases h'
  | .obj ty cs, acc, v, r, h => by
    cases v with
    | ptr n o =>
      cases o with
      | zero =>
        simp only [Sh.get] at h
        split at h
        · rename_i g ty' vs hb
          split at h
          · obtain ⟨q, hq, rfl⟩ := Option.map_eq_some_iff.1 h
            obtain ⟨i1, i2, i3, i4⟩ := getL_kinds cs _ _ q hq
            exact ⟨i1, by simp [Sh.nn, i2], (mkAnd_spec g q.2.2 (blkC_spec hb).2 i3 (fun _ _ _ => 0) fun _ => 0).2, i4⟩
          · cases h
        · cases h
      | succ o => simp [Sh.get] at h
    | _ => simp [Sh.get] at h
  | .ref j, acc, v, r, h => by
    cases v with
    | ptr n o =>
      cases o with
      | zero =>
        simp only [Sh.get] at h
        split at h
        · simp only [Option.some.injEq] at h; subst h
          exact ⟨rfl, rfl, rfl, fun e he => by simp at he⟩
        · cases h
      | succ o => simp [Sh.get] at h
    | _ => simp [Sh.get] at h
  | .fnc f l, acc, v, r, h => by
    cases v <;> simp only [Sh.get, reduceCtorEq] at h
    split at h
    · exact getL_kinds l acc _ r h
    · cases h
  | .nul c, acc, v, r, h => by
    cases v <;> simp only [Sh.get, reduceCtorEq] at h
    split at h
    · simp only [Option.some.injEq] at h; subst h
      exact ⟨rfl, rfl, rfl, fun e he => by simp at he⟩
    · cases h
  | .tup l, acc, v, r, h => by
    cases v <;> simp only [Sh.get, reduceCtorEq] at h
    exact getL_kinds l acc _ r h
  | .opt s, acc, v, r, h => by
    have h' : getOpt (mkB true :: s.ks.map fun k => E.lit k 0, List.replicate s.nn Src.dm, mkB true) v (fun u => s.get m acc u) = some r := by cases v <;> simpa only [Sh.get] using h
    unfold getOpt at h'
    split at h'
    · simp only [Option.some.injEq] at h'; subst h'
      refine ⟨by simp [Sh.ks, E.kind, Function.comp_def], by simp [Sh.nn], rfl, fun e he hx => ?_⟩
      rcases List.mem_cons.1 he with rfl | he
      · rfl
      · obtain ⟨k, _, rfl⟩ := List.mem_map.1 he; rfl
    · rename_i c u ho
      split at h'
      · rename_i hc
        obtain ⟨q, hq, rfl⟩ := Option.map_eq_some_iff.1 h'
        obtain ⟨i1, i2, i3, i4⟩ := get_kinds s acc u q hq
        refine ⟨by simp [Sh.ks, hc.1, i1], i2, (mkOr_spec c q.2.2 hc.1 i3 (fun _ _ _ => 0) fun _ => 0).2, fun e he hx => ?_⟩
        rcases List.mem_cons.1 he with rfl | he
        · exact hc.2
        · exact i4 e he hx
      · cases h'
    · cases h'
  | .und, acc, v, r, h => by
    cases v <;> simp only [Sh.get, reduceCtorEq] at h
    simp only [Option.some.injEq] at h; subst h
    exact ⟨rfl, rfl, rfl, fun e he => by simp at he⟩
  | .mp ks vs kag vag, acc, v, r, h => by
    cases v <;> simp only [Sh.get, reduceCtorEq] at h
    case mp n =>
      obtain ⟨g, c, h1, rfl, h3, h4⟩ := getMp_spec h
      exact ⟨by simp [Sh.ks, h3], rfl, h4, fun e he hx => by simp at he; subst he; exact (hx h3).elim⟩
    case ite p a b =>
      obtain ⟨⟨c, ns, g⟩, h1, rfl⟩ := Option.map_eq_some_iff.1 h
      obtain ⟨h3, h4, _⟩ := getMpV_spec h1
      exact ⟨by simp [Sh.ks, h3], rfl, h4, fun e he hx => by simp at he; subst he; exact (hx h3).elim⟩
  | .seg ty ks cs, acc, v, r, h => by
    cases v with
    | ptr n o =>
      cases o with
      | zero =>
        simp only [Sh.get] at h
        split at h
        · rename_i g ty' vs ks' c hb
          split at h
          · obtain ⟨q, hq, rfl⟩ := Option.map_eq_some_iff.1 h
            obtain ⟨b1, b2, b3⟩ := blkS_spec hb
            obtain ⟨i1, i2, i3, i4⟩ := getL_kinds cs _ _ q hq
            refine ⟨by simp [Sh.ks, b3, i1], by simp [Sh.nn, i2], (mkAnd_spec g q.2.2 b2 i3 (fun _ _ _ => 0) fun _ => 0).2, fun e he hx => ?_⟩
            rcases List.mem_cons.1 he with rfl | he
            · exact (hx b3).elim
            · exact i4 e he hx
          · cases h
        · cases h
      | succ o => simp [Sh.get] at h
    | _ => simp [Sh.get] at h
theorem getL_kinds : ∀ (l : List Sh) (acc : List Src) (vs : List SV) (r : List E × List Src × E), Sh.getL m l acc vs = some r → r.1.map E.kind = Sh.ksL l ∧ r.2.1.length = Sh.nnL l ∧ r.2.2.kind = .b ∧ ∀ e ∈ r.1, e.kind ≠ .x → e.sound = true
  | [], acc, [], r, h => by simp only [Sh.getL, Option.some.injEq] at h; subst h; exact ⟨rfl, rfl, rfl, fun e he => by simp at he⟩
  | [], acc, _ :: _, r, h => by simp [Sh.getL] at h
  | _ :: _, acc, [], r, h => by simp [Sh.getL] at h
  | s :: l, acc, v :: vs, r, h => by
    simp only [Sh.getL] at h
    split at h
    · rename_i es ns g hs
      obtain ⟨q, hq, rfl⟩ := Option.map_eq_some_iff.1 h
      obtain ⟨i1, i2, i3, i4⟩ := get_kinds s acc v _ hs
      obtain ⟨j1, j2, j3, j4⟩ := getL_kinds l _ vs q hq
      refine ⟨E_kinds_append i1 j1, by simp [Sh.nnL, j2]; exact i2, (mkAnd_spec g q.2.2 i3 j3 (fun _ _ _ => 0) fun _ => 0).2, fun e he hx => ?_⟩
      rcases List.mem_append.1 he with he | he
      · exact i4 e he hx
      · exact j4 e he hx
    · cases h
end
end
end Go.Proofs.Ytmolkkphnehgcaa.Ew

/- From a function's end to its summary. -/
import Derived.Test.YtmolkkphnehgcaaW6
set_option linter.unusedVariables false
set_option linter.unusedSimpArgs false
namespace Go.Proofs.Ytmolkkphnehgcaa.Ew
open Go Go.RowKit

/-! ### the memory at the start -/
def memOf (l : Ents) (n : Nat) : Mem := (List.range n).map fun j => (l.find? fun x => x.1 == j).map (·.2)
/-- The parameters' things; then so many names of things not told of. -/
def start (e : Ent) (k : Nat) : Mem := memOf e.pgen.2 e.nn ++ List.replicate k (some (mkB true, .dead))
def startOK (e : Ent) : Bool := (Sh.refsL e.ps).all fun j => decide (j < e.nn)

/-! ### reading the end -/
def objGet (m : Mem) : List Ob → Option (E × List SV)
  | [] => some (mkB true, [])
  | o :: r => match m.at o.j with
    | some (g, b) => match unO b with
      | some (ty', tl', vs) => if ty' = o.ty ∧ tl' = o.tl ∧ vs.length = o.cs.length then (objGet m r).map fun q => (andB g q.1, vs ++ q.2) else none
      | none => none
    | none => none
def sameBlk : Blk → Blk → Bool
  | .cells ty cs, .cells ty' cs' => decide (ty = ty') && SV.sameL cs cs'
  | .lst ty row own le c, .lst ty' row' own' le' c' => decide (ty = ty') && decide (row = row') && decide (own = own') && le.same le' && c.same c'
  | .mp ks vs kag vag c, .mp ks' vs' kag' vag' c' => decide (ks = ks') && decide (vs = vs') && decide (kag = kag') && decide (vag = vag') && c.same c'
  | .seg ty cs ks c, .seg ty' cs' ks' c' => decide (ty = ty') && decide (ks = ks') && SV.sameL cs cs' && c.same c'
  | _, _ => false
def keptGet (m : Mem) : Ents → Option E
  | [] => some (mkB true)
  | x :: r => match m.at x.1 with
    | some (g, b) => if sameBlk b x.2.2 = true then (keptGet m r).map fun q => andB (impB x.2.1 g) q else none
    | none => none
def accN (n : Nat) : List Src := (List.range n).map Src.nm
/- A value is bent to a shape, under a condition: literals, pointers that are nil or not. -/
mutual
def fitV : Sh → SV → E × SV
  | .lt k n, .sc e => fitLt k n e
  | .nul c, .ite p a b => fitNil c p a b
  | .obj .., v => force v
  | .seg .., v => force v
  | .ref _, v => force v
  | .tup l, .tup vs => ((fitL l vs).1, .tup (fitL l vs).2)
  | .agg l, .agg vs => ((fitL l vs).1, .agg (fitL l vs).2)
  | _, v => (mkB true, v)
def fitL : List Sh → List SV → E × List SV
  | s :: l, v :: vs => (mkAnd (fitV s v).1 (fitL l vs).1, (fitV s v).2 :: (fitL l vs).2)
  | _, vs => (mkB true, vs)
def fitLt (k : K) (n : Int) (e : E) : E × SV :=
  match e.lit? with
  | some _ => (mkB true, .sc e)
  | none => if e.kind = k then
      match k with
      | .b => (bif i2b n then e else mkNot e, .sc (.lit .b n))
      | .i _ => (mkCmp .eql e (.lit k n), .sc (.lit k n))
      | .x => (mkB true, .sc e)
    else (mkB true, .sc e)
def fitNil (c : CV) (p : E) (a b : SV) : E × SV :=
  if p.kind = .b then
    match a, b with
    | .nilp c', _ => if c' = c then (p, .nilp c) else (mkB true, .ite p a b)
    | _, .nilp c' => if c' = c then (mkNot p, .nilp c) else (mkB true, .ite p a b)
    | _, _ => (mkB true, .ite p a b)
  else (mkB true, .ite p a b)
end
/- Names of lists of which a part is handed on. -/
mutual
def svN : SV → List Nat
  | .sv n _ _ _ _ => [n]
  | .fn _ cs | .agg cs | .tup cs => svNL cs
  | .gd _ v => svN v
  | .ite _ a b => svN a ++ svN b
  | _ => []
def svNL : List SV → List Nat
  | [] => []
  | v :: r => svN v ++ svNL r
end
def svAll (m : Mem) (v : SV) : List Nat := svN v ++ m.flatMap fun x => match x with
  | some (_, b) => svNL b.cs
  | none => []
/- Names of lists that are handed on as shared ones. -/
mutual
def shNV (m : Mem) : Sh → SV → List Nat
  | .lst _ _ false, v => namesV v
  | .agg l, .agg vs => shNL m l vs
  | .tup l, .tup vs => shNL m l vs
  | .obj _ cs, .ptr n 0 => match m.at n with
    | some (_, .cells _ vs) => shNL m cs vs
    | _ => []
  | _, _ => []
def shNL (m : Mem) : List Sh → List SV → List Nat
  | s :: l, v :: vs => shNV m s v ++ shNL m l vs
  | _, _ => []
end
def shOut (e : Ent) (m : Mem) (v : SV) : List Nat := match objGet m e.os with
  | some (_, V) => shNL m e.outL (V ++ [v])
  | none => []
def matchO (e : Ent) (m : Mem) (v : SV) : Option (E × List E) :=
  match objGet m e.os, keptGet m (keptE e.kp e.pgen.2) with
  | some (g1, V), some g2 => match Sh.getL m e.outL (accN e.nn) (fitL e.outL (V ++ [v])).2 with
    | some (es, srcs, g3) => if (nodupB ((mutJ e.oents).flatMap (srcOf (accN e.nn ++ srcs))) && (e.os.all fun o => decide (o.j < e.nn)) && startOK e) = true ∧ ((fitL e.outL (V ++ [v])).2.map isXv = (V ++ [v]).map isXv) then some (andB g1 (andB g2 (andB (fitL e.outL (V ++ [v])).1 g3)), es) else none
    | none => none
  | _, _ => none

section
variable {P : Program} {ρ : Nat → Int} {G : Glob} {T : Tab} {l : Tabs} {w0 w w' : World} {M0 Im0 Im : Nat → Prop} {ad ad' hs : Nat → Hd} {m m2 m' : Mem} {tm : Tm} {en : Env} {a : Act}

theorem fitLt_spec {F : Fam} {ad : Nat → Hd} (k : K) (n : Int) (e : E) : (fitLt k n e).1.kind = .b ∧ ((fitLt k n e).1.tt F ρ = true → (SV.sc e).conc F ρ ad = (fitLt k n e).2.conc F ρ ad) := by
  unfold fitLt
  split
  · exact ⟨mkB_kind _, fun _ => rfl⟩
  · split
    · rename_i hk
      split
      · cases hn : i2b n
        · simp only [cond_false]
          refine ⟨(mkNot_spec e F ρ).2, fun h => ?_⟩
          rw [(mkNot_spec e F ρ).1] at h
          have he : e.tt F ρ = false := by simpa using h
          simp only [SV.conc, E.val_b hk, E.val_b (show (E.lit .b n).kind = .b from rfl), he]
          congr 1
          simp only [E.tt, E.den, K.norm]
          simp only [i2b, Bool.not_eq_false', beq_iff_eq] at hn
          simp [hn, i2b]
        · simp only [cond_true]
          refine ⟨hk, fun h => ?_⟩
          simp only [SV.conc, E.val_b hk, E.val_b (show (E.lit .b n).kind = .b from rfl), h]
          congr 1
          simp only [E.tt, E.den, K.norm]
          simp only [i2b, Bool.not_eq_true', beq_eq_false_iff_ne] at hn
          simp [hn, i2b]
      · rename_i k'
        have hc := mkCmp_spec .eql e (.lit (.i k') n) F ρ
        refine ⟨hc.2, fun h => ?_⟩
        rw [hc.1] at h
        have h' : e.den F ρ = (E.lit (.i k') n).den F ρ := by simpa [cmpB] using h
        simp only [SV.conc, E.val_i hk, E.val_i (show (E.lit (.i k') n).kind = .i k' from rfl), h']
      · exact ⟨mkB_kind _, fun _ => rfl⟩
    · exact ⟨mkB_kind _, fun _ => rfl⟩
theorem fitNil_spec {F : Fam} {ad : Nat → Hd} (c : CV) (p : E) (a b : SV) : (fitNil c p a b).1.kind = .b ∧ ((fitNil c p a b).1.tt F ρ = true → (SV.ite p a b).conc F ρ ad = (fitNil c p a b).2.conc F ρ ad) := by
  unfold fitNil
  split
  · rename_i hp
    split
    · split
      · rename_i hc
        subst hc
        exact ⟨hp, fun h => by simp only [SV.conc, h, cond_true]⟩
      · exact ⟨mkB_kind _, fun _ => rfl⟩
    · split
      · rename_i hc
        subst hc
        refine ⟨(mkNot_spec p F ρ).2, fun h => ?_⟩
        rw [(mkNot_spec p F ρ).1] at h
        have hf : p.tt F ρ = false := by simpa using h
        simp only [SV.conc, hf, cond_false]
      · exact ⟨mkB_kind _, fun _ => rfl⟩
    · exact ⟨mkB_kind _, fun _ => rfl⟩
  · exact ⟨mkB_kind _, fun _ => rfl⟩
mutual
theorem fitV_spec {F : Fam} {ad : Nat → Hd} : ∀ (s : Sh) (v : SV), (fitV s v).1.kind = .b ∧ ((fitV s v).1.tt F ρ = true → v.conc F ρ ad = (fitV s v).2.conc F ρ ad)
  | .lt k n, v => by
    cases v <;> first | exact ⟨mkB_kind _, fun _ => rfl⟩ | (simp only [fitV]; exact fitLt_spec k n _)
  | .nul c, v => by
    cases v <;> first | exact ⟨mkB_kind _, fun _ => rfl⟩ | (simp only [fitV]; exact fitNil_spec c _ _ _)
  | .obj ty cs, v => by simp only [fitV]; exact ⟨force_kind v, fun h => (force_spec (p := fun _ => True) v).1 h⟩
  | .seg ty ks cs, v => by simp only [fitV]; exact ⟨force_kind v, fun h => (force_spec (p := fun _ => True) v).1 h⟩
  | .ref j, v => by simp only [fitV]; exact ⟨force_kind v, fun h => (force_spec (p := fun _ => True) v).1 h⟩
  | .tup l, v => by
    cases v <;> first | exact ⟨mkB_kind _, fun _ => rfl⟩ | skip
    rename_i vs
    obtain ⟨i1, i2⟩ := fitL_spec (F := F) (ad := ad) l vs
    simp only [fitV]
    exact ⟨i1, fun h => by simp only [SV.conc, i2 h]⟩
  | .agg l, v => by
    cases v <;> first | exact ⟨mkB_kind _, fun _ => rfl⟩ | skip
    rename_i vs
    obtain ⟨i1, i2⟩ := fitL_spec (F := F) (ad := ad) l vs
    simp only [fitV]
    exact ⟨i1, fun h => by simp only [SV.conc, i2 h]⟩
  | .sc _, v => by cases v <;> exact ⟨mkB_kind _, fun _ => rfl⟩
  | .lst .., v => by cases v <;> exact ⟨mkB_kind _, fun _ => rfl⟩
  | .fnc .., v => by cases v <;> exact ⟨mkB_kind _, fun _ => rfl⟩
  | .opt _, v => by cases v <;> exact ⟨mkB_kind _, fun _ => rfl⟩
  | .und, v => by cases v <;> exact ⟨mkB_kind _, fun _ => rfl⟩
  | .mp .., v => by cases v <;> exact ⟨mkB_kind _, fun _ => rfl⟩
theorem fitL_spec {F : Fam} {ad : Nat → Hd} : ∀ (l : List Sh) (vs : List SV), (fitL l vs).1.kind = .b ∧ ((fitL l vs).1.tt F ρ = true → SV.concL F ρ ad vs = SV.concL F ρ ad (fitL l vs).2)
  | [], vs => ⟨mkB_kind _, fun _ => rfl⟩
  | s :: l, [] => ⟨mkB_kind _, fun _ => rfl⟩
  | s :: l, v :: vs => by
    obtain ⟨i1, i2⟩ := fitV_spec (F := F) (ad := ad) s v
    obtain ⟨j1, j2⟩ := fitL_spec (F := F) (ad := ad) l vs
    have h := mkAnd_spec (fitV s v).1 (fitL l vs).1 i1 j1 F ρ
    simp only [fitL]
    refine ⟨h.2, fun ht => ?_⟩
    rw [h.1, Bool.and_eq_true] at ht
    simp only [SV.concL, i2 ht.1, j2 ht.2]
end

theorem memOf_at (l : Ents) (n j : Nat) : (memOf l n).at j = if j < n then (l.find? fun x => x.1 == j).map (·.2) else none := by
  unfold memOf Mem.at
  by_cases h : j < n <;> simp [List.getD, h]
theorem memOf_mem {l : Ents} {n j : Nat} {g : E} {b : Blk} (h : (memOf l n).at j = some (g, b)) : (j, g, b) ∈ l ∧ j < n := by
  rw [memOf_at] at h
  split at h
  · rename_i hj
    obtain ⟨x, hx, he⟩ := Option.map_eq_some_iff.1 h
    have h1 := List.mem_of_find?_eq_some hx
    have h2 := List.find?_some hx
    have h3 : x.1 = j := by simpa using h2
    obtain ⟨a, c⟩ := x
    simp only at h3 he
    subst h3 he
    exact ⟨h1, hj⟩
  · cases h
theorem start_len (e : Ent) (k : Nat) : (start e k).length = e.nn + k := by simp [start, memOf]
theorem start_at {e : Ent} {k j : Nat} {g : E} {b : Blk} (h : (start e k).at j = some (g, b)) : ((j, g, b) ∈ e.pgen.2 ∧ j < e.nn) ∨ b = .dead := by
  have hl : (memOf e.pgen.2 e.nn).length = e.nn := by simp [memOf]
  by_cases hj : j < e.nn
  · left
    refine memOf_mem ?_
    rw [← h]
    simp only [start, Mem.at, List.getD]
    rw [List.getElem?_append_left (by omega)]
  · right
    simp only [start, Mem.at, List.getD] at h
    rw [List.getElem?_append_right (by omega), List.getElem?_replicate] at h
    split at h
    · simp only [Option.getD_some, Option.some.injEq, Prod.mk.injEq] at h; exact h.2.symm
    · simp at h
theorem start_al (e : Ent) (k j : Nat) : al (start e k) j ↔ j < e.nn + k := by
  have hl : (memOf e.pgen.2 e.nn).length = e.nn := by simp [memOf]
  constructor
  · intro h
    obtain ⟨x, hx⟩ := Option.isSome_iff_exists.1 h
    have := Mem.at_lt hx
    rw [start_len] at this; exact this
  · intro h
    unfold al
    by_cases hj : j < e.nn
    · obtain ⟨x, x1, x2⟩ := genL_has (ev := varE e.pks) (nv := id) e.ps (mkB true) 0 0 j (Nat.zero_le _) (by rw [Nat.zero_add]; exact hj)
      have h1 : (start e k).at j = (memOf e.pgen.2 e.nn).at j := by
        simp only [start, Mem.at, List.getD]
        rw [List.getElem?_append_left (by omega)]
      rw [h1, memOf_at, if_pos hj, Option.isSome_map, List.find?_isSome]
      exact ⟨x, x1, by simp [x2]⟩
    · simp only [start, Mem.at, List.getD]
      rw [List.getElem?_append_right (by omega), List.getElem?_replicate, if_pos (by omega)]
      rfl

/-- The generic parameters read the same under the tables as alone. -/
theorem pgen_tr (l : Tabs) {e : Ent} (hr : startOK e = true) {xs : List Int} (zs : List Int) {ρ : Nat → Int} (hρ : ∀ i, i < e.np → ρ i = env xs i) (hfit : fits e.pks xs) (had : ∀ j, j < e.nn → ad j = hs j) :
    SV.concL l.F ρ ad e.pgen.1 = SV.concL F0 (env (xs ++ zs)) hs e.pgen.1 ∧ ∀ x ∈ e.pgen.2, SameE l.F F0 ρ (env (xs ++ zs)) ad hs id id x x := by
  have hl := fits_length hfit
  have tr : Tr e.nn l.F F0 ρ (env (xs ++ zs)) ad hs (varE e.pks) (varE e.pks) id id := by
    refine ⟨l.BI, BI_F0, fun i => ?_, fun i => rfl, fun j hj => had j hj⟩
    unfold varE
    cases hk : e.pks[i]? with
    | none => simp
    | some k =>
      have hi := (List.getElem?_eq_some_iff.1 hk).1
      simp only [E.den, hρ i hi, env, getD_app, hl, hi, if_true]
  obtain ⟨t1, t2⟩ := genL_tr tr e.ps (mkB true) (mkB true) 0 0 (mkB_kind _) (mkB_kind _) (by simp) (fun i k hi => by rw [Nat.zero_add]; exact varE_kind _ _ _ hi) (by rw [Nat.zero_add]; exact Nat.le_refl _) (fun j hj => by have := List.all_eq_true.1 hr j hj; simpa using this)
  exact ⟨t1, SameL.self t2⟩

theorem start_rel (l : Tabs) {e : Ent} (k : Nat) (hr : startOK e = true) {xs : List Int} {ρ : Nat → Int} (hρ : ∀ i, i < e.np → ρ i = env xs i) (hfit : fits e.pks xs) (hM : ∀ b, M0 b → ¬ Im0 b ∧ b < w.heap.size) (hE : RelE F0 (env xs) w M0 Im0 hs e.pgen.2 w) (had : ∀ j, j < e.nn → ad j = hs j) :
    Rel l.F ρ w M0 Im0 ad (start e k) w ∧ SV.concL l.F ρ ad e.pgen.1 = SV.concL F0 (env xs) hs e.pgen.1 ∧ SV.okL (al (start e k)) e.pgen.1 := by
  obtain ⟨t1, t2⟩ := pgen_tr l hr [] hρ hfit had
  rw [List.append_nil] at t1 t2
  have hal : ∀ j, j < e.nn → al (start e k) j := fun j hj => (start_al e k j).2 (by omega)
  obtain ⟨g1, g2⟩ := genL_ok (ev := varE e.pks) (nv := id) (p := al (start e k)) e.ps (mkB true) 0 0 (fun j _ hj => hal j (by rw [Nat.zero_add] at hj; exact hj)) (fun j hj => hal j (by have := List.all_eq_true.1 hr j hj; simpa using this))
  refine ⟨⟨hM, Im0, fun b hb => hb, fun b hb => Or.inl hb, ⟨fun n g x hn hg => ?_, fun n g x hn => ?_, fun n k' g x g' y b h1 h2 h3 h4 h5 h6 => ?_, hE.im, hE.fr⟩⟩, t1, g1⟩
  · rcases start_at hn with ⟨h, _⟩ | rfl
    · have s := t2 _ h
      obtain ⟨b1, b2⟩ := hE.ent _ h (by rw [← s.gd]; exact hg)
      refine ⟨(s.ok Im0 w).2 b1, fun b hb => b2 b ?_⟩
      rw [← hb]; exact s.mu.symm
    · exact ⟨trivial, fun b hb => by simp [mutB] at hb⟩
  · rcases start_at hn with ⟨h, _⟩ | h
    · exact (g2 _ h).2
    · rw [h]; trivial
  · rcases start_at h1 with ⟨a1, _⟩ | rfl
    · rcases start_at h3 with ⟨a2, _⟩ | rfl
      · have s1 := t2 _ a1
        have s2 := t2 _ a2
        exact hE.inj _ a1 _ a2 (by rw [← s1.gd]; exact h2) (by rw [← s2.gd]; exact h4) b (by rw [← h5]; exact s1.mu.symm) (by rw [← h6]; exact s2.mu.symm)
      · simp [mutB] at h6
    · simp [mutB] at h5

/-! ### the end -/
theorem objGet_spec {F : Fam} {m : Mem} : ∀ {os : List Ob} {g : E} {V : List SV}, objGet m os = some (g, V) → g.tt F ρ = true → ∀ (vals : List SV), ∀ x ∈ objE os (V ++ vals), x.1 ∈ os.map (·.j) ∧ ∃ g' b, m.at x.1 = some (g', b) ∧ g'.tt F ρ = true ∧ x.2.2 = b
  | [], g, V, h, ht, vals, x, hx => by cases hx
  | o :: r, g, V, h, ht, vals, x, hx => by
    simp only [objGet] at h
    split at h
    · rename_i g1 b hm
      split at h
      · rename_i ty' tl' vs hu
        split at h
        · rename_i hc
          obtain ⟨rfl, rfl, hlen⟩ := hc
          obtain ⟨q, hq, he⟩ := Option.map_eq_some_iff.1 h
          simp only [Prod.mk.injEq] at he
          obtain ⟨rfl, rfl⟩ := he
          obtain ⟨t1, t2⟩ := andB_tt ht
          simp only [objE, List.append_assoc] at hx
          rw [List.take_left' hlen, List.drop_left' hlen] at hx
          rcases List.mem_cons.1 hx with rfl | hx
          · exact ⟨by simp, g1, b, hm, t1, mkO_unO hu⟩
          · obtain ⟨a, b⟩ := objGet_spec (g := q.1) (V := q.2) hq t2 vals x hx
            exact ⟨List.mem_cons_of_mem _ a, b⟩
        · cases h
      · cases h
    · cases h
theorem objE_true {os : List Ob} {vs : List SV} : ∀ z ∈ objE os vs, z.2.1 = mkB true := by
  induction os generalizing vs with
  | nil => intro z hz; cases hz
  | cons o r ih =>
    intro z hz
    simp only [objE] at hz
    rcases List.mem_cons.1 hz with rfl | hz
    · rfl
    · exact ih z hz

theorem sameBlk_eq : ∀ {a b : Blk}, sameBlk a b = true → a = b
  | .cells ty cs, b, h => by
    cases b <;> simp only [sameBlk, Bool.false_eq_true, Bool.and_eq_true, decide_eq_true_eq] at h
    obtain ⟨rfl, h2⟩ := h
    rw [SV.sameL_eq _ _ h2]
  | .lst ty row own le c, b, h => by
    cases b <;> simp only [sameBlk, Bool.false_eq_true, Bool.and_eq_true, decide_eq_true_eq] at h
    obtain ⟨⟨⟨⟨rfl, rfl⟩, rfl⟩, h4⟩, h5⟩ := h
    rw [E.same_eq _ _ h4, E.same_eq _ _ h5]
  | .mp ks vs kag vag c, b, h => by
    cases b <;> simp only [sameBlk, Bool.false_eq_true, Bool.and_eq_true, decide_eq_true_eq] at h
    obtain ⟨⟨⟨⟨rfl, rfl⟩, rfl⟩, rfl⟩, h5⟩ := h
    rw [E.same_eq _ _ h5]
  | .seg ty cs ks c, b, h => by
    cases b <;> simp only [sameBlk, Bool.false_eq_true, Bool.and_eq_true, decide_eq_true_eq] at h
    obtain ⟨⟨⟨rfl, rfl⟩, h3⟩, h4⟩ := h
    rw [SV.sameL_eq _ _ h3, E.same_eq _ _ h4]
  | .dead, b, h => by simp [sameBlk] at h

theorem keptGet_spec {F : Fam} {m : Mem} : ∀ {l : Ents} {g : E}, keptGet m l = some g → g.tt F ρ = true → ∀ x ∈ l, x.2.1.tt F ρ = true → ∃ g', m.at x.1 = some (g', x.2.2) ∧ g'.tt F ρ = true
  | [], g, h, ht, x, hx => by cases hx
  | y :: r, g, h, ht, x, hx => by
    simp only [keptGet] at h
    split at h
    · rename_i g1 b hm
      split at h
      · rename_i hs
        obtain ⟨q, hq, rfl⟩ := Option.map_eq_some_iff.1 h
        obtain ⟨t1, t2⟩ := andB_tt ht
        rcases List.mem_cons.1 hx with rfl | hx
        · exact fun hg => ⟨g1, by rw [hm, sameBlk_eq hs], impB_tt t1 hg⟩
        · exact keptGet_spec hq t2 x hx
      · cases h
    · cases h

theorem matchO_spec {e : Ent} {v : SV} {g : E} {es : List E} (h : matchO e m' v = some (g, es)) : es.map E.kind = e.oks ∧ (∀ x ∈ es, x.kind ≠ .x → x.sound = true) ∧
    ∀ {xs ys : List Int} {ρ : Nat → Int} {w w' : World} {M0 Im0 : Nat → Prop} {hs ad' : Nat → Hd}, (∀ i, i < e.np → ρ i = env xs i) → fits e.pks xs → ys = es.map (E.den l.F ρ) → g.tt l.F ρ = true → Rel l.F ρ w M0 Im0 ad' m' w' → (∀ j, j < e.nn → ad' j = hs j) →
      ∃ (hs' : Nat → Hd) (Im' : Nat → Prop), (∀ j, j < e.nn → hs' j = hs j) ∧ (∀ b, Im0 b → Im' b) ∧ (∀ b, Im' b → Im0 b ∨ M0 b ∨ w.heap.size ≤ b) ∧ v.conc l.F ρ ad' = (lastV e.ogen.1).conc F0 (env (xs ++ ys)) hs' ∧ RelE F0 (env (xs ++ ys)) w M0 Im' hs' e.oents w' := by
  unfold matchO at h
  split at h
  · rename_i g1 V g2 hobj hkept
    split at h
    · rename_i es' srcs g3 hget
      split at h
      · rename_i hc
        simp only [Option.some.injEq, Prod.mk.injEq] at h
        obtain ⟨rfl, rfl⟩ := h
        obtain ⟨hc, hfx⟩ := hc
        simp only [Bool.and_eq_true] at hc
        obtain ⟨⟨c1, c2⟩, c3⟩ := hc
        obtain ⟨k1, k2, k3, k4⟩ := getL_kinds e.outL _ _ _ hget
        simp only at k1 k2 k3 k4
        refine ⟨k1, k4, fun {xs ys ρ w w' M0 Im0 hs ad'} hρ hfit hys ht hR had => ?_⟩
        obtain ⟨t1, t23⟩ := andB_tt ht
        obtain ⟨t2, t34⟩ := andB_tt t23
        obtain ⟨tf, t3⟩ := andB_tt t34
        have hfit2 := (fitL_spec (F := l.F) (ρ := ρ) (ad := ad') e.outL (V ++ [v])).2 tf
        obtain ⟨hM, Im, i1, i2, hI⟩ := hR
        have hyfit : fits e.oks ys := by rw [hys]; exact fits_of k1 k4
        have hyl : ys.length = e.oks.length := fits_length hyfit
        have hxl : xs.length = e.np := fits_length hfit
        have hall : fits (e.pks ++ e.oks) (xs ++ ys) := fits_append hfit hyfit
        have hS : ∃ S, S = accN e.nn ++ srcs := ⟨_, rfl⟩
        obtain ⟨S, hS⟩ := hS
        have hal : (accN e.nn).length = e.nn := by simp [accN]
        have hSlt : ∀ j, j < e.nn → S[j]? = some (.nm j) := fun j hj => by
          rw [hS, List.getElem?_append_left (by omega)]
          simp [accN, hj]
        have hev : EvOK l.F ρ (env (xs ++ ys)) (varE (e.pks ++ e.oks)) e.np es' := fun i x hi => by
          have hil := (List.getElem?_eq_some_iff.1 hi).1
          have hkl : e.oks.length = es'.length := by rw [← hyl, hys]; simp
          refine ⟨?_, ?_⟩
          · rw [varE_den hall, List.length_append, getD_app, hxl, show e.pks.length = e.np from rfl, if_pos (by omega), if_neg (by omega), show e.np + i - e.np = i by omega, hys]
            simp [List.getD, hi]
          · refine varE_kind _ _ _ ?_
            rw [List.getElem?_append_right (by rw [show e.pks.length = e.np from rfl]; omega), show e.pks.length = e.np from rfl, show e.np + i - e.np = i by omega]
            have : (es'.map E.kind)[i]? = some x.kind := by simp [hi]
            rw [k1] at this; exact this
        obtain ⟨p1, p2⟩ := shgetL_spec (F := l.F) (ρ := ρ) (ρ' := env (xs ++ ys)) (w0 := w) (w := w') (M0 := M0) (Im := Im) (ad := ad') (m := m') (ev := varE (e.pks ++ e.oks)) (S := S) (hs := fun j => match S[j]? with | some s => srcHd l.F ρ w' Im ad' m' s | none => default)
          l.BI hI (fun j s hj => by simp only [hj]) e.outL (accN e.nn) _ _ (mkB true) e.np hget (mkB_kind _) (fun j s hj => by rw [Nat.zero_add, hS, List.getElem?_append_left (List.getElem?_eq_some_iff.1 hj).1]; exact hj) (fun j s hj => by rw [hS, List.getElem?_append_right (by omega)]; simpa using hj) hev t3
        generalize hhs : (fun j => match S[j]? with | some s => srcHd l.F ρ w' Im ad' m' s | none => default : Nat → Hd) = hs' at p1 p2
        rw [hal] at p1 p2
        rw [← hfit2] at p1
        change SV.concL l.F ρ ad' (V ++ [v]) = SV.concL F0 (env (xs ++ ys)) hs' e.ogen.1 at p1
        change ∀ x ∈ e.ogen.2, _ at p2
        have hisx : (V ++ [v]).map isXv = e.ogen.1.map isXv := hfx.symm.trans <| isXv_get (m := m') (ev := varE (e.pks ++ e.oks)) (nv := id) e.outL (accN e.nn) _ _ (mkB true) e.np e.nn hget fun i k hi => by
          refine varE_kind _ _ _ ?_
          rw [List.getElem?_append_right (by rw [show e.pks.length = e.np from rfl]; omega), show e.pks.length = e.np from rfl, show e.np + i - e.np = i by omega]
          exact hi
        have hlt : ∀ j, j < e.nn → hs' j = ad' j := fun j hj => by rw [← hhs]; simp only [hSlt j hj]; rfl
        obtain ⟨q1, q2⟩ := pgen_tr (ad := ad') (hs := hs') l c3 ys hρ hfit fun j hj => (hlt j hj).symm
        have hsrc : ∀ j, j < e.nn → srcOf S j = [j] := fun j hj => by simp [srcOf, hSlt j hj, Src.ns]
        have ogn : ∀ x ∈ e.ogen.2, e.nn ≤ x.1 := fun x hx => ((genL_ok (ev := varE (e.pks ++ e.oks)) (nv := id) (p := fun _ => True) e.outL (mkB true) e.np e.nn (fun _ _ _ => trivial) fun _ _ => trivial).2 x hx).1.1
        have core : ∀ z ∈ e.oents, z.2.1.tt F0 (env (xs ++ ys)) = true → BlkOK F0 (env (xs ++ ys)) Im hs' z.1 w' z.2.2 ∧
            ∀ b, mutB F0 (env (xs ++ ys)) hs' z.1 z.2.2 = some b → ∃ n ∈ srcOf S z.1, ∃ g y, m'.at n = some (g, y) ∧ g.tt l.F ρ = true ∧ mutB l.F ρ ad' n y = some b := by
          intro z hz hg
          unfold Ent.oents at hz
          rcases List.mem_append.1 hz with hz | hz
          · obtain ⟨j, g0, X⟩ := z
            have hg0 : g0 = mkB true := objE_true _ hz
            subst hg0
            obtain ⟨ty, tl, vs', us', rfl, u1, u2, u3⟩ := objE_same p1.symm hisx.symm j X hz
            obtain ⟨o1, g', b0, o2, o3, o4⟩ := objGet_spec (F := l.F) (ρ := ρ) hobj t1 [v] _ u1
            simp only at o1 o2 o4
            subst o4
            have hj : j < e.nn := by
              obtain ⟨o, ho1, ho2⟩ := List.mem_map.1 o1
              have := List.all_eq_true.1 c2 o ho1
              simp only [decide_eq_true_eq] at this
              omega
            have hb := (hI.ent j g' _ o2 o3).1
            obtain ⟨s1, s2⟩ := mkO_same (n := j) (j := j) (ty := ty) (tl := tl) u2 u3 (hlt j hj)
            refine ⟨(s2 Im w').2 hb, fun b hb' => ⟨j, by simp [hsrc j hj], g', _, o2, o3, ?_⟩⟩
            rw [← s1]; exact hb'
          · rcases List.mem_append.1 hz with hz | hz
            · have hz' := (List.mem_filter.1 hz).1
              have s := q2 z hz'
              obtain ⟨g', o1, o2⟩ := keptGet_spec (F := l.F) (ρ := ρ) hkept t2 z hz (by rw [s.gd]; exact hg)
              have hj : z.1 < e.nn := by
                have := ((genL_ok (ev := varE e.pks) (nv := id) (p := fun _ => True) e.ps (mkB true) 0 0 (fun _ _ _ => trivial) fun _ _ => trivial).2 z hz').1.2
                rw [Nat.zero_add] at this; exact this
              refine ⟨(s.ok Im w').1 (hI.ent z.1 g' _ o1 o2).1, fun b hb' => ⟨z.1, by simp [hsrc z.1 hj], g', _, o1, o2, ?_⟩⟩
              rw [← hb']; exact s.mu
            · have := p2 z hz hg
              exact ⟨this.ok, this.mu⟩
        refine ⟨hs', Im, fun j hj => (hlt j hj).trans (had j hj), i1, i2, ?_, ⟨fun z hz hg => ⟨(core z hz hg).1, fun b hb => ?_⟩, fun x hx y hy hgx hgy b hbx hby => ?_, hI.im, hI.fr⟩⟩
        · have := lastV_conc p1
          rw [← this]
          congr 1
          simp [lastV]
        · obtain ⟨n, _, g', y, a1, a2, a3⟩ := (core z hz hg).2 b hb
          exact (hI.ent n g' y a1 a2).2 b a3
        · obtain ⟨n, n1, g', y', a1, a2, a3⟩ := (core x hx hgx).2 b hbx
          obtain ⟨n', n1', g'', y'', a1', a2', a3'⟩ := (core y hy hgy).2 b hby
          have := hI.inj n n' g' y' g'' y'' b a1 a2 a1' a2' a3 a3'
          subst this
          rw [← hS] at c1
          exact nodup_flat c1 x.1 (mutJ_mem hx hbx) y.1 (mutJ_mem hy hby) n n1 n1'
      · cases h
    · cases h
  · cases h
end
end Go.Proofs.Ytmolkkphnehgcaa.Ew

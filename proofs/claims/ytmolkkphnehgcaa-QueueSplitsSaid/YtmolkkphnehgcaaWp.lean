/- Conditions read as propositions; summaries read by rewriting. -/
import Derived.Test.YtmolkkphnehgcaaW9
set_option linter.unusedVariables false
set_option linter.unusedSimpArgs false
namespace Go.Proofs.Ytmolkkphnehgcaa.Ew
open Go Go.RowKit
theorem por (x y : Bool) : ((x || y) = true) = (x = false → y = true) := by cases x <;> cases y <;> simp
theorem pnand (x y : Bool) : ((x && y) = false) = (x = true → y = false) := by cases x <;> cases y <;> simp
theorem pand (x y : Bool) : ((x && y) = true) = (x = true ∧ y = true) := by cases x <;> cases y <;> simp
theorem pnor (x y : Bool) : ((x || y) = false) = (x = false ∧ y = false) := by cases x <;> cases y <;> simp
theorem pnot (x : Bool) : ((!x) = true) = (x = false) := by cases x <;> simp
theorem pnnot (x : Bool) : ((!x) = false) = (x = true) := by cases x <;> simp
theorem pcond (c x y : Bool) : ((bif c then x else y) = true) = ((c = true → x = true) ∧ (c = false → y = true)) := by cases c <;> cases x <;> cases y <;> simp
theorem pncond (c x y : Bool) : ((bif c then x else y) = false) = ((c = true → x = false) ∧ (c = false → y = false)) := by cases c <;> cases x <;> cases y <;> simp
theorem pdec (p : Prop) [Decidable p] : (decide p = true) = p := by simp
theorem pndec (p : Prop) [Decidable p] : (decide p = false) = ¬ p := by simp
theorem peq (x y : Int) : ((x == y) = true) = (x = y) := by simp
theorem pneq (x y : Int) : ((x == y) = false) = ¬ (x = y) := by simp
theorem pne (x y : Int) : ((x != y) = true) = ¬ (x = y) := by simp
theorem pnne (x y : Int) : ((x != y) = false) = (x = y) := by simp
theorem pgt (x y : Int) : (x > y) = (y < x) := rfl
theorem pge (x y : Int) : (x ≥ y) = (y ≤ x) := rfl
theorem u8w {z : Int} (h1 : 0 ≤ z) (h2 : z ≤ 255) : IntKind.u8.wrap z = z := by
  simp only [IntKind.wrap, IntKind.signed, IntKind.bits]; simp; omega
theorem u16w {z : Int} (h1 : 0 ≤ z) (h2 : z ≤ 65535) : IntKind.u16.wrap z = z := by
  simp only [IntKind.wrap, IntKind.signed, IntKind.bits]; simp; omega
theorem u32w {z : Int} (h1 : 0 ≤ z) (h2 : z ≤ 4294967295) : IntKind.u32.wrap z = z := by
  simp only [IntKind.wrap, IntKind.signed, IntKind.bits]; simp; omega
theorem u64w {z : Int} (h1 : 0 ≤ z) (h2 : z ≤ 18446744073709551615) : IntKind.u64.wrap z = z := by
  simp only [IntKind.wrap, IntKind.signed, IntKind.bits]; simp; omega
theorem u8r {z : Int} (h : IntKind.u8.wrap z = z) : 0 ≤ z ∧ z ≤ 255 := by
  simp only [IntKind.wrap, IntKind.signed, IntKind.bits] at h; simp at h; omega
theorem u16r {z : Int} (h : IntKind.u16.wrap z = z) : 0 ≤ z ∧ z ≤ 65535 := by
  simp only [IntKind.wrap, IntKind.signed, IntKind.bits] at h; simp at h; omega
theorem u32r {z : Int} (h : IntKind.u32.wrap z = z) : 0 ≤ z ∧ z ≤ 4294967295 := by
  simp only [IntKind.wrap, IntKind.signed, IntKind.bits] at h; simp at h; omega
theorem u64r {z : Int} (h : IntKind.u64.wrap z = z) : 0 ≤ z ∧ z ≤ 18446744073709551615 := by
  simp only [IntKind.wrap, IntKind.signed, IntKind.bits] at h; simp at h; omega
theorem dcond (c : Bool) (x y : Int) : (bif c then x else y) = if c = true then x else y := by cases c <;> rfl
open Classical in
theorem ctx_P {l0 : Tabs} : ∃ l : Tabs, l0 = l ∧ ∀ e : Ent, l0.get e.key = some e → e.key ≠ 0 → (∀ j, (j == preC) = false → ∀ xs, l.F e.key j xs = e.fn j xs) ∧ ∀ xs, (i2b (K.b.norm (l.F e.key 1000000 xs)) = true) = e.pre xs :=
  ⟨_, rfl, fun e ge h2 => ⟨fun j hj xs => F_fn e rfl ge h2 hj xs, fun xs => propext (Tabs.F_pre ge h2 rfl)⟩⟩
theorem self_P (le : LEnt) (mu : List Int → Nat) (n : Nat) (l0 : Tabs) (hk : le.ent.key ≠ 0) : ∃ l : Tabs, enL le mu n :: l0 = l ∧ ((∀ j, (j == preC) = false → ∀ xs, l.F le.ent.key j xs = le.ent.fn j xs) ∧
    (∀ xs, (i2b (K.b.norm (l.F le.ent.key 1000000 xs)) = true) = (le.ent.pre xs ∧ mu xs < n))) ∧
    ∀ e : Ent, l0.get e.key = some e → e.key ≠ le.ent.key → e.key ≠ 0 → (∀ j, (j == preC) = false → ∀ xs, l.F e.key j xs = e.fn j xs) ∧ ∀ xs, (i2b (K.b.norm (l.F e.key 1000000 xs)) = true) = e.pre xs := by
  have g : Tabs.get (enL le mu n :: l0) le.ent.key = some (enL le mu n) := by simp [Tabs.get, enL]
  refine ⟨_, rfl, ⟨fun j hj xs => F_fn (enL le mu n) rfl g hk hj xs, fun xs => propext (Tabs.F_pre (e := enL le mu n) g hk rfl)⟩, fun e he h1 h2 => ?_⟩
  have ge : Tabs.get (enL le mu n :: l0) e.key = some e := by
    have : (le.ent.key == e.key) = false := by simpa using fun e' => h1 e'.symm
    simp only [Tabs.get, enL, List.find?_cons, this]
    exact he
  exact ⟨fun j hj xs => F_fn e rfl ge h2 hj xs, fun xs => propext (Tabs.F_pre ge h2 rfl)⟩

/-! ### results that bear names -/
def Ent.nm (e : Ent) : Ent := { e with key := e.key + 100000000 }
theorem Ent.nm_fn (e : Ent) : e.nm.fn = e.fn := rfl
theorem Ent.nm_pre (e : Ent) : e.nm.pre = e.pre := rfl
theorem EntryOK.nm {P : Program} {G : Glob} {e : Ent} (h : EntryOK P G e) : EntryOK P G e.nm := h
def LEnt.nm (le : LEnt) : LEnt := { le with ent := le.ent.nm }
theorem CodeOK.nm {P : Program} {G : Glob} {c : Code} {le : LEnt} (h : CodeOK P G c le) : CodeOK P G c le.nm := h
def Ctx.nm (c : Ctx) : Ctx := ⟨c.fs.map Ent.nm, c.ls.map fun x => (x.1, x.2.1, x.2.2.nm)⟩
theorem keysB_nm : ∀ {l : List Ent}, keysB l = true → keysB (l.map Ent.nm) = true
  | [], _ => rfl
  | e :: r, h => by
    simp only [keysB, Bool.and_eq_true, Bool.not_eq_true', List.any_eq_false, beq_iff_eq, List.map_cons] at h ⊢
    refine ⟨fun x hx => ?_, keysB_nm h.2⟩
    obtain ⟨y, hy, rfl⟩ := List.mem_map.1 hx
    have := h.1 y hy
    show ¬ y.key + 100000000 = e.key + 100000000
    omega
theorem Ctx.nm_l (c : Ctx) : c.nm.l = c.l.map Ent.nm := by
  simp only [Ctx.l, Ctx.nm, List.map_append, List.map_map]; rfl
theorem Ctx.OK.nm {P : Program} {G : Glob} {c : Ctx} (h : c.OK P G) : c.nm.OK P G := by
  refine ⟨?_, fun e he => ?_, fun x hx => ?_⟩
  · rw [Ctx.nm_l]; exact keysB_nm h.keys
  · obtain ⟨y, hy, rfl⟩ := List.mem_map.1 he
    exact (h.fs y hy).nm
  · obtain ⟨y, hy, rfl⟩ := List.mem_map.1 hx
    exact CodeOK.nm (h.ls y hy)
mutual
/-- None of these variables occurs. -/
def E.no (p : Nat → Bool) : E → Bool
  | .lit .. => true
  | .var _ i => !p i
  | .app _ _ _ as => E.noL p as
  | .bin _ _ a b => E.no p a && E.no p b
  | .dv _ _ a _ => E.no p a
  | .sh _ _ a b => E.no p a && E.no p b
  | .cmp _ a b => E.no p a && E.no p b
  | .conv _ a => E.no p a
  | .not a => E.no p a
  | .and a b => E.no p a && E.no p b
  | .or a b => E.no p a && E.no p b
  | .ite c a b => E.no p c && (E.no p a && E.no p b)
def E.noL (p : Nat → Bool) : List E → Bool
  | [] => true
  | e :: r => E.no p e && E.noL p r
end
mutual
theorem E.no_den {F : Fam} {p : Nat → Bool} {ρ ρ' : Nat → Int} (h : ∀ i, p i = false → ρ i = ρ' i) : ∀ e : E, E.no p e = true → e.den F ρ = e.den F ρ'
  | .lit .., _ => rfl
  | .var k i, hn => by simp only [E.no, Bool.not_eq_true'] at hn; simp only [E.den, h i hn]
  | .app k f j as, hn => by simp only [E.no] at hn; simp only [E.den, E.no_denL h as hn]
  | .bin op k a b, hn => by simp only [E.no, Bool.and_eq_true] at hn; simp only [E.den, E.no_den h a hn.1, E.no_den h b hn.2]
  | .dv op k a n, hn => by simp only [E.no] at hn; simp only [E.den, E.no_den h a hn]
  | .sh op k a b, hn => by simp only [E.no, Bool.and_eq_true] at hn; simp only [E.den, E.no_den h a hn.1, E.no_den h b hn.2]
  | .cmp op a b, hn => by simp only [E.no, Bool.and_eq_true] at hn; simp only [E.den, E.no_den h a hn.1, E.no_den h b hn.2]
  | .conv k a, hn => by simp only [E.no] at hn; simp only [E.den, E.no_den h a hn]
  | .not a, hn => by simp only [E.no] at hn; simp only [E.den, E.no_den h a hn]
  | .and a b, hn => by simp only [E.no, Bool.and_eq_true] at hn; simp only [E.den, E.no_den h a hn.1, E.no_den h b hn.2]
  | .or a b, hn => by simp only [E.no, Bool.and_eq_true] at hn; simp only [E.den, E.no_den h a hn.1, E.no_den h b hn.2]
  | .ite c a b, hn => by simp only [E.no, Bool.and_eq_true] at hn; simp only [E.den, E.no_den h c hn.1, E.no_den h a hn.2.1, E.no_den h b hn.2.2]
theorem E.no_denL {F : Fam} {p : Nat → Bool} {ρ ρ' : Nat → Int} (h : ∀ i, p i = false → ρ i = ρ' i) : ∀ l : List E, E.noL p l = true → E.denL F ρ l = E.denL F ρ' l
  | [], _ => rfl
  | e :: r, hn => by simp only [E.noL, Bool.and_eq_true] at hn; simp only [E.denL, E.no_den h e hn.1, E.no_denL h r hn.2]
end
/-- Each name stands ahead of all in which it occurs; the first variables are none of them. -/
def okD (np : Nat) : List (Nat × E) → Bool
  | [] => true
  | x :: r => (decide (np ≤ x.1) && E.no (fun i => i == x.1 || r.any fun y => y.1 == i) x.2) && ((!r.any fun y => y.1 == x.1) && okD np r)
theorem solveD (F : Fam) (np : Nat) : ∀ (d : List (Nat × E)) (ρ0 : Nat → Int), okD np d = true → ∃ ρ : Nat → Int, (∀ i, (d.any fun y => y.1 == i) = false → ρ i = ρ0 i) ∧ ∀ x ∈ d, ρ x.1 = x.2.den F ρ
  | [], ρ0, _ => ⟨ρ0, fun _ _ => rfl, fun x hx => by cases hx⟩
  | x :: r, ρ0, h => by
    simp only [okD, Bool.and_eq_true, decide_eq_true_eq, Bool.not_eq_true'] at h
    obtain ⟨⟨h1, h2⟩, h3, h4⟩ := h
    obtain ⟨ρ, q1, q2⟩ := solveD F np r (fun i => if i = x.1 then x.2.den F ρ0 else ρ0 i) h4
    have hx : ρ x.1 = x.2.den F ρ := by
      rw [q1 x.1 h3, if_pos rfl]
      refine E.no_den (fun i hi => ?_) _ h2
      simp only [Bool.or_eq_false_iff, beq_eq_false_iff_ne] at hi
      rw [q1 i hi.2, if_neg hi.1]
    refine ⟨ρ, fun i hi => ?_, fun y hy => ?_⟩
    · simp only [List.any_cons, Bool.or_eq_false_iff, beq_eq_false_iff_ne] at hi
      rw [q1 i hi.2, if_neg (fun e => hi.1 e.symm)]
    · rcases List.mem_cons.1 hy with rfl | hy
      · exact hx
      · exact q2 y hy
theorem okD_np {np : Nat} : ∀ {d : List (Nat × E)}, okD np d = true → ∀ i, i < np → (d.any fun y => y.1 == i) = false
  | [], _, _, _ => rfl
  | x :: r, h, i, hi => by
    simp only [okD, Bool.and_eq_true, decide_eq_true_eq] at h
    simp only [List.any_cons, okD_np h.2.2 i hi, Bool.or_false, beq_eq_false_iff_ne]
    have := h.1.1
    omega
theorem solve {F : Fam} (np : Nat) (d : List (Nat × E)) (h : okD np d = true) (xs : List Int) : ∃ ρ : Nat → Int, (∀ i, i < np → ρ i = env xs i) ∧ ∀ x ∈ d, ρ x.1 = x.2.den F ρ := by
  obtain ⟨ρ, a, b⟩ := solveD F np d (env xs) h
  exact ⟨ρ, fun i hi => a i (okD_np h i hi), b⟩
/-- The reading lemmas together. -/
theorem ewA : (∀ (a b : E) (F : Fam) (ρ : Nat → Int), (E.and a b).tt F ρ = (a.tt F ρ && b.tt F ρ)) ∧
    (∀ (a b : E) (F : Fam) (ρ : Nat → Int), (E.or a b).tt F ρ = (a.tt F ρ || b.tt F ρ)) ∧
    (∀ (a : E) (F : Fam) (ρ : Nat → Int), (E.not a).tt F ρ = !a.tt F ρ) ∧
    (∀ (op : BinOp) (a b : E) (F : Fam) (ρ : Nat → Int), (E.cmp op a b).tt F ρ = cmpB op (a.den F ρ) (b.den F ρ)) ∧
    (∀ (n : Int) (F : Fam) (ρ : Nat → Int), (E.lit .b n).tt F ρ = decide (n ≠ 0)) ∧
    (∀ (c a b : E) (F : Fam) (ρ : Nat → Int), (E.ite c a b).tt F ρ = bif c.tt F ρ then a.tt F ρ else b.tt F ρ) ∧
    (∀ (i : Nat) (F : Fam) (ρ : Nat → Int), (E.var .b i).tt F ρ = i2b (ρ i)) ∧
    (∀ (f j : Nat) (as : List E) (F : Fam) (ρ : Nat → Int), (E.app .b f j as).tt F ρ = i2b (K.b.norm (F f j (as.map (E.den F ρ))))) ∧
    (∀ (op : BinOp) (a b : E) (F : Fam) (ρ : Nat → Int), (E.cmp op a b).den F ρ = b2i (cmpB op (a.den F ρ) (b.den F ρ))) ∧
    (∀ (a : E) (F : Fam) (ρ : Nat → Int), (E.not a).den F ρ = b2i (!a.tt F ρ)) ∧
    (∀ (a b : E) (F : Fam) (ρ : Nat → Int), (E.and a b).den F ρ = b2i (a.tt F ρ && b.tt F ρ)) ∧
    (∀ (a b : E) (F : Fam) (ρ : Nat → Int), (E.or a b).den F ρ = b2i (a.tt F ρ || b.tt F ρ)) ∧
    (∀ (c a b : E) (F : Fam) (ρ : Nat → Int), (E.ite c a b).den F ρ = bif c.tt F ρ then a.den F ρ else b.den F ρ) ∧
    (∀ (k : K) (n : Int) (F : Fam) (ρ : Nat → Int), (E.lit k n).den F ρ = k.norm n) ∧
    (∀ (k : K) (i : Nat) (F : Fam) (ρ : Nat → Int), (E.var k i).den F ρ = k.norm (ρ i)) ∧
    (∀ (op : BinOp) (k : IntKind) (a b : E) (F : Fam) (ρ : Nat → Int), (E.bin op k a b).den F ρ = binI op k (a.den F ρ) (b.den F ρ)) ∧
    (∀ (op : BinOp) (k : IntKind) (a : E) (n : Int) (F : Fam) (ρ : Nat → Int), (E.dv op k a n).den F ρ = dvI op k (a.den F ρ) n) ∧
    (∀ (op : BinOp) (k : IntKind) (a b : E) (F : Fam) (ρ : Nat → Int), (E.sh op k a b).den F ρ = shI op k (a.den F ρ) (b.den F ρ)) ∧
    (∀ (k : IntKind) (a : E) (F : Fam) (ρ : Nat → Int), (E.conv k a).den F ρ = k.wrap (a.den F ρ)) ∧
    (∀ (k : K) (f j : Nat) (as : List E) (F : Fam) (ρ : Nat → Int), (E.app k f j as).den F ρ = k.norm (F f j (as.map (E.den F ρ)))) ∧
    (∀ (k : IntKind) (n : Int), K.norm (.i k) n = k.wrap n) ∧
    (∀ (n : Int), K.norm .x n = n) ∧
    (∀ (b : Bool), K.b.norm (b2i b) = b2i b) ∧
    (K.b.norm 1 = 1) ∧
    (K.b.norm 0 = 0) ∧
    (i2b 1 = true) ∧
    (i2b 0 = false) ∧
    (∀ (b : Bool), i2b (b2i b) = b) ∧
    (∀ (l : Tabs) (j : Nat) (xs : List Int), l.F 0 j xs = bi j xs) ∧
    (∀ (l : RL), dc (cd l) = l) :=
  ⟨@tt_and, @tt_or, @tt_not, @tt_cmp, @tt_lit, @tt_ite, @tt_var, @tt_app, @den_cmp, @den_not, @den_and, @den_or, @den_ite, @den_lit, @den_var, @den_bin, @den_dv, @den_sh, @den_conv, @den_app, @norm_i, @norm_x, @norm_b2i, @nb1, @nb0, @i2b1, @i2b0, @i2b_b2i, @F_bi, @dc_cd⟩
theorem ewB : (∀ (x y : Bool), ((x || y) = true) = (x = false → y = true)) ∧
    (∀ (x y : Bool), ((x && y) = false) = (x = true → y = false)) ∧
    (∀ (x y : Bool), ((x && y) = true) = (x = true ∧ y = true)) ∧
    (∀ (x y : Bool), ((x || y) = false) = (x = false ∧ y = false)) ∧
    (∀ (x : Bool), ((!x) = true) = (x = false)) ∧
    (∀ (x : Bool), ((!x) = false) = (x = true)) ∧
    (∀ (c x y : Bool), ((bif c then x else y) = true) = ((c = true → x = true) ∧ (c = false → y = true))) ∧
    (∀ (c x y : Bool), ((bif c then x else y) = false) = ((c = true → x = false) ∧ (c = false → y = false))) ∧
    (∀ (x y : Int), ((x == y) = true) = (x = y)) ∧
    (∀ (x y : Int), ((x == y) = false) = ¬ (x = y)) ∧
    (∀ (x y : Int), ((x != y) = true) = ¬ (x = y)) ∧
    (∀ (x y : Int), ((x != y) = false) = (x = y)) ∧
    (∀ (x y : Int), (x > y) = (y < x)) ∧
    (∀ (x y : Int), (x ≥ y) = (y ≤ x)) ∧
    (∀ (c : Bool) (x y : Int), (bif c then x else y) = if c = true then x else y) ∧
    (∀ (e : Ent), e.nm.fn = e.fn) ∧
    (∀ (e : Ent), e.nm.pre = e.pre) ∧
    (∀ {z : Int} (h1 : -9223372036854775808 ≤ z) (h2 : z ≤ 9223372036854775807), IntKind.i64.wrap z = z) ∧
    (∀ {z : Int} (h1 : 0 ≤ z) (h2 : z ≤ 255), IntKind.u8.wrap z = z) ∧
    (∀ {z : Int} (h1 : 0 ≤ z) (h2 : z ≤ 65535), IntKind.u16.wrap z = z) ∧
    (∀ {z : Int} (h1 : 0 ≤ z) (h2 : z ≤ 4294967295), IntKind.u32.wrap z = z) ∧
    (∀ {z : Int} (h1 : 0 ≤ z) (h2 : z ≤ 18446744073709551615), IntKind.u64.wrap z = z) :=
  ⟨@por, @pnand, @pand, @pnor, @pnot, @pnnot, @pcond, @pncond, @peq, @pneq, @pne, @pnne, @pgt, @pge, @dcond, @Ent.nm_fn, @Ent.nm_pre, @i64w, @u8w, @u16w, @u32w, @u64w⟩
theorem ewL : (∀ (f : E → Int) (a : E) (l : List E), List.map f (a :: l) = f a :: List.map f l) ∧ (∀ (f : E → Int), List.map f [] = []) ∧
    (∀ (a d : Int) (l : List Int) (n : Nat), (a :: l).getD (n + 1) d = l.getD n d) ∧ (∀ (a d : Int) (l : List Int), (a :: l).getD 0 d = a) ∧
    (∀ (a d : List Int) (l : RL) (n : Nat), (a :: l).getD (n + 1) d = l.getD n d) ∧ (∀ (a d : List Int) (l : RL), (a :: l).getD 0 d = a) ∧
    (∀ (a : Int) (l : List Int), (a :: l)[0]? = some a) ∧ (∀ (a : Int) (l : List Int) (n : Nat), (a :: l)[n + 1]? = l[n]?) ∧
    (∀ (a : E) (l : List E), (a :: l)[0]? = some a) ∧ (∀ (a : E) (l : List E) (n : Nat), (a :: l)[n + 1]? = l[n]?) ∧
    (∀ (l : List Int), [] ++ l = l) ∧ (∀ (a : Int) (l m : List Int), a :: l ++ m = a :: (l ++ m)) ∧
    (∀ (l : RL), [] ++ l = l) ∧ (∀ (a : List Int) (l m : RL), a :: l ++ m = a :: (l ++ m)) ∧
    (Int.toNat 0 = 0) ∧ (Int.toNat 1 = 1) ∧ (∀ n : Nat, Int.toNat (n : Int) = n) ∧ (∀ n : Nat, 0 + n = n) :=
  ⟨fun _ _ _ => rfl, fun _ => rfl, fun _ _ _ _ => List.getD_cons_succ, fun _ _ _ => List.getD_cons_zero, fun _ _ _ _ => List.getD_cons_succ, fun _ _ _ => List.getD_cons_zero,
    fun _ _ => rfl, fun _ _ _ => rfl, fun _ _ => rfl, fun _ _ _ => rfl, fun _ => rfl, fun _ _ _ => rfl, fun _ => rfl, fun _ _ _ => rfl, rfl, rfl, fun _ => rfl, Nat.zero_add⟩
theorem ewM : (∀ (p : Prop) [Decidable p], (decide p = true) = p) ∧ (∀ (p : Prop) [Decidable p], (decide p = false) = ¬ p) ∧
    (∀ {a b : Int}, ¬ a < b ↔ b ≤ a) ∧ (∀ {a b : Int}, ¬ a ≤ b ↔ b < a) ∧ (∀ p : Prop, (True ∧ p) = p) ∧ (∀ p : Prop, (p ∧ True) = p) ∧ (∀ p : Prop, (False ∧ p) = False) ∧ (∀ p : Prop, (p ∧ False) = False) ∧
    (∀ p : Prop, (True → p) = p) ∧ (∀ p : Prop, (p → True) = True) ∧ (∀ p : Prop, (False → p) = True) ∧ ((¬ True) = False) ∧ ((¬ False) = True) ∧
    (∀ l : RL, l.take l.length = l) ∧ (∀ l : RL, l.drop 0 = l) :=
  ⟨pdec, pndec, Int.not_lt, Int.not_le, true_and, and_true, false_and, and_false, fun p => by simp, fun p => by simp, fun p => by simp, not_true_eq_false, not_false_eq_true, fun _ => List.take_length, fun _ => rfl⟩
end Go.Proofs.Ytmolkkphnehgcaa.Ew


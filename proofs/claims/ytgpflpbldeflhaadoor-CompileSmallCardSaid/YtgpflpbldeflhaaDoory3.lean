/- Texts that the claim needs, set narrow. -/
import Derived.Test.YtgpflpbldeflhaaDoory2
set_option linter.unusedVariables false
set_option linter.unusedSimpArgs false
set_option maxHeartbeats 8000000
namespace Go.Proofs.YtgpflpbldeflhaaDoor.Ew
open Go Go.RowKit
noncomputable section
variable {P : Program} {G : Glob} {c : Ctx}
abbrev FCk (l : Tabs) (k : Nat) (f : Nat -> List Int -> Int) (p : List Int -> Prop) : Prop := (∀ xs, (i2b (K.b.norm (l.F k 1000000 xs)) = true) = p xs) /\ (∀ xs, l.F k 0 xs = f 0 xs) /\ (∀ xs, l.F k 1 xs = f 1 xs) /\ (∀ xs, l.F k 2 xs = f 2 xs) /\ (∀ xs, l.F k 3 xs = f 3 xs) /\ (∀ xs, l.F k 4 xs = f 4 xs) /\ (∀ xs, l.F k 5 xs = f 5 xs) /\ (∀ xs, l.F k 6 xs = f 6 xs) /\ (∀ xs, l.F k 7 xs = f 7 xs) /\ (∀ xs, l.F k 8 xs = f 8 xs) /\ (∀ xs, l.F k 9 xs = f 9 xs) /\ (∀ xs, l.F k 10 xs = f 10 xs) /\ (∀ xs, l.F k 11 xs = f 11 xs) /\ (∀ xs, l.F k 12 xs = f 12 xs) /\ (∀ xs, l.F k 13 xs = f 13 xs) /\ (∀ xs, l.F k 14 xs = f 14 xs) /\ (∀ xs, l.F k 15 xs = f 15 xs) /\ (∀ xs, l.F k 16 xs = f 16 xs) /\ (∀ xs, l.F k 17 xs = f 17 xs) /\ (∀ xs, l.F k 18 xs = f 18 xs) /\ (∀ xs, l.F k 19 xs = f 19 xs)
theorem Ih {l : Tabs} {k0 k : Nat} {f : Nat -> List Int -> Int} {p : List Int -> Prop} (hk : k0 = k) (h : (∀ j, (j == preC) = false -> ∀ xs, l.F k0 j xs = f j xs) /\ (∀ xs, (i2b (K.b.norm (l.F k0 1000000 xs)) = true) = p xs)) : FCk l k f p := by
 subst hk
 exact ⟨h.2, h.1 0 rfl, h.1 1 rfl, h.1 2 rfl, h.1 3 rfl, h.1 4 rfl, h.1 5 rfl, h.1 6 rfl, h.1 7 rfl, h.1 8 rfl, h.1 9 rfl, h.1 10 rfl, h.1 11 rfl, h.1 12 rfl, h.1 13 rfl, h.1 14 rfl, h.1 15 rfl, h.1 16 rfl, h.1 17 rfl, h.1 18 rfl, h.1 19 rfl⟩
abbrev fcsL (l : Tabs) (L : List (Nat × Ent)) : Prop := @List.rec (Nat × Ent) (fun _ => Prop) True (fun x _ r => @Prod.rec Nat Ent (fun _ => Prop) (fun k e => FCk l k e.fn e.pre /\ r) x) L
abbrev fckL (t : Tabs) (L : List (Nat × Ent)) : Prop := (L.map fun x => (t.get x.1, x.2.key == x.1 && x.1 != 0)) = L.map fun x => (some x.2, true)
theorem GC {t l : Tabs} (h : ∀ k (e : Ent), t.get k = some e -> (e.key == k && k != 0) = true -> FCk l k e.fn e.pre) : ∀ {L : List (Nat × Ent)}, fckL t L -> fcsL l L
 | [], _ => trivial
 | (k, e) :: L, g => by
   simp only [fckL, List.map_cons, List.cons.injEq, pJ] at g
   exact ⟨h k e g.1.1 g.1.2, GC h g.2⟩
def idx : Nat -> List K -> List (Nat × K)
 | _, [] => []
 | j, k :: ks => (j, k) :: idx (j + 1) ks
abbrev Rz := List (Nat × K) × E × List E × List (Nat × E)
def rdz (dd : Bool) (ks oks : List K) (R : Option (E × List E)) : Option Rz := match rdy dd ks oks R with
 | some (ks, r) => some (idx 0 ks, r)
 | none => none
def encZ (r : Rz) : Array Value := #[]
def frZ : Option Rz -> V
 | none => .nilIface
 | some (ks, ob, es, d) => @List.rec (Nat × K) (fun _ => (List (Nat × K) -> V) -> V) (fun c => c []) (fun e _ r c => frN e.1 fun i => frK e.2 fun k => r fun r' => c ((i, k) :: r')) ks fun ks => frE ob fun ob => frEL es fun es => frD d fun d => .iface 0 (.agg (encZ (ks, ob, es, d)))
theorem Kv {dd : Bool} {ks oks : List K} {R : Option (E × List E)} {ks' : List (Nat × K)} {ob : E} {es : List E} {d : List (Nat × E)} (h : rdz dd ks oks R = some (ks', ob, es, d)) : ks' = idx 0 ks /\ rdy dd ks oks R = some (ks, ob, es, d) := by
 unfold rdz at h
 split at h
 ·rename_i ks1 r e
  obtain ⟨ob1, es1, d1⟩ := r
  obtain ⟨rfl, -⟩ := Ig e
  cases h
  exact ⟨rfl, e⟩
 ·cases h
theorem LG : ∀ (ks : List K) (j : Nat), (idx j ks).map Prod.snd = ks
 | [], _ => rfl
 | k :: ks, j => congrArg (k :: ·) (LG ks (j + 1))
def alQ (ρ : Nat -> Int) : List (Nat × K) -> (Prop -> Prop) -> ((Prop -> Prop) -> List Int -> Prop) -> Prop
 | [], A, R => R A []
 | (j, .i k) :: ks, A, R => ∀ x, k.wrap x = x -> alQ ρ ks (fun X => A (ρ j = x /\ k.wrap x = x /\ X)) fun A xs => R A (x :: xs)
 | (j, .b) :: ks, A, R => ∀ x, K.b.norm x = x -> alQ ρ ks (fun X => A (ρ j = x /\ K.b.norm x = x /\ X)) fun A xs => R A (x :: xs)
 | (j, .x) :: ks, A, R => ∀ x, alQ ρ ks (fun X => A (ρ j = x /\ X)) fun A xs => R A (x :: xs)
theorem EL {ρ : Nat -> Int} : ∀ {ks : List K} {j : Nat} {A : Prop -> Prop} {R : (Prop -> Prop) -> List Int -> Prop}, alQ ρ (idx j ks) A R -> (∀ X, X -> A X) -> ∀ {xs : List Int}, fits ks xs -> (∀ i, i < xs.length -> ρ (j + i) = env xs i) -> ∃ B : Prop -> Prop, (∀ X, X -> B X) /\ R B xs
 | [], _, A, _, h, a, [], _, _ => ⟨A, a, h⟩
 | [], _, _, _, _, _, _ :: _, hf, _ => hf.elim
 | _ :: _, _, _, _, _, _, [], hf, _ => hf.elim
 | .i k :: ks, j, A, R, h, a, x :: xs, hf, hr => EL (R := fun A xs => R A (x :: xs)) (h x hf.1) (fun X y => a _ ⟨hr 0 (Nat.zero_lt_succ _), hf.1, y⟩) hf.2 fun i hi => by
   rw [show j + 1 + i = j + (i + 1) by omega]; exact hr (i + 1) (Nat.succ_lt_succ hi)
 | .b :: ks, j, A, R, h, a, x :: xs, hf, hr => EL (R := fun A xs => R A (x :: xs)) (h x hf.1) (fun X y => a _ ⟨hr 0 (Nat.zero_lt_succ _), hf.1, y⟩) hf.2 fun i hi => by
   rw [show j + 1 + i = j + (i + 1) by omega]; exact hr (i + 1) (Nat.succ_lt_succ hi)
 | .x :: ks, j, A, R, h, a, x :: xs, hf, hr => EL (R := fun A xs => R A (x :: xs)) (h x) (fun X y => a _ ⟨hr 0 (Nat.zero_lt_succ _), y⟩) hf.2 fun i hi => by
   rw [show j + 1 + i = j + (i + 1) by omega]; exact hr (i + 1) (Nat.succ_lt_succ hi)
def alD (F : Fam) (ρ : Nat -> Int) : List (Nat × E) -> (Prop -> Prop) -> (Prop -> Prop) -> Prop -> Prop
 | [], A, B, G => A True -> B True -> G
 | (i, .app (.i k) f j us) :: d, A, B, G => ∀ v, k.wrap v = v -> alD F ρ d (fun X => A (ρ i = v /\ k.wrap v = v /\ X)) (fun X => B (v = k.wrap (F f j (us.map (E.den F ρ))) /\ X)) G
 | (i, .app .b f j us) :: d, A, B, G => ∀ v, K.b.norm v = v -> alD F ρ d (fun X => A (ρ i = v /\ K.b.norm v = v /\ X)) (fun X => B (v = K.b.norm (F f j (us.map (E.den F ρ))) /\ X)) G
 | (i, .app .x f j us) :: d, A, B, G => ∀ v, alD F ρ d (fun X => A (ρ i = v /\ X)) (fun X => B (v = F f j (us.map (E.den F ρ)) /\ X)) G
 | _ :: d, A, B, G => alD F ρ d A B G
theorem DR {F : Fam} {ρ : Nat -> Int} {G : Prop} : ∀ (d : List (Nat × E)) {A B : Prop -> Prop}, alD F ρ d A B G -> (∀ X, X -> A X) -> (∀ X, X -> B X) -> (∀ x ∈ d, ρ x.1 = x.2.den F ρ) -> G
 | [], _, _, h, a, b, _ => h (a _ trivial) (b _ trivial)
 | (i, .app (.i k) f j us) :: d, _, _, h, a, b, hd => by
   have e := hd _ (List.mem_cons_self ..)
   simp only [EI] at e
   have n : k.wrap (ρ i) = ρ i := by rw [e]; exact K.norm_norm (.i k) _
   exact DR d (h _ n) (fun X x => a _ ⟨rfl, n, x⟩) (fun X x => b _ ⟨e, x⟩) fun x hx => hd x (List.mem_cons_of_mem _ hx)
 | (i, .app .b f j us) :: d, _, _, h, a, b, hd => by
   have e := hd _ (List.mem_cons_self ..)
   simp only [EI] at e
   have n : K.b.norm (ρ i) = ρ i := by rw [e]; exact K.norm_norm .b _
   exact DR d (h _ n) (fun X x => a _ ⟨rfl, n, x⟩) (fun X x => b _ ⟨e, x⟩) fun x hx => hd x (List.mem_cons_of_mem _ hx)
 | (i, .app .x f j us) :: d, _, _, h, a, b, hd => by
   have e := hd _ (List.mem_cons_self ..)
   simp only [EI] at e
   exact DR d (h _) (fun X x => a _ ⟨rfl, x⟩) (fun X x => b _ ⟨e, x⟩) fun x hx => hd x (List.mem_cons_of_mem _ hx)
 | (_, .lit ..) :: d, _, _, h, a, b, hd | (_, .var ..) :: d, _, _, h, a, b, hd | (_, .bin ..) :: d, _, _, h, a, b, hd | (_, .dv ..) :: d, _, _, h, a, b, hd | (_, .sh ..) :: d, _, _, h, a, b, hd | (_, .cmp ..) :: d, _, _, h, a, b, hd | (_, .conv ..) :: d, _, _, h, a, b, hd | (_, .not _) :: d, _, _, h, a, b, hd | (_, .and ..) :: d, _, _, h, a, b, hd | (_, .or ..) :: d, _, _, h, a, b, hd | (_, .ite ..) :: d, _, _, h, a, b, hd => DR d h a b fun x hx => hd x (List.mem_cons_of_mem _ hx)
theorem enK {p r q : List (Nat × K) -> E -> List E -> List (Nat × E) -> Prop} {ks : List (Nat × K)} {ob : E} {es : List E} {d : List (Nat × E)} (h : p ks ob es d) (hq : q ks ob es d) (hr : r ks ob es d := by kernel_rfl) :
 ∃ ks ob es d, p ks ob es d /\ r ks ob es d /\ q ks ob es d := ⟨_, _, _, _, h, hr, hq⟩
theorem Ctx.OK.entryK (hc : c.OK P G) {e : Ent} {Q : Post} (dd : Bool) (L : List (Nat × Ent))
 (h : ∃ ks ob es d, Sem.run P2 (Go.method 2 1 (frZ (rdz dd e.pks e.oks (evF P G c e))) "") default = .ok (0, .agg (encZ (ks, ob, es, d))) default /\ rdz dd e.pks e.oks (evF P G c e) = some (ks, ob, es, d) /\
  ∀ (l : Tabs) (ρ : Nat -> Int), alQ ρ ks (fun X => X) fun A xs => e.pre xs -> alD l.F ρ d (fun X => fcsL l L /\ A X) (fun X => X) (ob.tt l.F ρ = true /\ Q xs (es.map (E.den l.F ρ))))
 (hL : fckL c.l L := by rfl) (hm : P.follows .mixedOrders = true := by kernel_rfl) :
 EntryOK P G (e.fw (fnG P G e Q)) /\ PostOK (e.fw (fnG P G e Q)) Q := by
 obtain ⟨ks, ob, es, d, -, hz, hu⟩ := h
 obtain ⟨rfl, hr⟩ := Kv hz
 obtain ⟨-, ob0, hv, hd, hb, hs⟩ := Ig hr
 refine Classical.epsilon_spec (p := fun φ => EntryOK P G (e.fw φ) /\ PostOK (e.fw φ) Q) ⟨fnR c.l.F e.np ob0 es Q, ?_⟩
 refine hc.entryH hm ((Tq P G c e _).trans hv) hb _ rfl fun xs hf hp => ?_
 obtain ⟨l, hl, hF⟩ := Ic (l0 := c.l)
 obtain ⟨ρ, a, b⟩ := solve (F := l.F) e.pks.length d hd xs
 have hA := GC (fun k e g h => by
  simp only [Bool.and_eq_true, beq_iff_eq, bne_iff_ne, ne_eq] at h
  obtain ⟨rfl, h⟩ := h
  exact Ih rfl (hF e g h)) hL
 obtain ⟨B, hB, hR⟩ := EL (hu l ρ) (fun _ x => x) hf fun i hi => by rw [Nat.zero_add]; exact a i (by rw [<- Ax hf]; exact hi)
 have z := DR d (hR hp) (fun X x => ⟨hA, hB X x⟩) (fun _ x => x) b
 rw [hl]
 exact ⟨ρ, a, hs _ _ b z.1, z.2⟩
theorem Ctx.OK.loopK (hc : c.OK P G) {f : Nat} {p : List Bool} {le : LEnt} {Q : Post} (mu : List Int -> Nat) (dd : Bool) (k0 : Nat) (L : List (Nat × Ent))
 (hp : ∃ fn cd b, P.funcs[f]? = some fn /\ fn.body = some cd /\ Az cd p = some (.loop b))
 (h : ∃ ks ob es d, Sem.run P2 (Go.method 2 1 (frZ (rdz dd le.ent.pks le.ent.oks (evM P G c f p le))) "") default = .ok (0, .agg (encZ (ks, ob, es, d))) default /\ rdz dd le.ent.pks le.ent.oks (evM P G c f p le) = some (ks, ob, es, d) /\
  ∀ (φ : Nat -> List Int -> Int) (l : Tabs) (ρ : Nat -> Int), alQ ρ ks (fun X => X) fun A xs => le.ent.pre xs -> (∀ ys, fits (ks.map Prod.snd) ys -> le.ent.pre ys -> mu ys < mu xs -> Q ys (Al φ ys 0 le.ent.oks)) ->
  alD l.F ρ d (fun X => (FCk l k0 φ (fun ys => le.ent.pre ys /\ mu ys < mu xs) /\ fcsL l L) /\ A X) (fun X => X) (ob.tt l.F ρ = true /\ Q xs (es.map (E.den l.F ρ))))
 (hk0 : le.ent.key = k0 := by rfl) (hk : ((c.l.any fun y => y.key == le.ent.key) || le.ent.key == 0) = false := by rfl) (hL : fckL c.l L := by rfl) (hm : P.follows .mixedOrders = true := by kernel_rfl) :
 AL P G f p (le.fw (fnM P G f p le Q)) /\ PostOK (le.fw (fnM P G f p le Q)).ent Q := by
 rw [Bool.or_eq_false_iff] at hk
 have h0 : le.ent.key ≠ 0 := by simpa using hk.2
 subst hk0
 obtain ⟨ks, ob, es, d, -, hz, hu⟩ := h
 obtain ⟨rfl, hr⟩ := Kv hz
 obtain ⟨-, ob0, hv, hd, hb, hs⟩ := Ig hr
 refine Classical.epsilon_spec (p := fun φ => AL P G f p (le.fw φ) /\ PostOK (le.fw φ).ent Q) ⟨fnL le c.l ob0 es Q mu, ?_⟩
 refine hc.loopH hm hk.1 hp ((Ts P G c f p le _).trans hv) hb _ rfl fun xs hf hp φ hφ => ?_
 obtain ⟨l, hl, hS, hF⟩ := Tp le φ mu (mu xs) c.l h0
 obtain ⟨ρ, a, b⟩ := solve (F := l.F) le.ent.pks.length d hd xs
 have hA := GC (fun k e g h => by
  simp only [Bool.and_eq_true, beq_iff_eq, bne_iff_ne, ne_eq] at h
  obtain ⟨rfl, h⟩ := h
  refine Ih rfl (hF e g (fun hh => ?_) h)
  have q := List.any_eq_false.mp hk.1 e (List.mem_of_find?_eq_some g)
  exact q (by simpa using hh)) hL
 obtain ⟨B, hB, hR⟩ := EL (hu φ l ρ) (fun _ x => x) hf fun i hi => by rw [Nat.zero_add]; exact a i (by rw [<- Ax hf]; exact hi)
 have z := DR d (hR hp (by rw [LG]; exact hφ)) (fun X x => ⟨⟨Ih rfl hS, hA⟩, hB X x⟩) (fun _ x => x) b
 rw [hl]
 exact ⟨ρ, a, hs _ _ b z.1, z.2⟩
abbrev evQ (P : Program) (G : Glob) (c : Ctx) (f : Nat) (p : List Bool) (le : LEnt) : Option (E × List E) := evP P G (A5 c.fs) (evFn P G (A5 c.fs) (ltOf c.ls) 40 10) 40 (subP c.ls f p) le (AQ P f p)
theorem Tt (P : Program) (G : Glob) (c : Ctx) (g : Nat) (p : List Bool) (e : LEnt) (f : Nat -> List Int -> Int) : evQ P G c g p (e.fw f) = evQ P G c g p e := by kernel_rfl
theorem Ctx.OK.pieceK (hc : c.OK P G) {f : Nat} {p : List Bool} {le : LEnt} {Q : Post} (dd : Bool) (L : List (Nat × Ent))
 (hp : ∃ fn cd b, P.funcs[f]? = some fn /\ fn.body = some cd /\ Az cd p = some b)
 (h : ∃ ks ob es d, Sem.run P2 (Go.method 2 1 (frZ (rdz dd le.ent.pks le.ent.oks (evQ P G c f p le))) "") default = .ok (0, .agg (encZ (ks, ob, es, d))) default /\ rdz dd le.ent.pks le.ent.oks (evQ P G c f p le) = some (ks, ob, es, d) /\
  ∀ (l : Tabs) (ρ : Nat -> Int), alQ ρ ks (fun X => X) fun A xs => le.ent.pre xs -> alD l.F ρ d (fun X => fcsL l L /\ A X) (fun X => X) (ob.tt l.F ρ = true /\ Q xs (es.map (E.den l.F ρ))))
 (hL : fckL c.l L := by rfl) (hm : P.follows .mixedOrders = true := by kernel_rfl) :
 AL P G f p (le.fw (fnM P G f p le Q)) /\ PostOK (le.fw (fnM P G f p le Q)).ent Q := by
 obtain ⟨ks, ob, es, d, -, hz, hu⟩ := h
 obtain ⟨rfl, hr⟩ := Kv hz
 obtain ⟨-, ob0, hv, hd, hb, hs⟩ := Ig hr
 refine Classical.epsilon_spec (p := fun φ => AL P G f p (le.fw φ) /\ PostOK (le.fw φ).ent Q) ⟨fnR c.l.F le.ent.np ob0 es Q, ?_⟩
 refine hc.pieceH hm hp ((Tt P G c f p le _).trans hv) hb _ rfl fun xs hf hp => ?_
 obtain ⟨l, hl, hF⟩ := Ic (l0 := c.l)
 obtain ⟨ρ, a, b⟩ := solve (F := l.F) le.ent.pks.length d hd xs
 have hA := GC (fun k e g h => by
  simp only [Bool.and_eq_true, beq_iff_eq, bne_iff_ne, ne_eq] at h
  obtain ⟨rfl, h⟩ := h
  exact Ih rfl (hF e g h)) hL
 obtain ⟨B, hB, hR⟩ := EL (hu l ρ) (fun _ x => x) hf fun i hi => by rw [Nat.zero_add]; exact a i (by rw [<- Ax hf]; exact hi)
 have z := DR d (hR hp) (fun X x => ⟨hA, hB X x⟩) (fun _ x => x) b
 rw [hl]
 exact ⟨ρ, a, hs _ _ b z.1, z.2⟩
theorem PostOK.usf {e : Ent} {Q : Post} (h : PostOK e Q) {xs vs : List Int} (hd : Ie e.fn xs 0 e.oks vs) (hf : fits e.pks xs) (hp : e.pre xs) : Q xs vs := h.use rfl rfl hd hf hp
def cjA {α : Type} (p : α -> Prop) : List α -> Prop
 | [] => True
 | x :: l => p x /\ cjA p l
theorem mF {α : Type} {p : α -> Prop} : ∀ {l : List α}, cjA p l -> ∀ x ∈ l, p x
 | [], _, _, hx => by cases hx
 | y :: l, h, x, hx => by
   rcases List.mem_cons.1 hx with rfl | hx
   ·exact h.1
   ·exact mF h.2 x hx
end
end Go.Proofs.YtgpflpbldeflhaaDoor.Ew

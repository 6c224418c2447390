/- Summaries of functions and of loops. -/
import Derived.Test.YtmolkkphnehgcaaW7
set_option linter.unusedVariables false
set_option linter.unusedSimpArgs false
namespace Go.Proofs.Ytmolkkphnehgcaa.Ew
open Go Go.RowKit

/-! ### blocks whose tail is zeros, told by rows -/
def zAll : List SV → Bool
  | [] => true
  | .sc (.lit (.i .i64) 0) :: r => zAll r
  | _ => false
def zCnt : List SV → Nat → Option Nat
  | [], n => some n
  | .sc (.lit (.i .i64) 0) :: r, n => bif Nat.ble n 100000 then zCnt r (n + 1) else none
  | _, _ => none
theorem zCnt_ne {v : SV} {r : List SV} {n : Nat} (hv : v ≠ .sc (.lit (.i .i64) 0)) : zCnt (v :: r) n = none := by
  unfold zCnt
  split
  · rename_i heq; cases heq
  · exfalso; simp_all
  · rfl
theorem zCnt_spec : ∀ {l : List SV} {n k : Nat}, zCnt l n = some k → zAll l = true ∧ k = n + l.length
  | [], n, k, h => by simp only [zCnt, Option.some.injEq] at h; exact ⟨rfl, h.symm⟩
  | v :: r, n, k, h => by
    by_cases hv : v = .sc (.lit (.i .i64) 0)
    · subst hv
      rw [show zCnt (.sc (.lit (.i .i64) 0) :: r) n = bif Nat.ble n 100000 then zCnt r (n + 1) else none from rfl] at h
      cases hb : Nat.ble n 100000 with
      | false => rw [hb] at h; cases h
      | true =>
        rw [hb] at h
        obtain ⟨i1, i2⟩ := zCnt_spec (l := r) (n := n + 1) h
        exact ⟨by simpa [zAll] using i1, by rw [i2, List.length_cons]; omega⟩
    · rw [zCnt_ne hv] at h; cases h
def segC (ty' h w : Nat) (cs : List SV) : Option Nat → Blk
  | some k => bif Nat.beq k (k / w * w) && Nat.ble k 100000 then .seg ty' (cs.take h) (List.replicate w (.i .i64)) (.app .x 0 7 (.lit (.i .i64) (k / w : Nat) :: List.replicate w (.lit (.i .i64) 0))) else .cells ty' cs
  | none => .cells ty' cs
def segB (ty h w : Nat) : Blk → Blk
  | .cells ty' cs => bif Nat.beq ty' ty then segC ty' h w cs (zCnt (cs.drop h) 0) else .cells ty' cs
  | x => x
theorem segB_cases (ty h w ty' : Nat) (cs : List SV) : segB ty h w (.cells ty' cs) = .cells ty' cs ∨ ∃ N, segB ty h w (.cells ty' cs) = .seg ty' (cs.take h) (List.replicate w (.i .i64)) (.app .x 0 7 (.lit (.i .i64) (N : Nat) :: List.replicate w (.lit (.i .i64) 0))) ∧ zAll (cs.drop h) = true ∧ (cs.drop h).length = N * w ∧ N ≤ 100000 := by
  simp only [segB]
  cases Nat.beq ty' ty with
  | false => exact Or.inl rfl
  | true =>
    cases hz : zCnt (cs.drop h) 0 with
    | none => exact Or.inl rfl
    | some k =>
      cases hb : (Nat.beq k (k / w * w) && Nat.ble k 100000) with
      | false => left; simp only [segC, hb, cond_true, cond_false]
      | true =>
        right
        obtain ⟨i1, i2⟩ := zCnt_spec hz
        simp only [Bool.and_eq_true] at hb
        have h1 := Nat.eq_of_beq_eq_true hb.1
        have h2 := Nat.le_of_ble_eq_true hb.2
        refine ⟨k / w, by simp only [segC, hb.1, hb.2, Bool.and_self, cond_true], i1, by omega, Nat.le_trans (Nat.div_le_self _ _) h2⟩
def segM (m : Mem) : List (Nat × Nat × Nat) → Mem
  | [] => m
  | (ty, h, w) :: r => segM (m.map (Option.map fun x => (x.1, segB ty h w x.2))) r
mutual
def segsOf : Sh → List (Nat × Nat × Nat)
  | .seg ty ks cs => [(ty, cs.length, ks.length)]
  | .opt s => segsOf s
  | .tup l => segsOfL l
  | _ => []
def segsOfL : List Sh → List (Nat × Nat × Nat)
  | [] => []
  | s :: r => segsOf s ++ segsOfL r
end
section
variable {F : Fam} {ρ : Nat → Int} {w0 w : World} {M0 Im0 Im : Nat → Prop} {ad : Nat → Hd} {m : Mem}
theorem zAll_spec : ∀ {l : List SV}, zAll l = true → SV.concL F ρ ad l = List.replicate l.length (K.val (.i .i64) 0)
  | [], _ => rfl
  | v :: r, h => by
    unfold zAll at h
    split at h
    · rename_i heq; cases heq
    · rename_i r' heq
      injection heq with e1 e2
      subst e1 e2
      simp only [SV.concL, zAll_spec h, List.length_cons, List.replicate_succ]
      rfl
    · cases h
theorem flatN_rep (w n : Nat) : flatN (List.replicate w (K.i .i64)) (List.replicate n (List.replicate w 0)) = List.replicate (n * w) (K.val (.i .i64) 0) := by
  have hz : ∀ w, numV (List.replicate w (K.i .i64)) (List.replicate w 0) = List.replicate w (K.val (.i .i64) 0) := fun w => by
    induction w with
    | zero => rfl
    | succ w ih => simp only [List.replicate_succ, numV, List.zipWith_cons_cons]; rw [show List.zipWith K.val (List.replicate w (K.i .i64)) (List.replicate w 0) = _ from ih]
  unfold flatN
  induction n with
  | zero => simp
  | succ n ih =>
    rw [List.replicate_succ, List.map_cons, List.flatten_cons, ih, hz, List.replicate_append_replicate, Nat.succ_mul, Nat.add_comm w]
theorem fits_rep0 (w : Nat) : fits (List.replicate w (K.i .i64)) (List.replicate w 0) := by
  induction w with
  | zero => trivial
  | succ w ih => exact ⟨wrap_zero .i64, ih⟩
theorem concL_td (F : Fam) (ρ : Nat → Int) (ad : Nat → Hd) (l : List SV) (h : Nat) : SV.concL F ρ ad (l.take h) ++ SV.concL F ρ ad (l.drop h) = SV.concL F ρ ad l := by
  rw [concL_eq, concL_eq, concL_eq, ← List.map_append, List.take_append_drop]
theorem segB_ok (hB : BI F) {n ty h wd : Nat} {x : Blk} (hx : BlkOK F ρ Im ad n w x) : BlkOK F ρ Im ad n w (segB ty h wd x) := by
  cases x with
  | cells ty' cs =>
    rcases segB_cases ty h wd ty' cs with e | ⟨N, e, c3, c4, c5⟩
    · rw [e]; exact hx
    · rw [e]
      have hden : (E.app .x 0 7 (.lit (.i .i64) (N : Nat) :: List.replicate wd (.lit (.i .i64) 0))).den F ρ = cd (List.replicate N (List.replicate wd 0)) := by
        rw [den_app0 hB]
        have e1 : (E.lit (.i .i64) (N : Nat)).den F ρ = (N : Int) := by
          show IntKind.i64.wrap (N : Int) = N
          exact wrap_len (by unfold maxLen; omega)
        have e2 : (List.replicate wd (E.lit (.i .i64) 0)).map (E.den F ρ) = List.replicate wd 0 := by
          rw [List.map_replicate]
          rfl
        rw [List.map_cons, e1, e2]
        show cd (List.replicate ((N : Int)).toNat _) = _
        rw [Int.toNat_natCast]
      show isCd _ ∧ _ ∧ _
      rw [hden, dc_cd]
      refine ⟨isCd_cd _, fun r hr => ?_, ?_⟩
      · rw [(List.mem_replicate.1 hr).2]; exact fits_rep0 wd
      · rw [flatN_rep, ← c4, ← zAll_spec (F := F) (ρ := ρ) (ad := ad) c3, concL_td]
        exact hx
  | _ => exact hx
theorem segB_mut {n ty h wd : Nat} {x : Blk} : mutB F ρ ad n (segB ty h wd x) = mutB F ρ ad n x := by
  cases x with
  | cells ty' cs =>
    rcases segB_cases ty h wd ty' cs with e | ⟨N, e, _⟩ <;> rw [e] <;> rfl
  | _ => rfl
theorem segB_cs {p : Nat → Prop} {ty h wd : Nat} {x : Blk} (hx : SV.okL p x.cs) : SV.okL p (segB ty h wd x).cs := by
  cases x with
  | cells ty' cs =>
    rcases segB_cases ty h wd ty' cs with e | ⟨N, e, _⟩
    · rw [e]; exact hx
    · rw [e]; exact okL_take hx h
  | _ => exact hx
theorem map_at (f : E × Blk → E × Blk) (m : Mem) (n : Nat) : Mem.at (m.map (Option.map f)) n = (m.at n).map f := by
  simp only [Mem.at, List.getD_eq_getElem?_getD, List.getElem?_map]
  cases m[n]? <;> rfl
theorem Rel.segM (hB : BI F) : ∀ (l : List (Nat × Nat × Nat)) {m : Mem}, Rel F ρ w0 M0 Im0 ad m w → Rel F ρ w0 M0 Im0 ad (Ew.segM m l) w
  | [], _, hR => hR
  | (ty, h, wd) :: r, m, hR => by
    refine Rel.segM hB r ?_
    obtain ⟨hM, Im, h1, h2, hI⟩ := hR
    have key : ∀ {n : Nat} {g : E} {x : Blk}, Mem.at (m.map (Option.map fun x => (x.1, segB ty h wd x.2))) n = some (g, x) → ∃ y, m.at n = some (g, y) ∧ x = segB ty h wd y := fun {n g x} hn => by
      rw [map_at] at hn
      obtain ⟨y, hy, e⟩ := Option.map_eq_some_iff.1 hn
      injection e with e1 e2
      exact ⟨y.2, by rw [hy, ← e1], e2.symm⟩
    have hal : al (m.map (Option.map fun x => (x.1, segB ty h wd x.2))) = al m := by
      funext n
      unfold al
      rw [map_at, Option.isSome_map]
    refine ⟨hM, Im, h1, h2, ⟨fun n g x hn hg => ?_, fun n g x hn => ?_, fun n k g x g' y b hn hg hk hg' hb hb' => ?_, hI.im, hI.fr⟩⟩
    · obtain ⟨y, hy, rfl⟩ := key hn
      obtain ⟨i1, i2⟩ := hI.ent n g y hy hg
      exact ⟨segB_ok hB i1, fun b hb => i2 b (by rw [← segB_mut]; exact hb)⟩
    · obtain ⟨y, hy, rfl⟩ := key hn
      rw [hal]
      exact segB_cs (hI.ok n g y hy)
    · obtain ⟨x', hx, rfl⟩ := key hn
      obtain ⟨y', hy, rfl⟩ := key hk
      rw [segB_mut] at hb hb'
      exact hI.inj n k g x' g' y' b hx hg hy hg' hb hb'
end

def evE (P : Program) (G : Glob) (T : Tab) (LT : Nat → Loops) (N n : Nat) (e : Ent) : Option (E × List E) :=
  match evFn P G T LT N n e.f e.pgen.1 (start e 0) with
  | some (ob, v, m') => match matchO e (shareL (segM m' (segsOf e.rs)) (svAll m' v ++ shOut e m' v)) v with
    | some (g, es) => some (andB ob g, es)
    | none => none
  | none => none

/-! ### loops -/
def tmL (le : LEnt) : Tm := (List.range le.nt).map fun i => match le.sl.findIdx? (· == i) with
  | some k => le.ent.pgen.1[k]?
  | none => some (.oq (le.ent.nn + i))
def bitsL : List Lab → Lab → Option (List SV)
  | [], _ => none
  | [k], x => if k = x then some [] else none
  | k :: k' :: ls, x => if k = x then some (.sc (mkB true) :: List.replicate ls.length (.sc (mkB false))) else (bitsL (k' :: ls) x).map fun r => .sc (mkB false) :: r
def keepB (so wr : List Nat) (s0 s : Tm) : Bool := (List.range s0.length).all fun k => so.contains k || wr.contains k || match s0.at k, s.at k with
  | some v, some u => v.same u
  | _, _ => false
def matchL (le : LEnt) (s : St) (lab : Lab) : Option (E × List E) :=
  match bitsL le.labs lab, getSl s.1 le.so with
  | some bs, some us => if s.1.length = le.nt ∧ keepB le.so le.wr (tmL le) s.1 = true then matchO le.ent (shareL s.2 (svAll s.2 (.tup us) ++ shOut le.ent s.2 (.tup (bs ++ us)))) (.tup (bs ++ us)) else none
  | _, _ => none
def iteE (c a b : E) : E := bif a.same b then a else match c.lit? with
  | some n => bif i2b n then a else b
  | none => .ite c a b
def endsL (le : LEnt) (d : DT) : List (Lab × St) → Option (E × List E)
  | [] => none
  | (lab, s) :: r => match matchL le s lab with
    | some (g, es) => match r with
      | [] => some (impB (d.is lab) g, es)
      | _ :: _ => match endsL le d r with
        | some (g2, es2) => some (andB (impB (d.is lab) g) g2, List.zipWith (iteE (d.is lab)) es es2)
        | none => none
    | none => none
/-- The ways out; those that a summary does not tell of are not taken. -/
def endsM (le : LEnt) (d : DT) : List (Lab × St) → E × Option (List E)
  | [] => (mkB true, none)
  | (lab, s) :: r => match matchL le s lab with
    | some (g, es) => match endsM le d r with
      | (g2, none) => (andB (impB (d.is lab) g) g2, some es)
      | (g2, some es2) => (andB (impB (d.is lab) g) g2, some (List.zipWith (iteE (d.is lab)) es es2))
    | none => match endsM le d r with
      | (g2, o) => (andB (mkNot (d.is lab)) g2, o)
def evL (P : Program) (G : Glob) (T : Tab) (call : Into) (N : Nat) (L : Loops) (le : LEnt) (body : Code) : Option (E × List E) :=
  match evCode P G T call N L body (tmL le, start le.ent le.nt) with
  | some r => match seqOut (callL le) r with
    | some q => match endsM le q.2.1 q.2.2 with
      | (g, some es) => some (andB q.1 g, es)
      | _ => none
    | none => none
  | none => none

/-- A piece of code. -/
def evP (P : Program) (G : Glob) (T : Tab) (call : Into) (N : Nat) (L : Loops) (le : LEnt) (c : Code) : Option (E × List E) :=
  match evCode P G T call N L c (tmL le, start le.ent le.nt) with
  | some r => match endsM le r.2.1 r.2.2 with
    | (g, some es) => some (andB r.1 g, es)
    | _ => none
  | none => none

section
variable {P : Program} {ρ : Nat → Int} {G : Glob} {T : Tab} {l : Tabs} {w0 w w' : World} {M0 Im0 Im : Nat → Prop} {ad ad' hs : Nat → Hd} {m m2 m' : Mem} {tm : Tm} {en : Env} {a : Act}

theorem matchO_start {e : Ent} {v : SV} {r : E × List E} (h : matchO e m' v = some r) : startOK e = true := by
  unfold matchO at h
  split at h
  · split at h
    · split at h
      · rename_i hc
        have hc := hc.1
        simp only [Bool.and_eq_true] at hc
        exact hc.2
      · cases h
    · cases h
  · cases h

theorem outsE_eq {fn : Nat → List Int → Int} {xs : List Int} : ∀ (ks : List K) (j : Nat) (ys : List Int), ys.length = ks.length → (∀ (i : Nat) (k : K) (y : Int), ks[i]? = some k → ys[i]? = some y → k.norm (fn (j + i) xs) = y) → outsE fn xs j ks = ys
  | [], j, [], _, _ => rfl
  | [], j, _ :: _, h, _ => by simp at h
  | _ :: _, j, [], h, _ => by simp at h
  | k :: ks, j, y :: ys, hl, h => by
    simp only [outsE]
    have h0 := h 0 k y rfl rfl
    rw [Nat.add_zero] at h0
    rw [h0, outsE_eq ks (j + 1) ys (by simpa using hl) fun i k y h1 h2 => by
      have := h (i + 1) k y (by simpa using h1) (by simpa using h2)
      rwa [show j + 1 + i = j + (i + 1) by omega]]

/-- A function's summary. -/
theorem entry_okR (hm : P.follows .mixedOrders = true) (hS : SumOK P G l T) {LT : Nat → Loops} (hLT : LTOK P G l LT) {N n : Nat} {e : Ent} {ob : E} {es : List E} (h : evE P G T LT N n e = some (ob, es))
    (hu : ∀ xs, fits e.pks xs → e.pre xs → ∃ ρ : Nat → Int, (∀ i, i < e.np → ρ i = env xs i) ∧ ob.tt l.F ρ = true ∧ ∀ (i : Nat) (k : K), e.oks[i]? = some k → k.norm (e.fn i xs) = (es.getD i (mkB false)).den l.F ρ) : EntryOK P G e := by
  unfold evE at h
  split at h
  · rename_i ob1 v m1 hev
    split at h
    · rename_i g es' hma
      simp only [Option.some.injEq, Prod.mk.injEq] at h
      obtain ⟨rfl, rfl⟩ := h
      intro xs hfit hpre w M0 Im0 hs hM hG hE
      obtain ⟨ρ, hρ, u1, u2⟩ := hu xs hfit hpre
      obtain ⟨t1, t2⟩ := andB_tt u1
      obtain ⟨r1, r2, r3⟩ := start_rel (ad := hs) l 0 (matchO_start hma) hρ hfit hM hE fun _ _ => rfl
      obtain ⟨k1, k2, k3⟩ := matchO_spec (l := l) hma
      rw [← r2]
      refine (evFn_sound (l := l) (ρ := ρ) hm hS hG hLT n e.f _ _ _ _ _ hev t1 hs w r1 r3).mono ?_
      rintro en w' ⟨ad', rfl, a2, a3, a4⟩
      have hys : outsE e.fn xs 0 e.oks = es'.map (E.den l.F ρ) := by
        refine outsE_eq _ _ _ (by rw [← k1]; simp) fun i k y h1 h2 => ?_
        rw [Nat.zero_add, u2 i k h1]
        rw [List.getElem?_map] at h2
        obtain ⟨x, hx, rfl⟩ := Option.map_eq_some_iff.1 h2
        simp [List.getD, hx]
      obtain ⟨hs', Im', q1, q2, q3, q4, q5⟩ := k3 hρ hfit hys t2 ((a2.segM (Tabs.BI l) _).shareL _) fun j hj => (a3.same j ((start_al e 0 j).2 (by omega))).symm
      exact ⟨hs', Im', q1, q2, q3, by rw [q4], q5⟩
    · cases h
  · cases h

theorem entry_ok (hm : P.follows .mixedOrders = true) (hS : SumOK P G l T) {LT : Nat → Loops} (hLT : LTOK P G l LT) {N n : Nat} {e : Ent} {ob : E} {es : List E} (h : evE P G T LT N n e = some (ob, es))
    (hu : ∀ xs, fits e.pks xs → e.pre xs → ob.tt l.F (env xs) = true ∧ ∀ (i : Nat) (k : K), e.oks[i]? = some k → k.norm (e.fn i xs) = (es.getD i (mkB false)).den l.F (env xs)) : EntryOK P G e :=
  entry_okR hm hS hLT h fun xs hf hp => ⟨env xs, fun _ _ => rfl, hu xs hf hp⟩

theorem bitsL_spec {F : Fam} {ad : Nat → Hd} (us : List Value) : ∀ {ls : List Lab} {x : Lab} {bs : List SV}, bitsL ls x = some bs → labV ls (SV.concL F ρ ad bs ++ us) = some (x, us) ∧ ∀ p, SV.okL p bs
  | [], x, bs, h => by simp [bitsL] at h
  | [k], x, bs, h => by
    simp only [bitsL] at h
    split at h
    · rename_i hk
      simp only [Option.some.injEq] at h; subst h
      subst hk
      exact ⟨rfl, fun _ => trivial⟩
    · cases h
  | k :: k' :: ls, x, bs, h => by
    have ht : (SV.sc (mkB true)).conc F ρ ad = .bool true := by simp only [SV.conc, E.val_b (mkB_kind true), mkB_tt]
    have hf : (SV.sc (mkB false)).conc F ρ ad = .bool false := by simp only [SV.conc, E.val_b (mkB_kind false), mkB_tt]
    simp only [bitsL] at h
    split at h
    · rename_i hk
      simp only [Option.some.injEq] at h; subst h
      subst hk
      have falses : ∀ (ls : List Lab) (k : Lab), ∃ y, labV (k :: ls) (SV.concL F ρ ad (List.replicate ls.length (.sc (mkB false))) ++ us) = some (y, us) := by
        intro ls
        induction ls with
        | nil => intro k; exact ⟨k, rfl⟩
        | cons k2 ls ih =>
          intro k
          obtain ⟨y, hy⟩ := ih k2
          refine ⟨y, ?_⟩
          simp only [List.length_cons, List.replicate_succ, SV.concL, hf, List.cons_append, labV, hy, Option.map_some, cond_false]
      obtain ⟨y, hy⟩ := falses ls k'
      refine ⟨?_, fun p => ⟨trivial, ?_⟩⟩
      · simp only [SV.concL, ht, List.cons_append, labV, hy, Option.map_some, cond_true]
      · generalize ls.length = n
        induction n with
        | zero => trivial
        | succ n ih => rw [List.replicate_succ]; exact ⟨trivial, ih⟩
    · obtain ⟨r, hr, rfl⟩ := Option.map_eq_some_iff.1 h
      obtain ⟨i1, i2⟩ := bitsL_spec (F := F) (ad := ad) us hr
      refine ⟨?_, fun p => ⟨trivial, i2 p⟩⟩
      simp only [SV.concL, hf, List.cons_append, labV, i1, Option.map_some, cond_false]

theorem iteE_den (c a b : E) (F : Fam) : (iteE c a b).den F ρ = bif c.tt F ρ then a.den F ρ else b.den F ρ := by
  unfold iteE
  cases hs : a.same b
  · simp only [cond_false]
    split
    · rename_i n hn
      rw [lit?_tt hn]
      cases i2b n <;> rfl
    · simp only [E.den, E.tt]
  · rw [E.same_eq _ _ hs]
    cases c.tt F ρ <;> rfl

theorem matchL_kind {le : LEnt} {s : St} {lab : Lab} {g : E} {es : List E} (h : matchL le s lab = some (g, es)) : es.length = le.ent.oks.length := by
  unfold matchL at h
  split at h
  · split at h
    · rw [← (matchO_spec (l := []) h).1]; simp
    · cases h
  · cases h

theorem endsL_spec {le : LEnt} {d : DT} {F : Fam} : ∀ {ss : List (Lab × St)} {g : E} {es : List E}, endsL le d ss = some (g, es) → es.length = le.ent.oks.length ∧ (g.tt F ρ = true → ∀ s, lk (d.eval F ρ) ss = some s →
    ∃ g1 es1, matchL le s (d.eval F ρ) = some (g1, es1) ∧ g1.tt F ρ = true ∧ es.map (E.den F ρ) = es1.map (E.den F ρ))
  | [], g, es, h => by simp [endsL] at h
  | (lab, s0) :: r, g, es, h => by
    simp only [endsL] at h
    split at h
    · rename_i g1 es1 h1
      have hl1 := matchL_kind h1
      split at h
      · simp only [Option.some.injEq, Prod.mk.injEq] at h
        obtain ⟨rfl, rfl⟩ := h
        refine ⟨hl1, fun ht s hs => ?_⟩
        simp only [lk] at hs
        split at hs
        · rename_i hk
          simp only [Option.some.injEq] at hs; subst hs
          exact ⟨g1, es1, by rw [← hk]; exact h1, impB_tt ht (DT.is_true hk.symm), rfl⟩
        · cases hs
      · rename_i x y
        split at h
        · rename_i g2 es2 h2
          simp only [Option.some.injEq, Prod.mk.injEq] at h
          obtain ⟨rfl, rfl⟩ := h
          obtain ⟨l2, i2⟩ := endsL_spec (F := F) h2
          refine ⟨by simp [hl1, l2], fun ht s hs => ?_⟩
          obtain ⟨t1, t2⟩ := andB_tt ht
          have hz : (List.zipWith (iteE (d.is lab)) es1 es2).map (E.den F ρ) = bif (d.is lab).tt F ρ then es1.map (E.den F ρ) else es2.map (E.den F ρ) := by
            have : ∀ (u v : List E), u.length = v.length → (List.zipWith (iteE (d.is lab)) u v).map (E.den F ρ) = bif (d.is lab).tt F ρ then u.map (E.den F ρ) else v.map (E.den F ρ) := by
              intro u
              induction u with
              | nil => intro v hv; cases v with
                | nil => cases (d.is lab).tt F ρ <;> rfl
                | cons _ _ => simp at hv
              | cons x u ih => intro v hv; cases v with
                | nil => simp at hv
                | cons y v =>
                  simp only [List.zipWith_cons_cons, List.map_cons, iteE_den, ih v (by simpa using hv)]
                  cases (d.is lab).tt F ρ <;> rfl
            exact this es1 es2 (by omega)
          rw [show lk (d.eval F ρ) ((lab, s0) :: x :: y) = if lab = d.eval F ρ then some s0 else lk (d.eval F ρ) (x :: y) from rfl] at hs
          split at hs
          · rename_i hk
            simp only [Option.some.injEq] at hs; subst hs
            refine ⟨g1, es1, by rw [← hk]; exact h1, impB_tt t1 (DT.is_true hk.symm), ?_⟩
            rw [hz, DT.is_true hk.symm]; rfl
          · rename_i hk
            obtain ⟨g3, es3, a1, a2, a3⟩ := i2 t2 s hs
            refine ⟨g3, es3, a1, a2, ?_⟩
            rw [hz, DT.is_false (fun e => hk e.symm)]
            exact a3
        · cases h
    · cases h

theorem endsM_spec {le : LEnt} {d : DT} {F : Fam} : ∀ {ss : List (Lab × St)}, (∀ es, (endsM le d ss).2 = some es → es.length = le.ent.oks.length) ∧ ((endsM le d ss).1.tt F ρ = true → ∀ s, lk (d.eval F ρ) ss = some s →
    ∃ es g1 es1, (endsM le d ss).2 = some es ∧ matchL le s (d.eval F ρ) = some (g1, es1) ∧ g1.tt F ρ = true ∧ es.map (E.den F ρ) = es1.map (E.den F ρ)) ∧ ((endsM le d ss).2 ≠ none → startOK le.ent = true)
  | [] => ⟨fun es h => by simp [endsM] at h, fun _ s h => by simp [lk] at h, fun h => absurd rfl h⟩
  | (lab, s0) :: r => by
    obtain ⟨i1, i2, i3⟩ := endsM_spec (le := le) (d := d) (F := F) (ss := r)
    cases hm : matchL le s0 lab with
    | none =>
      have he : endsM le d ((lab, s0) :: r) = (andB (mkNot (d.is lab)) (endsM le d r).1, (endsM le d r).2) := by simp only [endsM, hm]
      rw [he]
      refine ⟨i1, fun ht s hs => ?_, i3⟩
      obtain ⟨t1, t2⟩ := andB_tt ht
      simp only [lk] at hs
      split at hs
      · rename_i hk
        rw [(mkNot_spec _ F ρ).1, DT.is_true hk.symm] at t1
        simp at t1
      · exact i2 t2 s hs
    | some z =>
      obtain ⟨g1, es1⟩ := z
      have hl1 := matchL_kind hm
      have hst : startOK le.ent = true := by
        unfold matchL at hm
        split at hm
        · split at hm
          · exact matchO_start hm
          · cases hm
        · cases hm
      cases ho : (endsM le d r).2 with
      | none =>
        have he : endsM le d ((lab, s0) :: r) = (andB (impB (d.is lab) g1) (endsM le d r).1, some es1) := by
          simp only [endsM, hm]
          split
          · rename_i g2 h2; rw [h2]
          · rename_i g2 e2 h2; rw [h2] at ho; cases ho
        rw [he]
        refine ⟨fun es h => by simp only [Option.some.injEq] at h; subst h; exact hl1, fun ht s hs => ?_, fun _ => hst⟩
        obtain ⟨t1, t2⟩ := andB_tt ht
        simp only [lk] at hs
        split at hs
        · rename_i hk
          simp only [Option.some.injEq] at hs; subst hs
          exact ⟨es1, g1, es1, rfl, by rw [← hk]; exact hm, impB_tt t1 (DT.is_true hk.symm), rfl⟩
        · obtain ⟨es, _, _, h, _⟩ := i2 t2 s hs
          rw [ho] at h; cases h
      | some es2 =>
        have he : endsM le d ((lab, s0) :: r) = (andB (impB (d.is lab) g1) (endsM le d r).1, some (List.zipWith (iteE (d.is lab)) es1 es2)) := by
          simp only [endsM, hm]
          split
          · rename_i g2 h2; rw [h2] at ho; cases ho
          · rename_i g2 e2 h2; rw [h2] at ho ⊢; simp only [Option.some.injEq] at ho; subst ho; rfl
        have l2 := i1 es2 ho
        have hz : (List.zipWith (iteE (d.is lab)) es1 es2).map (E.den F ρ) = bif (d.is lab).tt F ρ then es1.map (E.den F ρ) else es2.map (E.den F ρ) := by
          have : ∀ (u v : List E), u.length = v.length → (List.zipWith (iteE (d.is lab)) u v).map (E.den F ρ) = bif (d.is lab).tt F ρ then u.map (E.den F ρ) else v.map (E.den F ρ) := by
            intro u
            induction u with
            | nil => intro v hv; cases v with
              | nil => cases (d.is lab).tt F ρ <;> rfl
              | cons _ _ => simp at hv
            | cons x u ih => intro v hv; cases v with
              | nil => simp at hv
              | cons y v =>
                simp only [List.zipWith_cons_cons, List.map_cons, iteE_den, ih v (by simpa using hv)]
                cases (d.is lab).tt F ρ <;> rfl
          exact this es1 es2 (by omega)
        rw [he]
        refine ⟨fun es h => by simp only [Option.some.injEq] at h; subst h; simp [hl1, l2], fun ht s hs => ?_, fun _ => hst⟩
        obtain ⟨t1, t2⟩ := andB_tt ht
        simp only [lk] at hs
        split at hs
        · rename_i hk
          simp only [Option.some.injEq] at hs; subst hs
          exact ⟨_, g1, es1, rfl, by rw [← hk]; exact hm, impB_tt t1 (DT.is_true hk.symm), by rw [hz, DT.is_true hk.symm]; rfl⟩
        · rename_i hk
          obtain ⟨es, g3, es3, h1, a1, a2, a3⟩ := i2 t2 s hs
          rw [ho] at h1
          simp only [Option.some.injEq] at h1
          subst h1
          exact ⟨_, g3, es3, rfl, a1, a2, by rw [hz, DT.is_false (fun e => hk e.symm)]; exact a3⟩

/-- The loop's own summary, for so many rounds. -/
def enL (le : LEnt) (mu : List Int → Nat) (n : Nat) : Ent := { le.ent with pre := fun xs => le.ent.pre xs ∧ mu xs < n }

theorem loop_okR (hm : P.follows .mixedOrders = true) {body : Code} {le : LEnt} {l0 : Tabs} {call : Into} {N : Nat} {L : Loops} (mu : List Int → Nat)
    (hS : ∀ n, SumOK P G (enL le mu n :: l0) T) (hI : ∀ n ρ w0 M0 Im0, GOK G Im0 w0 → IntoOK P (enL le mu n :: l0) ρ w0 M0 Im0 call) (hL : ∀ n, LoopsOK P G (enL le mu n :: l0) L body)
    {ob : E} {es : List E} (h : evL P G T call N L le body = some (ob, es))
    (hu : ∀ n xs, fits le.ent.pks xs → le.ent.pre xs → mu xs ≤ n → ∃ ρ : Nat → Int, (∀ i, i < le.ent.np → ρ i = env xs i) ∧ ob.tt (Tabs.F (enL le mu n :: l0)) ρ = true ∧ ∀ (i : Nat) (k : K), le.ent.oks[i]? = some k → k.norm (le.ent.fn i xs) = (es.getD i (mkB false)).den (Tabs.F (enL le mu n :: l0)) ρ) :
    LoopOK P G body le := by
  have main : ∀ n, LoopC G { le with ent := enL le mu n } fun Q => Code.rounds P body Q n := by
    intro n
    induction n with
    | zero => intro xs hfit hpre; exact absurd hpre.2 (Nat.not_lt_zero _)
    | succ n ih =>
      intro xs hfit hpre w M0 Im hs hM hG hE a hdef hsz hsl Q hQ
      obtain ⟨hpre1, hpre2⟩ := hpre
      obtain ⟨ρ, hρ, u1, u2⟩ := hu n xs hfit hpre1 (by omega)
      obtain ⟨l, hl⟩ : ∃ l : Tabs, l = enL le mu n :: l0 := ⟨_, rfl⟩
      have hS' := hS n
      have hI' := hI n
      have hL' := hL n
      rw [← hl] at u1 u2 hS' hI' hL'
      unfold evL at h
      split at h
      · rename_i r hr
        split at h
        · rename_i q hq
          split at h
          · rename_i g es' hends
            simp only [Option.some.injEq, Prod.mk.injEq] at h
            obtain ⟨rfl, rfl⟩ := h
            obtain ⟨t1, t2⟩ := andB_tt u1
            obtain ⟨elen0, espec0, hst0⟩ := endsM_spec (F := l.F) (ρ := ρ) (le := le) (d := q.2.1) (ss := q.2.2)
            rw [hends] at elen0 espec0 hst0
            have elen := elen0 es' rfl
            have espec : g.tt l.F ρ = true → ∀ s, lk (q.2.1.eval l.F ρ) q.2.2 = some s → ∃ g1 es1, matchL le s (q.2.1.eval l.F ρ) = some (g1, es1) ∧ g1.tt l.F ρ = true ∧ es'.map (E.den l.F ρ) = es1.map (E.den l.F ρ) := fun ht s hs => by
              obtain ⟨es, g1, es1, h1, h2, h3, h4⟩ := espec0 ht s hs
              simp only [Option.some.injEq] at h1
              subst h1
              exact ⟨g1, es1, h2, h3, h4⟩
            have hst : startOK le.ent = true := hst0 (by simp)
            let ad0 : Nat → Hd := fun j => if j < le.ent.nn then hs j else { blk := 0, v := a.tmps.getD (j - le.ent.nn) undef }
            obtain ⟨r1, r2, r3⟩ := start_rel (ad := ad0) l le.nt hst hρ hfit hM hE fun j hj => if_pos hj
            have hT0 : RelT l.F ρ ad0 (start le.ent le.nt) (tmL le) a := by
              refine ⟨hdef, by simp [tmL]; exact hsz, fun i v hv => ?_⟩
              simp only [Tm.at, tmL, List.getD, List.getElem?_map] at hv
              by_cases hi : i < le.nt
              · rw [List.getElem?_range hi] at hv
                simp only [Option.map_some, Option.getD_some] at hv
                split at hv
                · rename_i k hk
                  have hk2 := List.findIdx?_eq_some_iff_getElem.1 hk
                  obtain ⟨hk3, hk4, _⟩ := hk2
                  have hski : le.sl[k]? = some i := by rw [List.getElem?_eq_getElem hk3]; simpa using hk4
                  have h1 := hsl k i hski
                  change a.tmps[i]? = (SV.concL F0 (env xs) hs le.ent.pgen.1)[k]? at h1
                  rw [← r2, concL_eq, List.getElem?_map, hv, Option.map_some] at h1
                  exact ⟨h1, okL_get r3 hv⟩
                · simp only [Option.some.injEq] at hv
                  subst hv
                  have hsz' : a.tmps.size = le.nt := hsz
                  have hia : i < a.tmps.size := by rw [hsz']; exact hi
                  refine ⟨?_, (start_al le.ent le.nt _).2 (by omega)⟩
                  simp only [SV.conc, ad0]
                  rw [if_neg (by omega), show le.ent.nn + i - le.ent.nn = i by omega]
                  simp [Array.getD, hia]
              · rw [List.getElem?_eq_none (by simpa using hi)] at hv
                simp at hv
            have hget : l.get (enL le mu n).key = some (enL le mu n) := by
              rw [hl]; simp [Tabs.get]
            have hA : After l.F ρ w M0 Im ad0 (start le.ent le.nt) q.2 Q := by
              intro s ad' a' w' hlk hRs hx
              obtain ⟨g1, es1, m1, m2, m3⟩ := espec t2 s hlk
              have m1' := m1
              unfold matchL at m1'
              split at m1'
              · rename_i bs us hbs hus
                split at m1'
                · rename_i hkeep
                  obtain ⟨hlen, hkeep⟩ := hkeep
                  obtain ⟨b1, b2, b3⟩ := matchO_spec (l := l) m1'
                  have hys : outsE le.ent.fn xs 0 le.ent.oks = es1.map (E.den l.F ρ) := by
                    rw [← m3]
                    refine outsE_eq _ _ _ (by simp [elen]) fun i k y h1 h2 => ?_
                    rw [Nat.zero_add, u2 i k h1]
                    rw [List.getElem?_map] at h2
                    obtain ⟨x, hx, rfl⟩ := Option.map_eq_some_iff.1 h2
                    simp [List.getD, hx]
                  obtain ⟨hs', Im', q1, q2, q3, q4, q5⟩ := b3 (hs := hs) hρ hfit hys m2 (hRs.2.shareL _) fun j hj => by
                    rw [← hx.same j ((start_al le.ent le.nt j).2 (by omega))]
                    exact if_pos hj
                  obtain ⟨g1', g2'⟩ := getSl_spec hus
                  have hbits := bitsL_spec (F := l.F) (ρ := ρ) (ad := ad') (SV.concL l.F ρ ad' us) hbs
                  refine hQ a' w' hs' Im' (SV.concL l.F ρ ad' (bs ++ us)) (q.2.1.eval l.F ρ) (SV.concL l.F ρ ad' us) q1 q2 q3 q5 ?_ ?_ ?_ ?_ ?_ hRs.1.defers
                  · show (lastV le.ent.ogen.1).conc _ _ _ = _
                    rw [show outsE (enL le mu (n+1)).fn xs 0 (enL le mu (n+1)).oks = es1.map (E.den l.F ρ) from hys]
                    rw [hys] at q4
                    rw [← q4]
                    simp only [SV.conc]
                  · rw [show SV.concL l.F ρ ad' (bs ++ us) = SV.concL l.F ρ ad' bs ++ SV.concL l.F ρ ad' us by rw [concL_eq, concL_eq, concL_eq, List.map_append]]
                    exact hbits.1
                  · intro i t hi
                    have hv := g2' i t hi
                    have hil : i < us.length := by have := (List.getElem?_eq_some_iff.1 hi).1; change i < le.so.length at this; omega
                    rw [List.getElem?_eq_getElem hil] at hv
                    rw [(hRs.1.slot t _ hv).1, concL_eq, List.getElem?_map, List.getElem?_eq_getElem hil, Option.map_some]
                  · intro k hk1 hk2
                    have hsz' : a.tmps.size = le.nt := hsz
                    by_cases hkn : k < le.nt
                    · have hkk := List.all_eq_true.1 hkeep k (List.mem_range.2 (by simp [tmL]; exact hkn))
                      have c1 : le.so.contains k = false := by simpa using hk1
                      have c2 : le.wr.contains k = false := by simpa using hk2
                      rw [c1, c2, Bool.false_or, Bool.false_or] at hkk
                      split at hkk
                      · rename_i v u hv0 hv1
                        have := SV.same_eq _ _ hkk
                        subst this
                        obtain ⟨e1, e2⟩ := hT0.slot k v hv0
                        rw [(hRs.1.slot k v hv1).1, e1, SV.conc_congr hx.same v e2]
                      · cases hkk
                    · have h1 : a'.tmps.size = le.nt := by rw [← hlen]; exact hRs.1.size
                      rw [Array.getElem?_eq_none (by omega), Array.getElem?_eq_none (by omega)]
                  · have h1 : a'.tmps.size = le.nt := by rw [← hlen]; exact hRs.1.size
                    have hsz' : a.tmps.size = le.nt := hsz
                    omega
                · cases m1'
              · cases m1'
            show Code.rounds P body Q (n + 1) a w
            rw [rounds_succ]
            obtain ⟨v1, v2⟩ := seqOut_sound (l := l) (ρ := ρ) (w0 := w) (M0 := M0) (Im0 := Im) (ad := ad0) (K := Code.rounds P body Q n) (g := q.1) (o := q.2) (f := callL le) hq t1 hA fun s1 g2 o2 ad' a' w' h2 ht2 hR' hA' =>
              callL_sound (le := { le with ent := enL le mu n }) (C := fun Q => Code.rounds P body Q n) hget ih hG (g := g2) (o := o2) h2 ht2 hR' hA'
            exact evCode_sound hm hS' hG (hI' ρ w M0 Im hG) body L _ r.1 r.2 ad0 a w _ hL' hr v1 ⟨hT0, r1⟩ v2
          · cases h
        · cases h
      · cases h
  intro xs hfit hpre w M0 Im hs hM hG hE a hdef hsz hsl Q hQ
  exact wp_loop_rounds (mu xs + 1) (main (mu xs + 1) xs hfit ⟨hpre, Nat.lt_succ_self _⟩ w M0 Im hs hM hG hE a hdef hsz hsl Q hQ)
theorem loop_ok (hm : P.follows .mixedOrders = true) {body : Code} {le : LEnt} {l0 : Tabs} {call : Into} {N : Nat} {L : Loops} (mu : List Int → Nat)
    (hS : ∀ n, SumOK P G (enL le mu n :: l0) T) (hI : ∀ n ρ w0 M0 Im0, GOK G Im0 w0 → IntoOK P (enL le mu n :: l0) ρ w0 M0 Im0 call) (hL : ∀ n, LoopsOK P G (enL le mu n :: l0) L body)
    {ob : E} {es : List E} (h : evL P G T call N L le body = some (ob, es))
    (hu : ∀ n xs, fits le.ent.pks xs → le.ent.pre xs → mu xs ≤ n → ob.tt (Tabs.F (enL le mu n :: l0)) (env xs) = true ∧ ∀ (i : Nat) (k : K), le.ent.oks[i]? = some k → k.norm (le.ent.fn i xs) = (es.getD i (mkB false)).den (Tabs.F (enL le mu n :: l0)) (env xs)) :
    LoopOK P G body le := loop_okR hm mu hS hI hL h fun n xs hf hp hmu => ⟨env xs, fun _ _ => rfl, hu n xs hf hp hmu⟩

theorem piece_okR (hm : P.follows .mixedOrders = true) {c : Code} {le : LEnt} {call : Into} {N : Nat} {L : Loops}
    (hS' : SumOK P G l T) (hI' : ∀ ρ w0 M0 Im0, GOK G Im0 w0 → IntoOK P l ρ w0 M0 Im0 call) (hL' : LoopsOK P G l L c)
    {ob : E} {es : List E} (h : evP P G T call N L le c = some (ob, es))
    (hu : ∀ xs, fits le.ent.pks xs → le.ent.pre xs → ∃ ρ : Nat → Int, (∀ i, i < le.ent.np → ρ i = env xs i) ∧ ob.tt l.F ρ = true ∧ ∀ (i : Nat) (k : K), le.ent.oks[i]? = some k → k.norm (le.ent.fn i xs) = (es.getD i (mkB false)).den l.F ρ) :
    CodeOK P G c le := by
  intro xs hfit hpre w M0 Im hs hM hG hE a hdef hsz hsl Q hQ
  obtain ⟨ρ, hρ, u1, u2⟩ := hu xs hfit hpre
  unfold evP at h
  split at h
  · rename_i r hr
    split at h
    · rename_i g es' hends
      simp only [Option.some.injEq, Prod.mk.injEq] at h
      obtain ⟨rfl, rfl⟩ := h
      obtain ⟨t1, t2⟩ := andB_tt u1
      obtain ⟨elen0, espec0, hst0⟩ := endsM_spec (F := l.F) (ρ := ρ) (le := le) (d := r.2.1) (ss := r.2.2)
      rw [hends] at elen0 espec0 hst0
      have elen := elen0 es' rfl
      have espec : g.tt l.F ρ = true → ∀ s, lk (r.2.1.eval l.F ρ) r.2.2 = some s → ∃ g1 es1, matchL le s (r.2.1.eval l.F ρ) = some (g1, es1) ∧ g1.tt l.F ρ = true ∧ es'.map (E.den l.F ρ) = es1.map (E.den l.F ρ) := fun ht s hs => by
        obtain ⟨es, g1, es1, h1, h2, h3, h4⟩ := espec0 ht s hs
        simp only [Option.some.injEq] at h1
        subst h1
        exact ⟨g1, es1, h2, h3, h4⟩
      have hst : startOK le.ent = true := hst0 (by simp)
      let ad0 : Nat → Hd := fun j => if j < le.ent.nn then hs j else { blk := 0, v := a.tmps.getD (j - le.ent.nn) undef }
      obtain ⟨r1, r2, r3⟩ := start_rel (ad := ad0) l le.nt hst hρ hfit hM hE fun j hj => if_pos hj
      have hT0 : RelT l.F ρ ad0 (start le.ent le.nt) (tmL le) a := by
        refine ⟨hdef, by simp [tmL]; exact hsz, fun i v hv => ?_⟩
        simp only [Tm.at, tmL, List.getD, List.getElem?_map] at hv
        by_cases hi : i < le.nt
        · rw [List.getElem?_range hi] at hv
          simp only [Option.map_some, Option.getD_some] at hv
          split at hv
          · rename_i k hk
            have hk2 := List.findIdx?_eq_some_iff_getElem.1 hk
            obtain ⟨hk3, hk4, _⟩ := hk2
            have hski : le.sl[k]? = some i := by rw [List.getElem?_eq_getElem hk3]; simpa using hk4
            have h1 := hsl k i hski
            change a.tmps[i]? = (SV.concL F0 (env xs) hs le.ent.pgen.1)[k]? at h1
            rw [← r2, concL_eq, List.getElem?_map, hv, Option.map_some] at h1
            exact ⟨h1, okL_get r3 hv⟩
          · simp only [Option.some.injEq] at hv
            subst hv
            have hsz' : a.tmps.size = le.nt := hsz
            have hia : i < a.tmps.size := by rw [hsz']; exact hi
            refine ⟨?_, (start_al le.ent le.nt _).2 (by omega)⟩
            simp only [SV.conc, ad0]
            rw [if_neg (by omega), show le.ent.nn + i - le.ent.nn = i by omega]
            simp [Array.getD, hia]
        · rw [List.getElem?_eq_none (by simpa using hi)] at hv
          simp at hv
      have hA : After l.F ρ w M0 Im ad0 (start le.ent le.nt) r.2 Q := by
        intro s ad' a' w' hlk hRs hx
        obtain ⟨g1, es1, m1, m2, m3⟩ := espec t2 s hlk
        have m1' := m1
        unfold matchL at m1'
        split at m1'
        · rename_i bs us hbs hus
          split at m1'
          · rename_i hkeep
            obtain ⟨hlen, hkeep⟩ := hkeep
            obtain ⟨b1, b2, b3⟩ := matchO_spec (l := l) m1'
            have hys : outsE le.ent.fn xs 0 le.ent.oks = es1.map (E.den l.F ρ) := by
              rw [← m3]
              refine outsE_eq _ _ _ (by simp [elen]) fun i k y h1 h2 => ?_
              rw [Nat.zero_add, u2 i k h1]
              rw [List.getElem?_map] at h2
              obtain ⟨x, hx, rfl⟩ := Option.map_eq_some_iff.1 h2
              simp [List.getD, hx]
            obtain ⟨hs', Im', q1, q2, q3, q4, q5⟩ := b3 (hs := hs) hρ hfit hys m2 (hRs.2.shareL _) fun j hj => by
              rw [← hx.same j ((start_al le.ent le.nt j).2 (by omega))]
              exact if_pos hj
            obtain ⟨g1', g2'⟩ := getSl_spec hus
            have hbits := bitsL_spec (F := l.F) (ρ := ρ) (ad := ad') (SV.concL l.F ρ ad' us) hbs
            refine hQ a' w' hs' Im' (SV.concL l.F ρ ad' (bs ++ us)) (r.2.1.eval l.F ρ) (SV.concL l.F ρ ad' us) q1 q2 q3 q5 ?_ ?_ ?_ ?_ ?_ hRs.1.defers
            · show (lastV le.ent.ogen.1).conc _ _ _ = _
              rw [show outsE (le.ent).fn xs 0 (le.ent).oks = es1.map (E.den l.F ρ) from hys]
              rw [hys] at q4
              rw [← q4]
              simp only [SV.conc]
            · rw [show SV.concL l.F ρ ad' (bs ++ us) = SV.concL l.F ρ ad' bs ++ SV.concL l.F ρ ad' us by rw [concL_eq, concL_eq, concL_eq, List.map_append]]
              exact hbits.1
            · intro i t hi
              have hv := g2' i t hi
              have hil : i < us.length := by have := (List.getElem?_eq_some_iff.1 hi).1; change i < le.so.length at this; omega
              rw [List.getElem?_eq_getElem hil] at hv
              rw [(hRs.1.slot t _ hv).1, concL_eq, List.getElem?_map, List.getElem?_eq_getElem hil, Option.map_some]
            · intro k hk1 hk2
              have hsz' : a.tmps.size = le.nt := hsz
              by_cases hkn : k < le.nt
              · have hkk := List.all_eq_true.1 hkeep k (List.mem_range.2 (by simp [tmL]; exact hkn))
                have c1 : le.so.contains k = false := by simpa using hk1
                have c2 : le.wr.contains k = false := by simpa using hk2
                rw [c1, c2, Bool.false_or, Bool.false_or] at hkk
                split at hkk
                · rename_i v u hv0 hv1
                  have := SV.same_eq _ _ hkk
                  subst this
                  obtain ⟨e1, e2⟩ := hT0.slot k v hv0
                  rw [(hRs.1.slot k v hv1).1, e1, SV.conc_congr hx.same v e2]
                · cases hkk
              · have h1 : a'.tmps.size = le.nt := by rw [← hlen]; exact hRs.1.size
                rw [Array.getElem?_eq_none (by omega), Array.getElem?_eq_none (by omega)]
            · have h1 : a'.tmps.size = le.nt := by rw [← hlen]; exact hRs.1.size
              have hsz' : a.tmps.size = le.nt := hsz
              omega
          · cases m1'
        · cases m1'
      exact evCode_sound hm hS' hG (hI' ρ w M0 Im hG) c L _ r.1 r.2 ad0 a w _ hL' hr t1 ⟨hT0, r1⟩ hA
    · cases h
  · cases h
end
end Go.Proofs.Ytmolkkphnehgcaa.Ew

/- Summaries gathered: a list of functions' summaries and of loops' summaries, and what is told from it. -/
set_option linter.unusedVariables false
set_option linter.unusedSimpArgs false
namespace Go.Proofs.Ytmolkkphnehgcaa.Ew
open Go Go.RowKit

structure Ctx where
  fs : List Ent
  ls : List (Nat × List Bool × LEnt)
def Ctx.l (c : Ctx) : Tabs := c.fs ++ c.ls.map fun x => x.2.2.ent
def tabOf (l : List Ent) : Tab := fun f => l.filter fun e => e.f == f
def eqP : List Bool → List Bool → Bool
  | [], [] => true
  | a :: l, b :: r => (a == b) && eqP l r
  | _, _ => false
theorem eqP_eq : ∀ {a b : List Bool}, eqP a b = true → a = b
  | [], [], _ => rfl
  | [], _ :: _, h => by simp [eqP] at h
  | _ :: _, [], h => by simp [eqP] at h
  | a :: l, b :: r, h => by
    simp only [eqP, Bool.and_eq_true, beq_iff_eq] at h
    rw [h.1, eqP_eq h.2]
def ltOf (l : List (Nat × List Bool × LEnt)) : Nat → Loops := fun f p => (l.find? fun x => x.1 == f && eqP x.2.1 p).map fun x => x.2.2
def bodyAt (P : Program) (f : Nat) (p : List Bool) : Code :=
  match P.funcs[f]? with
  | some fn => match fn.body with
    | some c => match codeAt c p with
      | some (.loop b) => b
      | _ => .skip
    | none => .skip
  | none => .skip
def codeAtF (P : Program) (f : Nat) (p : List Bool) : Code :=
  match P.funcs[f]? with
  | some fn => match fn.body with
    | some c => (codeAt c p).getD .skip
    | none => .skip
  | none => .skip
/-- What is told of the code at a path: of a loop, or of a piece. -/
def ItemOK (P : Program) (G : Glob) (f : Nat) (p : List Bool) (le : LEnt) : Prop := CodeOK P G (codeAtF P f p) le
def keysB : List Ent → Bool
  | [] => true
  | e :: r => (!r.any fun x => x.key == e.key) && keysB r

structure Ctx.OK (P : Program) (G : Glob) (c : Ctx) : Prop where
  keys : keysB c.l = true
  fs : ∀ e ∈ c.fs, EntryOK P G e
  ls : ∀ x ∈ c.ls, ItemOK P G x.1 x.2.1 x.2.2

theorem keysB_get : ∀ {l : List Ent}, keysB l = true → ∀ e ∈ l, Tabs.get l e.key = some e
  | [], _, e, he => by cases he
  | x :: r, h, e, he => by
    simp only [keysB, Bool.and_eq_true, Bool.not_eq_true', List.any_eq_false, beq_iff_eq] at h
    rcases List.mem_cons.1 he with rfl | he
    · simp [Tabs.get]
    · have hne : ¬ x.key = e.key := fun e' => h.1 e he e'.symm
      have := keysB_get h.2 e he
      simp only [Tabs.get] at this ⊢
      rw [List.find?_cons_of_neg (by simpa using hne)]
      exact this

section
variable {P : Program} {G : Glob} {c : Ctx}

theorem tabOf_sum (hc : ∀ e ∈ c.fs, EntryOK P G e) {l : Tabs} (hl : ∀ e ∈ c.fs, l.get e.key = some e) : SumOK P G l (tabOf c.fs) := by
  intro f e he
  simp only [tabOf, List.mem_filter, beq_iff_eq] at he
  exact ⟨he.2, hl e he.1, hc e he.1⟩
theorem Ctx.OK.get (hc : c.OK P G) : ∀ e ∈ c.l, c.l.get e.key = some e := keysB_get hc.keys
theorem Ctx.OK.getF (hc : c.OK P G) : ∀ e ∈ c.fs, c.l.get e.key = some e := fun e he => hc.get e (List.mem_append_left _ he)
theorem Ctx.OK.getL (hc : c.OK P G) : ∀ x ∈ c.ls, c.l.get x.2.2.ent.key = some x.2.2.ent := fun x hx => hc.get _ (List.mem_append_right _ (List.mem_map.2 ⟨x, hx, rfl⟩))

theorem ltOf_ok (hc : ∀ x ∈ c.ls, ItemOK P G x.1 x.2.1 x.2.2) {l : Tabs} (hl : ∀ x ∈ c.ls, l.get x.2.2.ent.key = some x.2.2.ent) : LTOK P G l (ltOf c.ls) := by
  intro f fn cd hf hb p le h body hbody
  unfold ltOf at h
  obtain ⟨x, hx, rfl⟩ := Option.map_eq_some_iff.1 h
  have hp := List.find?_some hx
  simp only [Bool.and_eq_true, beq_iff_eq] at hp
  obtain ⟨rfl, hp⟩ := hp
  have hp := eqP_eq hp
  have hm := List.mem_of_find?_eq_some hx
  refine ⟨hl x hm, ?_⟩
  have := hc x hm
  have hbd : codeAtF P x.1 x.2.1 = body := by
    unfold codeAtF
    rw [hp]
    simp only [hf, hb, hbody, Option.getD_some]
  unfold ItemOK at this
  rw [hbd] at this
  exact this

theorem Ctx.OK.entry (hc : c.OK P G) (hm : P.follows .mixedOrders = true) {N n : Nat} {e : Ent} {ob : E} {es : List E} (h : evE P G (tabOf c.fs) (ltOf c.ls) N n e = some (ob, es))
    (hu : ∀ xs, fits e.pks xs → e.pre xs → ob.tt c.l.F (env xs) = true ∧ ∀ (i : Nat) (k : K), e.oks[i]? = some k → k.norm (e.fn i xs) = (es.getD i (mkB false)).den c.l.F (env xs)) : EntryOK P G e :=
  entry_ok hm (tabOf_sum hc.fs hc.getF) (ltOf_ok hc.ls hc.getL) h hu

/-- The loops inside of a loop. -/
def subL (l : List (Nat × List Bool × LEnt)) (f : Nat) (p : List Bool) : Loops := fun q => ltOf l f (p ++ false :: q)
theorem codeAt_app {p q : List Bool} {c b : Code} (h : codeAt c p = some b) : codeAt c (p ++ q) = codeAt b q := by
  induction p generalizing c with
  | nil =>
    have : c = b := by cases c <;> simpa [codeAt] using h
    subst this; rfl
  | cons x p ih =>
    cases c with
    | seq a d => cases x <;> exact ih (by simpa [codeAt] using h)
    | cond o a d => cases x <;> exact ih (by simpa [codeAt] using h)
    | block i a => exact ih (by simpa [codeAt] using h)
    | loop a => exact ih (by simpa [codeAt] using h)
    | _ => simp [codeAt] at h
theorem get_fresh {l : Tabs} {e x : Ent} (h : l.get x.key = some x) (hk : (l.any fun y => y.key == e.key) = false) : Tabs.get (e :: l) x.key = some x := by
  have hx : x ∈ l := List.mem_of_find?_eq_some h
  have hne : ¬ e.key = x.key := fun e' => by
    rw [List.any_eq_false] at hk
    exact hk x hx (by simp [e'])
  simp only [Tabs.get] at h ⊢
  rw [List.find?_cons_of_neg (by simpa using hne)]
  exact h

theorem Ctx.OK.loop (hc : c.OK P G) (hm : P.follows .mixedOrders = true) {N n : Nat} {f : Nat} {p : List Bool} {le : LEnt} {ob : E} {es : List E} (mu : List Int → Nat)
    (hk : (c.l.any fun y => y.key == le.ent.key) = false) (hb : ∃ fn cd b, P.funcs[f]? = some fn ∧ fn.body = some cd ∧ codeAt cd p = some (.loop b))
    (h : evL P G (tabOf c.fs) (evFn P G (tabOf c.fs) (ltOf c.ls) N n) N (subL c.ls f p) le (bodyAt P f p) = some (ob, es))
    (hu : ∀ n xs, fits le.ent.pks xs → le.ent.pre xs → mu xs ≤ n → ob.tt (Tabs.F (enL le mu n :: c.l)) (env xs) = true ∧ ∀ (i : Nat) (k : K), le.ent.oks[i]? = some k → k.norm (le.ent.fn i xs) = (es.getD i (mkB false)).den (Tabs.F (enL le mu n :: c.l)) (env xs)) :
    ItemOK P G f p le := by
  obtain ⟨fn, cd, b, b1, b2, b3⟩ := hb
  have hcf : codeAtF P f p = .loop b := by unfold codeAtF; simp only [b1, b2, b3, Option.getD_some]
  unfold ItemOK
  rw [hcf]
  show LoopOK P G b le
  have hbd : bodyAt P f p = b := by unfold bodyAt; simp only [b1, b2, b3]
  rw [hbd] at h
  have g1 : ∀ n, ∀ e ∈ c.fs, Tabs.get (enL le mu n :: c.l) e.key = some e := fun n e he => get_fresh (e := enL le mu n) (hc.getF e he) hk
  have g2 : ∀ n, ∀ x ∈ c.ls, Tabs.get (enL le mu n :: c.l) x.2.2.ent.key = some x.2.2.ent := fun n x hx => get_fresh (e := enL le mu n) (hc.getL x hx) hk
  have g3 : ∀ n, LTOK P G (enL le mu n :: c.l) (ltOf c.ls) := fun n => ltOf_ok hc.ls (g2 n)
  refine loop_ok hm mu (fun n => tabOf_sum hc.fs (g1 n)) (fun n ρ w0 M0 Im0 hG => evFn_sound hm (tabOf_sum hc.fs (g1 n)) hG (g3 n) _) (fun n => ?_) h hu
  intro q le' hq body hbody
  exact g3 n f fn cd b1 b2 (p ++ false :: q) le' hq body (by rw [codeAt_app b3]; exact hbody)

theorem Ctx.OK.loopR0 (hc : c.OK P G) (hm : P.follows .mixedOrders = true) {N n : Nat} {f : Nat} {p : List Bool} {le : LEnt} {ob : E} {es : List E} (mu : List Int → Nat)
    (hk : (c.l.any fun y => y.key == le.ent.key) = false) (hb : ∃ fn cd b, P.funcs[f]? = some fn ∧ fn.body = some cd ∧ codeAt cd p = some (.loop b))
    (h : evL P G (tabOf c.fs) (evFn P G (tabOf c.fs) (ltOf c.ls) N n) N (subL c.ls f p) le (bodyAt P f p) = some (ob, es))
    (hu : ∀ n xs, fits le.ent.pks xs → le.ent.pre xs → mu xs ≤ n → ∃ ρ : Nat → Int, (∀ i, i < le.ent.np → ρ i = env xs i) ∧ ob.tt (Tabs.F (enL le mu n :: c.l)) ρ = true ∧ ∀ (i : Nat) (k : K), le.ent.oks[i]? = some k → k.norm (le.ent.fn i xs) = (es.getD i (mkB false)).den (Tabs.F (enL le mu n :: c.l)) ρ) :
    ItemOK P G f p le := by
  obtain ⟨fn, cd, b, b1, b2, b3⟩ := hb
  have hcf : codeAtF P f p = .loop b := by unfold codeAtF; simp only [b1, b2, b3, Option.getD_some]
  unfold ItemOK
  rw [hcf]
  show LoopOK P G b le
  have hbd : bodyAt P f p = b := by unfold bodyAt; simp only [b1, b2, b3]
  rw [hbd] at h
  have g1 : ∀ n, ∀ e ∈ c.fs, Tabs.get (enL le mu n :: c.l) e.key = some e := fun n e he => get_fresh (e := enL le mu n) (hc.getF e he) hk
  have g2 : ∀ n, ∀ x ∈ c.ls, Tabs.get (enL le mu n :: c.l) x.2.2.ent.key = some x.2.2.ent := fun n x hx => get_fresh (e := enL le mu n) (hc.getL x hx) hk
  have g3 : ∀ n, LTOK P G (enL le mu n :: c.l) (ltOf c.ls) := fun n => ltOf_ok hc.ls (g2 n)
  refine loop_okR hm mu (fun n => tabOf_sum hc.fs (g1 n)) (fun n ρ w0 M0 Im0 hG => evFn_sound hm (tabOf_sum hc.fs (g1 n)) hG (g3 n) _) (fun n => ?_) h hu
  intro q le' hq body hbody
  exact g3 n f fn cd b1 b2 (p ++ false :: q) le' hq body (by rw [codeAt_app b3]; exact hbody)

/-- The summaries inside of a piece of code. -/
def subP (l : List (Nat × List Bool × LEnt)) (f : Nat) (p : List Bool) : Loops := fun q => match q with
  | [] => none
  | _ :: _ => ltOf l f (p ++ q)
theorem Ctx.OK.piece (hc : c.OK P G) (hm : P.follows .mixedOrders = true) {N n : Nat} {f : Nat} {p : List Bool} {le : LEnt} {ob : E} {es : List E}
    (hb : ∃ fn cd b, P.funcs[f]? = some fn ∧ fn.body = some cd ∧ codeAt cd p = some b)
    (h : evP P G (tabOf c.fs) (evFn P G (tabOf c.fs) (ltOf c.ls) N n) N (subP c.ls f p) le (codeAtF P f p) = some (ob, es))
    (hu : ∀ xs, fits le.ent.pks xs → le.ent.pre xs → ∃ ρ : Nat → Int, (∀ i, i < le.ent.np → ρ i = env xs i) ∧ ob.tt c.l.F ρ = true ∧ ∀ (i : Nat) (k : K), le.ent.oks[i]? = some k → k.norm (le.ent.fn i xs) = (es.getD i (mkB false)).den c.l.F ρ) :
    ItemOK P G f p le := by
  obtain ⟨fn, cd, b, b1, b2, b3⟩ := hb
  have hcf : codeAtF P f p = b := by unfold codeAtF; simp only [b1, b2, b3, Option.getD_some]
  have g3 : LTOK P G c.l (ltOf c.ls) := ltOf_ok hc.ls hc.getL
  refine piece_okR hm (tabOf_sum hc.fs hc.getF) (fun ρ w0 M0 Im0 hG => evFn_sound hm (tabOf_sum hc.fs hc.getF) hG g3 _) ?_ h hu
  intro q le' hq body hbody
  rw [hcf] at hbody
  cases q with
  | nil => cases hq
  | cons x q => exact g3 f fn cd b1 b2 (p ++ x :: q) le' hq body (by rw [codeAt_app b3]; exact hbody)

/-- The outputs, one by one. -/
def outsP (fn : Nat → List Int → Int) (xs : List Int) (F : Fam) (ρ : Nat → Int) : Nat → List K → List E → Prop
  | _, [], _ => True
  | j, k :: ks, es => k.norm (fn j xs) = (es.headD (mkB false)).den F ρ ∧ outsP fn xs F ρ (j + 1) ks es.tail
theorem outsP_get {fn : Nat → List Int → Int} {xs : List Int} {F : Fam} {ρ : Nat → Int} : ∀ {ks : List K} {es : List E} {j : Nat}, outsP fn xs F ρ j ks es → ∀ (i : Nat) (k : K), ks[i]? = some k → k.norm (fn (j + i) xs) = (es.getD i (mkB false)).den F ρ
  | [], es, j, h, i, k, hi => by simp at hi
  | k' :: ks, es, j, h, 0, k, hi => by
    simp only [List.getElem?_cons_zero, Option.some.injEq] at hi
    subst hi
    have := h.1
    cases es <;> simpa using this
  | k' :: ks, es, j, h, i + 1, k, hi => by
    have := outsP_get h.2 i k (by simpa using hi)
    rw [show j + 1 + i = j + (i + 1) by omega] at this
    cases es with
    | nil => simpa using this
    | cons x es => simpa using this
theorem Ctx.OK.entryP (hc : c.OK P G) (hm : P.follows .mixedOrders = true) {N n : Nat} {e : Ent} {ob : E} {es : List E} (h : evE P G (tabOf c.fs) (ltOf c.ls) N n e = some (ob, es)) (ks : List K) (hks : e.pks = ks) (os : List K) (hos : e.oks = os)
    (hu : ∀ xs, fits ks xs → e.pre xs → ob.tt c.l.F (env xs) = true ∧ outsP e.fn xs c.l.F (env xs) 0 os es) : EntryOK P G e := by
  subst hks; subst hos
  exact hc.entry hm h fun xs hf hp => ⟨(hu xs hf hp).1, fun i k hi => by simpa using outsP_get (hu xs hf hp).2 i k hi⟩
theorem Ctx.OK.loopP (hc : c.OK P G) (hm : P.follows .mixedOrders = true) {N n : Nat} {f : Nat} {p : List Bool} {le : LEnt} {ob : E} {es : List E} (mu : List Int → Nat)
    (hk : (c.l.any fun y => y.key == le.ent.key) = false) (hb : ∃ fn cd b, P.funcs[f]? = some fn ∧ fn.body = some cd ∧ codeAt cd p = some (.loop b))
    (h : evL P G (tabOf c.fs) (evFn P G (tabOf c.fs) (ltOf c.ls) N n) N (subL c.ls f p) le (bodyAt P f p) = some (ob, es)) (ks : List K) (hks : le.ent.pks = ks) (os : List K) (hos : le.ent.oks = os)
    (hu : ∀ n xs, fits ks xs → le.ent.pre xs → mu xs ≤ n → ob.tt (Tabs.F (enL le mu n :: c.l)) (env xs) = true ∧ outsP le.ent.fn xs (Tabs.F (enL le mu n :: c.l)) (env xs) 0 os es) :
    ItemOK P G f p le := by
  subst hks; subst hos
  exact hc.loop hm mu hk hb h fun n xs hf hp hmu => ⟨(hu n xs hf hp hmu).1, fun i k hi => by simpa using outsP_get (hu n xs hf hp hmu).2 i k hi⟩

theorem Ctx.OK.loopR (hc : c.OK P G) (hm : P.follows .mixedOrders = true) {N n : Nat} {f : Nat} {p : List Bool} {le : LEnt} {ob : E} {es : List E} (mu : List Int → Nat)
    (hk : (c.l.any fun y => y.key == le.ent.key) = false) (hb : ∃ fn cd b, P.funcs[f]? = some fn ∧ fn.body = some cd ∧ codeAt cd p = some (.loop b))
    (h : evL P G (tabOf c.fs) (evFn P G (tabOf c.fs) (ltOf c.ls) N n) N (subL c.ls f p) le (bodyAt P f p) = some (ob, es)) (ks : List K) (hks : le.ent.pks = ks) (os : List K) (hos : le.ent.oks = os)
    (hu : ∀ n xs, fits ks xs → le.ent.pre xs → mu xs ≤ n → ∃ ρ : Nat → Int, (∀ i, i < ks.length → ρ i = env xs i) ∧ ob.tt (Tabs.F (enL le mu n :: c.l)) ρ = true ∧ outsP le.ent.fn xs (Tabs.F (enL le mu n :: c.l)) ρ 0 os es) :
    ItemOK P G f p le := by
  subst hks; subst hos
  refine hc.loopR0 hm mu hk hb h fun n xs hf hp hmu => ?_
  obtain ⟨ρ, u1, u2, u3⟩ := hu n xs hf hp hmu
  exact ⟨ρ, u1, u2, fun i k hi => by simpa using outsP_get u3 i k hi⟩

theorem Ctx.OK.pieceP (hc : c.OK P G) (hm : P.follows .mixedOrders = true) {N n : Nat} {f : Nat} {p : List Bool} {le : LEnt} {ob : E} {es : List E}
    (hb : ∃ fn cd b, P.funcs[f]? = some fn ∧ fn.body = some cd ∧ codeAt cd p = some b)
    (h : evP P G (tabOf c.fs) (evFn P G (tabOf c.fs) (ltOf c.ls) N n) N (subP c.ls f p) le (codeAtF P f p) = some (ob, es)) (ks : List K) (hks : le.ent.pks = ks) (os : List K) (hos : le.ent.oks = os)
    (hu : ∀ xs, fits ks xs → le.ent.pre xs → ob.tt c.l.F (env xs) = true ∧ outsP le.ent.fn xs c.l.F (env xs) 0 os es) :
    ItemOK P G f p le := by
  subst hks; subst hos
  exact hc.piece hm hb h fun xs hf hp => ⟨env xs, fun _ _ => rfl, (hu xs hf hp).1, fun i k hi => by simpa using outsP_get (hu xs hf hp).2 i k hi⟩
theorem Ctx.OK.pieceR (hc : c.OK P G) (hm : P.follows .mixedOrders = true) {N n : Nat} {f : Nat} {p : List Bool} {le : LEnt} {ob : E} {es : List E}
    (hb : ∃ fn cd b, P.funcs[f]? = some fn ∧ fn.body = some cd ∧ codeAt cd p = some b)
    (h : evP P G (tabOf c.fs) (evFn P G (tabOf c.fs) (ltOf c.ls) N n) N (subP c.ls f p) le (codeAtF P f p) = some (ob, es)) (ks : List K) (hks : le.ent.pks = ks) (os : List K) (hos : le.ent.oks = os)
    (hu : ∀ xs, fits ks xs → le.ent.pre xs → ∃ ρ : Nat → Int, (∀ i, i < ks.length → ρ i = env xs i) ∧ ob.tt c.l.F ρ = true ∧ outsP le.ent.fn xs c.l.F ρ 0 os es) :
    ItemOK P G f p le := by
  subst hks; subst hos
  refine hc.piece hm hb h fun xs hf hp => ?_
  obtain ⟨ρ, u1, u2, u3⟩ := hu xs hf hp
  exact ⟨ρ, u1, u2, fun i k hi => by simpa using outsP_get u3 i k hi⟩
theorem Ctx.OK.entryR (hc : c.OK P G) (hm : P.follows .mixedOrders = true) {N n : Nat} {e : Ent} {ob : E} {es : List E} (h : evE P G (tabOf c.fs) (ltOf c.ls) N n e = some (ob, es)) (ks : List K) (hks : e.pks = ks) (os : List K) (hos : e.oks = os)
    (hu : ∀ xs, fits ks xs → e.pre xs → ∃ ρ : Nat → Int, (∀ i, i < ks.length → ρ i = env xs i) ∧ ob.tt c.l.F ρ = true ∧ outsP e.fn xs c.l.F ρ 0 os es) : EntryOK P G e := by
  subst hks; subst hos
  refine entry_okR hm (tabOf_sum hc.fs hc.getF) (ltOf_ok hc.ls hc.getL) h fun xs hf hp => ?_
  obtain ⟨ρ, u1, u2, u3⟩ := hu xs hf hp
  exact ⟨ρ, u1, u2, fun i k hi => by simpa using outsP_get u3 i k hi⟩

theorem Ctx.OK.addF (hc : c.OK P G) {e : Ent} (h : EntryOK P G e) (hk : (c.l.any fun y => y.key == e.key) = false) : Ctx.OK P G ⟨e :: c.fs, c.ls⟩ := by
  refine ⟨?_, fun x hx => ?_, hc.ls⟩
  · show keysB (e :: c.l) = true
    simp only [keysB, hk, Bool.not_false, Bool.true_and]
    exact hc.keys
  · rcases List.mem_cons.1 hx with rfl | hx
    · exact h
    · exact hc.fs x hx
theorem keysB_ins : ∀ {a b : List Ent} {e : Ent}, keysB (a ++ b) = true → ((a ++ b).any fun y => y.key == e.key) = false → keysB (a ++ e :: b) = true
  | [], b, e, h, hk => by simp only [List.nil_append, keysB, hk, Bool.not_false, Bool.true_and] at *; exact h
  | x :: a, b, e, h, hk => by
    simp only [List.cons_append, keysB, Bool.and_eq_true, List.any_cons, Bool.or_eq_false_iff, Bool.not_eq_true'] at h hk ⊢
    refine ⟨?_, keysB_ins h.2 hk.2⟩
    have h1 := h.1
    simp only [List.any_append, Bool.or_eq_false_iff, List.any_cons] at h1 ⊢
    refine ⟨h1.1, ?_, h1.2⟩
    have := hk.1
    simp only [beq_eq_false_iff_ne, ne_eq] at this ⊢
    exact fun e' => this e'.symm
theorem Ctx.OK.addL (hc : c.OK P G) {f : Nat} {p : List Bool} {le : LEnt} (h : ItemOK P G f p le) (hk : (c.l.any fun y => y.key == le.ent.key) = false) : Ctx.OK P G ⟨c.fs, (f, p, le) :: c.ls⟩ := by
  refine ⟨?_, hc.fs, fun x hx => ?_⟩
  · show keysB (c.fs ++ le.ent :: c.ls.map fun x => x.2.2.ent) = true
    exact keysB_ins hc.keys hk
  · rcases List.mem_cons.1 hx with rfl | hx
    · exact h
    · exact hc.ls x hx
theorem Ctx.OK.nil : Ctx.OK P G ⟨[], []⟩ := ⟨rfl, fun _ h => (by cases h), fun _ h => (by cases h)⟩
/-- The same summaries in another order, or fewer. -/
theorem Ctx.OK.sub (hc : c.OK P G) {d : Ctx} (hk : keysB d.l = true) (h1 : ∀ e ∈ d.fs, e ∈ c.fs) (h2 : ∀ x ∈ d.ls, x ∈ c.ls) : Ctx.OK P G d := ⟨hk, fun e he => hc.fs e (h1 e he), fun x hx => hc.ls x (h2 x hx)⟩
end

/-! ### reading expressions -/
theorem i64w {z : Int} (h1 : -9223372036854775808 ≤ z) (h2 : z ≤ 9223372036854775807) : IntKind.i64.wrap z = z := by rw [IntKind.wrap_i64]; omega
theorem i64r {z : Int} (h : IntKind.i64.wrap z = z) : -9223372036854775808 ≤ z ∧ z ≤ 9223372036854775807 := by rw [IntKind.wrap_i64] at h; omega
theorem tt_and (a b : E) (F : Fam) (ρ : Nat → Int) : (E.and a b).tt F ρ = (a.tt F ρ && b.tt F ρ) := by simp [E.tt, E.den]
theorem tt_or (a b : E) (F : Fam) (ρ : Nat → Int) : (E.or a b).tt F ρ = (a.tt F ρ || b.tt F ρ) := by simp [E.tt, E.den]
theorem tt_not (a : E) (F : Fam) (ρ : Nat → Int) : (E.not a).tt F ρ = !a.tt F ρ := by simp [E.tt, E.den]
theorem tt_cmp (op : BinOp) (a b : E) (F : Fam) (ρ : Nat → Int) : (E.cmp op a b).tt F ρ = cmpB op (a.den F ρ) (b.den F ρ) := by simp [E.tt, E.den]
theorem tt_lit (n : Int) (F : Fam) (ρ : Nat → Int) : (E.lit .b n).tt F ρ = decide (n ≠ 0) := by
  by_cases h : n = 0 <;> simp [E.tt, E.den, K.norm, i2b, h]
theorem tt_ite (c a b : E) (F : Fam) (ρ : Nat → Int) : (E.ite c a b).tt F ρ = bif c.tt F ρ then a.tt F ρ else b.tt F ρ := by
  simp only [E.tt, E.den]; cases i2b (c.den F ρ) <;> rfl
theorem den_cmp (op : BinOp) (a b : E) (F : Fam) (ρ : Nat → Int) : (E.cmp op a b).den F ρ = b2i (cmpB op (a.den F ρ) (b.den F ρ)) := rfl
theorem den_not (a : E) (F : Fam) (ρ : Nat → Int) : (E.not a).den F ρ = b2i (!a.tt F ρ) := rfl
theorem den_and (a b : E) (F : Fam) (ρ : Nat → Int) : (E.and a b).den F ρ = b2i (a.tt F ρ && b.tt F ρ) := rfl
theorem den_or (a b : E) (F : Fam) (ρ : Nat → Int) : (E.or a b).den F ρ = b2i (a.tt F ρ || b.tt F ρ) := rfl
theorem den_ite (c a b : E) (F : Fam) (ρ : Nat → Int) : (E.ite c a b).den F ρ = bif c.tt F ρ then a.den F ρ else b.den F ρ := rfl
theorem den_lit (k : K) (n : Int) (F : Fam) (ρ : Nat → Int) : (E.lit k n).den F ρ = k.norm n := rfl
theorem den_var (k : K) (i : Nat) (F : Fam) (ρ : Nat → Int) : (E.var k i).den F ρ = k.norm (ρ i) := rfl
theorem den_bin (op : BinOp) (k : IntKind) (a b : E) (F : Fam) (ρ : Nat → Int) : (E.bin op k a b).den F ρ = binI op k (a.den F ρ) (b.den F ρ) := rfl
theorem den_dv (op : BinOp) (k : IntKind) (a : E) (n : Int) (F : Fam) (ρ : Nat → Int) : (E.dv op k a n).den F ρ = dvI op k (a.den F ρ) n := rfl
theorem den_sh (op : BinOp) (k : IntKind) (a b : E) (F : Fam) (ρ : Nat → Int) : (E.sh op k a b).den F ρ = shI op k (a.den F ρ) (b.den F ρ) := rfl
theorem den_conv (k : IntKind) (a : E) (F : Fam) (ρ : Nat → Int) : (E.conv k a).den F ρ = k.wrap (a.den F ρ) := rfl
theorem den_app (k : K) (f j : Nat) (as : List E) (F : Fam) (ρ : Nat → Int) : (E.app k f j as).den F ρ = k.norm (F f j (as.map (E.den F ρ))) := by simp only [E.den, denL_eq]
theorem tt_app (f j : Nat) (as : List E) (F : Fam) (ρ : Nat → Int) : (E.app .b f j as).tt F ρ = i2b (K.b.norm (F f j (as.map (E.den F ρ)))) := by simp only [E.tt, E.den, denL_eq]
theorem tt_var (i : Nat) (F : Fam) (ρ : Nat → Int) : (E.var .b i).tt F ρ = i2b (ρ i) := by
  by_cases h : ρ i = 0 <;> simp [E.tt, E.den, K.norm, i2b, h]
theorem tt_pre {l : Tabs} (e : Ent) {key : Nat} {args : List E} {ρ : Nat → Int} (hk : e.key = key) (he : l.get key = some e) (h : key ≠ 0) (hp : e.pre (args.map (E.den l.F ρ))) : (E.app .b key preC args).tt l.F ρ = true := by
  subst hk
  have := (Tabs.F_pre (xs := args.map (E.den l.F ρ)) he h rfl).2 hp
  simpa only [E.tt, E.den, denL_eq] using this
theorem norm_i (k : IntKind) (n : Int) : K.norm (.i k) n = k.wrap n := rfl
theorem nb1 : K.b.norm 1 = 1 := rfl
theorem nb0 : K.b.norm 0 = 0 := rfl
theorem i2b1 : i2b 1 = true := rfl
theorem i2b0 : i2b 0 = false := rfl
theorem bt : b2i true = 1 := rfl
theorem bf : b2i false = 0 := rfl
theorem norm_x (n : Int) : K.norm .x n = n := rfl
theorem F_bi (l : Tabs) (j : Nat) (xs : List Int) : l.F 0 j xs = bi j xs := l.BI j xs
theorem F_fn {l : Tabs} (e : Ent) {key : Nat} (hk : e.key = key) (he : l.get key = some e) (h : key ≠ 0) {j : Nat} (hj : (j == preC) = false) (xs : List Int) : l.F key j xs = e.fn j xs := by
  subst hk
  exact Tabs.F_fn he h (by simpa using hj) xs
open Classical in
theorem F_p {l : Tabs} (e : Ent) {key : Nat} (hk : e.key = key) (he : l.get key = some e) (h : key ≠ 0) (xs : List Int) : i2b (K.b.norm (l.F key 1000000 xs)) = decide (e.pre xs) := by
  subst hk
  have := Tabs.F_pre (xs := xs) he h rfl
  by_cases hp : e.pre xs
  · simp only [hp, decide_true]; exact this.2 hp
  · simp only [hp, decide_false]
    rw [← Bool.not_eq_true]
    exact fun h => hp (this.1 h)
/-- What the family says of a loop's own next round. -/
theorem self_F (le : LEnt) (mu : List Int → Nat) (n : Nat) (l0 : Tabs) (hk : le.ent.key ≠ 0) : ∃ l : Tabs, enL le mu n :: l0 = l ∧ (∀ j, (j == preC) = false → ∀ xs, l.F le.ent.key j xs = le.ent.fn j xs) ∧
    (∀ xs, le.ent.pre xs ∧ mu xs < n → i2b (K.b.norm (l.F le.ent.key 1000000 xs)) = true) ∧
    ∀ e : Ent, l0.get e.key = some e → e.key ≠ le.ent.key → e.key ≠ 0 → (∀ j, (j == preC) = false → ∀ xs, l.F e.key j xs = e.fn j xs) ∧ ∀ xs, e.pre xs → i2b (K.b.norm (l.F e.key 1000000 xs)) = true := by
  have g : Tabs.get (enL le mu n :: l0) le.ent.key = some (enL le mu n) := by simp [Tabs.get, enL]
  refine ⟨_, rfl, fun j hj xs => F_fn (enL le mu n) rfl g hk hj xs, fun xs h => (Tabs.F_pre (e := enL le mu n) g hk rfl).2 h, fun e he h1 h2 => ?_⟩
  have ge : Tabs.get (enL le mu n :: l0) e.key = some e := by
    have : (le.ent.key == e.key) = false := by simpa using fun e' => h1 e'.symm
    simp only [Tabs.get, enL, List.find?_cons, this]
    exact he
  exact ⟨fun j hj xs => F_fn e rfl ge h2 hj xs, fun xs h => (Tabs.F_pre ge h2 rfl).2 h⟩
theorem ctx_F {l0 : Tabs} : ∃ l : Tabs, l0 = l ∧ ∀ e : Ent, l0.get e.key = some e → e.key ≠ 0 → (∀ j, (j == preC) = false → ∀ xs, l.F e.key j xs = e.fn j xs) ∧ ∀ xs, e.pre xs → i2b (K.b.norm (l.F e.key 1000000 xs)) = true :=
  ⟨_, rfl, fun e ge h2 => ⟨fun j hj xs => F_fn e rfl ge h2 hj xs, fun xs h => (Tabs.F_pre ge h2 rfl).2 h⟩⟩
end Go.Proofs.Ytmolkkphnehgcaa.Ew

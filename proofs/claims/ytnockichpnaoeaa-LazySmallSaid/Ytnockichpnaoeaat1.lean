/- Texts that the claim needs, set narrow. -/
import Derived.Test.Ytnockichpnaoeaat0
import Derived.MapKept
import Derived.Laws.CopyRow
import GoSem.Builtin.Clear
set_option linter.unusedVariables false
set_option linter.unusedSimpArgs false
set_option maxHeartbeats 8000000
namespace Go.Proofs.Ytnockichpnaoeaa.Ew
open Go Go.RowKit
structure LV where
 own : Bool
 sh : Bool
 le : E
 c : E
 ns : List Nat
 g : E
 deriving Repr, Inhabited
def Ag (m : Mem) (ty : Nat) (row : Row) : SV -> Option LV
 | .ls n le => match m.at n with
   | some (g, .lst ty' row' own le' c) => if ty' = ty /\ row' = row /\ le.same le' = true /\ c.kind = .x /\ le'.kind = .i .i64 /\ g.kind = .b then some ⟨own, !own, le', c, [n], g⟩ else none
   | _ => none
 | .sv n str l0 lo hi => match m.at n with
   | some (g, .lst ty' row' own le' c) => if ty' = ty /\ row' = row /\ str = row.size /\ l0.same le' = true /\ c.kind = .x /\ le'.kind = .i .i64 /\ g.kind = .b then
    some ⟨false, !own, LEN (.app .x 0 5 [c, lo, hi]), .app .x 0 5 [c, lo, hi], [n], mkAnd g (mkAnd (mkCmp .geq lo (.lit (.i .i64) 0)) (mkAnd (mkCmp .leq lo hi) (mkCmp .leq hi le')))⟩ else none
   | _ => none
 | .nilp .nS => some ⟨true, true, .lit (.i .i64) 0, NILL, [], mkB true⟩
 | .ite q a b => match Ag m ty row a, Ag m ty row b with
   | some x, some y => if q.kind = .b then some ⟨x.own && y.own, x.sh && y.sh, mkIte q x.le y.le, mkIte q x.c y.c, x.ns ++ y.ns, mkIte q x.g y.g⟩ else none
   | _, _ => none
 | _ => none
def tyL (m : Mem) : SV -> Option (Nat × Row)
 | .ls n _ => match m.at n with
   | some (_, .lst ty row _ _ _) => some (ty, row)
   | _ => none
 | .sv n .. => match m.at n with
   | some (_, .lst ty row _ _ _) => some (ty, row)
   | _ => none
 | .nilp .nS => none
 | .ite _ a b => match tyL m a with
   | some x => some x
   | none => tyL m b
 | _ => none
def RdL (w : World) (Im : Nat -> Prop) (q : Row) (h : Hd) (l : RL) : Prop :=
 l.length <= maxLen /\ l.length <= h.cap /\ ∀ i r', l[i]? = some r' -> ∃ us, RowV w Im q r' us /\ ∀ j u, us[j]? = some u -> w.cell? ⟨h.blk, h.off + i * q.size + j, none⟩ = some u
section
variable {P : Program} {F : Fam} {ρ : Nat -> Int} {G : Glob} {w0 w w' : World} {M0 Im0 Im Im' T : Nat -> Prop} {ad ad' : Nat -> Hd} {m m' : Mem} {q : Row} {h : Hd} {l : RL} {ty : Nat}
theorem ShL.rd (hs : ShL w Im q h l) : RdL w Im q h l := ⟨hs.1, hs.2.1, hs.2.2.2⟩
theorem OwL.rd (ho : OwL w Im ty q h l) : RdL w Im q h l := by
 obtain ⟨h1, xs, h2, h3⟩ := ho
 rcases h2.2 with ⟨hn, hl⟩ | ⟨g, cap, cur, e, k1, k2, k3, k4, k5, k6⟩
 ·have hl' : l = [] := List.eq_nil_of_length_eq_zero hl
  subst hl'
  exact ⟨Nat.zero_le _, Nat.zero_le _, fun i r' hi => by simp at hi⟩
 ·have hg : (h.sl l.length).ownBlock = some g := by rw [e]; rfl
  have hgb := Hd.own_blk hg
  subst hgb
  have hoff : h.off = 0 /\ h.cap = cap := by
   unfold Hd.sl at e
   cases hnn : h.nil && l.length == 0
   ·simp_all
   ·simp_all
  refine ⟨h1, by omega, fun i r' hi => ?_⟩
  obtain ⟨us, u1, u2⟩ := h3.get i r' hi
  refine ⟨us, u1, fun j u hu => ?_⟩
  have hx := u2 j u hu
  rw [hoff.1, Nat.zero_add]
  have := h2.cells hg (i * q.size + j) u hx
  rwa [Addr.add_none, Nat.zero_add] at this
theorem GZ {n : Nat} (h : n <= maxLen) : IntKind.i64.wrap (n : Int) = (n : Int) := by
 simp only [maxLen] at h
 simp only [IntKind.wrap, IntKind.signed, IntKind.bits]
 simp
 split <;> omega
theorem Ug : NILL.den F ρ = F 0 2 [] := rfl
def BI (F : Fam) : Prop := ∀ j xs, F 0 j xs = bi j xs
theorem BI.nil (hB : BI F) : NILL.den F ρ = cd [] := by rw [Ug, hB]; rfl
theorem BI.len (hB : BI F) (c : E) : (LEN c).den F ρ = IntKind.i64.wrap ((dc (c.den F ρ)).length : Int) := by
 simp only [LEN, E.den, E.denL, K.norm]
 rw [hB]
 rfl
structure LVok (F : Fam) (ρ : Nat -> Int) (w : World) (Im : Nat -> Prop) (ad : Nat -> Hd) (m : Mem) (ty : Nat) (row : Row) (v : SV) (V : LV) (hd : Hd) : Prop where
 conc : v.conc F ρ ad = hd.sl (dc (V.c.den F ρ)).length
 code : isCd (V.c.den F ρ)
 len : V.le.den F ρ = ((dc (V.c.den F ρ)).length : Int)
 rd : RdL w Im row hd (dc (V.c.den F ρ))
 own : V.own = true -> OwL w Im ty row hd (dc (V.c.den F ρ))
 sh : V.sh = true -> ShL w Im row hd (dc (V.c.den F ρ))
 blk : V.own = true -> ∀ b, (hd.sl (dc (V.c.den F ρ)).length).ownBlock = some b -> ∃ n ∈ V.ns, ∃ g x, m.at n = some (g, x) /\ g.tt F ρ = true /\ mutB F ρ ad n x = some b
theorem E6 {q x y : E} (hq : q.kind = .b) (hx : x.kind = .b) (hy : y.kind = .b) : (mkIte q x y).kind = .b /\ (mkIte q x y).tt F ρ = bif q.tt F ρ then x.tt F ρ else y.tt F ρ := by
 have h := A9 q x y hq (hx.trans hy.symm) F ρ
 grind [E.kind, mkIte, E.val_b, E.tt]
theorem Pg {q x y : E} {k : IntKind} (hq : q.kind = .b) (hx : x.kind = .i k) (hy : y.kind = .i k) : (mkIte q x y).kind = .i k /\ (mkIte q x y).den F ρ = bif q.tt F ρ then x.den F ρ else y.den F ρ := by
 have h := A9 q x y hq (hx.trans hy.symm) F ρ
 have hk : (mkIte q x y).kind = .i k := by rw [h.2, hx]
 refine ⟨hk, ?_⟩
 have h1 := h.1
 rw [E.val_i hk, E.val_i hx, E.val_i hy] at h1
 grind
theorem Dw {q x y : E} (hq : q.kind = .b) (hx : x.kind = .x) (hy : y.kind = .x) : (mkIte q x y).kind = .x /\ (mkIte q x y).den F ρ = bif q.tt F ρ then x.den F ρ else y.den F ρ := by
 have h := A9 q x y hq (hx.trans hy.symm) F ρ
 grind [E.kind, mkIte, E.val_x, E.tt]
theorem D8 {lo hi le : E} : (mkAnd (mkCmp .geq lo (.lit (.i .i64) 0)) (mkAnd (mkCmp .leq lo hi) (mkCmp .leq hi le))).kind = .b /\
 ((mkAnd (mkCmp .geq lo (.lit (.i .i64) 0)) (mkAnd (mkCmp .leq lo hi) (mkCmp .leq hi le))).tt F ρ = true -> 0 <= lo.den F ρ /\ lo.den F ρ <= hi.den F ρ /\ hi.den F ρ <= le.den F ρ) := by
 have p1 := Ae .geq lo (.lit (.i .i64) 0) F ρ
 have p2 := Ae .leq lo hi F ρ
 have p3 := Ae .leq hi le F ρ
 have p4 := Aa _ _ p2.2 p3.2 F ρ
 have p5 := Aa _ _ p1.2 p4.2 F ρ
 refine ⟨p5.2, fun h => ?_⟩
 rw [p5.1, p4.1, p1.1, p2.1, p3.1] at h
 simp only [Bool.and_eq_true, cmpB, decide_eq_true_eq] at h
 exact h
theorem AS : ∀ {v : SV} {V : LV}, Ag m ty q v = some V -> V.le.kind = .i .i64 /\ V.c.kind = .x /\ V.g.kind = .b
 | .ls n le, V, h => by
   grind [Ag]
 | .sv n str l0 lo hi, V, h => by
   simp only [Ag] at h
   split at h
   ·split at h
    ·rename_i hc
     simp only [oJ] at h; subst h
     exact ⟨rfl, rfl, (Aa _ _ hc.2.2.2.2.2.2 (D8 (F := fun _ _ _ => 0) (ρ := fun _ => 0)).1 (fun _ _ _ => 0) fun _ => 0).2⟩
    ·cases h
   ·cases h
 | .nilp c, V, h => by
   cases c <;> simp only [Ag, oJ, reduceCtorEq] at h
   subst h
   exact ⟨rfl, rfl, rfl⟩
 | .ite p a b, V, h => by
   simp only [Ag] at h
   split at h
   ·rename_i x y hx hy
    split at h
    ·rename_i hp
     simp only [oJ] at h; subst h
     obtain ⟨i1, i2, i3⟩ := AS hx
     obtain ⟨j1, j2, j3⟩ := AS hy
     exact ⟨(Pg (F := fun _ _ _ => 0) (ρ := fun _ => 0) hp i1 j1).1, (Dw (F := fun _ _ _ => 0) (ρ := fun _ => 0) hp i2 j2).1, (E6 (F := fun _ _ _ => 0) (ρ := fun _ => 0) hp i3 j3).1⟩
    ·cases h
   ·cases h
 | .sc _, V, h | .ptr .., V, h | .pi .., V, h | .sl .., V, h | .pe .., V, h | .mp .., V, h | .oq .., V, h | .fn .., V, h | .agg .., V, h | .tup .., V, h | .gd .., V, h | .und, V, h | .gl .., V, h => by simp [Ag] at h
theorem Bb (hB : BI F) (hR : RelI F ρ w0 M0 Im ad m w) : ∀ {v : SV} {V : LV}, Ag m ty q v = some V -> V.g.tt F ρ = true -> ∃ hd, LVok F ρ w Im ad m ty q v V hd
 | .ls n le, V, h, hg => by
   simp only [Ag] at h
   split at h
   ·rename_i g ty' row' own le' c hn
    split at h
    ·rename_i hc
     obtain ⟨rfl, rfl, h3, h4, h5, h6⟩ := hc
     simp only [oJ] at h; subst h
     simp only at hg
     obtain ⟨i1, i2⟩ := hR.ent n g _ hn hg
     obtain ⟨j1, j2, j3⟩ := i1
     have hle := E.same_eq _ _ h3
     subst hle
     have hlen : (le.den F ρ).toNat = (dc (c.den F ρ)).length := by rw [j2]; simp
     refine ⟨ad n, ⟨?_, j1, j2, ?_, ?_, ?_, ?_⟩⟩
     ·simp only [SV.conc, hlen]
     ·grind [ShL.rd, OwL.rd]
     ·grind
     ·grind
     grind [mutB]
    ·cases h
   ·cases h
 | .sv n str l0 lo hi, V, h, hg => by
   simp only [Ag] at h
   split at h
   ·rename_i g ty' row' own le' c hn
    split at h
    ·rename_i hc
     obtain ⟨rfl, rfl, rfl, h3, h4, h5, h6⟩ := hc
     simp only [oJ] at h; subst h
     simp only at hg
     rw [(Aa _ _ h6 (D8 (F := F) (ρ := ρ)).1 F ρ).1, Bool.and_eq_true] at hg
     obtain ⟨b1, b2, b3⟩ := (D8 (F := F) (ρ := ρ)).2 hg.2
     obtain ⟨i1, i2⟩ := hR.ent n g _ hn hg.1
     obtain ⟨j1, j2, j3⟩ := i1
     have hle := E.same_eq _ _ h3
     subst hle
     have hlen : (l0.den F ρ).toNat = (dc (c.den F ρ)).length := by rw [j2]; simp
     have hden : (E.app .x 0 5 [c, lo, hi]).den F ρ = cd (((dc (c.den F ρ)).take (hi.den F ρ).toNat).drop (lo.den F ρ).toNat) := by
      simp only [E.den, E3, K.norm]; rw [hB]; rfl
     have hrd : RdL w Im row' (ad n) (dc (c.den F ρ)) := by
      cases own
      ·grind [ShL.rd]
      ·grind [OwL.rd]
     obtain ⟨d1, d2, d3⟩ := hrd
     have hsl : (((dc (c.den F ρ)).take (hi.den F ρ).toNat).drop (lo.den F ρ).toNat).length = (hi.den F ρ).toNat - (lo.den F ρ).toNat := by simp; omega
     have hmx : (((dc (c.den F ρ)).take (hi.den F ρ).toNat).drop (lo.den F ρ).toNat).length <= maxLen := by rw [hsl]; omega
     have hget : ∀ i r', (((dc (c.den F ρ)).take (hi.den F ρ).toNat).drop (lo.den F ρ).toNat)[i]? = some r' -> (dc (c.den F ρ))[(lo.den F ρ).toNat + i]? = some r' /\ ((ad n).part (l0.den F ρ).toNat (lo.den F ρ).toNat row'.size).off = (ad n).off + (lo.den F ρ).toNat * row'.size := fun i r' hi' => by
      grind [Hd.part]
     refine ⟨(ad n).part (l0.den F ρ).toNat (lo.den F ρ).toNat row'.size, ⟨?_, ?_, ?_, ?_, (fun ho => by cases ho), ?_, (fun ho => by cases ho)⟩⟩
     ·grind [SV.conc, Ab]
     ·simp_all
     ·rw [hB.len, hden, Ab, GZ hmx]
     ·simp only [hden, Ab]
      refine ⟨hmx, ?_, fun i r' hi' => ?_⟩
      ·grind [Hd.part]
      grind [Hd.part, E.den, Row.size]
     ·intro ho
      simp only [Bool.not_eq_true'] at ho
      subst ho
      simp only [cond_false] at j3
      simp only [hden, Ab]
      obtain ⟨s1, s2, s3, s4⟩ := j3
      refine ⟨hmx, ?_, fun hne => ?_, fun i r' hi' => ?_⟩
      ·grind [Hd.part]
      ·grind [Hd.part]
      grind [Hd.part, E.den, Row.size]
    ·cases h
   ·cases h
 | .nilp c, V, h, hg => by
   cases c <;> simp only [Ag, oJ, reduceCtorEq] at h
   subst h
   have hn := hB.nil (ρ := ρ)
   refine ⟨⟨0, 0, 0, true, undef⟩, ⟨?_, ?_, ?_, ?_, ?_, ?_, ?_⟩⟩
   ·simp [hn, SV.conc, CV.val, Hd.sl]
   ·simp [hn]
   ·simp only [hn, Ab]; rfl
   ·simp only [hn, Ab]; exact ⟨Nat.zero_le _, Nat.zero_le _, fun i r' hi => by simp at hi⟩
   ·intro _; simp only [hn, Ab]; exact ⟨Nat.zero_le _, [], World.ownsRow_nil w 0 ty q.size, rfl⟩
   ·intro _; simp only [hn, Ab]; exact ⟨Nat.zero_le _, Nat.zero_le _, fun x => (x rfl).elim, fun i r' hi => by simp at hi⟩
   ·intro _ b hb; simp [hn, Hd.sl, Value.ownBlock] at hb
 | .ite p a b, V, h, hg => by
   simp only [Ag] at h
   split at h
   ·rename_i x y hx hy
    split at h
    ·rename_i hp
     simp only [oJ] at h; subst h
     obtain ⟨i1, i2, i3⟩ := AS hx
     obtain ⟨j1, j2, j3⟩ := AS hy
     have k1 := (Pg (F := F) (ρ := ρ) hp i1 j1).2
     have k2 := (Dw (F := F) (ρ := ρ) hp i2 j2).2
     have k3 := (E6 (F := F) (ρ := ρ) hp i3 j3).2
     simp only [k3] at hg
     cases hc : p.tt F ρ
     ·simp only [hc, cond_false] at hg k1 k2
      obtain ⟨hd, o1, o2, o3, o4, o5, o6, o7⟩ := Bb hB hR hy hg
      refine ⟨hd, ⟨?_, ?_, ?_, ?_, ?_, ?_, ?_⟩⟩
      ·grind [SV.conc]
      ·simp_all
      ·simp_all
      ·simp_all
      ·simp_all
      ·simp_all
      grind
     ·simp only [hc, cond_true] at hg k1 k2
      obtain ⟨hd, o1, o2, o3, o4, o5, o6, o7⟩ := Bb hB hR hx hg
      refine ⟨hd, ⟨?_, ?_, ?_, ?_, ?_, ?_, ?_⟩⟩
      ·grind [SV.conc]
      ·simp_all
      ·simp_all
      ·simp_all
      ·simp_all
      ·simp_all
      grind
    ·cases h
   ·cases h
 | .sc _, V, h, _ | .ptr .., V, h, _ | .pi .., V, h, _ | .sl .., V, h, _ | .pe .., V, h, _ | .mp .., V, h, _ | .oq .., V, h, _ | .fn .., V, h, _ | .agg .., V, h, _ | .tup .., V, h, _ | .gd .., V, h, _ | .und, V, h, _ | .gl .., V, h, _ => by simp [Ag] at h
def Ct (m : Mem) (n : Nat) : Mem :=
 match m.at n with
 | some (g, _) => m.set n (some (g, .dead))
 | none => m
def AJ (m : Mem) : List Nat -> Mem
 | [] => m
 | n :: r => AJ (Ct m n) r
theorem Uh (m : Mem) (n k : Nat) : al (Ct m n) k ↔ al m k := by
 grind [Ct, C8]
theorem G1 : ∀ (ns : List Nat) (m : Mem) (k : Nat), al (AJ m ns) k ↔ al m k
 | [], _, _ => Iff.rfl
 | n :: r, m, k => (G1 r (Ct m n) k).trans (Uh m n k)
theorem Mc (m : Mem) (n : Nat) : (Ct m n).length = m.length := by
 grind [Ct]
theorem AD : ∀ (ns : List Nat) (m : Mem), (AJ m ns).length = m.length
 | [], _ => rfl
 | n :: r, m => (AD r (Ct m n)).trans (Mc m n)
theorem Ui {n k : Nat} {g : E} {x : Blk} (h : (Ct m n).at k = some (g, x)) : x = .dead \/ (m.at k = some (g, x) /\ k ≠ n) := by
 grind [Ct, Mem.at_set_same, Mem.at_lt, Mem.at_set_other]
theorem G2 : ∀ {ns : List Nat} {m : Mem} {k : Nat} {g : E} {x : Blk}, (AJ m ns).at k = some (g, x) -> x = .dead \/ (m.at k = some (g, x) /\ k ∉ ns)
 | [], m, k, g, x, h => Or.inr ⟨h, by simp⟩
 | n :: r, m, k, g, x, h => by
   rcases G2 (ns := r) h with h1 | ⟨h1, h2⟩
   ·exact Or.inl h1
   grind [Ui]
theorem OX (w : World) (t ty e : TypeId) (i : TypeInfo) (z : Value) (size bytes : Nat) (ht : P.underlying t = some (.slice e)) (hi : P.info? e = some i) (hz : i.zero = some z)
 (hsize : i.size = size) (hby : i.bytes = bytes) (hzs : z.cells.size = size) (hsz : 0 < size)
 (v : Value) (n : Nat) (xs : List Value) (hown : w.ownsRow 0 e size v n xs)
 (a : Addr) (k c : Nat) (news : List Value) (hl : news.length = k * size) (hnews : ∀ j u, news[j]? = some u -> w.cell? (a.add j) = some u) (h1 : ∀ u ∈ news, u.oneCell' = true)
 (h63 : n + k <= maxLen) (hbytes : (n + k) * bytes <= 140737488355328) :
 ∃ v' w', (Builtin.append_ #[t, t] ty #[v, .slice (some a) k c]).run P w = .ok v' w' /\ w'.ownsRow 0 e size v' (n + k) (xs ++ news) /\ w.grownBy w' v.ownBlock /\
   (v'.ownBlock = v.ownBlock \/ v'.ownBlock = some w.heap.size) := by
 obtain ⟨v', w', r1, r2, r3, r4⟩ := run_append_own (P := P) w 0 t ty e i z size bytes ht hi hz hsize hby hzs hsz v n xs hown a k c news hl hnews h1 h63 hbytes (Nat.zero_le _)
 refine ⟨v', w', r1, r2, r3, ?_⟩
 have hsmall : n + k <= 9223372036854775807 := by simp only [maxLen] at h63; omega
 subst hsize
 subst hby
 rcases hown.2 with ⟨rfl, rfl⟩ | ⟨g, cap, cur, rfl, hbg, hg, hnc, hcm, hcs, htake⟩
 ·by_cases hm : k = 0
  ·simp_all
  ·right
   have hr := run_append_nil (P := P) w t ty e i z ht hi hz a k c news hl hnews (by omega) (by omega) (by grind)
   rw [hr] at r1
   simp only [Result.ok.injEq] at r1
   rw [<- r1.1]; rfl
 ·by_cases hroom : n + k <= cap
  ·left
   have hfit : n * i.size + news.length <= cur.size := by rw [hl, hcs, <- Nat.add_mul]; exact Nat.mul_le_mul_right _ hroom
   have hr := run_append_room (P := P) w t ty e i ht hi g n cap cur hg a k c news hl hnews h1 hroom hfit
   rw [hr] at r1
   simp only [Result.ok.injEq] at r1
   rw [<- r1.1]; rfl
  ·right
   have holds : ∀ j u, xs[j]? = some u -> w.cell? ((⟨g, 0, none⟩ : Addr).add j) = some u := hown.cells (g := g) rfl
   have hr := run_append_grow (P := P) w t ty e i z ht hi hz ⟨g, 0, none⟩ n cap xs hown.1 holds a k c news hl hnews (by omega) (by omega) (growslice_fits (by omega) hbytes)
   rw [hr] at r1
   simp only [Result.ok.injEq] at r1
   rw [<- r1.1]; rfl
theorem Qi {e size n : Nat} {v : Value} {xs : List Value} (h : w.ownsRow 0 e size v n xs) : ∃ hd : Hd, v = hd.sl n := by
 rcases h.2 with ⟨rfl, rfl⟩ | ⟨g, cap, cur, rfl, _⟩
 ·exact ⟨⟨0, 0, 0, true, undef⟩, rfl⟩
 ·exact ⟨⟨g, 0, cap, false, undef⟩, rfl⟩
theorem LC (h : Hd) (n : Nat) : (h.sl n = .slice none 0 0 /\ n = 0) \/ h.sl n = .slice (some ⟨h.blk, h.off, none⟩) n h.cap := by
 grind [Hd.sl]
end
def upd (ad : Nat -> Hd) (n : Nat) (h : Hd) : Nat -> Hd := fun k => if k = n then h else ad k
section
variable {P : Program} {F : Fam} {ρ : Nat -> Int} {G : Glob} {w0 w w' : World} {M0 Im0 Im Im' T : Nat -> Prop} {ad ad' : Nat -> Hd} {m m' : Mem}
theorem Au (ad : Nat -> Hd) (n : Nat) (h : Hd) : upd ad n h n = h := by simp [upd]
theorem Dx (ad : Nat -> Hd) {n k : Nat} (h : Hd) (hk : k ≠ n) : upd ad n h k = ad k := by simp [upd, hk]
theorem Ki {nm : Nat} (h : (m.at nm).isNone = true) (hd : Hd) : ∀ k, al m k -> ad k = upd ad nm hd k := fun k hk => by
 rw [Dx]
 rintro rfl
 simp_all [al]
theorem RelI.turn (hR : RelI F ρ w0 M0 Im ad m w) {n : Nat} {g : E} {x y : Blk} (hn : m.at n = some (g, x)) (hf : Fr T w w') (hT : ∀ b, T b -> mutB F ρ ad n x = some b /\ g.tt F ρ = true)
 (hb : g.tt F ρ = true -> BlkOK F ρ Im ad n w' y) (hm : ∀ b, mutB F ρ ad n y = some b -> mutB F ρ ad n x = some b) (hok : SV.okL (al m) y.cs) :
 RelI F ρ w0 M0 Im ad (m.set n (some (g, y))) w' := by
 have hl := Mem.at_lt hn
 have hTl : ∀ b, T b -> ((M0 b \/ w0.heap.size <= b) /\ ¬ Im b) /\ b < w.heap.size := fun b t => by
  have := (hR.ent n g x hn (hT b t).2).2 b (hT b t).1
  simp_all
 have hIm : ∀ b, Im b -> Im b /\ w'.heap[b]? = w.heap[b]? := fun b hb => ⟨hb, hf.block b (hR.im b hb) fun t => (hTl b t).1.2 hb⟩
 refine ⟨fun k g' z hk hg' => ?_, fun k g' x0 hk => ?_, fun k k' g1 z1 g2 z2 b h1 h2 h3 h4 h5 h6 => ?_, fun b hb => Nat.lt_of_lt_of_le (hR.im b hb) hf.size, hR.fr.trans hf fun b hb t => ?_⟩
 ·by_cases hkn : n = k
  ·subst hkn
   rw [Mem.at_set_same hl] at hk
   simp only [oJ, pJ] at hk
   obtain ⟨rfl, rfl⟩ := hk
   refine ⟨hb hg', fun b hbb => ?_⟩
   have := (hR.ent n g x hn hg').2 b (hm b hbb)
   exact ⟨this.1, this.2.1, Nat.lt_of_lt_of_le this.2.2 hf.size⟩
  ·rw [Mem.at_set_other hkn] at hk
   obtain ⟨i1, i2⟩ := hR.ent k g' z hk hg'
   refine ⟨i1.fr hIm (fun b hb => hf.block b (i2 b hb).2.2 fun t => hkn (hR.inj n k g x g' z b hn (hT b t).2 hk hg' (hT b t).1 hb)) rfl rfl, fun b hbb => ?_⟩
   exact ⟨(i2 b hbb).1, (i2 b hbb).2.1, Nat.lt_of_lt_of_le (i2 b hbb).2.2 hf.size⟩
 ·by_cases hkn : n = k
  ·subst hkn
   rw [Mem.at_set_same hl] at hk
   simp only [oJ, pJ] at hk
   rw [<- hk.2]
   exact SV.okL_mono (fun k hk => (C8 hn k).2 hk) _ hok
  ·rw [Mem.at_set_other hkn] at hk
   exact SV.okL_mono (fun k hk => (C8 hn k).2 hk) _ (hR.ok k g' x0 hk)
 ·have key : ∀ k g' z, (Mem.at (m.set n (some (g, y))) k) = some (g', z) -> g'.tt F ρ = true -> mutB F ρ ad k z = some b -> ∃ z', m.at k = some (g', z') /\ mutB F ρ ad k z' = some b := fun k g' z hk hg' hb => by
   grind [Mem.at_set_same, Mem.at_set_other]
  obtain ⟨z1', a1, a2⟩ := key k g1 z1 h1 h2 h5
  obtain ⟨z2', b1, b2⟩ := key k' g2 z2 h3 h4 h6
  exact hR.inj k k' g1 z1' g2 z2' b a1 h2 b1 h4 a2 b2
 grind
theorem RelI.put (hR : RelI F ρ w0 M0 Im ad m w) {ns : List Nat} {nm : Nat} {g : E} {y : Blk} {hd : Hd} (hf : Fr T w w')
 (hT : ∀ b, T b -> b < w.heap.size -> ∃ n ∈ ns, ∃ g' x, m.at n = some (g', x) /\ g'.tt F ρ = true /\ mutB F ρ ad n x = some b)
 (h1 : nm < m.length) (h2 : (m.at nm).isNone = true) (hb : BlkOK F ρ Im (upd ad nm hd) nm w' y)
 (hm : ∀ b, mutB F ρ (upd ad nm hd) nm y = some b -> b < w'.heap.size /\ (w.heap.size <= b \/ ∃ n ∈ ns, ∃ g' x, m.at n = some (g', x) /\ g'.tt F ρ = true /\ mutB F ρ ad n x = some b))
 (hok : SV.okL (al m) y.cs) : RelI F ρ w0 M0 Im (upd ad nm hd) ((AJ m ns).set nm (some (g, y))) w' := by
 have hTl : ∀ b, (∃ n ∈ ns, ∃ g' x, m.at n = some (g', x) /\ g'.tt F ρ = true /\ mutB F ρ ad n x = some b) -> (M0 b \/ w0.heap.size <= b) /\ ¬ Im b /\ b < w.heap.size := fun b ⟨n, _, g', x, h3, h4, h5⟩ => (hR.ent n g' x h3 h4).2 b h5
 have hIm : ∀ b, Im b -> Im b /\ w'.heap[b]? = w.heap[b]? := fun b hb => ⟨hb, hf.block b (hR.im b hb) fun t => (hTl b (hT b t (hR.im b hb))).2.1 hb⟩
 have hlk : nm < (AJ m ns).length := by rw [AD]; exact h1
 have hal : ∀ k, al m k -> al ((AJ m ns).set nm (some (g, y))) k := fun k hk => EL hlk k ((G1 ns m k).2 hk)
 have hcase : ∀ k g' z, Mem.at ((AJ m ns).set nm (some (g, y))) k = some (g', z) -> (k = nm /\ g' = g /\ z = y) \/ (k ≠ nm /\ (z = .dead \/ (m.at k = some (g', z) /\ k ∉ ns))) := fun k g' z hk => by
  grind [Mem.at_set_same, Mem.at_set_other, G2]
 have hw0 := hR.fr.size
 refine ⟨fun k g' z hk hg' => ?_, fun k g' x0 hk => ?_, fun k k' g1 z1 g2 z2 b a1 a2 a3 a4 a5 a6 => ?_, fun b hb => Nat.lt_of_lt_of_le (hR.im b hb) hf.size, hR.fr.trans hf fun b hb t => ?_⟩
 ·rcases hcase k g' z hk with ⟨rfl, rfl, rfl⟩ | ⟨hne, rfl | ⟨hk', hns⟩⟩
  ·grind
  ·exact ⟨trivial, fun b hbb => by simp [mutB] at hbb⟩
  ·obtain ⟨i1, i2⟩ := hR.ent k g' z hk' hg'
   refine ⟨i1.fr hIm (fun b hbb => hf.block b (i2 b hbb).2.2 fun t => ?_) (Dx ad hd hne) ?_, fun b hbb => ?_⟩
   ·obtain ⟨n, hn, g'', x, e1, e2, e3⟩ := hT b t (i2 b hbb).2.2
    have := hR.inj n k g'' x g' z b e1 e2 hk' hg' e3 hbb
    simp_all
   ·exact (SV.concL_congr (Ki h2 hd) z.cs (hR.ok k g' z hk')).symm
   ·rw [AW (Dx ad hd hne)] at hbb
    exact ⟨(i2 b hbb).1, (i2 b hbb).2.1, Nat.lt_of_lt_of_le (i2 b hbb).2.2 hf.size⟩
 ·rcases hcase k g' _ hk with ⟨rfl, _, hy⟩ | ⟨hne, hd' | ⟨hk', _⟩⟩
  ·rw [hy]; exact SV.okL_mono hal _ hok
  ·rw [hd']; trivial
  ·exact SV.okL_mono hal _ (hR.ok k g' x0 hk')
 ·have new : ∀ k' g2 z2, Mem.at ((AJ m ns).set nm (some (g, y))) k' = some (g2, z2) -> g2.tt F ρ = true -> mutB F ρ (upd ad nm hd) k' z2 = some b -> mutB F ρ (upd ad nm hd) nm y = some b -> k' = nm := fun k' g2 z2 a3 a4 a6 hyb => by
   rcases hcase k' g2 z2 a3 with ⟨rfl, _, _⟩ | ⟨hne, rfl | ⟨hk', hns⟩⟩
   ·rfl
   ·simp [mutB] at a6
   ·exfalso
    rw [AW (Dx ad hd hne)] at a6
    have hlt := ((hR.ent k' g2 z2 hk' a4).2 b a6).2.2
    rcases (hm b hyb).2 with h | ⟨n, hn, g'', x, e1, e2, e3⟩
    ·omega
    ·have := hR.inj n k' g'' x g2 z2 b e1 e2 hk' a4 e3 a6
     simp_all
  rcases hcase k g1 z1 a1 with ⟨rfl, _, rfl⟩ | ⟨hne, rfl | ⟨hk1, _⟩⟩
  ·grind
  ·simp [mutB] at a5
  ·rcases hcase k' g2 z2 a3 with ⟨rfl, _, rfl⟩ | ⟨hne', rfl | ⟨hk2, _⟩⟩
   ·grind
   ·simp [mutB] at a6
   ·rw [AW (Dx ad hd hne)] at a5
    rw [AW (Dx ad hd hne')] at a6
    exact hR.inj k k' g1 z1 g2 z2 b hk1 a2 hk2 a4 a5 a6
 grind
theorem Rel.turn (hR : Rel F ρ w0 M0 Im0 ad m w) {n : Nat} {g : E} {x y : Blk} (hn : m.at n = some (g, x)) (hf : Fr T w w') (hT : ∀ b, T b -> mutB F ρ ad n x = some b /\ g.tt F ρ = true)
 (hb : ∀ Im, RelI F ρ w0 M0 Im ad m w -> g.tt F ρ = true -> BlkOK F ρ Im ad n w' y) (hm : ∀ b, mutB F ρ ad n y = some b -> mutB F ρ ad n x = some b) (hok : SV.okL (al m) y.cs) :
 Rel F ρ w0 M0 Im0 ad (m.set n (some (g, y))) w' := by
 obtain ⟨h0, Im, h1, h2, hI⟩ := hR
 exact ⟨h0, Im, h1, h2, hI.turn hn hf hT (hb Im hI) hm hok⟩
theorem Ext.set (ad : Nat -> Hd) {n : Nat} {x y} (hn : m.at n = some x) : Ext ad ad m (m.set n (some y)) := ⟨fun _ _ => rfl, fun k hk => (C8 hn k).2 hk⟩
theorem Ext.put {ns : List Nat} {nm : Nat} {y} (hd : Hd) (h1 : nm < m.length) (h2 : (m.at nm).isNone = true) : Ext ad (upd ad nm hd) m ((AJ m ns).set nm (some y)) :=
 ⟨Ki h2 hd, fun k hk => EL (by rw [AD]; exact h1) k ((G1 ns m k).2 hk)⟩
theorem Ez {ns : List Nat} {nm : Nat} {y} (h1 : nm < m.length) : al ((AJ m ns).set nm (some y)) nm := by
 grind [al, Mem.at_set_same, AJ, AD]
end
def blkC (m : Mem) (n : Nat) : Option (E × Nat × List SV) :=
 match m.at n with
 | some (g, .cells ty cs) => if g.kind = .b then some (g, ty, cs) else none
 | _ => none
def rdC (cs : List SV) (off sz : Nat) (ag : Bool) : Option SV :=
 bif ag then (if off + sz <= cs.length then some (.agg ((cs.drop off).take sz)) else none) else cs[off]?
def rdsC (cs : List SV) (off str sz : Nat) (ag : Bool) : Nat -> Nat -> Option (List SV)
 | 0, _ => some []
 | c + 1, j => match rdC cs (off + j * str) sz ag, rdsC cs off str sz ag c (j + 1) with
   | some v, some l => some (v :: l)
   | _, _ => none
def wrC (old : List SV) (off : Nat) (cs : List SV) : Option (List SV) := if off + cs.length <= old.length then some (A0 old off cs) else none
def wrsC (e : E) (off str : Nat) (cs : List SV) : Nat -> Nat -> List SV -> Option (List SV)
 | 0, _, old => some old
 | c + 1, j, old => if off + j * str + cs.length <= old.length then
     wrsC e off str cs c (j + 1) (A0 old (off + j * str) (BE (mkCmp .eql e (.lit (.i .i64) j)) cs ((old.drop (off + j * str)).take cs.length)))
   else none
def rdG (G : Glob) (b : Nat) : Nat -> Nat -> Option (List SV)
 | _, 0 => some []
 | off, n + 1 => match G b off, rdG G b (off + 1) n with
   | some v, some l => some (v :: l)
   | _, _ => none
def apply (G : Glob) (m : Mem) (nm : Nat) : D -> Option (E × SV × Mem)
 | .val v => some (mkB true, v, m)
 | .ld n off sz ag => match blkC m n with
   | some (g, _, cs) => (rdC cs off sz ag).map fun v => (g, v, m)
   | none => none
 | .ldi n off str cnt e sz ag => match blkC m n with
   | some (g, _, cs) => if cnt < 100000 then (rdsC cs off str sz ag cnt 0).map fun l => (g, sel e 0 l, m) else none
   | none => none
 | .ldg b off sz ag => bif ag then (rdG G b off sz).map fun l => (mkB true, .agg l, m) else (G b off).map fun v => (mkB true, v, m)
 | .st n off vs => match blkC m n with
   | some (g, ty, cs) => (wrC cs off vs).map fun cs' => (g, .und, m.set n (some (g, .cells ty cs')))
   | none => none
 | .sti n off str cnt e vs => match blkC m n with
   | some (g, ty, cs) => if cnt < 100000 then (wrsC e off str vs cnt 0 cs).map fun cs' => (g, .und, m.set n (some (g, .cells ty cs'))) else none
   | none => none
 | .new ty cs sl => if nm < m.length /\ (m.at nm).isNone = true then some (mkB true, match sl with | none => .ptr nm 0 | some len => .sl nm 0 len len, m.set nm (some (mkB true, .cells ty cs))) else none
 | .call .. => none
def Cu : Row -> Option (List K)
 | .nil => some []
 | .c k r => (Cu r).map (k :: ·)
 | .ls .. => none
def HQ : Nat -> E -> Option (List (List E))
 | 0, _ => none
 | _ + 1, .app .x 0 2 [] => some []
 | n + 1, .app .x 0 3 (c :: es) => (HQ n c).map fun l => es :: l
 | _, _ => none
def cel (k : K) (c i : E) (j : Nat) : E :=
 match i.lit? with
 | some n => match HQ 1000 c with
   | some l => match (l.reverse[n.toNat]?).bind (·[j]?) with
     | some e => if e.kind = k /\ e.sound = true then e else CEL k c i j
     | none => CEL k c i j
   | none => CEL k c i j
 | none => CEL k c i j
def celS (c i : E) : List K -> Nat -> List SV
 | [], _ => []
 | k :: ks, j => .sc (cel k c i j) :: celS c i ks (j + 1)
def Ep (P : Program) (e : Nat) (ks : List K) : Bool :=
 match P.info? e with
 | some i => match i.zero with
   | some z => z.cells.size == ks.length && (List.range ks.length).all fun j => match z.cells[j]?, ks[j]? with
     | some (.bool b), some .b => !b
     | some (.int k n), some (.i k') => decide (k = k') && n == 0
     | _, _ => false
   | none => false
 | none => false
def Qj (P : Program) (e : Nat) (vs : List K) (ag : Bool) : Bool :=
 match P.info? e with
 | some i => match i.zero with
   | some (.agg _) => ag && Ep P e vs
   | some (.int ..) => !ag && Ep P e vs && vs.length == 1
   | some (.bool _) => !ag && Ep P e vs && vs.length == 1
   | _ => false
 | none => false
def Gk (P : Program) (t : Nat) : Option (IntKind × List K × Bool) :=
 match P.underlying t with
 | some (.map kt et) => match P.underlying kt with
   | some (.int k) => match AV P 20 et, EI P et with
     | some vs, some ag => if Qj P et vs ag = true then some (k, vs, ag) else none
     | _, _ => none
   | _ => none
 | _ => none
def Dl (c e : E) (n : Nat) : List K -> Nat -> List SV
 | [], _ => []
 | k :: ks, j => .sc (.app k 0 9 [c, .lit .x n, .lit .x j, e]) :: Dl c e n ks (j + 1)
def shpV (ag : Bool) (l : List SV) : SV := bif ag then .agg l else l.getD 0 .und
def isAg : SV -> Bool
 | .agg _ => true
 | _ => false
def DS (P : Program) (m : Mem) (t n : Nat) (key : SV) : Option (E × IntKind × List K × Bool × E × E) :=
 match m.at n, Gk P t, key with
 | some (g, .mp ks vs kag vag c), some (k, vs', ag), .sc e => if ks = [.i k] /\ vs = vs' /\ kag = false /\ vag = ag /\ g.kind = .b /\ e.kind = .i k /\ e.sound = true /\ c.kind = .x then some (g, k, vs, ag, c, e) else none
 | _, _, _ => none
def EM (m : Mem) (n : Nat) : Option (E × Nat × List SV × List K × E) :=
 match m.at n with
 | some (g, .seg ty cs ks c) => if g.kind = .b /\ c.kind = .x /\ ks.length ≠ 0 then some (g, ty, cs, ks, c) else none
 | _ => none
def rowE (e : E) (r0 : Nat) : E := bif r0 == 0 then e else Cg .add .i64 e (.lit (.i .i64) r0)
def rowG (e : E) (r0 : Nat) (c : E) : E := mkAnd (inB e big9) (inB (rowE e r0) (LEN c))
def EN (m : Mem) (n off str : Nat) (e : E) (sz : Nat) (ag : Bool) : Option (E × SV × Mem) :=
 match EM m n with
 | some (g, _, cs, ks, c) => if cs.length <= off /\ str = ks.length /\ e.kind = .i .i64 /\ (off - cs.length) / ks.length <= 1000000 then
  (rdC (celS c (rowE e ((off - cs.length) / ks.length)) ks 0) ((off - cs.length) % ks.length) sz ag).map fun v => (mkAnd g (rowG e ((off - cs.length) / ks.length) c), v, m)
   else none
 | none => none
def EO (m : Mem) (n off str : Nat) (e : E) (vs : List SV) : Option (E × SV × Mem) :=
 match EM m n with
 | some (g, ty, cs, ks, c) => match scs ((ks.drop ((off - cs.length) % ks.length)).take vs.length) vs with
   | some es => if cs.length <= off /\ str = ks.length /\ e.kind = .i .i64 /\ (off - cs.length) / ks.length <= 1000000 /\ (off - cs.length) % ks.length + vs.length <= ks.length then
    some (mkAnd g (rowG e ((off - cs.length) / ks.length) c), .und, m.set n (some (g, .seg ty cs ks (.app .x 0 6 (c :: rowE e ((off - cs.length) / ks.length) :: .lit .x ((off - cs.length) % ks.length : Nat) :: es)))))
     else none
   | none => none
 | none => none
def lit0 : E := .lit (.i .i64) 0
def Bq (m : Mem) : D -> Option (E × SV × Mem)
 | .ld n off sz ag => match EM m n with
   | some (g, _, cs, ks, _) => if off + sz <= cs.length then (rdC cs off sz ag).map fun v => (g, v, m) else EN m n off ks.length lit0 sz ag
   | none => none
 | .ldi n off str _ e sz ag => EN m n off str e sz ag
 | .st n off vs => match EM m n with
   | some (g, ty, cs, ks, c) => if off + vs.length <= cs.length then (wrC cs off vs).map fun cs' => (g, .und, m.set n (some (g, .seg ty cs' ks c))) else EO m n off ks.length lit0 vs
   | none => none
 | .sti n off str _ e vs => EO m n off str e vs
 | _ => none
def Qk (P : Program) (e : Nat) : Bool :=
 match P.info? e with
 | some i => match i.zero with
   | some z => match z.cells.toList with
     | [.slice none 0 0] => true
     | _ => false
   | none => false
 | none => false
def Ao (P : Program) (m : Mem) (nm : Nat) : X -> Option (E × SV × Mem)
 | .mnew t => match Gk P t with
   | some (k, vs, ag) => if nm < m.length /\ (m.at nm).isNone = true then some (mkB true, .mp nm, m.set nm (some (mkB true, .mp [.i k] vs false ag NILL))) else none
   | none => none
 | .mlk t n key ok => match DS P m t n key with
   | some (g, _, vs, ag, c, e) => some (g, bif ok then .tup [shpV ag (Dl c e vs.length vs 1), .sc (.app .b 0 8 [c, e])] else shpV ag (Dl c e vs.length vs 1), m)
   | none => none
 | .mup t n key val => match DS P m t n key with
   | some (g, k, vs, ag, c, e) => match scs vs val.cells with
     | some es => if isAg val = ag then some (g, .und, m.set n (some (g, .mp [.i k] vs false ag (.app .x 0 10 (c :: .lit .x 1 :: e :: es))))) else none
     | none => none
   | none => none
 | .mdl t kt ty n key => match DS P m t n key with
   | some (g, k, vs, ag, c, e) => some (g, .tup [], m.set n (some (g, .mp [.i k] vs false ag (.app .x 0 11 [c, e]))))
   | none => none
 | .mln t ty n => match m.at n with
   | some (g, .mp ks vs kag vag c) => if g.kind = .b /\ mapT P t = true then some (mkAnd g (mkCmp .leq (.app .x 0 0 [c]) (.lit .x maxLen)), .sc (LEN c), m) else none
   | _ => none
 | .vix t n str l0 lo hi i => match m.at n with
   | some (_, .lst ty row _ _ _) => match Ag m ty row (.sv n str l0 lo hi) with
     | some V => if Ay P t = some ty /\ szOf P ty = some str /\ i.kind = .i .i64 /\ lo.kind = .i .i64 then some (mkAnd V.g (inB i V.le), .pe n str (Cg .add .i64 lo i) 0, m) else none
     | none => none
   | _ => none
 | .clr t ty e n le => match m.at n with
   | some (g, .lst e' row true le' c) => match Cu row with
     | some ks => if g.kind = .b /\ e' = e /\ le.same le' = true /\ Ay P t = some e /\ Ep P e ks = true then some (g, .tup [], m.set n (some (g, .dead))) else none
     | none => none
   | _ => none
 | .lds n off str e sz ag => EN m n off str e sz ag
 | .sts n off str e vs => EO m n off str e vs
 | .ldl n str i o => match m.at n with
   | some (g, .lst _ (.ls ty q .nil) _ le c) =>
     if g.kind = .b /\ str = 1 /\ o = 0 /\ nm < m.length /\ (m.at nm).isNone = true then
      some (mkAnd g (inB i le), .ls nm (LEN (CEL .x c i 0)), m.set nm (some (mkB true, .lst ty q false (LEN (CEL .x c i 0)) (CEL .x c i 0)))) else none
   | _ => none
 | .stl n str i o x => match m.at n with
   | some (_, .lst _ (.ls ty' q .nil) _ _ _) => match Ag m ty' q x with
     | some V0 => match (shareL m V0.ns).at n, Ag (shareL m V0.ns) ty' q x with
       | some (g, .lst ty (.ls ty2 q2 .nil) true le c), some V => if ty2 = ty' /\ q2 = q /\ g.kind = .b /\ V.sh = true /\ str = 1 /\ o = 0 then
        some (mkAnd (mkAnd g V.g) (inB i le), .und, (shareL m V0.ns).set n (some (g, .lst ty (.ls ty' q .nil) true le (.app .x 0 6 [c, i, .lit .x (0 : Nat), V.c])))) else none
       | _, _ => none
     | none => none
   | _ => none
 | .mkl t e n c => match Ay P e, Cy P e with
   | some ty', some (size, bytes) => match AV P 20 ty' with
     | some ks => if n.same c = true /\ n.kind = .i .i64 /\ Ay P t = some e /\ size = 1 /\ Qk P e = true /\ nm < m.length /\ (m.at nm).isNone = true then
      some (mkAnd (mkCmp .geq n (.lit (.i .i64) 0)) (mkCmp .leq n (.lit .x (Ba bytes))), .ls nm (LEN (.app .x 0 7 [n, NILL])),
       m.set nm (some (mkB true, .lst e (.ls ty' (Row.ofKs ks) .nil) true (LEN (.app .x 0 7 [n, NILL])) (.app .x 0 7 [n, NILL])))) else none
     | none => none
   | _, _ => none
 | _ => none
def subV (P : Program) (m : Mem) (t e : Nat) (x : SV) (lo hi : Option E) : Option (E × SV × Mem) :=
 match x with
 | .ls n le => match m.at n with
   | some (g, .lst ty row true le' c) =>
     let l := lo.getD (.lit (.i .i64) 0)
     let h := hi.getD le
     if ty = e /\ le.same le' = true /\ c.kind = .x /\ le'.kind = .i .i64 /\ g.kind = .b /\ Ay P t = some e /\ szOf P e = some row.size /\ (∀ q, lo = some q -> q.kind = .i .i64) /\ (∀ q, hi = some q -> q.kind = .i .i64) then
      some (mkAnd g (mkAnd (mkCmp .geq l (.lit (.i .i64) 0)) (mkAnd (mkCmp .leq l h) (mkCmp .leq h le'))), .sv n row.size le l h, m)
     else none
   | _ => none
 | _ => none
def Nr (L : Nat) : E -> Option (E × E)
 | .bin .add .i64 (.bin .mul .i64 q (.lit (.i .i64) s)) e => if s = (L : Int) /\ q.kind = .i .i64 /\ e.kind = .i .i64 then some (q, e) else none
 | _ => none
def sameK (k : K) : List SV -> List E
 | .sc e :: r => if e.kind = k then e :: sameK k r else []
 | _ => []
def runE : List SV -> List E
 | .sc e :: r => sameK e.kind (.sc e :: r)
 | _ => []
def selE (e : E) : Nat -> List E -> E
 | _, [] => mkB false
 | _, [x] => x
 | j, x :: y :: r => mkIte (mkCmp .eql e (.lit (.i .i64) j)) x (selE e (j + 1) (y :: r))
def applyX (P : Program) (G : Glob) (m : Mem) (nm : Nat) : X -> Option (E × SV × Mem)
 | .old d => match apply G m nm d with
   | some r => some r
   | none => Bq m d
 | .len x => match tyL m x with
   | some (ty, row) => (Ag m ty row x).map fun V => (V.g, .sc V.le, m)
   | none => (Ag m 0 .nil x).map fun V => (V.g, .sc V.le, m)
 | .lde n str i o sz ag => match m.at n with
   | some (g, .lst _ row _ le c) => match Cu row with
     | some ks => if g.kind = .b /\ str = ks.length then
      (rdC (celS c i ks 0) o sz ag).map fun v => (mkAnd g (inB i le), v, m)
       else match Nr ks.length i with
        | some (q, e) => if g.kind = .b /\ str = 1 /\ sz = 1 /\ ag = false /\ ks.length <= 1000 then
         some (mkAnd (mkAnd g (inB q le)) (mkAnd (inB q big9) (inB e (.lit (.i .i64) (runE ((celS c q ks 0).drop o)).length))), .sc (selE e 0 (runE ((celS c q ks 0).drop o))), m)
          else none
        | none => none
     | none => none
   | _ => none
 | .ste n str i o cs => match m.at n with
   | some (g, .lst ty row true le c) => match Cu row with
     | some ks => match scs ((ks.drop o).take cs.length) cs with
       | some es => if g.kind = .b /\ str = ks.length /\ o + cs.length <= ks.length then some (mkAnd g (inB i le), .und, m.set n (some (g, .lst ty row true le (.app .x 0 6 (c :: i :: .lit .x o :: es))))) else none
       | none => none
     | none => none
   | _ => none
 | .app t e rt x y => match (match tyL m x with
  | some (_, row) => Cu row
  | none => AV P 20 e) with
   | some ks => match Ag m e (Row.ofKs ks) x, Cy P e with
     | some V, some (size, bytes) =>
       if size = ks.length /\ V.own = true /\ Ay P t = some e /\ nm < m.length /\ (m.at nm).isNone = true then
        match y with
        | .sl m2 0 len _ => match blkC m m2 with
          | some (g2, _, cs) => if cs.length = len * ks.length then (Dk ks len cs V.c).map fun c' =>
           (mkAnd (mkAnd V.g g2) (mkCmp .leq (.app .x 0 0 [c']) (.lit .x (Ba bytes))), .ls nm (LEN c'), (AJ m V.ns).set nm (some (mkB true, .lst e (Row.ofKs ks) true (LEN c') c')))
            else none
          | none => none
        | y => match Ag m e (Row.ofKs ks) y with
          | some V2 => some (mkAnd (mkAnd V.g V2.g) (mkCmp .leq (.app .x 0 0 [.app .x 0 4 [V.c, V2.c]]) (.lit .x (Ba bytes))), .ls nm (LEN (.app .x 0 4 [V.c, V2.c])),
           (AJ m V.ns).set nm (some (mkB true, .lst e (Row.ofKs ks) true (LEN (.app .x 0 4 [V.c, V2.c])) (.app .x 0 4 [V.c, V2.c]))))
          | none => none
       else none
     | _, _ => none
   | none => none
 | .sub t e x lo hi => match subV P m t e x lo hi with
  | some r => some r
  | none => match tyL m x with
   | some (_, row) => match Ag m e row x with
     | some V0 => match Ag (shareL m V0.ns) e row x with
       | some V => if V.sh = true /\ Ay P t = some e /\ szOf P e = some row.size /\ nm < m.length /\ ((shareL m V0.ns).at nm).isNone = true /\ (∀ q, lo = some q -> q.kind = .i .i64) /\ (∀ q, hi = some q -> q.kind = .i .i64) then
        let l := lo.getD (.lit (.i .i64) 0)
        let h := hi.getD V.le
        let c' := E.app .x 0 5 [V.c, l, h]
        some (mkAnd V.g (mkAnd (mkCmp .geq l (.lit (.i .i64) 0)) (mkAnd (mkCmp .leq l h) (mkCmp .leq h V.le))), .ls nm (LEN c'), (shareL m V0.ns).set nm (some (mkB true, .lst e row false (LEN c') c')))
         else none
       | none => none
     | none => none
   | none => none
 | .mk t e n c => match AV P 20 e, Cy P e with
   | some ks, some (size, bytes) => if n.same c = true /\ n.kind = .i .i64 /\ Ay P t = some e /\ size = ks.length /\ Ep P e ks = true /\ nm < m.length /\ (m.at nm).isNone = true then
    let c' := E.app .x 0 7 (n :: ks.map fun k => .lit k 0)
    some (mkAnd (mkCmp .geq n (.lit (.i .i64) 0)) (mkCmp .leq n (.lit .x (Ba bytes))), .ls nm (LEN c'), m.set nm (some (mkB true, .lst e (Row.ofKs ks) true (LEN c') c')))
     else none
   | _, _ => none
 | .bl e ks cs len => match Dk ks len cs NILL, Cy P e with
   | some c', some (size, bytes) => if size = ks.length /\ (len : Int) <= Ba bytes /\ nm < m.length /\ (m.at nm).isNone = true then
    some (mkB true, .ls nm (.lit (.i .i64) len), m.set nm (some (mkB true, .lst e (Row.ofKs ks) true (.lit (.i .i64) len) c')))
     else none
   | _, _ => none
 | .gsl e b off n => match AV P 20 e with
   | some ks => match rdG G b off (n * ks.length) with
     | some cs => match Dk ks n cs NILL with
       | some c' => if 0 < n /\ 0 < ks.length /\ n <= 100000 /\ nm < m.length /\ (m.at nm).isNone = true then
        some (mkB true, .ls nm (.lit (.i .i64) n), m.set nm (some (mkB true, .lst e (Row.ofKs ks) false (.lit (.i .i64) n) c')))
         else none
       | none => none
     | none => none
   | none => none
 | x => Ao P m nm x
section
variable {P : Program} {F : Fam} {ρ : Nat -> Int} {G : Glob} {w0 w w' : World} {M0 Im0 Im Im' T : Nat -> Prop} {ad ad' : Nat -> Hd} {m m' : Mem}
theorem Br {n : Nat} {g : E} {ty : Nat} {cs : List SV} (h : blkC m n = some (g, ty, cs)) : m.at n = some (g, .cells ty cs) /\ g.kind = .b := by
 grind [blkC]
theorem Md {b off : Nat} {cs : List Value} (h : ∀ j v, cs[j]? = some v -> w.cell? ⟨b, off + j, none⟩ = some v) : BF P w b off cs.length true = .ok (.value (.agg cs.toArray)) w := by
 have := run_loadCells_list (P := P) w ⟨b, off, none⟩ cs (fun j v hj => by grind [Addr.add_none])
 simp [BF, this]
theorem HR {b off : Nat} {v : Value} (sz : Nat) (h : w.cell? ⟨b, off, none⟩ = some v) : BF P w b off sz false = .ok (.value v) w := by
 simp [BF, h]
theorem D9 {b : Nat} {cs : List SV} {base off sz : Nat} {ag : Bool} {v : SV} (hc : ∀ j u, (SV.concL F ρ ad cs)[j]? = some u -> w.cell? ⟨b, base + j, none⟩ = some u) (h : rdC cs off sz ag = some v) :
 BF P w b (base + off) sz ag = .ok (.value (v.conc F ρ ad)) w /\ ∀ p, SV.okL p cs -> v.ok p := by
 unfold rdC at h
 cases ag with
 | true =>
   simp only [cond_true] at h
   split at h
   ·rename_i hl
    simp only [oJ] at h; subst h
    have hlen : ((SV.concL F ρ ad cs).drop off |>.take sz).length = sz := by rw [Ac]; simp; omega
    have hr := Md (P := P) (w := w) (b := b) (off := base + off) (cs := (SV.concL F ρ ad cs).drop off |>.take sz) (fun j v hj => by
     grind)
    simp_all [SV.conc, Ac, SV.ok, D4, Fh]
   ·cases h
 | false =>
   grind [HR, CX, Ac]
theorem Me {cs : List SV} {off str sz : Nat} {ag : Bool} : ∀ {c j : Nat} {l : List SV}, rdsC cs off str sz ag c j = some l -> l.length = c /\ ∀ i v, l[i]? = some v -> rdC cs (off + (j + i) * str) sz ag = some v
 | 0, j, l, h => by grind [rdsC]
 | c + 1, j, l, h => by
   simp only [rdsC] at h
   split at h
   ·rename_i v r h1 h2
    simp only [oJ] at h; subst h
    obtain ⟨i1, i2⟩ := Me h2
    grind
   ·cases h
theorem JJ (hG : GOK G Im0 w) {b : Nat} : ∀ {n off : Nat} {l : List SV}, rdG G b off n = some l -> l.length = n /\ (∀ p, SV.okL p l) /\
 (∀ j v, (SV.concL F ρ ad l)[j]? = some v -> w.cell? ⟨b, off + j, none⟩ = some v)
 | 0, off, l, h => by simp [rdG] at h; subst h; exact ⟨rfl, fun _ => trivial, by simp [SV.concL]⟩
 | n + 1, off, l, h => by
   simp only [rdG] at h
   split at h
   ·rename_i v r h1 h2
    simp only [oJ] at h; subst h
    obtain ⟨i1, i2, i3⟩ := JJ hG h2
    obtain ⟨_, g1, g2, g3⟩ := hG F ρ b off v h1
    refine ⟨by simp [i1], fun p => ⟨SV.ok_mono (fun _ f => f.elim) v g3, i2 p⟩, fun j u hu => ?_⟩
    cases j with
    | zero =>
      simp only [SV.concL, List.getElem?_cons_zero, oJ] at hu
      subst hu
      rw [Nat.add_zero, g2, SV.conc_congr (ad' := ad) (p := fun _ => False) (fun _ f => f.elim) v g3]
    | succ j =>
      grind [SV.concL]
   ·cases h
theorem EA {b off : Nat} {c : Array Value} {ty : TypeId} {vs : List Value} (h : w.heap[b]? = some (.cells c ty (0, 0))) (hl : off + vs.length <= c.size) (h1 : ∀ v ∈ vs, v.oneCell' = true) :
 BR P w b off vs = .ok .skip (w.setRow b (c.toList.take off ++ vs ++ c.toList.drop (off + vs.length)).toArray) := by
 have := run_storeCells_at P b off ty vs 0 c w h (by simpa using hl) h1
 simp [BR, this]
theorem CB (cs vs : List SV) (off : Nat) : SV.concL F ρ ad (A0 cs off vs) = (SV.concL F ρ ad cs).take off ++ SV.concL F ρ ad vs ++ (SV.concL F ρ ad cs).drop (off + (SV.concL F ρ ad vs).length) := by
 simp_all [A0, Ac]
theorem Se {cs : List SV} (h : cs.all SV.one = true) : ∀ v ∈ SV.concL F ρ ad cs, v.oneCell' = true := by
 grind [Ac, SV.one_conc]
theorem OY (l : List SV) (off n : Nat) (h : off + n <= l.length) : A0 l off ((l.drop off).take n) = l := by
 unfold A0
 have e : ((l.drop off).take n).length = n := by simp; omega
 rw [e, List.append_assoc, <- List.drop_drop, List.take_append_drop, List.take_append_drop]
theorem Ph {b ty : Nat} {cs vs cs' : List SV} {off : Nat} (hh : w.heap[b]? = some (.cells (SV.concL F ρ ad cs).toArray ty (0, 0))) (h : wrC cs off vs = some cs') (h1 : vs.all SV.one = true) :
 BR P w b off (SV.concL F ρ ad vs) = .ok .skip (w.setRow b (SV.concL F ρ ad cs').toArray) /\ (w.setRow b (SV.concL F ρ ad cs').toArray).heap[b]? = some (.cells (SV.concL F ρ ad cs').toArray ty (0, 0)) /\ ∀ p, SV.okL p cs -> SV.okL p vs -> SV.okL p cs' := by
 unfold wrC at h
 split at h
 ·rename_i hl
  simp only [oJ] at h; subst h
  have hs := EA (P := P) (off := off) (vs := SV.concL F ρ ad vs) hh (by grind [Ac]) (Se h1)
  refine ⟨?_, setRow_heap w b _ _ _ _ hh, fun p hp hv => HE hp hv⟩
  rw [hs, CB]
 ·cases h
theorem JK {e : E} {off str b ty : Nat} {vs : List SV} (h1 : vs.all SV.one = true) : ∀ (c j : Nat) (cs cs' : List SV) (w : World), j + c < 1000000 -> w.heap[b]? = some (.cells (SV.concL F ρ ad cs).toArray ty (0, 0)) ->
 wrsC e off str vs c j cs = some cs' ->
 (∀ p, SV.okL p cs -> SV.okL p vs -> SV.okL p cs') /\
 ((e.den F ρ < j \/ ((j : Int) + c <= e.den F ρ)) -> SV.concL F ρ ad cs' = SV.concL F ρ ad cs) /\
 ((j : Int) <= e.den F ρ -> e.den F ρ < j + c -> BR P w b (off + (e.den F ρ).toNat * str) (SV.concL F ρ ad vs) = .ok .skip (w.setRow b (SV.concL F ρ ad cs').toArray))
 | 0, j, cs, cs', w, hj, hh, h => by
   grind [wrsC]
 | c + 1, j, cs, cs', w, hj, hh, h => by
   simp only [wrsC] at h
   split at h
   ·rename_i hl
    have hcmp := Ae .eql e (.lit (.i .i64) (j : Int)) F ρ
    have hjd : (E.lit (.i .i64) (j : Int)).den F ρ = j := by
     simp only [E.den, K.norm, IntKind.wrap, IntKind.signed, IntKind.bits]
     simp
     split <;> omega
    rw [hjd] at hcmp
    have hlen : vs.length = ((cs.drop (off + j * str)).take vs.length).length := by simp; omega
    have hmc := BO (F := F) (ρ := ρ) (ad := ad) hcmp.2 vs ((cs.drop (off + j * str)).take vs.length) hlen
    have hoks : ∀ p, SV.okL p cs -> SV.okL p vs -> SV.okL p (A0 cs (off + j * str) (BE (mkCmp .eql e (.lit (.i .i64) (j : Int))) vs ((cs.drop (off + j * str)).take vs.length))) := fun p hp hv =>
     HE hp (FE vs ((cs.drop (off + j * str)).take vs.length) hv (D4 (Fh hp _) _))
    by_cases he : e.den F ρ = j
    ·have ht : cmpB .eql (e.den F ρ) (j : Int) = true := by simp [cmpB, he]
     rw [hcmp.1, ht] at hmc
     simp only [cond_true] at hmc
     have hsp : SV.concL F ρ ad (A0 cs (off + j * str) (BE (mkCmp .eql e (.lit (.i .i64) (j : Int))) vs ((cs.drop (off + j * str)).take vs.length))) = SV.concL F ρ ad (A0 cs (off + j * str) vs) := by
      rw [CB, CB, hmc]
     obtain ⟨r1, r2, r3⟩ := Ph (P := P) (vs := vs) (off := off + j * str) (cs' := A0 cs (off + j * str) vs) hh (by simp [wrC, hl]) h1
     rw [<- hsp] at r1 r2
     obtain ⟨i1, i2, _⟩ := JK h1 c (j + 1) _ cs' _ (by omega) r2 h
     grind
    ·have ht : cmpB .eql (e.den F ρ) (j : Int) = false := by simp [cmpB, he]
     rw [hcmp.1, ht] at hmc
     simp only [cond_false] at hmc
     have hsp : SV.concL F ρ ad (A0 cs (off + j * str) (BE (mkCmp .eql e (.lit (.i .i64) (j : Int))) vs ((cs.drop (off + j * str)).take vs.length))) = SV.concL F ρ ad cs := by
      rw [CB, hmc, <- CB, OY cs _ _ hl]
     obtain ⟨i1, i2, i3⟩ := JK h1 c (j + 1) _ cs' w (by omega) (by rw [hsp]; exact hh) h
     grind
   ·cases h
def Came (r : Result Next) (v : Value) (w' : World) : Prop := r = .ok (.value v) w' \/ (r = .ok .skip w' /\ v = undef)
def Done (F : Fam) (ρ : Nat -> Int) (w0 : World) (M0 Im0 : Nat -> Prop) (ad : Nat -> Hd) (m m' : Mem) (r : Result Next) (v : SV) : Prop :=
 ∃ ad' w', Came r (v.conc F ρ ad') w' /\ Rel F ρ w0 M0 Im0 ad' m' w' /\ Ext ad ad' m m' /\ v.ok (al m')
theorem GOK.now (hG : GOK G Im0 w0) (hR : Rel F ρ w0 M0 Im0 ad m w) : GOK G Im0 w := by
 obtain ⟨hM, Im, h1, h2, hI⟩ := hR
 exact hG.fr hM hI.fr fun b hb => hb
theorem OZ (hG : GOK G Im0 w0) (hR : Rel F ρ w0 M0 Im0 ad m w) {d : D} {nm : Nat} {g : E} {v : SV} {m' : Mem} (hg : d.good F ρ (al m)) (h : apply G m nm d = some (g, v, m')) :
 g.kind = .b /\ (g.tt F ρ = true -> Done F ρ w0 M0 Im0 ad m m' (d.run P F ρ ad w) v) := by
 have cells : ∀ {n g ty cs}, m.at n = some (g, .cells ty cs) -> g.tt F ρ = true -> w.heap[(ad n).blk]? = some (.cells (SV.concL F ρ ad cs).toArray ty (0, 0)) /\ SV.okL (al m) cs := fun {n g ty cs} hn hg => by
  obtain ⟨hM, Im, h1, h2, hI⟩ := hR
  exact ⟨(hI.ent n g _ hn hg).1, hI.ok n g _ hn⟩
 have hcell : ∀ {b : Nat} {cs : List SV} {ty : Nat}, w.heap[b]? = some (.cells (SV.concL F ρ ad cs).toArray ty (0, 0)) -> ∀ j u, (SV.concL F ρ ad cs)[j]? = some u -> w.cell? ⟨b, 0 + j, none⟩ = some u := fun {b cs ty} hh j u hu => by
  rw [Nat.zero_add, Cx hh]; simpa using hu
 cases d with
 | val u =>
   simp only [apply, oJ, pJ] at h
   obtain ⟨rfl, rfl, rfl⟩ := h
   exact ⟨rfl, fun _ => ⟨ad, w, Or.inl rfl, hR, Ext.refl _ _, hg⟩⟩
 | ld n off sz ag =>
   simp only [apply] at h
   split at h
   ·rename_i g' ty cs hb
    obtain ⟨u, h1, h2⟩ := Option.map_eq_some_iff.1 h
    simp only [pJ] at h2
    obtain ⟨rfl, rfl, rfl⟩ := h2
    obtain ⟨b1, b2⟩ := Br hb
    refine ⟨b2, fun ht => ?_⟩
    obtain ⟨c1, c2⟩ := cells b1 ht
    obtain ⟨i1, i2⟩ := D9 (P := P) (base := 0) (hcell c1) h1
    rw [Nat.zero_add] at i1
    exact ⟨ad, w, Or.inl i1, hR, Ext.refl _ _, i2 _ c2⟩
   ·cases h
 | ldi n off str cnt e sz ag =>
   simp only [apply] at h
   split at h
   ·rename_i g' ty cs hb
    split at h
    ·rename_i hcnt
     obtain ⟨l, h1, h2⟩ := Option.map_eq_some_iff.1 h
     simp only [pJ] at h2
     obtain ⟨rfl, rfl, rfl⟩ := h2
     obtain ⟨b1, b2⟩ := Br hb
     refine ⟨b2, fun ht => ?_⟩
     obtain ⟨c1, c2⟩ := cells b1 ht
     obtain ⟨p1, p2⟩ := Me h1
     obtain ⟨g1, g2, g3⟩ := hg
     obtain ⟨u, s1, s2⟩ := JE (F := F) (ρ := ρ) (ad := ad) (e := e) l 0 (by omega) (by simpa using g3) (by rw [p1]; omega)
     have hr := p2 _ _ s1
     simp only [Nat.zero_add, Nat.sub_zero] at hr
     obtain ⟨i1, i2⟩ := D9 (P := P) (base := 0) (hcell c1) hr
     rw [Nat.zero_add] at i1
     refine ⟨ad, w, Or.inl ?_, hR, Ext.refl _ _, ?_⟩
     ·rw [s2]; exact i1
     ·refine Nk _ _ ?_
      rw [Cq]
      intro x hx
      obtain ⟨i, hi⟩ := List.getElem?_of_mem hx
      exact (D9 (P := P) (base := 0) (hcell c1) (p2 i x hi)).2 _ c2
    ·cases h
   ·cases h
 | ldg b off sz ag =>
   have hG' := hG.now hR
   cases ag with
   | true =>
     simp only [apply, cond_true] at h
     obtain ⟨l, h1, h2⟩ := Option.map_eq_some_iff.1 h
     simp only [pJ] at h2
     obtain ⟨rfl, rfl, rfl⟩ := h2
     obtain ⟨i1, i2, i3⟩ := JJ (F := F) (ρ := ρ) (ad := ad) hG' h1
     refine ⟨rfl, fun _ => ⟨ad, w, Or.inl ?_, hR, Ext.refl _ _, by grind [SV.ok, al]⟩⟩
     have := Md (P := P) (w := w) (b := b) (off := off) (cs := SV.concL F ρ ad l) i3
     have hl : (SV.concL F ρ ad l).length = sz := by rw [Ac]; simpa using i1
     rw [hl] at this
     exact this
   | false =>
     simp only [apply, cond_false] at h
     obtain ⟨u, h1, h2⟩ := Option.map_eq_some_iff.1 h
     simp only [pJ] at h2
     obtain ⟨rfl, rfl, rfl⟩ := h2
     obtain ⟨_, g1, g2, g3⟩ := hG' F ρ b off u h1
     refine ⟨rfl, fun _ => ⟨ad, w, Or.inl ?_, hR, Ext.refl _ _, SV.ok_mono (fun _ f => f.elim) u g3⟩⟩
     refine HR sz ?_
     rw [g2, SV.conc_congr (ad' := ad) (p := fun _ => False) (fun _ f => f.elim) u g3]
 | st n off vs =>
   simp only [apply] at h
   split at h
   ·rename_i g' ty cs hb
    obtain ⟨cs', h1, h2⟩ := Option.map_eq_some_iff.1 h
    simp only [pJ] at h2
    obtain ⟨rfl, rfl, rfl⟩ := h2
    obtain ⟨b1, b2⟩ := Br hb
    refine ⟨b2, fun ht => ?_⟩
    obtain ⟨c1, c2⟩ := cells b1 ht
    obtain ⟨r1, r2, r3⟩ := Ph (P := P) c1 h1 hg.2.2
    refine ⟨ad, _, Or.inr ⟨r1, rfl⟩, hR.turn b1 (Fr.setRow _ _) (fun b hb => ⟨by rw [hb]; rfl, ht⟩) (fun Im _ _ => r2) (fun b hb => hb) (r3 _ c2 hg.2.1), Ext.set ad b1, trivial⟩
   ·cases h
 | sti n off str cnt e vs =>
   simp only [apply] at h
   split at h
   ·rename_i g' ty cs hb
    split at h
    ·rename_i hcnt
     obtain ⟨cs', h1, h2⟩ := Option.map_eq_some_iff.1 h
     simp only [pJ] at h2
     obtain ⟨rfl, rfl, rfl⟩ := h2
     obtain ⟨b1, b2⟩ := Br hb
     refine ⟨b2, fun ht => ?_⟩
     obtain ⟨c1, c2⟩ := cells b1 ht
     obtain ⟨g1, g2, g3, g4, g5⟩ := hg
     obtain ⟨r1, _, r3⟩ := JK (P := P) g3 cnt 0 cs cs' w (by omega) c1 h1
     have r := r3 (by simpa using g5) (by omega)
     refine ⟨ad, _, Or.inr ⟨r, rfl⟩, hR.turn b1 (Fr.setRow _ _) (fun b hb => ⟨by rw [hb]; rfl, ht⟩) (fun Im _ _ => setRow_heap w _ _ _ _ _ c1) (fun b hb => hb) (r1 _ c2 g2), Ext.set ad b1, trivial⟩
    ·cases h
   ·cases h
 | new ty cs sl =>
   simp only [apply] at h
   split at h
   ·rename_i hc
    simp only [oJ, pJ] at h
    obtain ⟨rfl, rfl, rfl⟩ := h
    refine ⟨rfl, fun _ => ?_⟩
    have hcg : SV.concL F ρ (upd ad nm ⟨w.heap.size, 0, 0, false, undef⟩) cs = SV.concL F ρ ad cs := (SV.concL_congr (Ki hc.2 _) cs hg.1).symm
    have hnew : (w.alloc (.cells (SV.concL F ρ ad cs).toArray ty)).heap[w.heap.size]? = some (.cells (SV.concL F ρ ad cs).toArray ty (0, 0)) := (MapKept.heap_alloc w _).1
    refine ⟨upd ad nm ⟨w.heap.size, 0, 0, false, undef⟩, w.alloc (.cells (SV.concL F ρ ad cs).toArray ty), Or.inl ?_, ?_, ?_, ?_⟩
    ·grind [D.run, SV.conc, Au]
    ·obtain ⟨hM, Im, h1, h2, hI⟩ := hR
     refine ⟨hM, Im, h1, h2, hI.put (ns := []) (T := fun _ => False) (Fr.alloc _ _ _) (fun b hb => hb.elim) hc.1 hc.2 ?_ (fun b hb => ?_) hg.1⟩
     ·grind [BlkOK, Au]
     grind [mutB, Au]
    ·exact Ext.put (ns := []) _ hc.1 hc.2
    ·have := Ez (m := m) (ns := []) (nm := nm) (y := (mkB true, Blk.cells ty cs)) hc.1
     cases sl <;> exact this
   ·cases h
 | call f args => simp [apply] at h
end
section
variable {P : Program} {F : Fam} {ρ : Nat -> Int} {G : Glob} {w0 w w' : World} {M0 Im0 Im Im' T : Nat -> Prop} {ad ad' : Nat -> Hd} {m m' : Mem} {q : Row} {ks : List K}
theorem Fo : ∀ {q : Row} {ks : List K}, Cu q = some ks -> q = Row.ofKs ks
 | .nil, ks, h => by simp [Cu] at h; subst h; rfl
 | .c k r, ks, h => by
   simp only [Cu] at h
   obtain ⟨ks', h1, rfl⟩ := Option.map_eq_some_iff.1 h
   rw [Fo h1]; rfl
 | .ls .., ks, h => by simp [Cu] at h
theorem AE : ∀ ks : List K, (Row.ofKs ks).size = ks.length
 | [] => rfl
 | k :: ks => by simp [Row.ofKs, Row.size, AE ks]
theorem Be : ∀ {ks : List K} {zs : List Int} {vs : List Value}, RowV w Im (Row.ofKs ks) zs vs ↔ fits ks zs /\ vs = numV ks zs
 | [], zs, vs => by
   simp only [Row.ofKs, RowV]
   constructor
   ·rintro ⟨rfl, rfl⟩; exact ⟨trivial, rfl⟩
   ·rintro ⟨h1, h2⟩
    cases zs with
    | nil => exact ⟨rfl, h2⟩
    | cons _ _ => exact h1.elim
 | k :: ks, zs, vs => by
   simp only [Row.ofKs, RowV]
   constructor
   ·rintro ⟨z, zs', vs', rfl, rfl, h3, h4⟩
    obtain ⟨i1, i2⟩ := Be.1 h4
    exact ⟨⟨h3, i1⟩, by simp [numV, i2]⟩
   ·rintro ⟨h1, h2⟩
    cases zs with
    | nil => exact h1.elim
    | cons z zs => exact ⟨z, zs, numV ks zs, rfl, by rw [h2]; rfl, h1.1, Be.2 ⟨h1.2, rfl⟩⟩
theorem JL {ks : List K} {zs : List Int} (h : fits ks zs) : (numV ks zs).length = ks.length := by simp [numV, Am h]
theorem Cr {ks ls : List K} {xs ys : List Int} (h : fits ks xs) (h' : fits ls ys) : fits (ks ++ ls) (xs ++ ys) := by
 induction ks generalizing xs with
 | nil => cases xs with
   | nil => exact h'
   | cons _ _ => exact h.elim
 | cons k ks ih => cases xs with
   | nil => exact h.elim
   | cons x xs => exact ⟨h.1, ih h.2⟩
theorem Mf : ∀ {ks : List K} {xs : List Int} (n : Nat), fits ks xs -> fits (ks.take n) (xs.take n)
 | [], [], n, _ => by simp [fits]
 | [], _ :: _, _, h => h.elim
 | _ :: _, [], _, h => h.elim
 | k :: ks, x :: xs, 0, _ => by simp [fits]
 | k :: ks, x :: xs, n + 1, h => by simp only [List.take_succ_cons]; exact ⟨h.1, Mf n h.2⟩
theorem Mg : ∀ {ks : List K} {xs : List Int} (n : Nat), fits ks xs -> fits (ks.drop n) (xs.drop n)
 | [], [], n, _ => by simp [fits]
 | [], _ :: _, _, h => h.elim
 | _ :: _, [], _, h => h.elim
 | k :: ks, x :: xs, 0, h => h
 | k :: ks, x :: xs, n + 1, h => by simp only [List.drop_succ_cons]; exact Mg n h.2
theorem O0 {ks ls : List K} {xs ys : List Int} (h : fits ks xs) : numV (ks ++ ls) (xs ++ ys) = numV ks xs ++ numV ls ys := by
 grind [numV, Am]
theorem Sf (ks : List K) (xs : List Int) (n : Nat) : (numV ks xs).take n = numV (ks.take n) (xs.take n) := by grind [numV]
theorem Si (ks : List K) (xs : List Int) (n : Nat) : (numV ks xs).drop n = numV (ks.drop n) (xs.drop n) := by grind [numV]
theorem HS {zs es : List Int} {o : Nat} (h : fits ks zs) (he : fits ((ks.drop o).take es.length) es) (hl : o + es.length <= ks.length) :
 fits ks (splR zs o es) /\ numV ks (splR zs o es) = (numV ks zs).take o ++ numV ((ks.drop o).take es.length) es ++ (numV ks zs).drop (o + es.length) := by
 have e : ks = ks.take o ++ (ks.drop o).take es.length ++ ks.drop (o + es.length) := by
  rw [List.append_assoc, <- List.drop_drop, List.take_append_drop, List.take_append_drop]
 grind [Mf, Mg, splR, Cr, O0, Sf, Si]
theorem Ns (c i : E) : ∀ (ks : List K) (j : Nat), (celS c i ks j).length = ks.length
 | [], _ => rfl
 | k :: ks, j => by simp [celS, Ns c i ks (j + 1)]
theorem LD (c i : E) (p : Nat -> Prop) : ∀ (ks : List K) (j : Nat), SV.okL p (celS c i ks j)
 | [], _ => trivial
 | k :: ks, j => ⟨trivial, LD c i p ks (j + 1)⟩
theorem Pj (hB : BI F) (k : K) (c i : E) (j : Nat) : (CEL k c i j).den F ρ = k.norm (((dc (c.den F ρ)).getD (i.den F ρ).toNat []).getD j 0) := by
 simp only [CEL, E.den, E.denL, K.norm]
 rw [hB]
 simp [bi, K.norm]
theorem AH (hB : BI F) (k : K) (j : Nat) (aZ : List E) : (E.app k 0 j aZ).den F ρ = k.norm (bi j (aZ.map (E.den F ρ))) := by
 simp only [E.den, E3]
 rw [hB]
theorem Js (hB : BI F) (ρ : Nat -> Int) : ∀ (n : Nat) {c : E} {l : List (List E)}, HQ n c = some l -> dc (c.den F ρ) = (l.reverse.map fun es => es.map (E.den F ρ))
 | 0, c, l, h => by simp [HQ] at h
 | n + 1, c, l, h => by
   unfold HQ at h
   split at h
   ·rename_i heq; cases heq
   ·grind [E.den, NILL, cd, BI.nil, dc, Ab]
   ·rename_i n' c0 es heq
    cases heq
    obtain ⟨l0, h0, rfl⟩ := Option.map_eq_some_iff.1 h
    rw [AH hB]
    simp only [List.map_cons, bi, K.norm, Ab, Js hB ρ n h0, List.reverse_cons, List.map_append, List.map_nil]
   ·cases h
theorem Vj (hB : BI F) (k : K) (c i : E) (j : Nat) : (cel k c i j).val F ρ = (CEL k c i j).val F ρ := by
 unfold cel
 split
 ·rename_i n hn
  split
  ·rename_i l hl
   split
   ·rename_i e he
    split
    ·rename_i hc
     obtain ⟨es, h1, h2⟩ := Option.bind_eq_some_iff.1 he
     have hd := Js hB ρ _ hl
     rw [<- Bj, <- Bj, show (CEL k c i j).kind = k from rfl, hc.1, Pj hB, hd, E.lit?_den hn]
     grind [E.den, E.den_norm]
    ·rfl
   ·rfl
  ·rfl
 ·rfl
theorem HT (hB : BI F) {c i : E} {r : List Int} (hr : (dc (c.den F ρ)).getD (i.den F ρ).toNat [] = r) : ∀ (ks : List K) (j : Nat) (zs : List Int), fits ks zs -> (∀ t, r.getD (j + t) 0 = zs.getD t 0) ->
 SV.concL F ρ ad (celS c i ks j) = numV ks zs
 | [], _, zs, h, _ => by cases zs with
   | nil => rfl
   | cons _ _ => exact h.elim
 | k :: ks, j, zs, h, hz => by
   cases zs with
   | nil => exact h.elim
   | cons z zs =>
     have h0 := hz 0
     simp only [Nat.add_zero, List.getD_cons_zero] at h0
     simp only [celS, SV.concL, SV.conc, numV, List.zipWith_cons_cons]
     have hv : (cel k c i j).val F ρ = k.val z := by
      rw [Vj hB, <- Bj]
      show k.val _ = _
      rw [Pj hB, hr, h0, h.1]
     rw [hv, HT hB hr ks (j + 1) zs h.2 fun t => by have := hz (t + 1); grind]
     rfl
theorem Fp (F : Fam) (ρ : Nat -> Int) (ad : Nat -> Hd) : ∀ {ks : List K} {cs : List SV} {es : List E}, scs ks cs = some es ->
 fits ks (es.map (E.den F ρ)) /\ SV.concL F ρ ad cs = numV ks (es.map (E.den F ρ)) /\ es.length = cs.length
 | [], [], es, h => by simp [scs] at h; subst h; exact ⟨trivial, rfl, rfl⟩
 | [], _ :: _, es, h => by simp [scs] at h
 | _ :: _, [], es, h => by simp [scs] at h
 | k :: ks, v :: cs, es, h => by
   cases v with
   | sc e =>
     simp only [scs] at h
     split at h
     ·rename_i hk
      obtain ⟨rfl, hs⟩ := hk
      obtain ⟨es', h1, rfl⟩ := Option.map_eq_some_iff.1 h
      obtain ⟨i1, i2, i3⟩ := Fp F ρ ad h1
      refine ⟨⟨E.den_norm F ρ e hs, i1⟩, ?_, by simp [i3]⟩
      simp [SV.concL, SV.conc, numV, i2, Bj]
     ·cases h
   | _ => simp [scs] at h
theorem EP (hB : BI F) : ∀ {n : Nat} {cs : List SV} {c c' : E}, Dk ks n cs c = some c' -> isCd (c.den F ρ) -> c.kind = .x -> ∃ rows : RL, c'.den F ρ = cd (dc (c.den F ρ) ++ rows) /\ c'.kind = .x /\ rows.length = n /\ RowsV w Im (Row.ofKs ks) rows (SV.concL F ρ ad cs)
 | 0, cs, c, c', h, hc, hk => by
   simp only [Dk] at h
   split at h
   ·rename_i hl
    simp only [oJ] at h; subst h
    have : cs = [] := List.eq_nil_of_length_eq_zero hl
    subst this
    exact ⟨[], by rw [List.append_nil]; exact hc.symm, hk, rfl, rfl⟩
   ·cases h
 | n + 1, cs, c, c', h, hc, hk => by
   simp only [Dk] at h
   split at h
   ·rename_i es hes
    obtain ⟨i1, i2, i3⟩ := Fp F ρ ad hes
    have hd : (E.app .x 0 3 (c :: es)).den F ρ = cd (dc (c.den F ρ) ++ [es.map (E.den F ρ)]) := by
     rw [AH hB]; rfl
    obtain ⟨rows, r1, r2, r3, r4⟩ := EP hB (n := n) h (by simp_all) rfl
    refine ⟨es.map (E.den F ρ) :: rows, ?_, r2, by simp [r3], ?_⟩
    ·simp_all
    ·refine ⟨numV ks (es.map (E.den F ρ)), SV.concL F ρ ad (cs.drop ks.length), ?_, Be.2 ⟨i1, rfl⟩, r4⟩
     rw [<- i2, Ac, Ac, Ac, List.map_take, List.map_drop, List.take_append_drop]
   ·cases h
theorem flatL {b : Nat} : ∀ {l : RL} {o : Nat}, (∀ i r', l[i]? = some r' -> ∃ us, RowV w Im q r' us /\ ∀ j u, us[j]? = some u -> w.cell? ⟨b, o + i * q.size + j, none⟩ = some u) ->
 ∃ xs, RowsV w Im q l xs /\ ∀ j u, xs[j]? = some u -> w.cell? ⟨b, o + j, none⟩ = some u
 | [], o, h => ⟨[], rfl, fun j u hj => by simp at hj⟩
 | r :: l, o, h => by
   obtain ⟨us, u1, u2⟩ := h 0 r (by simp)
   obtain ⟨xs, x1, x2⟩ := flatL (l := l) (o := o + q.size) fun i r' hi => by
    obtain ⟨vs, v1, v2⟩ := h (i + 1) r' (by simpa using hi)
    refine ⟨vs, v1, fun j u hu => ?_⟩
    have := v2 j u hu
    rw [Nat.succ_mul] at this
    rwa [show o + q.size + i * q.size + j = o + (i * q.size + q.size) + j by omega]
   refine ⟨us ++ xs, ⟨us, xs, rfl, u1, x1⟩, fun j u hj => ?_⟩
   have hl := u1.len.1
   grind
theorem FZ {e size bytes : Nat} (h : Cy P e = some (size, bytes)) : ∃ i z, P.info? e = some i /\ i.zero = some z /\ i.size = size /\ i.bytes = bytes /\ z.cells.size = size /\ 0 < size := by
 unfold Cy at h
 obtain ⟨i, h1, h2⟩ := Option.bind_eq_some_iff.1 h
 obtain ⟨z, h3, h4⟩ := Option.bind_eq_some_iff.1 h2
 grind
theorem ER {n bytes : Nat} (h : (n : Int) <= Ba bytes) : n * bytes <= 140737488355328 /\ n <= maxLen := by
 have h' : n <= Ba bytes := by omega
 unfold Ba at h'
 have h1 : n * max bytes 1 <= 140737488355328 := by
  have := (Nat.le_div_iff_mul_le (by omega)).1 h'
  exact this
 have h2 : n * bytes <= n * max bytes 1 := Nat.mul_le_mul_left _ (by omega)
 have h3 : n * 1 <= n * max bytes 1 := Nat.mul_le_mul_left _ (by omega)
 simp only [maxLen]
 omega
theorem Bw {n : Nat} (h : n <= maxLen) : IntKind.i64.wrap (n : Int) = n := by
 simp only [maxLen] at h
 simp only [IntKind.wrap, IntKind.signed, IntKind.bits]
 simp
 split <;> omega
theorem Mh {α : Type} (cl V us : List α) (A s o N : Nat) (h : us = ((cl.take N).drop A).take s) (h1 : o + V.length <= s) (h2 : A + s <= N) (h3 : N <= cl.length) :
 (cl.take (A + o) ++ V ++ cl.drop (A + o + V.length)).take N = (cl.take N).take A ++ (us.take o ++ V ++ us.drop (o + V.length)) ++ (cl.take N).drop (A + s) := by
 have hul : us.length = s := by rw [h]; simp; omega
 have e1 : (cl.take N).take A = cl.take A := by rw [List.take_take]; congr 1; omega
 have e2 : cl.take (A + o) = cl.take A ++ us.take o := by
  rw [h, List.take_take, List.drop_take, List.take_take, <- List.take_add]
  congr 2
  omega
 rw [e1, e2]
 have e3 : (cl.drop (A + o + V.length)).take (N - (A + o + V.length)) = us.drop (o + V.length) ++ (cl.take N).drop (A + s) := by
  rw [h, <- List.drop_take]
  apply List.ext_getElem?
  intro j
  simp only [List.getElem?_append, List.getElem?_drop, List.getElem?_take, List.length_drop, List.length_take]
  split <;> split <;> (try split) <;> (try split) <;> first | rfl | omega | (congr 1; omega)
 have l1 : (cl.take A).length = A := by simp; omega
 have l2 : (us.take o).length = o := by simp; omega
 have lX : (cl.take A ++ us.take o ++ V).length = A + o + V.length := by rw [List.length_append, List.length_append, l1, l2]
 rw [List.take_append, List.take_of_length_le (by rw [lX]; omega), lX, e3]
 simp
theorem OwL.set {ty : Nat} {hd : Hd} {l : RL} (ho : OwL w Im ty (Row.ofKs ks) hd l) {i o : Nat} {es : List Int} {z : List Int} (hz : l[i]? = some z) (he : fits ((ks.drop o).take es.length) es) (hl : o + es.length <= ks.length) :
 ∃ w', BR P w hd.blk (hd.off + i * ks.length + o) (numV ((ks.drop o).take es.length) es) = .ok .skip w' /\ Fr (fun b => (hd.sl l.length).ownBlock = some b) w w' /\
   (∀ w1, Fr (fun b => (hd.sl l.length).ownBlock = some b) w w1 -> w1 = w' -> (∀ b, Im b -> w1.heap[b]? = w.heap[b]?) -> OwL w1 Im ty (Row.ofKs ks) hd (l.set i (splR z o es))) := by
 obtain ⟨h1, xs, h2, h3⟩ := ho
 have hi : i < l.length := (List.getElem?_eq_some_iff.1 hz).1
 have hsz := AE ks
 rcases h2.2 with ⟨hn, hl0⟩ | ⟨g, cap, cur, e, k1, k2, k3, k4, k5, k6⟩
 ·omega
 ·have hg : (hd.sl l.length).ownBlock = some g := by rw [e]; rfl
  have hgb := Hd.own_blk hg
  subst hgb
  have hoff : hd.off = 0 /\ hd.cap = cap := by
   unfold Hd.sl at e
   cases hnn : hd.nil && l.length == 0
   ·simp_all
   ·simp_all
  rw [hsz] at k5 k6
  have hx := h3.len
  rw [hsz] at hx
  have hnl := JL he
  have hvl : (numV ((ks.drop o).take es.length) es).length = es.length := by rw [hnl]; simp; omega
  have hmul : i * ks.length + ks.length <= l.length * ks.length := by
   have : (i + 1) * ks.length <= l.length * ks.length := Nat.mul_le_mul_right _ hi
   rwa [Nat.succ_mul] at this
  have hcap : l.length * ks.length <= cap * ks.length := Nat.mul_le_mul_right _ k3
  have hones : ∀ v ∈ numV ((ks.drop o).take es.length) es, v.oneCell' = true := fun v hv => RowV.one (w := w) (Im := Im) (Be.2 ⟨he, rfl⟩) v hv
  have hst := EA (P := P) (off := i * ks.length + o) (vs := numV ((ks.drop o).take es.length) es) k2 (by rw [hvl, k5]; omega) hones
  rw [hoff.1, Nat.zero_add]
  refine ⟨_, hst, ?_, ?_⟩
  ·exact (Fr.setRow _ _).mono fun b hb => by rw [hb]; exact hg
  ·rintro w1 hf rfl hIm
   obtain ⟨us, u1, u2⟩ := h3.get i z hz
   obtain ⟨f1, f2⟩ := Be.1 u1
   obtain ⟨s1, s2⟩ := HS f1 he hl
   refine ⟨by simpa using h1, _, ⟨?_, .inr ⟨hd.blk, cap, _, ?_, k1, setRow_heap w hd.blk cur _ ty _ k2, by simpa using k3, k4, ?_, rfl⟩⟩, ?_⟩
   ·grind
   ·grind
   ·grind
   ·have hset := RowsV.set (w := w) (Im := Im) h3 i (splR z o es) (numV ks (splR z o es)) hi (Be.2 ⟨s1, rfl⟩)
    rw [hsz] at hset
    have hxs : xs = xs.take (i * ks.length) ++ us ++ xs.drop (i * ks.length + ks.length) := by
     have hul := u1.len.1
     rw [hsz] at hul
     apply List.ext_getElem?
     intro j
     by_cases hj1 : j < i * ks.length
     ·grind
     ·by_cases hj2 : j < i * ks.length + ks.length
      ·have hlt : j - i * ks.length < us.length := by omega
       have := u2 (j - i * ks.length) us[j - i * ks.length] (by simp [hlt])
       grind
      ·rw [List.getElem?_append_right (by simp; omega), List.getElem?_drop]
       grind
    have hfin : ((cur.toList.take (i * ks.length + o) ++ numV ((ks.drop o).take es.length) es ++ cur.toList.drop (i * ks.length + o + (numV ((ks.drop o).take es.length) es).length)).toArray.toList.take ((l.set i (splR z o es)).length * (Row.ofKs ks).size)) =
     xs.take (i * ks.length) ++ numV ks (splR z o es) ++ xs.drop (i * ks.length + ks.length) := by
     have hul := u1.len.1
     rw [hsz] at hul
     have hus : us = ((cur.toList.take (l.length * ks.length)).drop (i * ks.length)).take ks.length := by
      apply List.ext_getElem?
      intro j
      by_cases hj : j < ks.length
      ·grind
      ·grind
     have hseg := Mh cur.toList (numV ((ks.drop o).take es.length) es) us (i * ks.length) ks.length o (l.length * ks.length) hus (by rw [hvl]; exact hl) hmul (by grind)
     rw [hvl] at hseg
     rw [s2, <- f2, hsz, List.length_set, <- k6, hvl]
     exact hseg
    grind [RowsV.fr]
end
section
variable {P : Program} {F : Fam} {ρ : Nat -> Int} {G : Glob} {w0 w w' : World} {M0 Im0 Im Im' T : Nat -> Prop} {ad ad' : Nat -> Hd} {m m' : Mem} {q : Row} {ks : List K}
theorem Mi (hB : BI F) (hR : Rel F ρ w0 M0 Im0 ad m w) {ty : Nat} {row : Row} {x : SV} {V : LV} (h : Ag m ty row x = some V) :
 V.g.kind = .b /\ (V.g.tt F ρ = true -> Done F ρ w0 M0 Im0 ad m m (lenR (x.conc F ρ ad) w) (.sc V.le)) := by
 obtain ⟨k1, k2, k3⟩ := AS h
 refine ⟨k3, fun hg => ?_⟩
 have hR' := hR
 obtain ⟨hM, Im, h1, h2, hI⟩ := hR
 obtain ⟨hd, o1, o2, o3, o4, o5, o6, o7⟩ := Bb hB hI h hg
 refine ⟨ad, w, Or.inl ?_, hR', Ext.refl _ _, trivial⟩
 rw [o1]
 simp only [SV.conc, E.val_i k1, o3]
 rcases LC hd (dc (V.c.den F ρ)).length with ⟨e, h0⟩ | e
 ·rw [e, h0]; rfl
 ·rw [e]; rfl
theorem HU {i le : E} {n : Nat} (hle : le.den F ρ = (n : Int)) (h : (inB i le).tt F ρ = true) : (i.den F ρ).toNat < n /\ ((i.den F ρ).toNat : Int) = i.den F ρ := by
 grind [Al]
theorem Mj (hB : BI F) (hR : Rel F ρ w0 M0 Im0 ad m w) {n : Nat} {g : E} {ty : Nat} {row : Row} {own : Bool} {le c i : E} (hn : m.at n = some (g, .lst ty row own le c)) (hk : g.kind = .b) (hr : Cu row = some ks)
 {o sz : Nat} {ag : Bool} {v : SV} (hv : rdC (celS c i ks 0) o sz ag = some v) :
 (mkAnd g (inB i le)).kind = .b /\ ((mkAnd g (inB i le)).tt F ρ = true -> Done F ρ w0 M0 Im0 ad m m (BF P w (ad n).blk ((ad n).off + (i.den F ρ).toNat * ks.length + o) sz ag) v) := by
 have hm := Aa g (inB i le) hk (Al (F := F) (ρ := ρ)).1 F ρ
 refine ⟨hm.2, fun hg => ?_⟩
 rw [hm.1, Bool.and_eq_true] at hg
 have hR' := hR
 obtain ⟨hM, Im, h1, h2, hI⟩ := hR
 obtain ⟨⟨i1, i2, i3⟩, _⟩ := hI.ent n g _ hn hg.1
 obtain ⟨b1, b2⟩ := HU i2 hg.2
 have hrd : RdL w Im row (ad n) (dc (c.den F ρ)) := by
  cases own
  ·exact ShL.rd i3
  ·exact OwL.rd i3
 have hq := Fo hr
 subst hq
 obtain ⟨us, u1, u2⟩ := hrd.2.2 (i.den F ρ).toNat _ (List.getElem?_eq_getElem b1)
 obtain ⟨f1, f2⟩ := Be.1 u1
 have hget : (dc (c.den F ρ)).getD (i.den F ρ).toNat [] = (dc (c.den F ρ))[(i.den F ρ).toNat] := by simp [List.getD, b1]
 have hconc := HT (ad := ad) hB hget ks 0 _ f1 (fun t => by rw [Nat.zero_add])
 rw [AE] at u2
 obtain ⟨r1, r2⟩ := D9 (P := P) (F := F) (ρ := ρ) (ad := ad) (b := (ad n).blk) (base := (ad n).off + (i.den F ρ).toNat * ks.length) (fun j u hu => by
  rw [hconc, <- f2] at hu
  exact u2 j u hu) hv
 exact ⟨ad, w, Or.inl r1, hR', Ext.refl _ _, r2 _ (LD c i _ ks 0)⟩
theorem G3 (k : K) : ∀ (l : List SV), (∀ x ∈ sameK k l, x.kind = k) /\ ∀ (j : Nat) (x : E), (sameK k l)[j]? = some x -> l[j]? = some (SV.sc x)
 | [] => ⟨fun x hx => by simp [sameK] at hx, fun j x h => by simp [sameK] at h⟩
 | v :: l => by
   obtain ⟨i1, i2⟩ := G3 k l
   have hv : (∃ e, v = .sc e) \/ sameK k (v :: l) = [] := by cases v <;> first | exact Or.inl ⟨_, rfl⟩ | exact Or.inr rfl
   grind [E.kind, sameK]
theorem Sj (l : List SV) : (∃ k, ∀ x ∈ runE l, x.kind = k) /\ ∀ (j : Nat) (x : E), (runE l)[j]? = some x -> l[j]? = some (SV.sc x) := by
 unfold runE
 split
 ·rename_i e r
  exact ⟨⟨e.kind, (G3 e.kind (.sc e :: r)).1⟩, (G3 e.kind (.sc e :: r)).2⟩
 simp_all
theorem Mk {e : E} {k : K} : ∀ (es : List E) (j : Nat), (∀ x ∈ es, x.kind = k) -> (j : Int) <= e.den F ρ -> e.den F ρ < j + es.length -> j + es.length <= 1000000 ->
 ∃ x, es[(e.den F ρ).toNat - j]? = some x /\ (selE e j es).val F ρ = x.val F ρ /\ (selE e j es).kind = k
 | [], j, _, h1, h2, _ => by simp at h2; omega
 | [x], j, hk, h1, h2, _ => by
   simp only [List.length_singleton] at h2
   have : (e.den F ρ).toNat - j = 0 := by omega
   rw [this]
   exact ⟨x, rfl, rfl, hk x (by simp)⟩
 | x :: y :: r, j, hk, h1, h2, h3 => by
   simp only [List.length_cons] at h2 h3
   have hc := Ae .eql e (.lit (.i .i64) (j : Int)) F ρ
   have hl : (E.lit (.i .i64) (j : Int)).den F ρ = j := by
    show IntKind.i64.wrap (j : Int) = j
    rw [IntKind.wrap_i64]; omega
   have hkr : (selE e (j + 1) (y :: r)).kind = k := by
    have : ∀ (es : List E) (j : Nat), es ≠ [] -> (∀ x ∈ es, x.kind = k) -> (selE e j es).kind = k := by
     intro es
     induction es with
     | nil => simp_all
     | cons a es ih =>
       intro j _ hk
       cases es with
       | nil => exact hk a (by simp)
       | cons b es =>
         have h2 := ih (j + 1) (by simp) fun x hx => hk x (List.mem_cons_of_mem _ hx)
         have := (A9 (mkCmp .eql e (.lit (.i .i64) (j : Int))) a (selE e (j + 1) (b :: es)) (Ae .eql e (.lit (.i .i64) (j : Int)) F ρ).2 (by simp_all) F ρ).2
         grind [selE]
    exact this _ _ (by simp) fun x hx => hk x (List.mem_cons_of_mem _ hx)
   have hi := A9 (mkCmp .eql e (.lit (.i .i64) (j : Int))) x (selE e (j + 1) (y :: r)) hc.2 (by simp_all) F ρ
   have hk' : (selE e j (x :: y :: r)).kind = k := by simp only [selE]; rw [hi.2]; exact hk x (by simp)
   by_cases c : e.den F ρ = j
   ·grind [E.den, selE, cmpB]
   ·obtain ⟨z, z1, z2, z3⟩ := Mk (e := e) (k := k) (y :: r) (j + 1) (fun x hx => hk x (List.mem_cons_of_mem _ hx)) (by omega) (by grind) (by grind)
    grind [E.den, selE, cmpB]
theorem Sk (hB : BI F) (hR : Rel F ρ w0 M0 Im0 ad m w) {n : Nat} {g : E} {ty : Nat} {row : Row} {own : Bool} {le c i q e : E} (hn : m.at n = some (g, .lst ty row own le c)) (hk : g.kind = .b) (hr : Cu row = some ks)
 (hs : Nr ks.length i = some (q, e)) (hl : ks.length <= 1000) {o : Nat} :
 (mkAnd (mkAnd g (inB q le)) (mkAnd (inB q big9) (inB e (.lit (.i .i64) (runE ((celS c q ks 0).drop o)).length)))).kind = .b /\
 ((mkAnd (mkAnd g (inB q le)) (mkAnd (inB q big9) (inB e (.lit (.i .i64) (runE ((celS c q ks 0).drop o)).length)))).tt F ρ = true ->
   Done F ρ w0 M0 Im0 ad m m (BF P w (ad n).blk ((ad n).off + (i.den F ρ).toNat * 1 + o) 1 false) (.sc (selE e 0 (runE ((celS c q ks 0).drop o))))) := by
 have k1 := Aa g (inB q le) hk (Al (F := F) (ρ := ρ)).1 F ρ
 have k2 := Aa (inB q big9) (inB e (.lit (.i .i64) (runE ((celS c q ks 0).drop o)).length)) (Al (F := F) (ρ := ρ)).1 (Al (F := F) (ρ := ρ)).1 F ρ
 have k3 := Aa _ _ k1.2 k2.2 F ρ
 refine ⟨k3.2, fun hg => ?_⟩
 rw [k3.1, Bool.and_eq_true, k2.1, Bool.and_eq_true] at hg
 obtain ⟨g1, g2, g3⟩ := hg
 obtain ⟨⟨kk, r1⟩, r2⟩ := Sj ((celS c q ks 0).drop o)
 obtain ⟨es, hes⟩ : ∃ es, runE ((celS c q ks 0).drop o) = es := ⟨_, rfl⟩
 rw [hes] at g3 r1 r2 ⊢
 have hesl : es.length <= 1000 := by
  rcases Nat.lt_or_ge 1000 es.length with h | h
  ·have h1 := r2 1000 es[1000] (List.getElem?_eq_getElem h)
   grind [Ns]
  ·exact h
 have hbig : big9.den F ρ = 1000000000 := BK (n := 1000000000) (Nat.le_refl _)
 obtain ⟨b1, b2⟩ := (Al (F := F) (ρ := ρ)).2 g2
 obtain ⟨b3, b4⟩ := (Al (F := F) (ρ := ρ)).2 g3
 rw [hbig] at b2
 rw [BK (by omega)] at b4
 obtain ⟨x, x1, x2, x3⟩ := Mk (F := F) (ρ := ρ) (e := e) es 0 r1 (by simpa using b3) (by simpa using b4) (by omega)
 rw [Nat.sub_zero] at x1
 have hc := r2 _ _ x1
 rw [List.getElem?_drop] at hc
 have hd := (Mj (P := P) (i := q) (o := o + (e.den F ρ).toNat) (sz := 1) (ag := false) (v := .sc x) hB hR hn hk hr (by simpa [rdC] using hc)).2 g1
 have hi : i.den F ρ = q.den F ρ * ks.length + e.den F ρ := by
  unfold Nr at hs
  split at hs
  ·rename_i q' s e'
   split at hs
   ·rename_i hh
    simp only [oJ, pJ] at hs
    obtain ⟨rfl, rfl⟩ := hs
    obtain ⟨rfl, _, _⟩ := hh
    have m1 : 0 <= q'.den F ρ * (ks.length : Int) := Int.mul_nonneg b1 (by omega)
    have m2 : q'.den F ρ * (ks.length : Int) <= 1000000000 * 1000 := Int.mul_le_mul (by omega) (by omega) (by omega) (by omega)
    show IntKind.i64.wrap (IntKind.i64.wrap (q'.den F ρ * IntKind.i64.wrap (ks.length : Int)) + e'.den F ρ) = _
    have w1 : IntKind.i64.wrap (ks.length : Int) = ks.length := by rw [IntKind.wrap_i64]; omega
    rw [w1]
    have w2 : IntKind.i64.wrap (q'.den F ρ * (ks.length : Int)) = q'.den F ρ * ks.length := by rw [IntKind.wrap_i64]; omega
    rw [w2, IntKind.wrap_i64]
    omega
   ·cases hs
  ·cases hs
 have hadr : (ad n).off + (i.den F ρ).toNat * 1 + o = (ad n).off + (q.den F ρ).toNat * ks.length + (o + (e.den F ρ).toNat) := by
  have e1 : q.den F ρ = ((q.den F ρ).toNat : Int) := by omega
  have e2 : i.den F ρ = (((q.den F ρ).toNat * ks.length : Nat) : Int) + e.den F ρ := by rw [hi, Int.natCast_mul, <- e1]
  omega
 rw [hadr]
 obtain ⟨ad', w', d1, d2, d3, d4⟩ := hd
 refine ⟨ad', w', ?_, d2, d3, trivial⟩
 grind [SV.conc, selE]
theorem Sl (hB : BI F) (hR : Rel F ρ w0 M0 Im0 ad m w) {n : Nat} {g : E} {ty : Nat} {row : Row} {le c i : E} (hn : m.at n = some (g, .lst ty row true le c)) (hk : g.kind = .b) (hr : Cu row = some ks)
 {o : Nat} {cs : List SV} {es : List E} (he : scs ((ks.drop o).take cs.length) cs = some es) (hl : o + cs.length <= ks.length) :
 (mkAnd g (inB i le)).kind = .b /\ ((mkAnd g (inB i le)).tt F ρ = true -> Done F ρ w0 M0 Im0 ad m (m.set n (some (g, .lst ty row true le (.app .x 0 6 (c :: i :: .lit .x o :: es)))))
  (BR P w (ad n).blk ((ad n).off + (i.den F ρ).toNat * ks.length + o) (SV.concL F ρ ad cs)) .und) := by
 have hm := Aa g (inB i le) hk (Al (F := F) (ρ := ρ)).1 F ρ
 refine ⟨hm.2, fun hg => ?_⟩
 rw [hm.1, Bool.and_eq_true] at hg
 have hR' := hR
 obtain ⟨hM, Im, h1, h2, hI⟩ := hR
 obtain ⟨⟨i1, i2, i3⟩, i4⟩ := hI.ent n g _ hn hg.1
 obtain ⟨b1, b2⟩ := HU i2 hg.2
 have hq := Fo hr
 subst hq
 simp only [cond_true] at i3
 obtain ⟨s1, s2, s3⟩ := Fp F ρ ad he
 have hesl : (es.map (E.den F ρ)).length = cs.length := by simp [s3]
 have hlen : (le.den F ρ).toNat = (dc (c.den F ρ)).length := by rw [i2]; simp
 obtain ⟨w', r1, r2, r3⟩ := i3.set (P := P) (es := es.map (E.den F ρ)) (o := o) (List.getElem?_eq_getElem b1) (by rw [hesl]; exact s1) (by rw [hesl]; exact hl)
 rw [hesl, <- s2] at r1
 have hden : (E.app .x 0 6 (c :: i :: .lit .x o :: es)).den F ρ = cd ((dc (c.den F ρ)).set (i.den F ρ).toNat (splR (dc (c.den F ρ))[(i.den F ρ).toNat] o (es.map (E.den F ρ)))) := by
  rw [AH hB]
  simp [bi, K.norm, E.den, List.getD, b1]
 refine ⟨ad, w', Or.inr ⟨r1, rfl⟩, ?_, Ext.set ad hn, trivial⟩
 refine hR'.turn hn r2 (fun b hb => ⟨by grind [mutB], hg.1⟩) (fun Im' hI' _ => ?_) (fun b hb => hb) trivial
 obtain ⟨⟨_, _, j3⟩, j4⟩ := hI'.ent n g _ hn hg.1
 simp only [cond_true] at j3
 refine ⟨by simp_all, by simp_all, ?_⟩
 simp only [cond_true, hden, Ab]
 obtain ⟨w1, t1, t2, t3⟩ := j3.set (P := P) (es := es.map (E.den F ρ)) (o := o) (List.getElem?_eq_getElem b1) (by rw [hesl]; exact s1) (by rw [hesl]; exact hl)
 grind [Fr.block, RelI.im, mutB]
theorem JM {a : E} {n : Int} (h : (mkCmp .leq a (.lit .x n)).tt F ρ = true) : a.den F ρ <= n := by
 rw [(Ae .leq a (.lit .x n) F ρ).1] at h
 have h' : a.den F ρ <= (E.lit .x n).den F ρ := by simpa only [cmpB, decide_eq_true_eq] using h
 exact h'
theorem Nt (hB : BI F) (hR : Rel F ρ w0 M0 Im0 ad m w) {t e rt : Nat} {x : SV} {V : LV} (hV : Ag m e (Row.ofKs ks) x = some V) (hg : V.g.tt F ρ = true) (ho : V.own = true) (ht : Ay P t = some e)
 {bytes : Nat} (hi : Cy P e = some (ks.length, bytes)) {nm : Nat} (hn1 : nm < m.length) (hn2 : (m.at nm).isNone = true) {y : Value} {rows : RL} {c' : E} (hc' : c'.den F ρ = cd (dc (V.c.den F ρ) ++ rows))
 (hy : (y = .slice none 0 0 /\ rows = []) \/ ∃ a cp news, y = .slice (some a) rows.length cp /\ (∀ Im, RowsV w Im (Row.ofKs ks) rows news) /\ ∀ j u, news[j]? = some u -> w.cell? (a.add j) = some u)
 (hcap : (((dc (V.c.den F ρ)) ++ rows).length : Int) <= Ba bytes) :
 Done F ρ w0 M0 Im0 ad m ((AJ m V.ns).set nm (some (mkB true, .lst e (Row.ofKs ks) true (LEN c') c'))) (valN ((Builtin.append_ #[t, t] rt #[x.conc F ρ ad, y]).run P w)) (.ls nm (LEN c')) := by
 obtain ⟨hM, Im, h1, h2, hI⟩ := hR
 obtain ⟨hd, o1, o2, o3, o4, o5, o6, o7⟩ := Bb hB hI hV hg
 have o5 := o5 ho
 have o7 := o7 ho
 obtain ⟨hlen0, xs, hown, hrows⟩ := o5
 rw [AE] at hown
 obtain ⟨hcb, hcm⟩ := ER hcap
 obtain ⟨i, z, hi1, hi2, hi3, hi4, hi5, hi6⟩ := FZ hi
 have htt := A8 ht
 have hlen' : (LEN c').den F ρ = (((dc (V.c.den F ρ)) ++ rows).length : Int) := by rw [hB.len, hc', Ab, Bw hcm]
 have key : ∃ v' w' news, (Builtin.append_ #[t, t] rt #[x.conc F ρ ad, y]).run P w = .ok v' w' /\ w'.ownsRow 0 e ks.length v' ((dc (V.c.den F ρ)) ++ rows).length (xs ++ news) /\ w.grownBy w' (hd.sl (dc (V.c.den F ρ)).length).ownBlock /\
  (v'.ownBlock = (hd.sl (dc (V.c.den F ρ)).length).ownBlock \/ v'.ownBlock = some w.heap.size) /\ RowsV w Im (Row.ofKs ks) rows news := by
  rw [o1]
  rcases hy with ⟨rfl, rfl⟩ | ⟨a, cp, news, rfl, hn, hc⟩
  ·have hr := run_append_owned_none (P := P) w 0 t rt e i ks.length htt hi1 _ _ _ hown
   refine ⟨_, w, [], hr, ?_, ⟨rfl, rfl, rfl, Nat.le_refl _, fun _ _ _ => rfl⟩, Or.inl rfl, rfl⟩
   simp_all
  ·have hnl := (hn Im).len
   rw [AE] at hnl
   obtain ⟨v', w', r1, r2, r3, r4⟩ := OX (P := P) w t rt e i z ks.length bytes htt hi1 hi2 hi3 hi4 hi5 hi6 _ _ xs hown a rows.length cp news hnl hc (hn Im).one (by simp_all) (by simp_all)
   grind
 obtain ⟨v', w', news, r1, r2, r3, r4, r5⟩ := key
 obtain ⟨hd', hv'⟩ := Qi r2
 have hcond : SV.conc F ρ (upd ad nm hd') (.ls nm (LEN c')) = v' := by
  simp only [SV.conc, Au, hlen', Int.toNat_natCast]
  exact hv'.symm
 refine ⟨upd ad nm hd', w', Or.inl ?_, ⟨hM, Im, h1, h2, ?_⟩, Ext.put _ hn1 hn2, Ez hn1⟩
 ·rw [r1, hcond]; rfl
 ·have hTs : ∀ b, (hd.sl (dc (V.c.den F ρ)).length).ownBlock = some b -> ∃ n ∈ V.ns, ∃ g' x, m.at n = some (g', x) /\ g'.tt F ρ = true /\ mutB F ρ ad n x = some b := fun b hb => o7 b hb
  refine hI.put (ns := V.ns) (T := fun b => (hd.sl (dc (V.c.den F ρ)).length).ownBlock = some b) (Fr.grown r3) (fun b hb _ => hTs b hb) hn1 hn2 ?_ (fun b hb => ?_) trivial
  ·refine ⟨by simp_all, by rw [hlen', hc', Ab], ?_⟩
   simp only [cond_true, hc', Ab, Au]
   refine ⟨hcm, xs ++ news, ?_, ?_⟩
   ·grind [AE]
   ·refine (hrows.append r5).fr fun b hb => ⟨hb, r3.block b (hI.im b hb) fun e => ?_⟩
    obtain ⟨n, _, g', x', e1, e2, e3⟩ := hTs b e.symm
    exact ((hI.ent n g' x' e1 e2).2 b e3).2.1 hb
  ·simp only [mutB, Au, hlen', Int.toNat_natCast, <- hv'] at hb
   have hlt := (r2.lt b hb).2
   grind
end
section
variable {P : Program} {F : Fam} {ρ : Nat -> Int} {G : Glob} {w0 w w' : World} {M0 Im0 Im Im' T : Nat -> Prop} {ad ad' : Nat -> Hd} {m m' : Mem} {q : Row} {ks : List K}
theorem FI : ∀ {l : RL} {xs : List Value}, RowsV w Im (Row.ofKs ks) l xs -> RowsV w Im' (Row.ofKs ks) l xs
 | [], xs, h => h
 | r :: l, xs, h => by
   obtain ⟨us, ys, h1, h2, h3⟩ := h
   exact ⟨us, ys, h1, Be.2 (Be.1 h2), FI h3⟩
theorem JN (w : World) {t e sz : Nat} (ht : P.underlying t = some (.slice e)) (hs : szOf P e = some sz) (hd : Hd) (n : Nat) (hcap : n <= hd.cap) (lo hi : Option E) {l u : Int}
 (hlo : lo.map (E.val F ρ) = (lo.map fun _ => Value.int .i64 l)) (hlo0 : lo = none -> l = 0) (hhi : hi.map (E.val F ρ) = (hi.map fun _ => Value.int .i64 u)) (hhi0 : hi = none -> u = n)
 (h1 : 0 <= l) (h2 : l <= u) (h3 : u <= n) :
 ∃ hd' : Hd, (Instr.sliceAt t (hd.sl n) (lo.map (E.val F ρ)) (hi.map (E.val F ρ)) none).run P w = .ok (hd'.sl (u.toNat - l.toNat)) w /\ u.toNat - l.toNat <= hd'.cap /\ (0 < u.toNat - l.toNat -> hd'.blk = hd.blk /\ hd'.off = hd.off + l.toNat * sz) := by
 have hlu : l.toNat <= u.toNat := by omega
 have hun : u.toNat <= n := by omega
 have run : ∀ (a : Option Addr) (cap : Nat), n <= cap -> (Instr.sliceAt t (.slice a n cap) (lo.map (E.val F ρ)) (hi.map (E.val F ρ)) none).run P w =
  .ok (.slice (if cap = l.toNat then a else a.map (·.add (l.toNat * sz))) (u.toNat - l.toNat) (cap - l.toNat)) w := fun a cap hc => by
  rw [hlo, hhi]
  have b1 : u <= (cap : Int) := by omega
  have b0 : 0 <= u := by omega
  have b2 : l <= (u.toNat : Int) := by omega
  cases lo with
  | none =>
    have hl := hlo0 rfl
    subst hl
    cases hi with
    | none =>
      have hu := hhi0 rfl
      subst hu
      simp [Instr.sliceAt, Instr.slice, Instr.sliceBounds, run_underlying ht, Ai w hs]
    | some q =>
      simp [Instr.sliceAt, Instr.slice, Instr.sliceBounds, Instr.sliceBound, asIntOf, run_underlying ht, Ai w hs, b1, b0]
  | some p =>
    cases hi with
    | none =>
      have hu := hhi0 rfl
      subst hu
      have b3 : l <= (n : Int) := by omega
      simp [Instr.sliceAt, Instr.slice, Instr.sliceBounds, Instr.sliceBound, asIntOf, run_underlying ht, Ai w hs, h1, b3]
    | some q =>
      have b3 : l <= max u 0 := by omega
      simp [Instr.sliceAt, Instr.slice, Instr.sliceBounds, Instr.sliceBound, asIntOf, run_underlying ht, Ai w hs, h1, b0, b1, b2, b3]
 rcases LC hd n with ⟨e, h0⟩ | e
 ·grind
 ·rw [e, run (some ⟨hd.blk, hd.off, none⟩) hd.cap hcap]
  by_cases hc : hd.cap = l.toNat
  ·refine ⟨⟨hd.blk, hd.off, hd.cap - l.toNat, false, undef⟩, ?_, ?_, fun hp => ?_⟩
   ·grind [Hd.sl]
   ·simp only; omega
   ·omega
  ·refine ⟨⟨hd.blk, hd.off + l.toNat * sz, hd.cap - l.toNat, false, undef⟩, ?_, ?_, fun _ => ⟨rfl, rfl⟩⟩
   ·grind [Hd.sl, Addr.add_none]
   ·simp only; omega
theorem Sm (hB : BI F) (hR : Rel F ρ w0 M0 Im0 ad m w) {t e : Nat} {row : Row} {x : SV} {lo hi : Option E} {V0 V : LV} (h0 : Ag m e row x = some V0) (hV : Ag (shareL m V0.ns) e row x = some V)
 (hs : V.sh = true) (ht : Ay P t = some e) (hz : szOf P e = some row.size) {nm : Nat} (hn1 : nm < m.length) (hn2 : ((shareL m V0.ns).at nm).isNone = true)
 (hlo : ∀ q, lo = some q -> q.kind = .i .i64) (hhi : ∀ q, hi = some q -> q.kind = .i .i64) :
 let l := lo.getD (.lit (.i .i64) 0)
 let h := hi.getD V.le
 let c' := E.app .x 0 5 [V.c, l, h]
 let g := mkAnd V.g (mkAnd (mkCmp .geq l (.lit (.i .i64) 0)) (mkAnd (mkCmp .leq l h) (mkCmp .leq h V.le)))
 g.kind = .b /\ (g.tt F ρ = true -> Done F ρ w0 M0 Im0 ad m ((shareL m V0.ns).set nm (some (mkB true, .lst e row false (LEN c') c')))
  (valN ((Instr.sliceAt t (x.conc F ρ ad) (lo.map (E.val F ρ)) (hi.map (E.val F ρ)) none).run P w)) (.ls nm (LEN c'))) := by
 intro l h c' g
 obtain ⟨k1, k2, k3⟩ := AS hV
 have p1 := Ae .geq l (.lit (.i .i64) 0) F ρ
 have p2 := Ae .leq l h F ρ
 have p3 := Ae .leq h V.le F ρ
 have p4 := Aa _ _ p2.2 p3.2 F ρ
 have p5 := Aa _ _ p1.2 p4.2 F ρ
 have p6 := Aa _ _ k3 p5.2 F ρ
 refine ⟨p6.2, fun hg => ?_⟩
 have hg' : V.g.tt F ρ = true /\ 0 <= l.den F ρ /\ l.den F ρ <= h.den F ρ /\ h.den F ρ <= V.le.den F ρ := by
  have := hg
  rw [show g = mkAnd V.g (mkAnd (mkCmp .geq l (.lit (.i .i64) 0)) (mkAnd (mkCmp .leq l h) (mkCmp .leq h V.le))) from rfl, p6.1, p5.1, p4.1, p1.1, p2.1, p3.1] at this
  simp only [Bool.and_eq_true, cmpB, decide_eq_true_eq] at this
  exact ⟨this.1, this.2.1, this.2.2.1, this.2.2.2⟩
 obtain ⟨hvg, hl0, hlh, hhn⟩ := hg'
 have hR1 := hR.shareL V0.ns
 have hlen1 : nm < (shareL m V0.ns).length := by
  have : ∀ (ns : List Nat) (m : Mem), (shareL m ns).length = m.length := by
   intro ns
   induction ns with
   | nil => intro m; rfl
   | cons n r ih =>
     grind [shareL, Bv]
  rw [this]; exact hn1
 obtain ⟨hM, Im, h1, h2, hI⟩ := hR1
 obtain ⟨hd, o1, o2, o3, o4, o5, o6, o7⟩ := Bb hB hI hV hvg
 have o6 := o6 hs
 have htt := A8 ht
 have elo : lo.map (E.val F ρ) = lo.map fun _ => Value.int .i64 (l.den F ρ) := by
  cases lo with
  | none => rfl
  | some q => grind [E.val_i]
 have ehi : hi.map (E.val F ρ) = hi.map fun _ => Value.int .i64 (h.den F ρ) := by
  cases hi with
  | none => rfl
  | some q => grind [E.val_i]
 obtain ⟨hd', r1, r2, r3⟩ := JN (P := P) (F := F) (ρ := ρ) w htt hz hd (dc (V.c.den F ρ)).length o6.2.1 lo hi elo (fun e => by show (lo.getD _).den F ρ = 0; rw [e]; rfl) ehi (fun e => by grind) hl0 hlh (by rw [<- o3]; exact hhn)
 have hden : c'.den F ρ = cd (((dc (V.c.den F ρ)).take (h.den F ρ).toNat).drop (l.den F ρ).toNat) := by
  show (E.app .x 0 5 [V.c, l, h]).den F ρ = _
  rw [AH hB]; rfl
 have hlen : (((dc (V.c.den F ρ)).take (h.den F ρ).toNat).drop (l.den F ρ).toNat).length = (h.den F ρ).toNat - (l.den F ρ).toNat := by
  simp; omega
 have hmx : (((dc (V.c.den F ρ)).take (h.den F ρ).toNat).drop (l.den F ρ).toNat).length <= maxLen := by have := o6.1; rw [hlen]; omega
 have hLEN : (LEN c').den F ρ = ((((dc (V.c.den F ρ)).take (h.den F ρ).toNat).drop (l.den F ρ).toNat).length : Int) := by rw [hB.len, hden, Ab, Bw hmx]
 refine ⟨upd ad nm hd', w, Or.inl ?_, ⟨hM, Im, h1, h2, ?_⟩, ⟨fun k hk => Ki hn2 hd' k ((BG V0.ns m k).2 hk), fun k hk => EL hlen1 k ((BG V0.ns m k).2 hk)⟩, by simp [al, SV.ok, Mem.at_set_same hlen1]⟩
 ·simp_all [valN, SV.conc, Au]
 ·have := hI.put (ns := []) (T := fun _ => False) (hd := hd') (g := mkB true) (y := .lst e row false (LEN c') c') (Fr.refl _ _) (fun b hb => hb.elim) hlen1 hn2 ?_ (fun b hb => by simp [mutB] at hb) trivial
  ·exact this
  ·refine ⟨by simp_all, by rw [hLEN, hden, Ab], ?_⟩
   simp only [cond_false, hden, Ab, Au]
   refine ⟨hmx, by rw [hlen]; exact r2, fun hne => ?_, fun i r' hi => ?_⟩
   ·have hp : 0 < (h.den F ρ).toNat - (l.den F ρ).toNat := by rw [<- hlen]; exact List.length_pos_iff.2 hne
    rw [(r3 hp).1]
    exact o6.2.2.1 fun e => by simp_all
   ·have hlt := (List.getElem?_eq_some_iff.1 hi).1
    rw [hlen] at hlt
    rw [List.getElem?_drop, List.getElem?_take, if_pos (by omega)] at hi
    obtain ⟨us, u1, u2⟩ := o6.2.2.2 _ r' hi
    grind
theorem G4 {e : Nat} (h : Ep P e ks = true) : ∃ i z, P.info? e = some i /\ i.zero = some z /\ z.cells.toList = numV ks (ks.map fun _ => 0) /\ fits ks (ks.map fun _ => 0) := by
 unfold Ep at h
 split at h
 ·rename_i i hi
  split at h
  ·rename_i z hz
   simp only [Bool.and_eq_true, beq_iff_eq, List.all_eq_true, List.mem_range] at h
   obtain ⟨h1, h2⟩ := h
   refine ⟨i, z, hi, hz, ?_, ?_⟩
   ·apply List.ext_getElem?
    intro j
    by_cases hj : j < ks.length
    ·have hx := h2 j hj
     have hc : z.cells[j]? = some z.cells[j] := Array.getElem?_eq_getElem (by omega)
     have hkk : ks[j]? = some ks[j] := List.getElem?_eq_getElem hj
     simp only [numV, List.getElem?_zipWith, List.getElem?_map, hkk, Option.map_some, Array.getElem?_toList]
     rw [hc] at hx ⊢
     rw [hkk] at hx
     generalize z.cells[j] = v at hx ⊢
     generalize ks[j] = k at hx ⊢
     cases v <;> cases k <;> simp at hx ⊢
     ·subst hx; rfl
     ·obtain ⟨rfl, rfl⟩ := hx; rfl
    grind [numV]
   ·clear h1 h2
    induction ks with
    | nil => trivial
    | cons k ks ih => exact ⟨by cases k with | b => rfl | i k => exact Ds k | x => rfl, ih⟩
  ·cases h
 ·cases h
theorem Ml {r : List Int} (hf : fits ks r) : ∀ n : Nat, RowsV w Im (Row.ofKs ks) (List.replicate n r) ((List.replicate n (numV ks r)).flatten)
 | 0 => rfl
 | n + 1 => by
   rw [List.replicate_succ, List.replicate_succ, List.flatten_cons]
   exact ⟨numV ks r, _, rfl, Be.2 ⟨hf, rfl⟩, Ml hf n⟩
theorem Hy (z : Array Value) (n : Nat) (hz : 0 < z.size) : (madeCells z (n * z.size)).toList = (List.replicate n z.toList).flatten := by
 induction n with
 | zero => simp [madeCells]
 | succ n ih =>
   rw [List.replicate_succ', List.flatten_append, <- ih]
   apply List.ext_getElem?
   intro j
   simp only [madeCells, List.flatten_cons, List.flatten_nil, List.append_nil]
   rw [Nat.succ_mul]
   by_cases h1 : j < n * z.size
   ·grind
   ·rw [List.getElem?_append_right (by simpa using h1)]
    by_cases h2 : j < n * z.size + z.size
    ·have hm : j % z.size = j - n * z.size := by
      have : j = (j - n * z.size) + z.size * n := by rw [Nat.mul_comm z.size n]; omega
      rw [this, Nat.add_mul_mod_self_left, Nat.mod_eq_of_lt (by omega)]
      rw [Nat.mul_comm z.size n]; omega
     grind
    grind
theorem Uj (hB : BI F) (hR : Rel F ρ w0 M0 Im0 ad m w) {t e bytes : Nat} {n c : E} (hnc : n.same c = true) (hk : n.kind = .i .i64) (ht : Ay P t = some e) (hi : Cy P e = some (ks.length, bytes)) (hz : Ep P e ks = true)
 {nm : Nat} (hn1 : nm < m.length) (hn2 : (m.at nm).isNone = true) :
 let c' := E.app .x 0 7 (n :: ks.map fun k => .lit k 0)
 let g := mkAnd (mkCmp .geq n (.lit (.i .i64) 0)) (mkCmp .leq n (.lit .x (Ba bytes)))
 g.kind = .b /\ (g.tt F ρ = true -> Done F ρ w0 M0 Im0 ad m (m.set nm (some (mkB true, .lst e (Row.ofKs ks) true (LEN c') c'))) (valN ((Instr.makeSlice t (n.val F ρ) (c.val F ρ)).run P w)) (.ls nm (LEN c'))) := by
 intro c' g
 have p1 := Ae .geq n (.lit (.i .i64) 0) F ρ
 have p2 := Ae .leq n (.lit .x (Ba bytes)) F ρ
 have p3 := Aa _ _ p1.2 p2.2 F ρ
 refine ⟨p3.2, fun hg => ?_⟩
 have hg' : 0 <= n.den F ρ /\ n.den F ρ <= Ba bytes := by
  have := hg
  rw [show g = mkAnd (mkCmp .geq n (.lit (.i .i64) 0)) (mkCmp .leq n (.lit .x (Ba bytes))) from rfl, p3.1, p1.1, p2.1] at this
  simp only [Bool.and_eq_true, cmpB, decide_eq_true_eq] at this
  exact this
 have hcn := E.same_eq _ _ hnc
 subst hcn
 obtain ⟨N, hN⟩ := Int.eq_ofNat_of_zero_le hg'.1
 rw [hN] at hg'
 obtain ⟨hb, hmx⟩ := ER hg'.2
 obtain ⟨i, z, hi1, hi2, hi3, hi4, hi5, hi6⟩ := FZ hi
 obtain ⟨i', z', j1, j2, j3, j4⟩ := G4 hz
 rw [hi1] at j1
 simp only [oJ] at j1
 subst j1
 rw [hi2] at j2
 simp only [oJ] at j2
 subst j2
 have htt := A8 ht
 obtain ⟨w', r1, r2, r3⟩ := run_make_full (P := P) w 0 t e i z ks.length htt hi1 hi2 hi3 .i64 .i64 N (by grind) hmx (Nat.zero_le _)
 have hden : c'.den F ρ = cd (List.replicate N (ks.map fun _ => 0)) := by
  show (E.app .x 0 7 (n :: ks.map fun k => .lit k 0)).den F ρ = _
  rw [AH hB]
  simp only [List.map_cons, bi, hN, K.norm, Int.toNat_natCast, List.map_map]
  congr 2
  apply List.map_congr_left
  intro k _
  simp only [Function.comp, E.den]
  cases k with
  | b => rfl
  | i k => exact Ds k
  | x => rfl
 have hLEN : (LEN c').den F ρ = (N : Int) := by rw [hB.len, hden, Ab, List.length_replicate, Bw hmx]
 obtain ⟨hM, Im, h1, h2, hI⟩ := hR
 refine ⟨upd ad nm ⟨w.heap.size, 0, N, false, undef⟩, w', Or.inl ?_, ⟨hM, Im, h1, h2, ?_⟩, Ext.put (ns := []) _ hn1 hn2, Ez (ns := []) hn1⟩
 ·simp_all [E.val_i, valN, SV.conc, Au, Hd.sl]
 ·refine hI.put (ns := []) (T := fun _ => False) ((Fr.grown r3).mono fun b hb => by cases hb) (fun b hb => hb.elim) hn1 hn2 ?_ (fun b hb => ?_) trivial
  ·refine ⟨by simp_all, by simp_all, ?_⟩
   simp only [cond_true, hden, Ab, Au]
   refine ⟨by simp_all, _, ?_, Ml j4 N⟩
   rw [List.length_replicate, AE, <- j3, <- Hy z.cells N (by omega), hi5]
   exact r2
  ·simp only [mutB, Au, hLEN, Int.toNat_natCast] at hb
   have hlt := (r2.lt b (by simpa [Hd.sl] using hb)).2
   refine ⟨hlt, Or.inl ?_⟩
   simp [Hd.sl, Value.ownBlock] at hb
   omega
theorem Uk (hB : BI F) (hR : Rel F ρ w0 M0 Im0 ad m w) {e bytes len : Nat} {cs : List SV} {c' : E} (hs : Dk ks len cs NILL = some c') (hi : Cy P e = some (ks.length, bytes)) (hcap : (len : Int) <= Ba bytes)
 {nm : Nat} (hn1 : nm < m.length) (hn2 : (m.at nm).isNone = true) :
 Done F ρ w0 M0 Im0 ad m (m.set nm (some (mkB true, .lst e (Row.ofKs ks) true (.lit (.i .i64) len) c'))) ((D.new e cs (some len)).run P F ρ ad w) (.ls nm (.lit (.i .i64) len)) := by
 obtain ⟨hb, hmx⟩ := ER hcap
 obtain ⟨rows, r1, r2, r3, r4⟩ := EP (w := w) (ad := ad) (ρ := ρ) (Im := fun _ => False) hB hs (by grind [BI.nil, E4]) rfl
 have hden : c'.den F ρ = cd rows := by rw [r1, hB.nil (ρ := ρ), Ab, List.nil_append]
 have hLEN : (E.lit (.i .i64) (len : Int)).den F ρ = (len : Int) := Bw hmx
 obtain ⟨hM, Im, h1, h2, hI⟩ := hR
 have hnew : (w.alloc (.cells (SV.concL F ρ ad cs).toArray e)).heap[w.heap.size]? = some (.cells (SV.concL F ρ ad cs).toArray e (0, 0)) := (MapKept.heap_alloc w _).1
 have hlen := r4.len
 rw [r3, AE] at hlen
 have r4' : RowsV (w.alloc (.cells (SV.concL F ρ ad cs).toArray e)) Im (Row.ofKs ks) rows (SV.concL F ρ ad cs) := r4.fr fun b hb => hb.elim
 refine ⟨upd ad nm ⟨w.heap.size, 0, len, false, undef⟩, w.alloc (.cells (SV.concL F ρ ad cs).toArray e), Or.inl ?_, ⟨hM, Im, h1, h2, ?_⟩, Ext.put (ns := []) _ hn1 hn2, Ez (ns := []) hn1⟩
 ·simp [D.run, SV.conc, Au, hLEN, Hd.sl]
 ·refine hI.put (ns := []) (T := fun _ => False) (Fr.alloc _ _ _) (fun b hb => hb.elim) hn1 hn2 ?_ (fun b hb => ?_) trivial
  ·refine ⟨by simp_all, by grind [Ab], ?_⟩
   simp only [cond_true, hden, Ab, Au]
   refine ⟨by rw [r3]; exact hmx, _, ⟨by grind [AE], Or.inr ⟨w.heap.size, len, _, ?_, Nat.zero_le _, hnew, by omega, hmx, by simp [hlen, AE], ?_⟩⟩, r4'⟩
   ·simp [Hd.sl, r3]
   grind [AE]
  ·simp only [mutB, Au, hLEN, Int.toNat_natCast] at hb
   simp [Hd.sl, Value.ownBlock] at hb
   simp_all
end
theorem Pk : ∀ a : List Int, ltR a a = false
 | [] => rfl
 | x :: l => by simp [ltR, Pk l]
theorem Pm : ∀ a b : List Int, ltR a b = false -> a ≠ b -> ltR b a = true
 | [], [], _, h => absurd rfl h
 | [], _ :: _, h, _ => by simp [ltR] at h
 | _ :: _, [], _, _ => rfl
 | x :: l, y :: r, h, hn => by
   simp only [ltR] at h ⊢
   by_cases h1 : x < y
   ·simp [h1] at h
   ·by_cases h2 : x = y
    ·subst h2
     simp at h
     have := Pm l r h fun e => hn (by rw [e])
     simp [this]
    grind
theorem HV : ∀ {a b c : List Int}, ltR a b = true -> ltR b c = true -> ltR a c = true
 | [], [], c, h, _ => by simp [ltR] at h
 | [], _ :: _, [], _, h => by simp [ltR] at h
 | [], _ :: _, _ :: _, _, _ => rfl
 | _ :: _, [], c, h, _ => by simp [ltR] at h
 | _ :: _, _ :: _, [], _, h => by simp [ltR] at h
 | x :: l, y :: r, z :: s, h, h' => by
   simp only [ltR] at h h' ⊢
   by_cases h1 : x < y
   ·grind
   ·by_cases h2 : x = y
    ·subst h2
     simp at h
     by_cases h3 : x < z
     ·simp [h3]
     ·by_cases h4 : x = z
      ·subst h4
       simp at h' ⊢
       exact HV h h'
      ·simp [h3, h4] at h'
    ·simp [h1, h2] at h
theorem Kj {a b : List Int} (h : ltR a b = true) : a ≠ b := fun e => by grind [Pk]
theorem SortedR.cons {n : Nat} {r : List Int} {l : RL} : SortedR n (r :: l) ↔ (∀ a ∈ l, ltR (r.take n) (a.take n) = true) /\ SortedR n l := List.pairwise_cons
theorem SortedR.ne {n : Nat} {l : RL} (h : SortedR n l) : l.Pairwise fun a b => a.take n ≠ b.take n := List.Pairwise.imp (fun h => Kj h) h
theorem Ci {p : List Int -> Bool} : ∀ {l : RL}, (∀ a ∈ l, p a = true) -> l.filter p = l := fun h => List.filter_eq_self.2 h
theorem Mm {n : Nat} {row : List Int} : ∀ {l : RL}, SortedR n l -> (putR n row l).Perm (row :: l.filter fun r => !(r.take n == row.take n))
 | [], _ => by simp [putR]
 | r :: l, h => by
   obtain ⟨h1, h2⟩ := SortedR.cons.1 h
   simp only [putR]
   by_cases he : r.take n = row.take n
   ·grind [Ci, Kj]
   ·rw [if_neg (by simpa using he)]
    split
    ·grind [Ci, Kj, HV]
    ·have hf : (r :: l).filter (fun r => !(r.take n == row.take n)) = r :: l.filter (fun r => !(r.take n == row.take n)) := by
      rw [List.filter_cons, if_pos (by simpa using he)]
     rw [hf]
     exact ((Mm h2).cons r).trans (List.Perm.swap ..)
theorem Nu {n : Nat} {row : List Int} : ∀ {l : RL} {a : List Int}, a ∈ putR n row l -> a = row \/ a ∈ l
 | [], a, h => by grind [putR]
 | r :: l, a, h => by
   simp only [putR] at h
   split at h
   ·grind
   ·split at h
    ·simp_all
    ·rcases List.mem_cons.1 h with h | h
     ·simp_all
     ·rcases Nu h with h | h
      ·exact Or.inl h
      simp_all
theorem F3 {n : Nat} {row : List Int} : ∀ {l : RL}, SortedR n l -> SortedR n (putR n row l)
 | [], _ => by simp [putR, SortedR]
 | r :: l, h => by
   obtain ⟨h1, h2⟩ := SortedR.cons.1 h
   simp only [putR]
   by_cases he : r.take n = row.take n
   ·grind [SortedR.cons]
   ·rw [if_neg (by simpa using he)]
    split
    ·grind [SortedR.cons, HV]
    ·rename_i hlt
     refine SortedR.cons.2 ⟨fun a ha => ?_, F3 h2⟩
     grind [Nu, Pm]
theorem F4 {k : List Int} {n : Nat} (hn : k.length = n) : ∀ {l : RL}, SortedR n l -> delR k l = l.filter fun r => !(r.take n == k)
 | [], _ => rfl
 | r :: l, h => by
   obtain ⟨h1, h2⟩ := SortedR.cons.1 h
   simp only [delR, hn]
   by_cases he : r.take n = k
   ·grind [Ci, Kj]
   ·rw [if_neg (by simpa using he), List.filter_cons, if_pos (by simpa using he), F4 hn h2]
theorem Jt {k : List Int} {n : Nat} (hn : k.length = n) {l : RL} (h : SortedR n l) : SortedR n (delR k l) := by
 rw [F4 hn h]; exact List.Pairwise.filter _ h
theorem Sn {p : List Int -> Bool} {l l' : RL} (hp : l'.Perm l) (hu : ∀ a ∈ l, ∀ b ∈ l, p a = true -> p b = true -> a = b) : l'.find? p = l.find? p := by
 cases h : l.find? p with
 | none =>
   grind
 | some a =>
   have h1 := List.mem_of_find?_eq_some h
   have h2 := List.find?_some h
   cases h' : l'.find? p with
   | none =>
     grind
   | some b =>
     grind
theorem Nv {n : Nat} {l : RL} (h : l.Pairwise fun a b => a.take n ≠ b.take n) {k : List Int} : ∀ a ∈ l, ∀ b ∈ l, (a.take n == k) = true -> (b.take n == k) = true -> a = b := by
 induction l with
 | nil => intro a ha; cases ha
 | cons r l ih =>
   obtain ⟨h1, h2⟩ := List.pairwise_cons.1 h
   grind
theorem LF {n : Nat} {l l' : RL} (hp : l'.Perm l) (h : l.Pairwise fun a b => a.take n ≠ b.take n) : l'.Pairwise fun a b => a.take n ≠ b.take n :=
 (hp.pairwise_iff (fun {a b} h e => h e.symm)).2 h
theorem Nw {n : Nat} {k row : List Int} : ∀ {l : RL} {i : Nat} {r0 : List Int}, (l.Pairwise fun a b => a.take n ≠ b.take n) -> l[i]? = some r0 -> r0.take n = k -> (l.set i row).Perm (row :: l.filter fun r => !(r.take n == k))
 | [], i, r0, _, h, _ => by simp at h
 | r :: l, 0, r0, hp, h, hk => by
   obtain ⟨h1, h2⟩ := List.pairwise_cons.1 hp
   grind [Ci]
 | r :: l, i + 1, r0, hp, h, hk => by
   obtain ⟨h1, h2⟩ := List.pairwise_cons.1 hp
   have h' : l[i]? = some r0 := by simpa using h
   have hr : r.take n ≠ k := by rw [<- hk]; exact h1 r0 (List.mem_of_getElem? h')
   have hf : (r :: l).filter (fun r => !(r.take n == k)) = r :: l.filter (fun r => !(r.take n == k)) := by rw [List.filter_cons, if_pos (by simpa using hr)]
   rw [hf]
   exact ((Nw h2 h' hk).cons r).trans (List.Perm.swap ..)
theorem Kl {n : Nat} {k : List Int} : ∀ {l : RL} {i : Nat} {r0 : List Int}, (l.Pairwise fun a b => a.take n ≠ b.take n) -> l[i]? = some r0 -> r0.take n = k -> l.eraseIdx i = l.filter fun r => !(r.take n == k)
 | [], i, r0, _, h, _ => by simp at h
 | r :: l, 0, r0, hp, h, hk => by
   obtain ⟨h1, h2⟩ := List.pairwise_cons.1 hp
   grind [Ci]
 | r :: l, i + 1, r0, hp, h, hk => by
   obtain ⟨h1, h2⟩ := List.pairwise_cons.1 hp
   have h' : l[i]? = some r0 := by simpa using h
   have hr : r.take n ≠ k := by rw [<- hk]; exact h1 r0 (List.mem_of_getElem? h')
   rw [List.filter_cons, if_pos (by simpa using hr), List.eraseIdx_cons_succ, Kl h2 h' hk]
section
variable {ks vs : List K} {kag vag : Bool}
theorem MapZ.len : ∀ {es : List MapEntry} {l : RL}, MapZ ks vs kag vag es l -> es.length = l.length
 | [], [], _ => rfl
 | [], _ :: _, h => h.elim
 | _ :: _, [], h => h.elim
 | _ :: es, _ :: l, h => by simp [MapZ.len h.2]
theorem MapZ.get : ∀ {es : List MapEntry} {l : RL}, MapZ ks vs kag vag es l -> ∀ (i : Nat) (e : MapEntry), es[i]? = some e -> ∃ r, l[i]? = some r /\ EntV ks vs kag vag e r
 | [], [], _, i, e, h => by simp at h
 | [], _ :: _, h, _, _, _ => h.elim
 | _ :: _, [], h, _, _, _ => h.elim
 | x :: es, r :: l, h, 0, e, he => by simp at he; subst he; exact ⟨r, rfl, h.1⟩
 | x :: es, r :: l, h, i + 1, e, he => by simpa using MapZ.get h.2 i e (by simpa using he)
theorem MapZ.mem {es : List MapEntry} {l : RL} (h : MapZ ks vs kag vag es l) {r : List Int} (hr : r ∈ l) : ∃ e ∈ es, EntV ks vs kag vag e r := by
 induction es generalizing l with
 | nil => cases l with
   | nil => cases hr
   | cons _ _ => exact h.elim
 | cons x es ih => cases l with
   | nil => exact h.elim
   | cons y l =>
     rcases List.mem_cons.1 hr with rfl | hr
     ·exact ⟨x, List.mem_cons_self .., h.1⟩
     ·obtain ⟨e, h1, h2⟩ := ih h.2 hr
      grind
theorem MapZ.set : ∀ {es : List MapEntry} {l : RL}, MapZ ks vs kag vag es l -> ∀ (i : Nat) (e : MapEntry) (r : List Int), EntV ks vs kag vag e r -> MapZ ks vs kag vag (es.set i e) (l.set i r)
 | [], [], _, i, e, r, h => by simp [MapZ]
 | [], _ :: _, h, _, _, _, _ => h.elim
 | _ :: _, [], h, _, _, _, _ => h.elim
 | x :: es, y :: l, h, 0, e, r, he => ⟨he, h.2⟩
 | x :: es, y :: l, h, i + 1, e, r, he => ⟨h.1, MapZ.set h.2 i e r he⟩
theorem MapZ.snoc : ∀ {es : List MapEntry} {l : RL}, MapZ ks vs kag vag es l -> ∀ (e : MapEntry) (r : List Int), EntV ks vs kag vag e r -> MapZ ks vs kag vag (es ++ [e]) (l ++ [r])
 | [], [], _, e, r, h => ⟨h, trivial⟩
 | [], _ :: _, h, _, _, _ => h.elim
 | _ :: _, [], h, _, _, _ => h.elim
 | x :: es, y :: l, h, e, r, he => ⟨h.1, MapZ.snoc h.2 e r he⟩
theorem MapZ.erase : ∀ {es : List MapEntry} {l : RL}, MapZ ks vs kag vag es l -> ∀ i : Nat, MapZ ks vs kag vag (es.eraseIdx i) (l.eraseIdx i)
 | [], [], _, i => by simp [MapZ]
 | [], _ :: _, h, _ => h.elim
 | _ :: _, [], h, _ => h.elim
 | x :: es, y :: l, h, 0 => h.2
 | x :: es, y :: l, h, i + 1 => ⟨h.1, MapZ.erase h.2 i⟩
end
theorem JO {k : IntKind} {vs : List K} {vag : Bool} {e : MapEntry} {r : List Int} (h : EntV [.i k] vs false vag e r) : ∃ z us, r = z :: us /\ k.wrap z = z /\ fits vs us /\ e.key = .int k z /\ e.val = keyV vs vag us := by
 obtain ⟨h1, h2, h3⟩ := h
 cases r with
 | nil => exact h1.elim
 | cons z us => exact ⟨z, us, rfl, h1.1, h1.2, h2, h3⟩
theorem Vk {k : IntKind} {vs : List K} {vag : Bool} {z : Int} {us : List Int} {b : Nat} (h1 : k.wrap z = z) (h2 : fits vs us) : EntV [.i k] vs false vag ⟨.int k z, keyV vs vag us, b⟩ (z :: us) := ⟨⟨h1, h2⟩, rfl, rfl⟩
theorem JP {k : IntKind} {vs : List K} {vag : Bool} {es : List MapEntry} {l l' : RL} (hs : SortedR 1 l) (hp : l'.Perm l) (hz : MapZ [.i k] vs false vag es l') (z : Int) :
 (Instr.findNow (.int k) (.int k z) es 0 = some none /\ l.find? (fun r => r.take 1 == [z]) = none /\ ∀ r ∈ l', r.take 1 ≠ [z]) \/
 ∃ i e us, Instr.findNow (.int k) (.int k z) es 0 = some (some (i, keyV vs vag us)) /\ es[i]? = some e /\ e.key = .int k z /\ l'[i]? = some (z :: us) /\ fits vs us /\ l.find? (fun r => r.take 1 == [z]) = some (z :: us) := by
 have hne := LF hp hs.ne
 have hkeys : ∀ x ∈ es, MapKept.IsKey (.int k) x.key := fun x hx => by
  obtain ⟨i, hi, rfl⟩ := List.getElem_of_mem hx
  obtain ⟨r, h1, h2⟩ := hz.get i _ (List.getElem?_eq_getElem hi)
  obtain ⟨z', us, _, _, _, e, _⟩ := JO h2
  rw [e]; rfl
 rcases MapKept.findNow_spec (d := .int k) (k := .int k z) rfl es 0 hkeys with ⟨h1, h2⟩ | ⟨j, e, h1, h2, h3⟩
 ·grind [MapZ.mem, JO]
 ·right
  obtain ⟨r, r1, r2⟩ := hz.get j e h2
  obtain ⟨z', us, rfl, w1, w2, w3, w4⟩ := JO r2
  rw [w3] at h3
  simp only [Value.int.injEq, true_and] at h3
  subst h3
  refine ⟨j, e, us, by simp_all, h2, w3, r1, w2, ?_⟩
  rw [<- Sn hp (Nv hs.ne)]
  cases hf : l'.find? (fun r => r.take 1 == [z']) with
  | none =>
    grind
  | some a =>
    have hfs : (a.take 1 == [z']) = true := List.find?_some (p := fun r : List Int => r.take 1 == [z']) hf
    have := Nv hne a (List.mem_of_find?_eq_some hf) _ (List.mem_of_getElem? r1) hfs (by simp)
    rw [this]
section
variable {P : Program} {F : Fam} {ρ : Nat -> Int} {G : Glob} {w0 w w' : World} {M0 Im0 Im Im' T : Nat -> Prop} {ad ad' : Nat -> Hd} {m m' : Mem} {q : Row} {ks : List K}
theorem JQ (w : World) {t e sz : Nat} (ht : P.underlying t = some (.slice e)) (hs : szOf P e = some sz) (hd : Hd) (n : Nat) (hcap : n <= hd.cap) (lo hi : Option E) {l u : Int}
 (hlo : lo.map (E.val F ρ) = (lo.map fun _ => Value.int .i64 l)) (hlo0 : lo = none -> l = 0) (hhi : hi.map (E.val F ρ) = (hi.map fun _ => Value.int .i64 u)) (hhi0 : hi = none -> u = n)
 (h1 : 0 <= l) (h2 : l <= u) (h3 : u <= n) :
 (Instr.sliceAt t (hd.sl n) (lo.map (E.val F ρ)) (hi.map (E.val F ρ)) none).run P w = .ok ((hd.part n l.toNat sz).sl (u.toNat - l.toNat)) w := by
 have run : ∀ (a : Option Addr) (cap : Nat), n <= cap -> (Instr.sliceAt t (.slice a n cap) (lo.map (E.val F ρ)) (hi.map (E.val F ρ)) none).run P w =
  .ok (.slice (if cap = l.toNat then a else a.map (·.add (l.toNat * sz))) (u.toNat - l.toNat) (cap - l.toNat)) w := fun a cap hc => by
  rw [hlo, hhi]
  have b1 : u <= (cap : Int) := by omega
  have b0 : 0 <= u := by omega
  have b2 : l <= (u.toNat : Int) := by omega
  cases lo with
  | none =>
    have hl := hlo0 rfl
    subst hl
    cases hi with
    | none =>
      have hu := hhi0 rfl
      subst hu
      simp [Instr.sliceAt, Instr.slice, Instr.sliceBounds, run_underlying ht, Ai w hs]
    | some q =>
      simp [Instr.sliceAt, Instr.slice, Instr.sliceBounds, Instr.sliceBound, asIntOf, run_underlying ht, Ai w hs, b1, b0]
  | some p =>
    cases hi with
    | none =>
      have hu := hhi0 rfl
      subst hu
      have b3 : l <= (n : Int) := by omega
      simp [Instr.sliceAt, Instr.slice, Instr.sliceBounds, Instr.sliceBound, asIntOf, run_underlying ht, Ai w hs, h1, b3]
    | some q =>
      have b3 : l <= max u 0 := by omega
      simp [Instr.sliceAt, Instr.slice, Instr.sliceBounds, Instr.sliceBound, asIntOf, run_underlying ht, Ai w hs, h1, b0, b1, b2, b3]
 grind [Hd.sl, Hd.part, Addr.add_none]
theorem Ql {e : Nat} {vs : List K} {ag : Bool} (h : Qj P e vs ag = true) : (∀ w, (zeroValue e).run P w = .ok (keyV vs ag (vs.map fun _ => 0)) w) /\ fits vs (vs.map fun _ => 0) := by
 unfold Qj at h
 split at h
 ·rename_i i hi
  have key : ∀ z, i.zero = some z -> Ep P e vs = true -> (z = .agg z.cells /\ ag = true \/ z.cells = #[z] /\ ag = false) -> (∀ w, (zeroValue e).run P w = .ok (keyV vs ag (vs.map fun _ => 0)) w) /\ fits vs (vs.map fun _ => 0) := fun z hz hk hc => by
   obtain ⟨i', z', j1, j2, j3, j4⟩ := G4 hk
   rw [hi] at j1
   simp only [oJ] at j1
   subst j1
   rw [hz] at j2
   simp only [oJ] at j2
   subst j2
   have hv : z = keyV vs ag (vs.map fun _ => 0) := by
    unfold keyV
    rw [<- j3]
    rcases hc with ⟨h1, rfl⟩ | ⟨h1, rfl⟩
    ·simp only [cond_true]
     omega
    ·grind
   exact ⟨fun w => by rw [<- hv]; simp [zeroValue, typeInfo, hi, hz], j4⟩
  split at h
  ·rename_i cs hz
   simp only [Bool.and_eq_true] at h
   exact key _ hz h.2 (Or.inl ⟨by simp [Value.cells], h.1⟩)
  ·rename_i k n hz
   simp only [Bool.and_eq_true, Bool.not_eq_true'] at h
   exact key _ hz h.1.2 (Or.inr ⟨by simp [Value.cells], h.1.1⟩)
  ·rename_i b hz
   simp only [Bool.and_eq_true, Bool.not_eq_true'] at h
   exact key _ hz h.1.2 (Or.inr ⟨by simp [Value.cells], h.1.1⟩)
  ·cases h
 ·cases h
theorem Fq {t : Nat} {k : IntKind} {vs : List K} {ag : Bool} (h : Gk P t = some (k, vs, ag)) :
 ∃ kt et, P.underlying t = some (.map kt et) /\ P.underlying kt = some (.int k) /\ (∀ w, (zeroValue et).run P w = .ok (keyV vs ag (vs.map fun _ => 0)) w) /\ fits vs (vs.map fun _ => 0) := by
 grind [Gk, Ql]
def gotV (zv : Value) : Option (Nat × Value) -> Value
 | some (_, v) => v
 | none => zv
theorem LG {t kt et : Nat} {k : IntKind} {zv : Value} {b ck : Nat} {es : Array MapEntry} (hm : P.underlying t = some (.map kt et)) (hk : P.underlying kt = some (.int k)) (hz : ∀ w, (zeroValue et).run P w = .ok zv w)
 (hb : w.heap[b]? = some (.map es ck)) (z : Int) (res : Option (Nat × Value)) (hf : Instr.findNow (.int k) (.int k z) es.toList 0 = some res) (ok : Bool) :
 (Instr.lookup t (.map (some b)) (.int k z) ok).run P w = .ok (bif ok then .tuple #[gotV zv res, .bool res.isSome] else gotV zv res) w := by
 have hkk : MapKept.IsKey (.int k) (.int k z) := rfl
 cases res with
 | none => cases ok <;> simp [Instr.lookup, run_underlying hm, MapKept.run_getObj_map hb, MapKept.run_checkKey hk hkk, MapKept.run_findKey hk hf, hz, Result.andThen, gotV]
 | some r =>
   obtain ⟨i, v⟩ := r
   cases ok <;> simp [Instr.lookup, run_underlying hm, MapKept.run_getObj_map hb, MapKept.run_checkKey hk hkk, MapKept.run_findKey hk hf, hz, Result.andThen, gotV]
theorem C0 {t n : Nat} {key : SV} {g : E} {k : IntKind} {vs : List K} {ag : Bool} {c e : E} (h : DS P m t n key = some (g, k, vs, ag, c, e)) :
 m.at n = some (g, .mp [.i k] vs false ag c) /\ Gk P t = some (k, vs, ag) /\ key = .sc e /\ g.kind = .b /\ e.kind = .i k /\ e.sound = true /\ c.kind = .x := by
 unfold DS at h
 grind
theorem Km (hB : BI F) {c e : E} {n : Nat} {R : List Int} (hR : ((dc (c.den F ρ)).find? fun r => r.take 1 == [e.den F ρ]).getD ([e.den F ρ] ++ List.replicate n 0) = R) :
 ∀ (ks : List K) (j : Nat), fits ks (R.drop j) -> SV.concL F ρ ad (Dl c e n ks j) = numV ks (R.drop j)
 | [], j, _ => by simp [Dl, SV.concL, numV]
 | k :: ks, j, hf => by
   cases hd : R.drop j with
   | nil => rw [hd] at hf; exact hf.elim
   | cons x xs =>
     rw [hd] at hf
     have hj : R.getD j 0 = x := by
      have h0 : (R.drop j)[0]? = some x := by rw [hd]; rfl
      rw [List.getElem?_drop, Nat.add_zero] at h0
      simp [List.getD, h0]
     have hx : R.drop (j + 1) = xs := by
      rw [<- List.drop_drop, hd]; rfl
     have hv : (E.app k 0 9 [c, .lit .x n, .lit .x j, e]).den F ρ = x := by
      rw [AH hB]
      simp only [List.map_cons, List.map_nil, bi, E.den, K.norm, Int.toNat_natCast, List.length_singleton, hR, hj]
      exact hf.1
     have ih := Km hB hR ks (j + 1) (by rw [hx]; exact hf.2)
     simp only [Dl, SV.concL, SV.conc, ih, hx, numV, List.zipWith_cons_cons]
     congr 1
     rw [<- Bj, hv]; rfl
theorem Nx {p : Nat -> Prop} (c e : E) (n : Nat) : ∀ (ks : List K) (j : Nat), SV.okL p (Dl c e n ks j)
 | [], _ => trivial
 | _ :: ks, j => ⟨trivial, Nx c e n ks (j + 1)⟩
theorem Sq {ag : Bool} {l : List SV} {vs : List K} {us : List Int} (h : SV.concL F ρ ad l = numV vs us) : (shpV ag l).conc F ρ ad = keyV vs ag us := by
 cases ag
 ·simp only [shpV, keyV, cond_false]
  rw [<- h]
  cases l <;> rfl
 grind [shpV, keyV, SV.conc]
theorem Pn {p : Nat -> Prop} {ag : Bool} {l : List SV} (h : SV.okL p l) : (shpV ag l).ok p := by
 cases ag
 ·cases l with
  | nil => trivial
  | cons v r => exact h.1
 ·exact h
theorem LH (hR : Rel F ρ w0 M0 Im0 ad m w) {n : Nat} {g : E} {k : IntKind} {vs : List K} {ag : Bool} {c : E} (hn : m.at n = some (g, .mp [.i k] vs false ag c)) (hg : g.tt F ρ = true) :
 isCd (c.den F ρ) /\ ∃ es ck, w.heap[(ad n).blk]? = some (.map es ck) /\ MapV [.i k] vs false ag es (dc (c.den F ρ)) := by
 obtain ⟨hM, Im, h1, h2, hI⟩ := hR
 exact (hI.ent n g _ hn hg).1
theorem Vl (hB : BI F) {c e : E} : (E.app .b 0 8 [c, e]).den F ρ = b2i ((dc (c.den F ρ)).any fun r => r.take 1 == [e.den F ρ]) := by
 rw [AH hB]
 simp only [List.map_cons, List.map_nil, bi, List.length_singleton, K.norm]
 cases (dc (c.den F ρ)).any fun r => r.take 1 == [e.den F ρ] <;> rfl
theorem Ss (hB : BI F) (hR : Rel F ρ w0 M0 Im0 ad m w) {t n : Nat} {key : SV} {ok : Bool} {g : E} {k : IntKind} {vs : List K} {ag : Bool} {c e : E} (h : DS P m t n key = some (g, k, vs, ag, c, e)) (hg : g.tt F ρ = true) :
 Done F ρ w0 M0 Im0 ad m m (valN ((Instr.lookup t (.map (some (ad n).blk)) (key.conc F ρ ad) ok).run P w)) (bif ok then .tup [shpV ag (Dl c e vs.length vs 1), .sc (.app .b 0 8 [c, e])] else shpV ag (Dl c e vs.length vs 1)) := by
 obtain ⟨hn, hi, rfl, k1, k2, k3, k4⟩ := C0 h
 obtain ⟨kt, et, t1, t2, t3, t4⟩ := Fq hi
 obtain ⟨hc, es, ck, hb, hs, l', hp, hz⟩ := LH hR hn hg
 have he : (SV.sc e).conc F ρ ad = .int k (e.den F ρ) := by simp only [SV.conc, E.val_i k2]
 rw [he]
 have hok : SV.okL (al m) (Dl c e vs.length vs 1) := Nx c e vs.length vs 1
 have fin : ∀ (res : Option (Nat × Value)) (us : List Int), Instr.findNow (.int k) (.int k (e.den F ρ)) es.toList 0 = some res -> fits vs us -> gotV (keyV vs ag (vs.map fun _ => 0)) res = keyV vs ag us ->
  ((dc (c.den F ρ)).find? fun r => r.take 1 == [e.den F ρ]).getD ([e.den F ρ] ++ List.replicate vs.length 0) = e.den F ρ :: us -> ((dc (c.den F ρ)).any fun r => r.take 1 == [e.den F ρ]) = res.isSome ->
  Done F ρ w0 M0 Im0 ad m m (valN ((Instr.lookup t (.map (some (ad n).blk)) (.int k (e.den F ρ)) ok).run P w)) (bif ok then .tup [shpV ag (Dl c e vs.length vs 1), .sc (.app .b 0 8 [c, e])] else shpV ag (Dl c e vs.length vs 1)) := fun res us h1 h2 h3 h4 h5 => by
  have hcols := Km (ad := ad) hB h4 vs 1 (by simpa using h2)
  simp only [List.drop_succ_cons, List.drop_zero] at hcols
  have hv := Sq (ag := ag) hcols
  have hh : (SV.sc (E.app .b 0 8 [c, e])).conc F ρ ad = .bool res.isSome := by
   simp only [SV.conc, E.val_b (show (E.app .b 0 8 [c, e]).kind = .b from rfl), E.tt, Vl hB, D1, h5]
  rw [LG t1 t2 t3 hb _ res h1 ok, h3]
  cases ok
  ·exact ⟨ad, w, Or.inl (by simp [valN, hv]), hR, Ext.refl _ _, Pn hok⟩
  ·refine ⟨ad, w, Or.inl ?_, hR, Ext.refl _ _, ⟨Pn hok, trivial, trivial⟩⟩
   simp_all [valN, SV.conc, SV.concL]
 have hanyf : ∀ (p : List Int -> Bool) (l : RL), l.any p = (l.find? p).isSome := fun p l => by
  grind
 rcases JP hs hp hz (e.den F ρ) with ⟨f1, f2, f3⟩ | ⟨i, en, us, f1, f2, f3, f4, f5, f6⟩
 ·refine fin none (vs.map fun _ => 0) f1 t4 rfl ?_ (by rw [hanyf, f2]; rfl)
  rw [f2]
  simp [List.map_const']
 ·refine fin (some (i, keyV vs ag us)) us f1 f5 rfl (by rw [f6]; rfl) (by rw [hanyf, f6]; rfl)
theorem Fr.setObj {b : Nat} {o o' : Obj} (hb : w.heap[b]? = some o) : Fr (fun x => x = b) w { w with heap := w.heap.setIfInBounds b o' } :=
 ⟨rfl, rfl, rfl, by simp, fun k _ hn => (MapKept.heap_set hb).2 k hn⟩
theorem G5 (hR : Rel F ρ w0 M0 Im0 ad m w) {n : Nat} {g : E} {k : IntKind} {vs : List K} {ag : Bool} {c c' : E} {es es' : Array MapEntry} {ck ck' : Nat} (hn : m.at n = some (g, .mp [.i k] vs false ag c)) (hg : g.tt F ρ = true)
 (hb : w.heap[(ad n).blk]? = some (.map es ck)) (hc' : isCd (c'.den F ρ)) (hV : MapV [.i k] vs false ag es' (dc (c'.den F ρ))) :
 Rel F ρ w0 M0 Im0 ad (m.set n (some (g, .mp [.i k] vs false ag c'))) { w with heap := w.heap.setIfInBounds (ad n).blk (.map es' ck') } := by
 refine hR.turn hn (Fr.setObj hb) (fun b hbb => ⟨by simp only [mutB, hbb], hg⟩) (fun Im' hI' _ => ⟨hc', es', ck', (MapKept.heap_set hb).1, hV⟩) (fun b hb => hb) trivial
theorem Qm {α : Type} (a : Array α) (i : Nat) (f : α -> α) (x : α) (h : a[i]? = some x) : (a.modify i f).toList = a.toList.set i (f x) := by
 apply List.ext_getElem?
 grind
theorem Su (hB : BI F) (hR : Rel F ρ w0 M0 Im0 ad m w) {t n : Nat} {key val : SV} {g : E} {k : IntKind} {vs : List K} {ag : Bool} {c e : E} {es : List E} (h : DS P m t n key = some (g, k, vs, ag, c, e)) (hsc : scs vs val.cells = some es) (ha : isAg val = ag) (hg : g.tt F ρ = true) :
 Done F ρ w0 M0 Im0 ad m (m.set n (some (g, .mp [.i k] vs false ag (.app .x 0 10 (c :: .lit .x 1 :: e :: es))))) (((Instr.mapUpdate t (.map (some (ad n).blk)) (key.conc F ρ ad) (val.conc F ρ ad)).run P w).andThen fun _ w' => .ok .skip w') .und := by
 obtain ⟨hn, hi, rfl, k1, k2, k3, k4⟩ := C0 h
 obtain ⟨kt, et, t1, t2, t3, t4⟩ := Fq hi
 obtain ⟨hc, en, ck, hb, hs, l', hp, hz⟩ := LH hR hn hg
 have he : (SV.sc e).conc F ρ ad = .int k (e.den F ρ) := by simp only [SV.conc, E.val_i k2]
 obtain ⟨s1, s2, s3⟩ := Fp F ρ ad hsc
 have hv : val.conc F ρ ad = keyV vs ag (es.map (E.den F ρ)) := by
  unfold keyV
  rw [<- s2, <- ha]
  cases val <;> first | rfl | (simp only [isAg, cond_false, SV.cells, SV.concL]; rfl)
 rw [he, hv]
 have hw : k.wrap (e.den F ρ) = e.den F ρ := by
  have := E.den_norm F ρ e k3
  rw [k2] at this; exact this
 generalize hus : es.map (E.den F ρ) = us at s1 hv ⊢
 generalize hzz : e.den F ρ = z at he hw ⊢
 have hden : (E.app .x 0 10 (c :: .lit .x 1 :: e :: es)).den F ρ = cd (putR 1 (z :: us) (dc (c.den F ρ))) := by
  rw [AH hB]
  simp only [List.map_cons, hus, hzz, bi, K.norm, E.den]
  rfl
 have hkk : MapKept.IsKey (.int k) (.int k z) := rfl
 have hperm := Mm (n := 1) (row := z :: us) hs
 have hent : ∀ b, EntV [.i k] vs false ag ⟨.int k z, keyV vs ag us, b⟩ (z :: us) := fun b => Vk hw s1
 rcases JP hs hp hz z with ⟨f1, f2, f3⟩ | ⟨i, en1, us1, f1, f2, f3, f4, f5, f6⟩
 ·refine ⟨ad, _, Or.inr ⟨?_, rfl⟩, G5 hR hn hg hb (es' := en.push ⟨.int k z, keyV vs ag us, ck⟩) (ck' := ck + 1) (by simp_all) ?_, Ext.set ad hn, trivial⟩
  ·simp [Instr.mapUpdate, run_underlying t1, MapKept.run_getObj_map hb, MapKept.run_checkKey t2 hkk, MapKept.run_findKey t2 f1, MapKept.run_setObj_map _ hb, Result.andThen]
  ·rw [hden, Ab]
   refine ⟨F3 hs, l' ++ [z :: us], ?_, ?_⟩
   ·grind [dc, E.den, Ci]
   grind [MapZ.snoc]
 ·have hj : en[i]? = some en1 := by simpa using f2
  refine ⟨ad, _, Or.inr ⟨?_, rfl⟩, G5 hR hn hg hb (es' := en.modify i fun e => { e with key := .int k z, val := keyV vs ag us }) (ck' := ck) (by simp_all) ?_, Ext.set ad hn, trivial⟩
  ·simp [Instr.mapUpdate, run_underlying t1, MapKept.run_getObj_map hb, MapKept.run_checkKey t2 hkk, MapKept.run_findKey t2 f1, hj, f3, MapKept.run_keyThatStays hkk, MapKept.run_setObj_map _ hb, Result.andThen]
  ·rw [hden, Ab]
   refine ⟨F3 hs, l'.set i (z :: us), ?_, ?_⟩
   ·refine List.Perm.trans ?_ hperm.symm
    have h1 := Nw (row := z :: us) (LF hp hs.ne) f4 (k := [z]) rfl
    grind
   grind [Qm, MapZ.set]
theorem Sv (hB : BI F) (hR : Rel F ρ w0 M0 Im0 ad m w) {t kt' ty n : Nat} {key : SV} {g : E} {k : IntKind} {vs : List K} {ag : Bool} {c e : E} (h : DS P m t n key = some (g, k, vs, ag, c, e)) (hg : g.tt F ρ = true) :
 Done F ρ w0 M0 Im0 ad m (m.set n (some (g, .mp [.i k] vs false ag (.app .x 0 11 [c, e])))) (valN ((Builtin.delete_ #[t, kt'] ty #[.map (some (ad n).blk), key.conc F ρ ad]).run P w)) (.tup []) := by
 obtain ⟨hn, hi, rfl, k1, k2, k3, k4⟩ := C0 h
 obtain ⟨kt, et, t1, t2, t3, t4⟩ := Fq hi
 obtain ⟨hc, en, ck, hb, hs, l', hp, hz⟩ := LH hR hn hg
 have he : (SV.sc e).conc F ρ ad = .int k (e.den F ρ) := by simp only [SV.conc, E.val_i k2]
 rw [he]
 generalize hzz : e.den F ρ = z at he ⊢
 have hden : (E.app .x 0 11 [c, e]).den F ρ = cd (delR [z] (dc (c.den F ρ))) := by
  rw [AH hB]
  simp only [List.map_cons, List.map_nil, hzz, bi, K.norm]
 have hkk : MapKept.IsKey (.int k) (.int k z) := rfl
 have hdel := F4 (k := [z]) (n := 1) rfl hs
 rcases JP hs hp hz z with ⟨f1, f2, f3⟩ | ⟨i, en1, us1, f1, f2, f3, f4, f5, f6⟩
 ·refine ⟨ad, _, Or.inl ?_, G5 hR hn hg hb (es' := en) (ck' := ck) (by simp_all) ?_, Ext.set ad hn, trivial⟩
  ·simp [valN, Builtin.delete_, run_underlying t1, MapKept.run_getObj_map hb, MapKept.run_checkKey t2 hkk, MapKept.run_findKey t2 f1, MapKept.run_setObj_map _ hb, Result.andThen, SV.conc, SV.concL]
  ·rw [hden, Ab]
   refine ⟨Jt (k := [z]) (n := 1) rfl hs, l', ?_, hz⟩
   grind [dc, E.den, Ci]
 ·have hj : en[i]? = some en1 := by simpa using f2
  refine ⟨ad, _, Or.inl ?_, G5 hR hn hg hb (es' := en.eraseIdxIfInBounds i) (ck' := ck) (by simp_all) ?_, Ext.set ad hn, trivial⟩
  ·simp [valN, Builtin.delete_, run_underlying t1, MapKept.run_getObj_map hb, MapKept.run_checkKey t2 hkk, MapKept.run_findKey t2 f1, MapKept.run_setObj_map _ hb, Result.andThen, SV.conc, SV.concL]
  ·rw [hden, Ab]
   refine ⟨Jt (k := [z]) (n := 1) rfl hs, l'.eraseIdx i, ?_, ?_⟩
   ·rw [hdel, Kl (LF hp hs.ne) f4 (k := [z]) rfl]
    exact hp.filter _
   simp_all [MapZ.erase]
theorem Qn (hB : BI F) (hR : Rel F ρ w0 M0 Im0 ad m w) {k : IntKind} {vs : List K} {ag : Bool} {nm : Nat} (hn1 : nm < m.length) (hn2 : (m.at nm).isNone = true) :
 Done F ρ w0 M0 Im0 ad m (m.set nm (some (mkB true, .mp [.i k] vs false ag NILL))) (.ok (.value (.map (some w.heap.size))) (w.alloc (.map #[] 0))) (.mp nm) := by
 obtain ⟨hM, Im, h1, h2, hI⟩ := hR
 refine ⟨upd ad nm ⟨w.heap.size, 0, 0, false, undef⟩, w.alloc (.map #[] 0), Or.inl ?_, ⟨hM, Im, h1, h2, ?_⟩, Ext.put (ns := []) _ hn1 hn2, Ez (ns := []) hn1⟩
 ·simp [SV.conc, Au]
 ·refine hI.put (ns := []) (T := fun _ => False) (Fr.alloc _ _ _) (fun b hb => hb.elim) hn1 hn2 ?_ (fun b hb => ?_) trivial
  ·refine ⟨by grind [BI.nil, E4], #[], 0, by simp only [Au]; exact (MapKept.heap_alloc w _).1, ?_⟩
   rw [hB.nil (ρ := ρ), Ab]
   exact ⟨List.Pairwise.nil, [], List.Perm.refl _, trivial⟩
  simp_all [mutB, Au]
theorem Sw (hB : BI F) (hR : Rel F ρ w0 M0 Im0 ad m w) {t ty n : Nat} {g : E} {ks vs : List K} {kag vag : Bool} {c : E} (hn : m.at n = some (g, .mp ks vs kag vag c)) (hk : g.kind = .b) (ht : mapT P t = true) :
 (mkAnd g (mkCmp .leq (.app .x 0 0 [c]) (.lit .x maxLen))).kind = .b /\ ((mkAnd g (mkCmp .leq (.app .x 0 0 [c]) (.lit .x maxLen))).tt F ρ = true ->
  Done F ρ w0 M0 Im0 ad m m (valN ((Builtin.len_ #[t] ty #[.map (some (ad n).blk)]).run P w)) (.sc (LEN c))) := by
 have p1 := Ae .leq (.app .x 0 0 [c]) (.lit .x maxLen) F ρ
 have p2 := Aa g _ hk p1.2 F ρ
 refine ⟨p2.2, fun hg => ?_⟩
 rw [p2.1, Bool.and_eq_true] at hg
 have hle := JM hg.2
 rw [AH hB] at hle
 simp only [List.map_cons, List.map_nil, bi, K.norm] at hle
 have hR' := hR
 obtain ⟨hM, Im, h1, h2, hI⟩ := hR
 obtain ⟨hc, es, ck, hb, hs, l', hp, hz⟩ := (hI.ent n g _ hn hg.1).1
 have hsz : es.size = (dc (c.den F ρ)).length := by
  have := hz.len
  rw [hp.length_eq] at this
  simpa using this
 have hlen : (LEN c).den F ρ = ((dc (c.den F ρ)).length : Int) := by rw [hB.len, GZ (by omega)]
 obtain ⟨a, b, hab⟩ : ∃ a b, P.underlying t = some (.map a b) := by
  grind [mapT]
 refine ⟨ad, w, Or.inl ?_, hR', Ext.refl _ _, trivial⟩
 simp only [SV.conc, E.val_i (show (LEN c).kind = .i .i64 from rfl), hlen, <- hsz]
 simp [valN, Builtin.len_, run_underlying hab, MapKept.run_getObj_map hb, Result.andThen, goInt]
theorem Sx (hB : BI F) (hR : Rel F ρ w0 M0 Im0 ad m w) {t n str ty : Nat} {row : Row} {l0 lo hi i : E} {V : LV} (hV : Ag m ty row (.sv n str l0 lo hi) = some V) (ht : Ay P t = some ty) (hs : szOf P ty = some str) (hik : i.kind = .i .i64) (hlk : lo.kind = .i .i64) (hal : al m n) :
 (mkAnd V.g (inB i V.le)).kind = .b /\ ((mkAnd V.g (inB i V.le)).tt F ρ = true -> Done F ρ w0 M0 Im0 ad m m (valN ((Instr.indexAt t ((SV.sv n str l0 lo hi).conc F ρ ad) (i.val F ρ)).run P w)) (.pe n str (Cg .add .i64 lo i) 0)) := by
 obtain ⟨k1, k2, k3⟩ := AS hV
 have p1 := Aa V.g (inB i V.le) k3 (Al (F := F) (ρ := ρ)).1 F ρ
 refine ⟨p1.2, fun hg => ?_⟩
 rw [p1.1, Bool.and_eq_true] at hg
 have hR' := hR
 obtain ⟨hM, Im, h1, h2, hI⟩ := hR
 obtain ⟨hd, o1, o2, o3, o4, o5, o6, o7⟩ := Bb hB hI hV hg.1
 obtain ⟨b1, b2⟩ := HU o3 hg.2
 have hV' := hV
 simp only [Ag] at hV'
 split at hV'
 ·rename_i g ty' row' own le' c hn
  split at hV'
  ·rename_i hc
   obtain ⟨rfl, rfl, rfl, h3, h4, h5, h6⟩ := hc
   simp only [oJ] at hV'
   subst hV'
   simp only at hg o1 o3 o4 b1
   have hgg := hg.1
   rw [(Aa _ _ h6 (D8 (F := F) (ρ := ρ)).1 F ρ).1, Bool.and_eq_true] at hgg
   obtain ⟨c1, c2, c3⟩ := (D8 (F := F) (ρ := ρ)).2 hgg.2
   obtain ⟨⟨j1, j2, j3⟩, i2⟩ := hI.ent n g _ hn hgg.1
   have hrd : RdL w Im row' (ad n) (dc (c.den F ρ)) := by
    cases own
    ·grind [ShL.rd]
    ·grind [OwL.rd]
   obtain ⟨d1, d2, d3⟩ := hrd
   have hden : (E.app .x 0 5 [c, lo, hi]).den F ρ = cd (((dc (c.den F ρ)).take (hi.den F ρ).toNat).drop (lo.den F ρ).toNat) := by
    rw [AH hB]; rfl
   have hsl : (((dc (c.den F ρ)).take (hi.den F ρ).toNat).drop (lo.den F ρ).toNat).length = (hi.den F ρ).toNat - (lo.den F ρ).toNat := by simp; omega
   rw [hden, Ab, hsl] at b1
   have hle := E.same_eq _ _ h3
   subst hle
   have hsum : (Cg .add .i64 lo i).den F ρ = lo.den F ρ + i.den F ρ := by
    have hb := AR .add .i64 lo i F ρ
    have hv := hb.1
    rw [E.val_i hb.2] at hv
    simp only [Value.int.injEq, true_and] at hv
    rw [hv]
    simp only [binI]
    have hnn : lo.den F ρ + i.den F ρ = (((lo.den F ρ).toNat + (i.den F ρ).toNat : Nat) : Int) := by omega
    rw [hnn]
    exact GZ (by omega)
   have hu := A8 ht
   have hform : (SV.sv n row'.size l0 lo hi).conc F ρ ad = .slice (some ⟨(ad n).blk, (ad n).off + (lo.den F ρ).toNat * row'.size, none⟩) ((hi.den F ρ).toNat - (lo.den F ρ).toNat) ((ad n).cap - (lo.den F ρ).toNat) := by
    simp only [SV.conc, Hd.sl]
    have : (((hi.den F ρ).toNat - (lo.den F ρ).toNat) == 0) = false := by simp; omega
    rw [this]
    simp only [Bool.and_false, cond_false, Hd.part]
    rw [if_neg (by omega)]
   refine ⟨ad, w, Or.inl ?_, hR', Ext.refl _ _, hal⟩
   rw [hform, E.val_i hik]
   have hnn : 0 <= i.den F ρ := by omega
   have hlt : i.den F ρ < (((hi.den F ρ).toNat - (lo.den F ρ).toNat : Nat) : Int) := by omega
   have hto : (lo.den F ρ + i.den F ρ).toNat = (lo.den F ρ).toNat + (i.den F ρ).toNat := by omega
   have hmul : (ad n).off + (lo.den F ρ).toNat * row'.size + (i.den F ρ).toNat * row'.size = (ad n).off + ((lo.den F ρ).toNat + (i.den F ρ).toNat) * row'.size := by rw [Nat.add_mul]; omega
   have hlt' : ¬ (((hi.den F ρ).toNat - (lo.den F ρ).toNat : Nat) : Int) <= i.den F ρ := by omega
   simp only [SV.conc, hsum, hto]
   simp [valN, Instr.indexAt, run_underlying hu, asIntOf, hnn, hlt, hlt', Ai w hs, Addr.add_none, hmul]
  ·cases hV'
 ·cases hV'
theorem Sy (hR : Rel F ρ w0 M0 Im0 ad m w) {t ty e n : Nat} {row : Row} {le c g : E} (hn : m.at n = some (g, .lst e row true le c)) (hr : Cu row = some ks) (ht : Ay P t = some e) (hz : Ep P e ks = true) (hg : g.tt F ρ = true) :
 Done F ρ w0 M0 Im0 ad m (m.set n (some (g, .dead))) (valN ((Builtin.clear_ #[t] ty #[(SV.ls n le).conc F ρ ad]).run P w)) (.tup []) := by
 have hR' := hR
 obtain ⟨hM, Im, h1, h2, hI⟩ := hR
 obtain ⟨⟨i1, i2, i3⟩, i4⟩ := hI.ent n g _ hn hg
 have hq := Fo hr
 subst hq
 simp only [cond_true] at i3
 obtain ⟨j1, xs, j2, j3⟩ := i3
 have hu := A8 ht
 have hlen : (le.den F ρ).toNat = (dc (c.den F ρ)).length := by rw [i2]; simp
 simp only [SV.conc, hlen]
 obtain ⟨inf, z, z1, z2, z3, z4⟩ := G4 hz
 have done : ∀ w', (Builtin.clear_ #[t] ty #[(ad n).sl (dc (c.den F ρ)).length]).run P w = .ok (.tuple #[]) w' -> Fr (fun b => ((ad n).sl (dc (c.den F ρ)).length).ownBlock = some b) w w' ->
  Done F ρ w0 M0 Im0 ad m (m.set n (some (g, .dead))) (valN ((Builtin.clear_ #[t] ty #[(ad n).sl (dc (c.den F ρ)).length]).run P w)) (.tup []) := fun w' hw hf => by
  refine ⟨ad, w', Or.inl (by rw [hw]; simp [valN, SV.conc, SV.concL]), ?_, Ext.set ad hn, trivial⟩
  exact hR'.turn hn hf (fun b hb => ⟨by grind [mutB], hg⟩) (fun _ _ _ => trivial) (fun b hb => by simp [mutB] at hb) trivial
 rcases j2.2 with ⟨hnil, hl0⟩ | ⟨gb, cap, cur, e1, k1, k2, k3, k4, k5, k6⟩
 ·refine done w ?_ (Fr.refl _ _)
  rw [hnil]
  simp [Builtin.clear_, run_underlying hu, Result.andThen]
 ·by_cases h0 : (dc (c.den F ρ)).length = 0
  ·refine done w ?_ (Fr.refl _ _)
   rw [e1, h0]
   simp [Builtin.clear_, run_underlying hu, Result.andThen]
  ·obtain ⟨k, hk⟩ : ∃ k, (dc (c.den F ρ)).length = k + 1 := ⟨(dc (c.den F ρ)).length - 1, by omega⟩
   have hzs : z.cells.size = ks.length := by
    have := congrArg List.length z3
    rw [JL z4] at this
    simpa using this
   have hones : ∀ v ∈ (Builtin.zeroCells z.cells (dc (c.den F ρ)).length).toList, v.oneCell' = true := fun v hv => by
    by_cases hks : ks.length = 0
    ·simp [Builtin.zeroCells, hzs, hks] at hv
    ·simp only [Builtin.zeroCells, Array.toList_map, List.mem_map] at hv
     obtain ⟨i, _, rfl⟩ := hv
     have hlt : i % z.cells.size < z.cells.size := Nat.mod_lt _ (by omega)
     have hm : z.cells[i % z.cells.size]! ∈ numV ks (ks.map fun _ => 0) := by
      rw [<- z3, Array.mem_toList_iff]
      rw [getElem!_pos z.cells _ hlt]
      exact Array.getElem_mem hlt
     exact RowV.one (w := w) (Im := Im) (Be.2 ⟨z4, rfl⟩) _ hm
   have hcap : (dc (c.den F ρ)).length * ks.length <= cap * ks.length := Nat.mul_le_mul_right _ k3
   rw [AE] at k5
   have hst := run_storeCells_at (P := P) gb 0 e (Builtin.zeroCells z.cells (dc (c.den F ρ)).length).toList 0 cur w k2 (by simp [Builtin.zeroCells, hzs, k5]; omega) hones
   obtain ⟨X, hX⟩ : ∃ X, Sem.run P (storeCells ⟨gb, 0, none⟩ (Builtin.zeroCells z.cells (dc (c.den F ρ)).length).toList 0) w = .ok () (w.setRow gb X) := ⟨_, hst⟩
   refine done (w.setRow gb X) ?_ ((Fr.setRow gb X).mono fun b hb => by rw [hb, e1]; rfl)
   rw [e1, hk]
   rw [hk] at hX
   simp only [Builtin.clear_, Sem.run_bind]
   simp [run_underlying hu, zeroValue, typeInfo, z1, z2, Result.andThen, hX]
theorem Qo (hB : BI F) (hR : Rel F ρ w0 M0 Im0 ad m w) {t e : Nat} {x : SV} {lo hi : Option E} {g : E} {v : SV} (h : subV P m t e x lo hi = some (g, v, m')) :
 g.kind = .b /\ (g.tt F ρ = true -> Done F ρ w0 M0 Im0 ad m m' (valN ((Instr.sliceAt t (x.conc F ρ ad) (lo.map (E.val F ρ)) (hi.map (E.val F ρ)) none).run P w)) v) := by
 unfold subV at h
 split at h
 ·rename_i n le
  split at h
  ·rename_i g' ty row le' c hn
   simp only at h
   split at h
   ·rename_i hc
    obtain ⟨rfl, c2, c3, c4, c5, c6, c7, c8, c9⟩ := hc
    simp only [oJ, pJ] at h
    obtain ⟨rfl, rfl, rfl⟩ := h
    have hle := E.same_eq _ _ c2
    subst hle
    have p1 := D8 (F := F) (ρ := ρ) (lo := lo.getD (.lit (.i .i64) 0)) (hi := hi.getD le) (le := le)
    have p2 := Aa g' _ c5 p1.1 F ρ
    refine ⟨p2.2, fun hg => ?_⟩
    rw [p2.1, Bool.and_eq_true] at hg
    obtain ⟨b1, b2, b3⟩ := p1.2 hg.2
    have hR' := hR
    obtain ⟨hM, Im, h1, h2, hI⟩ := hR
    obtain ⟨⟨i1, i2, i3⟩, i4⟩ := hI.ent n g' _ hn hg.1
    simp only [cond_true] at i3
    obtain ⟨d1, d2, d3⟩ := i3.rd
    have htt := A8 c6
    have hlen : (le.den F ρ).toNat = (dc (c.den F ρ)).length := by rw [i2]; simp
    have elo : lo.map (E.val F ρ) = lo.map fun _ => Value.int .i64 ((lo.getD (.lit (.i .i64) 0)).den F ρ) := by
     cases lo with
     | none => rfl
     | some q => grind [E.val_i]
    have ehi : hi.map (E.val F ρ) = hi.map fun _ => Value.int .i64 ((hi.getD le).den F ρ) := by
     cases hi with
     | none => rfl
     | some q => grind [E.val_i]
    have run := JQ (P := P) (F := F) (ρ := ρ) w htt c7 (ad n) (dc (c.den F ρ)).length d2 lo hi elo (fun e => by rw [e]; rfl) ehi (fun e => by rw [e]; exact i2) b1 b2 (by rw [<- i2]; exact b3)
    refine ⟨ad, w, Or.inl ?_, hR', Ext.refl _ _, Mem.at_al hn⟩
    simp_all [SV.conc, valN]
   ·cases h
  ·cases h
 ·cases h
theorem ES {n : Nat} {g : E} {ty : Nat} {cs : List SV} {c : E} (h : EM m n = some (g, ty, cs, ks, c)) : m.at n = some (g, .seg ty cs ks c) /\ g.kind = .b /\ c.kind = .x /\ ks.length ≠ 0 := by
 grind [EM]
theorem G6 : ∀ {l : RL}, (∀ r ∈ l, fits ks r) -> RowsV w Im (Row.ofKs ks) l (Bf ks l)
 | [], _ => rfl
 | r :: l, h => ⟨numV ks r, Bf ks l, by simp [Bf], Be.2 ⟨h r (List.mem_cons_self ..), rfl⟩, G6 fun a ha => h a (List.mem_cons_of_mem _ ha)⟩
theorem Ny : ∀ {l : RL} {xs : List Value}, RowsV w Im (Row.ofKs ks) l xs -> xs = Bf ks l /\ ∀ r ∈ l, fits ks r
 | [], xs, h => ⟨h, fun r hr => by cases hr⟩
 | r :: l, xs, ⟨us, ys, h1, h2, h3⟩ => by
   obtain ⟨i1, i2⟩ := Ny h3
   grind [Be, Bf]
theorem Mn (hB : BI F) {e c : E} {r0 : Nat} (hk : e.kind = .i .i64) (h0 : r0 <= 1000000) : (rowG e r0 c).kind = .b /\ ((rowG e r0 c).tt F ρ = true -> ∃ i : Nat, e.den F ρ = (i : Int) /\ (rowE e r0).den F ρ = ((i + r0 : Nat) : Int) /\ i + r0 < (dc (c.den F ρ)).length) := by
 have hm := Aa (inB e big9) (inB (rowE e r0) (LEN c)) (Al (F := F) (ρ := ρ)).1 (Al (F := F) (ρ := ρ)).1 F ρ
 refine ⟨hm.2, fun h => ?_⟩
 unfold rowG at h
 rw [hm.1, Bool.and_eq_true] at h
 obtain ⟨c1, c2⟩ := (Al (F := F) (ρ := ρ)).2 h.1
 obtain ⟨b1, b2⟩ := (Al (F := F) (ρ := ρ)).2 h.2
 have hbig : big9.den F ρ = 1000000000 := BK (n := 1000000000) (Nat.le_refl _)
 rw [hbig] at c2
 obtain ⟨i, hi⟩ := Int.eq_ofNat_of_zero_le c1
 have hrow : (rowE e r0).den F ρ = ((i + r0 : Nat) : Int) := by
  unfold rowE
  cases hz : r0 == 0
  ·simp only [cond_false]
   have p1 := AR .add .i64 e (.lit (.i .i64) r0) F ρ
   have q1 := p1.1
   rw [E.val_i p1.2] at q1
   simp only [Value.int.injEq, true_and, binI, BK (show r0 <= 1000000000 by omega), hi] at q1
   rw [q1]
   simp only [IntKind.wrap, IntKind.signed, IntKind.bits]; simp; split <;> omega
  ·simp_all
 refine ⟨i, hi, hrow, ?_⟩
 rw [hrow, hB.len] at b2
 have hw : IntKind.i64.wrap ((dc (c.den F ρ)).length : Int) <= ((dc (c.den F ρ)).length : Int) := by
  simp only [IntKind.wrap, IntKind.signed, IntKind.bits]; simp; split <;> omega
 omega
theorem Mo {off h k r0 i : Nat} (hh : h <= off) (hr : r0 = (off - h) / k) : off + i * k = h + ((i + r0) * k + (off - h) % k) := by
 have h1 := Nat.div_add_mod (off - h) k
 grind
theorem IX (hR : Rel F ρ w0 M0 Im0 ad m w) {n : Nat} {g : E} {ty : Nat} {cs : List SV} {c : E} (hn : m.at n = some (g, .seg ty cs ks c)) (hg : g.tt F ρ = true) :
 isCd (c.den F ρ) /\ (∀ r ∈ dc (c.den F ρ), fits ks r) /\ w.heap[(ad n).blk]? = some (.cells (SV.concL F ρ ad cs ++ Bf ks (dc (c.den F ρ))).toArray ty (0, 0)) /\ SV.okL (al m) cs := by
 obtain ⟨hM, Im, h1, h2, hI⟩ := hR
 obtain ⟨a, b, c'⟩ := (hI.ent n g _ hn hg).1
 exact ⟨a, b, c', hI.ok n g _ hn⟩
theorem F5 (hB : BI F) (hR : Rel F ρ w0 M0 Im0 ad m w) {n off str sz : Nat} {e g : E} {ag : Bool} {v : SV} (h : EN m n off str e sz ag = some (g, v, m')) :
 g.kind = .b /\ (g.tt F ρ = true -> Done F ρ w0 M0 Im0 ad m m' (BF P w (ad n).blk (off + (e.den F ρ).toNat * str) sz ag) v) := by
 unfold EN at h
 split at h
 ·rename_i g' ty cs ks c hs
  obtain ⟨s1, s2, s3, s4⟩ := ES hs
  split at h
  ·rename_i hc
   obtain ⟨u, hu, he⟩ := Option.map_eq_some_iff.1 h
   simp only [pJ] at he
   obtain ⟨rfl, rfl, rfl⟩ := he
   obtain ⟨c1, rfl, c3, c4⟩ := hc
   have hrg := Mn (ρ := ρ) (c := c) hB c3 c4
   have hm := Aa g' _ s2 hrg.1 F ρ
   refine ⟨hm.2, fun hg => ?_⟩
   rw [hm.1, Bool.and_eq_true] at hg
   obtain ⟨i, i1, i2, i3⟩ := hrg.2 hg.2
   obtain ⟨t1, t2, t3, t4⟩ := IX hR s1 hg.1
   have hrows := G6 (w := w) (Im := fun _ => False) t2
   obtain ⟨us, u1, u2⟩ := hrows.get _ _ (List.getElem?_eq_getElem i3)
   obtain ⟨f1, f2⟩ := Be.1 u1
   rw [AE] at u2
   have hget : (dc (c.den F ρ)).getD ((rowE e ((off - cs.length) / ks.length)).den F ρ).toNat [] = (dc (c.den F ρ))[i + (off - cs.length) / ks.length] := by rw [i2, Int.toNat_natCast]; simp only [List.getD, List.getElem?_eq_getElem i3, Option.getD_some]
   have hconc := HT (ad := ad) hB hget ks 0 _ f1 (fun t => by rw [Nat.zero_add])
   have hcl : (SV.concL F ρ ad cs).length = cs.length := by rw [Ac]; simp
   obtain ⟨r1, r2⟩ := D9 (P := P) (F := F) (ρ := ρ) (ad := ad) (w := w) (b := (ad n).blk) (base := cs.length + (i + (off - cs.length) / ks.length) * ks.length) (fun j x hx => by
    rw [hconc, <- f2] at hx
    rw [Cx t3]
    grind) hu
   rw [i1, Int.toNat_natCast, Mo c1 rfl, <- Nat.add_assoc]
   exact ⟨ad, w, Or.inl r1, hR, Ext.refl _ _, r2 _ (LD c _ _ ks 0)⟩
  ·cases h
 ·cases h
theorem F6 (hB : BI F) (hR : Rel F ρ w0 M0 Im0 ad m w) {n off str : Nat} {e g : E} {vs : List SV} {v : SV} (h1v : vs.all SV.one = true) (h : EO m n off str e vs = some (g, v, m')) :
 g.kind = .b /\ (g.tt F ρ = true -> Done F ρ w0 M0 Im0 ad m m' (BR P w (ad n).blk (off + (e.den F ρ).toNat * str) (SV.concL F ρ ad vs)) v) := by
 unfold EO at h
 split at h
 ·rename_i g' ty cs ks c hs
  obtain ⟨s1, s2, s3, s4⟩ := ES hs
  split at h
  ·rename_i es hes
   split at h
   ·rename_i hc
    simp only [oJ, pJ] at h
    obtain ⟨rfl, rfl, rfl⟩ := h
    obtain ⟨c1, rfl, c3, c4, c5⟩ := hc
    have hrg := Mn (ρ := ρ) (c := c) hB c3 c4
    have hm := Aa g' _ s2 hrg.1 F ρ
    refine ⟨hm.2, fun hg => ?_⟩
    rw [hm.1, Bool.and_eq_true] at hg
    obtain ⟨i, i1, i2, i3⟩ := hrg.2 hg.2
    obtain ⟨t1, t2, t3, t4⟩ := IX hR s1 hg.1
    obtain ⟨e1, e2, e3⟩ := Fp F ρ ad hes
    generalize hr0 : (off - cs.length) / ks.length = r0 at c4 hrg i2 i3 hg hm ⊢
    generalize hcol : (off - cs.length) % ks.length = col at c5 hes e1 e2 ⊢
    have hoff : off + (e.den F ρ).toNat * ks.length = cs.length + ((i + r0) * ks.length + col) := by
     rw [i1, Int.toNat_natCast, <- hcol]; exact Mo c1 hr0.symm
    rw [hoff]
    have hesl : (es.map (E.den F ρ)).length = vs.length := by simp [e3]
    generalize hzs : es.map (E.den F ρ) = zs at e1 e2 hesl
    have hden : (E.app .x 0 6 (c :: rowE e r0 :: .lit .x (col : Nat) :: es)).den F ρ = cd ((dc (c.den F ρ)).set (i + r0) (splR (dc (c.den F ρ))[i + r0] col zs)) := by
     rw [AH hB]
     simp only [List.map_cons, hzs, bi, i2, K.norm, E.den, Int.toNat_natCast]
     congr 2
     simp [List.getD, i3]
    have hfr := t2 _ (List.getElem_mem i3)
    obtain ⟨p1, p2⟩ := HS (o := col) (es := zs) hfr (by rw [hesl]; exact e1) (by rw [hesl]; exact c5)
    have hrows := G6 (w := w) (Im := fun _ => False) t2
    have hset := RowsV.set hrows (i + r0) (splR (dc (c.den F ρ))[i + r0] col zs) _ i3 (Be.2 ⟨p1, rfl⟩)
    obtain ⟨q1, q2⟩ := Ny hset
    rw [AE] at q1
    obtain ⟨us, u1, u2⟩ := hrows.get _ _ (List.getElem?_eq_getElem i3)
    obtain ⟨f1, f2⟩ := Be.1 u1
    rw [AE] at u2
    have hcl : (SV.concL F ρ ad cs).length = cs.length := by rw [Ac]; simp
    have hfl : (Bf ks (dc (c.den F ρ))).length = (dc (c.den F ρ)).length * ks.length := by rw [hrows.len, AE]
    have hvl : (SV.concL F ρ ad vs).length = vs.length := by rw [Ac]; simp
    have hmul : (i + r0) * ks.length + ks.length <= (dc (c.den F ρ)).length * ks.length := by
     have : (i + r0 + 1) * ks.length <= (dc (c.den F ρ)).length * ks.length := Nat.mul_le_mul_right _ i3
     rwa [Nat.succ_mul] at this
    have hones : ∀ x ∈ SV.concL F ρ ad vs, x.oneCell' = true := fun x hx => by
     grind [Ac, SV.one_conc]
    have hst := EA (P := P) (w := w) (off := cs.length + ((i + r0) * ks.length + col)) (vs := SV.concL F ρ ad vs) t3 (by grind) hones
    have hnew : ((SV.concL F ρ ad cs ++ Bf ks (dc (c.den F ρ))).toArray.toList.take (cs.length + ((i + r0) * ks.length + col)) ++ SV.concL F ρ ad vs ++ (SV.concL F ρ ad cs ++ Bf ks (dc (c.den F ρ))).toArray.toList.drop (cs.length + ((i + r0) * ks.length + col) + (SV.concL F ρ ad vs).length)) =
     SV.concL F ρ ad cs ++ Bf ks ((dc (c.den F ρ)).set (i + r0) (splR (dc (c.den F ρ))[i + r0] col zs)) := by
     rw [<- q1, p2, <- f2]
     have hus : us = ((Bf ks (dc (c.den F ρ))).drop ((i + r0) * ks.length)).take ks.length := by
      apply List.ext_getElem?
      intro j
      have hul : us.length = ks.length := by rw [f2, JL f1]
      by_cases hj : j < ks.length
      ·simp_all
      ·grind
     have hseg := Mh (Bf ks (dc (c.den F ρ))) (SV.concL F ρ ad vs) us ((i + r0) * ks.length) ks.length col (Bf ks (dc (c.den F ρ))).length (by grind) (by rw [hvl]; exact c5) (by rw [hfl]; exact hmul) (Nat.le_refl _)
     rw [List.take_length] at hseg
     have hlen2 : ((Bf ks (dc (c.den F ρ))).take ((i + r0) * ks.length + col) ++ SV.concL F ρ ad vs ++ (Bf ks (dc (c.den F ρ))).drop ((i + r0) * ks.length + col + (SV.concL F ρ ad vs).length)).length <= (Bf ks (dc (c.den F ρ))).length := by
      simp only [List.length_append, List.length_take, List.length_drop, hfl, hvl]; omega
     rw [List.take_of_length_le hlen2] at hseg
     have hzz : us.take col ++ SV.concL F ρ ad vs ++ us.drop (col + (SV.concL F ρ ad vs).length) = us.take col ++ numV ((ks.drop col).take vs.length) zs ++ us.drop (col + zs.length) := by rw [e2, <- e2, hvl, hesl]
     simp only [List.toList_toArray]
     rw [List.take_append, List.drop_append, hcl]
     rw [List.take_of_length_le (l := SV.concL F ρ ad cs) (by rw [hcl]; omega), List.drop_of_length_le (l := SV.concL F ρ ad cs) (by rw [hcl]; omega)]
     rw [show cs.length + ((i + r0) * ks.length + col) - cs.length = (i + r0) * ks.length + col by omega, show cs.length + ((i + r0) * ks.length + col) + (SV.concL F ρ ad vs).length - cs.length = (i + r0) * ks.length + col + (SV.concL F ρ ad vs).length by omega]
     rw [List.nil_append, List.append_assoc, List.append_assoc, <- List.append_assoc _ _ (List.drop _ _), hseg, hzz, hesl]
    rw [hnew] at hst
    refine ⟨ad, _, Or.inr ⟨hst, rfl⟩, hR.turn s1 (Fr.setRow _ _) (fun b hb => ⟨by rw [hb]; rfl, hg.1⟩) (fun Im' _ _ => ?_) (fun b hb => hb) t4, Ext.set ad s1, trivial⟩
    refine ⟨by simp_all, ?_, ?_⟩
    ·simp_all
    ·rw [hden, Ab]; exact setRow_heap w _ _ _ _ _ t3
   ·cases h
  ·cases h
 ·cases h
theorem Nz (hB : BI F) (hR : Rel F ρ w0 M0 Im0 ad m w) {d : D} {g : E} {v : SV} (hd : d.good F ρ (al m)) (h : Bq m d = some (g, v, m')) :
 g.kind = .b /\ (g.tt F ρ = true -> Done F ρ w0 M0 Im0 ad m m' (d.run P F ρ ad w) v) := by
 have hz : lit0.den F ρ = 0 := BK (n := 0) (by omega)
 cases d with
 | ld n off sz ag =>
   simp only [Bq] at h
   split at h
   ·rename_i g' ty cs ks c hs
    obtain ⟨s1, s2, s3, s4⟩ := ES hs
    split at h
    ·obtain ⟨u, hu, he⟩ := Option.map_eq_some_iff.1 h
     simp only [pJ] at he
     obtain ⟨rfl, rfl, rfl⟩ := he
     refine ⟨s2, fun hg => ?_⟩
     obtain ⟨t1, t2, t3, t4⟩ := IX hR s1 hg
     obtain ⟨r1, r2⟩ := D9 (P := P) (F := F) (ρ := ρ) (ad := ad) (w := w) (b := (ad n).blk) (base := 0) (fun j x hx => by
      rw [Nat.zero_add, Cx t3, List.getElem?_toArray, List.getElem?_append_left (List.getElem?_eq_some_iff.1 hx).1]; exact hx) hu
     rw [Nat.zero_add] at r1
     exact ⟨ad, w, Or.inl r1, hR, Ext.refl _ _, r2 _ t4⟩
    ·obtain ⟨i1, i2⟩ := F5 (P := P) hB hR h
     grind [D.run]
   ·cases h
 | ldi n off str cnt e sz ag => exact F5 (P := P) hB hR h
 | st n off vs =>
   simp only [Bq] at h
   split at h
   ·rename_i g' ty cs ks c hs
    obtain ⟨s1, s2, s3, s4⟩ := ES hs
    split at h
    ·rename_i hle
     obtain ⟨cs', hw, he⟩ := Option.map_eq_some_iff.1 h
     simp only [pJ] at he
     obtain ⟨rfl, rfl, rfl⟩ := he
     refine ⟨s2, fun hg => ?_⟩
     obtain ⟨t1, t2, t3, t4⟩ := IX hR s1 hg
     have hcl : (SV.concL F ρ ad cs).length = cs.length := by rw [Ac]; simp
     have hvl : (SV.concL F ρ ad vs).length = vs.length := by rw [Ac]; simp
     unfold wrC at hw
     rw [if_pos hle] at hw
     simp only [oJ] at hw
     subst hw
     have hones : ∀ x ∈ SV.concL F ρ ad vs, x.oneCell' = true := fun x hx => by
      rw [Ac] at hx
      obtain ⟨y, hy, rfl⟩ := List.mem_map.1 hx
      exact SV.one_conc (List.all_eq_true.1 hd.2.2 y hy)
     have hst := EA (P := P) (w := w) (off := off) (vs := SV.concL F ρ ad vs) t3 (by grind) hones
     have hsp : SV.concL F ρ ad (A0 cs off vs) = (SV.concL F ρ ad cs).take off ++ SV.concL F ρ ad vs ++ (SV.concL F ρ ad cs).drop (off + vs.length) := by
      unfold A0
      simp only [Ac, List.map_append, List.map_take, List.map_drop]
     have hnew : ((SV.concL F ρ ad cs ++ Bf ks (dc (c.den F ρ))).toArray.toList.take off ++ SV.concL F ρ ad vs ++ (SV.concL F ρ ad cs ++ Bf ks (dc (c.den F ρ))).toArray.toList.drop (off + (SV.concL F ρ ad vs).length)) = SV.concL F ρ ad (A0 cs off vs) ++ Bf ks (dc (c.den F ρ)) := by
      rw [hsp, hvl]
      simp only [List.toList_toArray]
      rw [List.take_append_of_le_length (by rw [hcl]; omega), List.drop_append_of_le_length (by rw [hcl]; omega)]
      simp
     rw [hnew] at hst
     refine ⟨ad, _, Or.inr ⟨hst, rfl⟩, hR.turn s1 (Fr.setRow _ _) (fun b hb => ⟨by rw [hb]; rfl, hg⟩) (fun Im' _ _ => ⟨t1, t2, setRow_heap w _ _ _ _ _ t3⟩) (fun b hb => hb) ?_, Ext.set ad s1, trivial⟩
     show SV.okL (al m) (A0 cs off vs)
     rw [Cq] at t4 ⊢
     have hv := (Cq (al m) vs).1 hd.2.1
     grind [A0]
    ·obtain ⟨i1, i2⟩ := F6 (P := P) hB hR hd.2.2 h
     grind [D.run]
   ·cases h
 | sti n off str cnt e vs => exact F6 (P := P) hB hR hd.2.2.1 h
 | _ => simp [Bq] at h
end
section
variable {P : Program} {F : Fam} {ρ : Nat -> Int} {G : Glob} {w0 w w' : World} {M0 Im0 Im Im' T : Nat -> Prop} {ad ad' : Nat -> Hd} {m m' : Mem} {q : Row} {ks : List K} {hd : Hd} {l : RL} {ty ty' : Nat}
theorem LI {r : List Int} {us : List Value} : RowV w Im (.ls ty' q .nil) r us ↔ ∃ z h, r = [z] /\ us = [Hd.sl h (dc z).length] /\ isCd z /\ ShL w Im q h (dc z) := by
 constructor
 ·rintro ⟨z, zs', h, vs', rfl, rfl, ⟨a, b⟩, rfl, rfl⟩
  exact ⟨z, h, rfl, rfl, a, b⟩
 ·rintro ⟨z, h, rfl, rfl, a, b⟩
  exact ⟨z, [], h, [], rfl, rfl, ⟨a, b⟩, rfl, rfl⟩
theorem OwL.setL (ho : OwL w Im ty (.ls ty' q .nil) hd l) {i : Nat} (hi : i < l.length) (u : Value) (hu : u.oneCell' = true) :
 ∃ w', BR P w hd.blk (hd.off + i * 1 + 0) [u] = .ok .skip w' /\ Fr (fun b => (hd.sl l.length).ownBlock = some b) w w' /\
   ∀ w1 z, w1 = w' -> (∀ b, Im b -> w1.heap[b]? = w.heap[b]?) -> RowV w Im (.ls ty' q .nil) [z] [u] -> OwL w1 Im ty (.ls ty' q .nil) hd (l.set i [z]) := by
 obtain ⟨h1, xs, h2, h3⟩ := ho
 have hsz : (Row.ls ty' q .nil).size = 1 := rfl
 rcases h2.2 with ⟨hn, hl0⟩ | ⟨g, cap, cur, e, k1, k2, k3, k4, k5, k6⟩
 ·omega
 ·have hg : (hd.sl l.length).ownBlock = some g := by rw [e]; rfl
  have hgb := Hd.own_blk hg
  subst hgb
  have hoff : hd.off = 0 := by
   unfold Hd.sl at e
   cases hnn : hd.nil && l.length == 0
   ·simp_all
   ·simp_all
  rw [hsz, Nat.mul_one] at k5 k6
  have hx := h3.len
  rw [hsz, Nat.mul_one] at hx
  have hst := EA (P := P) (off := i) (vs := [u]) k2 (by simp; omega) (by simpa using hu)
  rw [hoff, Nat.zero_add, Nat.mul_one, Nat.add_zero]
  refine ⟨_, hst, (Fr.setRow _ _).mono fun b hb => by rw [hb]; exact hg, ?_⟩
  rintro w1 z rfl hIm hrow
  have hset := (RowsV.set h3 i [z] [u] hi hrow).fr (w' := w.setRow hd.blk (cur.toList.take i ++ [u] ++ cur.toList.drop (i + [u].length)).toArray) (Im' := Im) fun b hb => ⟨hb, hIm b hb⟩
  rw [hsz, Nat.mul_one] at hset
  have hlen : (cur.toList.take i ++ [u] ++ cur.toList.drop (i + [u].length)).length = cap := by
   simp; omega
  refine ⟨by simpa using h1, _, ⟨?_, .inr ⟨hd.blk, cap, _, by simp_all, k1, setRow_heap w hd.blk cur _ ty _ k2, by simpa using k3, k4, by simp_all, ?_⟩⟩, hset⟩
  ·grind
  ·rw [hsz, Nat.mul_one, List.length_set]
   have hc : cur.toList.length = cap := by rw [Array.length_toList]; exact k5
   rw [<- k6]
   apply List.ext_getElem?
   intro j
   simp only [List.getElem?_take, List.getElem?_append, List.length_append, List.length_take, List.length_cons, List.length_nil, List.getElem?_drop, List.getElem?_cons, hc]
   grind
theorem Sz (hB : BI F) (hR : Rel F ρ w0 M0 Im0 ad m w) {n : Nat} {g : E} {own : Bool} {le c i : E} (hn : m.at n = some (g, .lst ty (.ls ty' q .nil) own le c)) (hk : g.kind = .b)
 {nm : Nat} (hn1 : nm < m.length) (hn2 : (m.at nm).isNone = true) :
 (mkAnd g (inB i le)).kind = .b /\ ((mkAnd g (inB i le)).tt F ρ = true -> Done F ρ w0 M0 Im0 ad m (m.set nm (some (mkB true, .lst ty' q false (LEN (CEL .x c i 0)) (CEL .x c i 0))))
  (BF P w (ad n).blk ((ad n).off + (i.den F ρ).toNat * 1 + 0) 1 false) (.ls nm (LEN (CEL .x c i 0)))) := by
 have hm := Aa g (inB i le) hk (Al (F := F) (ρ := ρ)).1 F ρ
 refine ⟨hm.2, fun hg => ?_⟩
 rw [hm.1, Bool.and_eq_true] at hg
 obtain ⟨hM, Im, h1, h2, hI⟩ := hR
 obtain ⟨⟨i1, i2, i3⟩, _⟩ := hI.ent n g _ hn hg.1
 obtain ⟨b1, b2⟩ := HU i2 hg.2
 have hrd : RdL w Im (.ls ty' q .nil) (ad n) (dc (c.den F ρ)) := by
  cases own
  ·exact ShL.rd i3
  ·exact OwL.rd i3
 obtain ⟨us, u1, u2⟩ := hrd.2.2 (i.den F ρ).toNat _ (List.getElem?_eq_getElem b1)
 obtain ⟨z, h, e1, rfl, e3, e4⟩ := LI.1 u1
 have hden : (CEL .x c i 0).den F ρ = z := by
  show (E.app .x 0 1 [c, i, .lit .x ((0 : Nat) : Int)]).den F ρ = z
  rw [AH hB]
  simp only [List.map_cons, List.map_nil, bi, E.den, K.norm]
  have hgd : (dc (c.den F ρ)).getD (i.den F ρ).toNat [] = [z] := by rw [List.getD_eq_getElem?_getD, List.getElem?_eq_getElem b1, Option.getD_some, e1]
  rw [hgd]
  rfl
 have hLEN : (LEN (CEL .x c i 0)).den F ρ = ((dc z).length : Int) := by rw [hB.len, hden, Bw e4.1]
 have hc := u2 0 _ rfl
 refine ⟨upd ad nm h, w, Or.inl ?_, ⟨hM, Im, h1, h2, ?_⟩, Ext.put (ns := []) _ hn1 hn2, Ez (ns := []) hn1⟩
 ·have := HR (P := P) 1 hc
  simp only [SV.conc, Au, hLEN, Int.toNat_natCast]
  exact this
 ·have := hI.put (ns := []) (T := fun _ => False) (hd := h) (g := mkB true) (y := .lst ty' q false (LEN (CEL .x c i 0)) (CEL .x c i 0)) (Fr.refl _ _) (fun b hb => hb.elim) hn1 hn2 ?_ (fun b hb => by simp [mutB] at hb) trivial
  ·exact this
  ·refine ⟨by rw [hden]; exact e3, by rw [hLEN, hden], ?_⟩
   grind [Au]
theorem SA (hB : BI F) {ns : List Nat} (hR0 : Rel F ρ w0 M0 Im0 ad m w) {n : Nat} {g : E} {le c i : E} (hn : (shareL m ns).at n = some (g, .lst ty (.ls ty' q .nil) true le c)) (hk : g.kind = .b)
 {x : SV} {V : LV} (hV : Ag (shareL m ns) ty' q x = some V) (hs : V.sh = true) :
 (mkAnd (mkAnd g V.g) (inB i le)).kind = .b /\ ((mkAnd (mkAnd g V.g) (inB i le)).tt F ρ = true -> Done F ρ w0 M0 Im0 ad m ((shareL m ns).set n (some (g, .lst ty (.ls ty' q .nil) true le (.app .x 0 6 [c, i, .lit .x (0 : Nat), V.c]))))
  (BR P w (ad n).blk ((ad n).off + (i.den F ρ).toNat * 1 + 0) (SV.concL F ρ ad [x])) .und) := by
 obtain ⟨k1, k2, k3⟩ := AS hV
 have hm0 := Aa g V.g hk k3 F ρ
 have hm := Aa (mkAnd g V.g) (inB i le) hm0.2 (Al (F := F) (ρ := ρ)).1 F ρ
 refine ⟨hm.2, fun hg => ?_⟩
 rw [hm.1, hm0.1, Bool.and_eq_true, Bool.and_eq_true] at hg
 have hR := hR0.shareL ns
 have hR' := hR
 obtain ⟨hM, Im, h1, h2, hI⟩ := hR
 obtain ⟨⟨i1, i2, i3⟩, i4⟩ := hI.ent n g _ hn hg.1.1
 obtain ⟨b1, b2⟩ := HU i2 hg.2
 simp only [cond_true] at i3
 have hlen : (le.den F ρ).toNat = (dc (c.den F ρ)).length := by rw [i2]; simp
 obtain ⟨hd, o1, o2, o3, o4, o5, o6, o7⟩ := Bb hB hI hV hg.1.2
 have hvc : SV.concL F ρ ad [x] = [hd.sl (dc (V.c.den F ρ)).length] := by simp only [SV.concL, o1]
 obtain ⟨w', r1, r2, r3⟩ := i3.setL (P := P) b1 (hd.sl (dc (V.c.den F ρ)).length) (Hd.sl_one _ _)
 have hrow1 : ((dc (c.den F ρ))[(i.den F ρ).toNat]).length = 1 := by
  obtain ⟨us, u1, u2⟩ := (OwL.rd i3).2.2 (i.den F ρ).toNat _ (List.getElem?_eq_getElem b1)
  exact u1.len.2
 have hspl : ∀ z, splR ((dc (c.den F ρ))[(i.den F ρ).toNat]) 0 [z] = [z] := fun z => by
  unfold splR
  rw [List.take_zero, List.nil_append, List.drop_eq_nil_of_le (by rw [hrow1]; simp), List.append_nil]
 have hden : (E.app .x 0 6 [c, i, .lit .x (0 : Nat), V.c]).den F ρ = cd ((dc (c.den F ρ)).set (i.den F ρ).toNat [V.c.den F ρ]) := by
  rw [AH hB]
  simp only [List.map_cons, List.map_nil, bi, K.norm]
  rw [List.getD_eq_getElem?_getD, List.getElem?_eq_getElem b1, Option.getD_some]
  show cd ((dc (c.den F ρ)).set (i.den F ρ).toNat (splR _ 0 [V.c.den F ρ])) = _
  rw [hspl]
 refine ⟨ad, w', Or.inr ⟨by rw [hvc]; exact r1, rfl⟩, ?_, ⟨fun _ _ => rfl, fun k hk' => (C8 hn k).2 ((BG ns m k).2 hk')⟩, trivial⟩
 refine hR'.turn hn r2 (fun b hb => ⟨by grind [mutB], hg.1.1⟩) (fun Im' hI' _ => ?_) (fun b hb => hb) trivial
 obtain ⟨⟨_, _, j3⟩, j4⟩ := hI'.ent n g _ hn hg.1.1
 simp only [cond_true] at j3
 refine ⟨by simp_all, by simp_all, ?_⟩
 simp only [cond_true, hden, Ab]
 obtain ⟨hd2, p1, p2, p3, p4, p5, p6, p7⟩ := Bb hB hI' hV hg.1.2
 have ee : hd2.sl (dc (V.c.den F ρ)).length = hd.sl (dc (V.c.den F ρ)).length := p1.symm.trans o1
 obtain ⟨w1, t1, t2, t3⟩ := j3.setL (P := P) b1 (hd.sl (dc (V.c.den F ρ)).length) (Hd.sl_one _ _)
 grind [Fr.block, RelI.im, mutB, LI]
theorem SB (hB : BI F) (hR : Rel F ρ w0 M0 Im0 ad m w) {t e bytes : Nat} {n c : E} (hnc : n.same c = true) (hk : n.kind = .i .i64) (ht : Ay P t = some e) (hi : Cy P e = some (1, bytes)) (hz : Qk P e = true)
 {nm : Nat} (hn1 : nm < m.length) (hn2 : (m.at nm).isNone = true) :
 let c' := E.app .x 0 7 [n, NILL]
 let g := mkAnd (mkCmp .geq n (.lit (.i .i64) 0)) (mkCmp .leq n (.lit .x (Ba bytes)))
 g.kind = .b /\ (g.tt F ρ = true -> Done F ρ w0 M0 Im0 ad m (m.set nm (some (mkB true, .lst e (.ls ty' q .nil) true (LEN c') c'))) (valN ((Instr.makeSlice t (n.val F ρ) (c.val F ρ)).run P w)) (.ls nm (LEN c'))) := by
 intro c' g
 have p1 := Ae .geq n (.lit (.i .i64) 0) F ρ
 have p2 := Ae .leq n (.lit .x (Ba bytes)) F ρ
 have p3 := Aa _ _ p1.2 p2.2 F ρ
 refine ⟨p3.2, fun hg => ?_⟩
 have hg' : 0 <= n.den F ρ /\ n.den F ρ <= Ba bytes := by
  have := hg
  rw [show g = mkAnd (mkCmp .geq n (.lit (.i .i64) 0)) (mkCmp .leq n (.lit .x (Ba bytes))) from rfl, p3.1, p1.1, p2.1] at this
  simp only [Bool.and_eq_true, cmpB, decide_eq_true_eq] at this
  exact this
 have hcn := E.same_eq _ _ hnc
 subst hcn
 obtain ⟨N, hN⟩ := Int.eq_ofNat_of_zero_le hg'.1
 rw [hN] at hg'
 obtain ⟨hb, hmx⟩ := ER hg'.2
 obtain ⟨i, z, hi1, hi2, hi3, hi4, hi5, hi6⟩ := FZ hi
 have j3 : z.cells.toList = [.slice none 0 0] := by
  unfold Qk at hz
  rw [hi1] at hz
  simp only [hi2] at hz
  split at hz
  ·assumption
  ·cases hz
 have htt := A8 ht
 obtain ⟨w', r1, r2, r3⟩ := run_make_full (P := P) w 0 t e i z 1 htt hi1 hi2 hi3 .i64 .i64 N (by grind) hmx (Nat.zero_le _)
 have hden : c'.den F ρ = cd (List.replicate N [cd []]) := by
  show (E.app .x 0 7 [n, NILL]).den F ρ = _
  rw [AH hB]
  simp only [List.map_cons, List.map_nil, bi, hN, K.norm, Int.toNat_natCast, hB.nil]
 have hLEN : (LEN c').den F ρ = (N : Int) := by rw [hB.len, hden, Ab, List.length_replicate, Bw hmx]
 obtain ⟨hM, Im, h1, h2, hI⟩ := hR
 refine ⟨upd ad nm ⟨w.heap.size, 0, N, false, undef⟩, w', Or.inl ?_, ⟨hM, Im, h1, h2, ?_⟩, Ext.put (ns := []) _ hn1 hn2, Ez (ns := []) hn1⟩
 ·simp_all [E.val_i, valN, SV.conc, Au, Hd.sl]
 ·refine hI.put (ns := []) (T := fun _ => False) ((Fr.grown r3).mono fun b hb => by cases hb) (fun b hb => hb.elim) hn1 hn2 ?_ (fun b hb => ?_) trivial
  ·refine ⟨by simp_all, by simp_all, ?_⟩
   simp only [cond_true, hden, Ab, Au]
   have rep : ∀ N : Nat, RowsV w' Im (.ls ty' q .nil) (List.replicate N [cd []]) ((List.replicate N [Value.slice none 0 0]).flatten) := by
    intro N
    induction N with
    | zero => rfl
    | succ N ih =>
      rw [List.replicate_succ, List.replicate_succ, List.flatten_cons]
      refine ⟨[.slice none 0 0], _, rfl, LI.2 ⟨cd [], ⟨0, 0, 0, true, undef⟩, rfl, by rw [Ab]; rfl, E4 _, ?_⟩, ih⟩
      rw [Ab]
      exact ⟨by unfold maxLen; simp, Nat.zero_le _, fun h => absurd rfl h, fun i r' h => by simp at h⟩
   refine ⟨by simp_all, _, ?_, rep N⟩
   rw [List.length_replicate, show (Row.ls ty' q .nil).size = 1 from rfl, <- j3, <- Hy z.cells N (by omega), hi5]
   exact r2
  ·simp only [mutB, Au, hLEN, Int.toNat_natCast] at hb
   have hlt := (r2.lt b (by simpa [Hd.sl] using hb)).2
   refine ⟨hlt, Or.inl ?_⟩
   simp [Hd.sl, Value.ownBlock] at hb
   omega
theorem SC (hB : BI F) (hG : GOK G Im0 w0) (hR : Rel F ρ w0 M0 Im0 ad m w) {e b off n : Nat} {cs : List SV} {c' : E} (hr : rdG G b off (n * ks.length) = some cs) (hs : Dk ks n cs NILL = some c') (hn : 0 < n) (hk : 0 < ks.length) (hmx : n <= 100000)
 {nm : Nat} (hn1 : nm < m.length) (hn2 : (m.at nm).isNone = true) :
 Done F ρ w0 M0 Im0 ad m (m.set nm (some (mkB true, .lst e (Row.ofKs ks) false (.lit (.i .i64) n) c'))) (.ok (.value (.slice (some ⟨b, off, none⟩) n n)) w) (.ls nm (.lit (.i .i64) n)) := by
 have hGn := hG.now hR
 obtain ⟨l1, l2, l3⟩ := JJ (F := F) (ρ := ρ) (ad := ad) hGn hr
 obtain ⟨hM, Im, h1, h2, hI⟩ := hR
 obtain ⟨rows, r1, r2, r3, r4⟩ := EP (w := w) (ad := ad) (ρ := ρ) (Im := Im) hB hs (by grind [BI.nil, E4]) rfl
 have hden : c'.den F ρ = cd rows := by rw [r1, hB.nil (ρ := ρ), Ab, List.nil_append]
 have hml : n <= maxLen := by unfold maxLen; omega
 have hLEN : (E.lit (.i .i64) (n : Int)).den F ρ = (n : Int) := Bw hml
 have hIb : Im0 b := by
  have hpos : 0 < n * ks.length := Nat.mul_pos hn hk
  obtain ⟨k, hk'⟩ : ∃ k, n * ks.length = k + 1 := ⟨n * ks.length - 1, by omega⟩
  rw [hk'] at hr
  simp only [rdG] at hr
  split at hr
  ·rename_i v r g1 g2
   exact (hG F ρ b off v g1).1
  ·cases hr
 refine ⟨upd ad nm ⟨b, off, n, false, undef⟩, w, Or.inl ?_, ⟨hM, Im, h1, h2, ?_⟩, Ext.put (ns := []) _ hn1 hn2, Ez (ns := []) hn1⟩
 ·simp [SV.conc, Au, hLEN, Hd.sl]
 ·have := hI.put (ns := []) (T := fun _ => False) (hd := ⟨b, off, n, false, undef⟩) (g := mkB true) (y := .lst e (Row.ofKs ks) false (.lit (.i .i64) n) c') (Fr.refl _ _) (fun b hb => hb.elim) hn1 hn2 ?_ (fun b hb => by simp [mutB] at hb) trivial
  ·exact this
  ·refine ⟨by simp_all, by grind [Ab], ?_⟩
   simp only [cond_false, hden, Ab, Au]
   refine ⟨by rw [r3]; exact hml, by simp_all, fun _ => h1 b hIb, fun i r' hi => ?_⟩
   grind [RowsV.get]
theorem NA (hB : BI F) (hR : Rel F ρ w0 M0 Im0 ad m w) {x : X} {nm : Nat} {g : E} {v : SV} (hx : x.good F ρ (al m)) (h : Ao P m nm x = some (g, v, m')) :
 g.kind = .b /\ (g.tt F ρ = true -> Done F ρ w0 M0 Im0 ad m m' (x.run P F ρ ad w) v) := by
 cases x with
 | mnew t =>
   simp only [Ao] at h
   split at h
   ·split at h
    ·rename_i hc
     simp only [oJ, pJ] at h
     obtain ⟨rfl, rfl, rfl⟩ := h
     exact ⟨Af _, fun _ => Qn hB hR hc.1 hc.2⟩
    ·cases h
   ·cases h
 | mlk t n key ok =>
   simp only [Ao] at h
   split at h
   ·rename_i g' k' vs ag c e hm
    simp only [oJ, pJ] at h
    obtain ⟨rfl, rfl, rfl⟩ := h
    exact ⟨(C0 hm).2.2.2.1, fun hg => Ss hB hR hm hg⟩
   ·cases h
 | mup t n key val =>
   simp only [Ao] at h
   split at h
   ·rename_i g' k' vs ag c e hm
    split at h
    ·rename_i es hs
     split at h
     ·rename_i ha
      simp only [oJ, pJ] at h
      obtain ⟨rfl, rfl, rfl⟩ := h
      exact ⟨(C0 hm).2.2.2.1, fun hg => Su hB hR hm hs ha hg⟩
     ·cases h
    ·cases h
   ·cases h
 | mdl t kt ty n key =>
   simp only [Ao] at h
   split at h
   ·rename_i g' k' vs ag c e hm
    simp only [oJ, pJ] at h
    obtain ⟨rfl, rfl, rfl⟩ := h
    exact ⟨(C0 hm).2.2.2.1, fun hg => Sv hB hR hm hg⟩
   ·cases h
 | mln t ty n =>
   simp only [Ao] at h
   split at h
   ·rename_i g' ks vs kag vag c hn
    split at h
    ·rename_i hc
     simp only [oJ, pJ] at h
     obtain ⟨rfl, rfl, rfl⟩ := h
     exact Sw hB hR hn hc.1 hc.2
    ·cases h
   ·cases h
 | vix t n str l0 lo hi i =>
   simp only [Ao] at h
   split at h
   ·split at h
    ·rename_i V hV
     split at h
     ·rename_i hc
      simp only [oJ, pJ] at h
      obtain ⟨rfl, rfl, rfl⟩ := h
      exact Sx hB hR hV hc.1 hc.2.1 hc.2.2.1 hc.2.2.2 hx
     ·cases h
    ·cases h
   ·cases h
 | clr t ty e n le =>
   simp only [Ao] at h
   split at h
   ·rename_i g' e' row le' c hn
    split at h
    ·rename_i ks hr
     split at h
     ·rename_i hc
      obtain ⟨c1, rfl, c3, c4, c5⟩ := hc
      simp only [oJ, pJ] at h
      obtain ⟨rfl, rfl, rfl⟩ := h
      have hle := E.same_eq _ _ c3
      subst hle
      exact ⟨c1, fun hg => Sy hR hn hr c4 c5 hg⟩
     ·cases h
    ·cases h
   ·cases h
 | lds n off str e sz ag => exact F5 (P := P) hB hR h
 | sts n off str e vs => exact F6 (P := P) hB hR hx.2.2 h
 | ldl n str i o =>
   simp only [Ao] at h
   split at h
   ·rename_i g' ty0 ty q own le c hn
    split at h
    ·rename_i hc
     obtain ⟨c1, rfl, rfl, c4, c5⟩ := hc
     simp only [oJ, pJ] at h
     obtain ⟨rfl, rfl, rfl⟩ := h
     exact Sz hB hR hn c1 c4 c5
    ·cases h
   ·cases h
 | stl n str i o y =>
   simp only [Ao] at h
   split at h
   ·split at h
    ·rename_i V0 hV0
     split at h
     ·rename_i g' ty ty2 q2 le c V hn hV
      split at h
      ·rename_i hc
       obtain ⟨rfl, rfl, c3, c4, rfl, rfl⟩ := hc
       simp only [oJ, pJ] at h
       obtain ⟨rfl, rfl, rfl⟩ := h
       exact SA hB hR hn c3 hV c4
      ·cases h
     ·cases h
    ·cases h
   ·cases h
 | mkl t e n c =>
   simp only [Ao] at h
   split at h
   ·rename_i ty' size bytes he hi
    split at h
    ·rename_i ks hks
     split at h
     ·rename_i hc
      obtain ⟨c1, c2, c3, rfl, c5, c6, c7⟩ := hc
      simp only [oJ, pJ] at h
      obtain ⟨rfl, rfl, rfl⟩ := h
      exact SB hB hR c1 c2 c3 hi c5 c6 c7
     ·cases h
    ·cases h
   ·cases h
 | _ => simp [Ao] at h
end
end Go.Proofs.Ytnockichpnaoeaa.Ew

/- Texts that the claim needs, set narrow. -/
import Derived.Test.YtgpflpbldeflhaaDoory0
import Derived.MapKept
import Derived.Laws.CopyRow
import GoSem.Builtin.Clear
set_option linter.unusedVariables false
set_option linter.unusedSimpArgs false
set_option maxHeartbeats 8000000
namespace Go.Proofs.YtgpflpbldeflhaaDoor.Ew
open Go Go.RowKit
structure LV where
 own : Bool
 sh : Bool
 le : E
 c : E
 ns : List Nat
 g : E
 deriving Repr, Inhabited
def Ah (m : Mem) (ty : Nat) (row : Row) : SV -> Option LV
 | .ls n le => match m.at n with
   | some (g, .lst ty' row' own le' c) => if ty' = ty /\ row' = row /\ le.same le' = true /\ c.kind = .x /\ le'.kind = .i .i64 /\ g.kind = .b then some ⟨own, !own, le', c, [n], g⟩ else none
   | _ => none
 | .sv n str l0 lo hi => match m.at n with
   | some (g, .lst ty' row' own le' c) => if ty' = ty /\ row' = row /\ str = row.size /\ l0.same le' = true /\ c.kind = .x /\ le'.kind = .i .i64 /\ g.kind = .b then
    some ⟨false, !own, LEN (.app .x 0 5 [c, lo, hi]), .app .x 0 5 [c, lo, hi], [n], mkAnd g (mkAnd (mkCmp .geq lo (.lit (.i .i64) 0)) (mkAnd (mkCmp .leq lo hi) (mkCmp .leq hi le')))⟩ else none
   | _ => none
 | .nilp .nS => some ⟨true, true, .lit (.i .i64) 0, NILL, [], mkB true⟩
 | .ite q a b => match Ah m ty row a, Ah m ty row b with
   | some x, some y => if q.kind = .b then some ⟨x.own && y.own, x.sh && y.sh, mkIte q x.le y.le, mkIte q x.c y.c, x.ns ++ y.ns, mkIte q x.g y.g⟩ else none
   | _, _ => none
 | _ => none
def tyL (m : Mem) : SV -> Option (Nat × Row)
 | .ls n _ => match m.at n with
   | some (_, .lst ty row _ _ _) => some (ty, row)
   | _ => none
 | .sv n .. => match m.at n with
   | some (_, .lst ty row _ _ _) => some (ty, row)
   | _ => none
 | .nilp .nS => none
 | .ite _ a b => match tyL m a with
   | some x => some x
   | none => tyL m b
 | _ => none
def RdL (w : World) (Im : Nat -> Prop) (q : Row) (h : Hd) (l : RL) : Prop :=
 l.length <= maxLen /\ l.length <= h.cap /\ ∀ i r', l[i]? = some r' -> ∃ us, RowV w Im q r' us /\ ∀ j u, us[j]? = some u -> w.cell? ⟨h.blk, h.off + i * q.size + j, none⟩ = some u
section
variable {P : Program} {F : Fam} {ρ : Nat -> Int} {G : Glob} {w0 w w' : World} {M0 Im0 Im Im' T : Nat -> Prop} {ad ad' : Nat -> Hd} {m m' : Mem} {q : Row} {h : Hd} {l : RL} {ty : Nat}
theorem ShL.rd (hs : ShL w Im q h l) : RdL w Im q h l := ⟨hs.1, hs.2.1, hs.2.2.2⟩
theorem OwL.rd (ho : OwL w Im ty q h l) : RdL w Im q h l := by
 obtain ⟨h1, xs, h2, h3⟩ := ho
 rcases h2.2 with ⟨hn, hl⟩ | ⟨g, cap, cur, e, k1, k2, k3, k4, k5, k6⟩
 ·have hl' : l = [] := List.eq_nil_of_length_eq_zero hl
  subst hl'
  exact ⟨Nat.zero_le _, Nat.zero_le _, fun i r' hi => by simp at hi⟩
 ·have hg : (h.sl l.length).ownBlock = some g := by rw [e]; rfl
  have hgb := Hd.own_blk hg
  subst hgb
  have hoff : h.off = 0 /\ h.cap = cap := by
   unfold Hd.sl at e
   cases hnn : h.nil && l.length == 0
   ·simp_all
   ·simp_all
  refine ⟨h1, by omega, fun i r' hi => ?_⟩
  obtain ⟨us, u1, u2⟩ := h3.get i r' hi
  refine ⟨us, u1, fun j u hu => ?_⟩
  have hx := u2 j u hu
  rw [hoff.1, Nat.zero_add]
  have := h2.cells hg (i * q.size + j) u hx
  rwa [Addr.add_none, Nat.zero_add] at this
theorem Hz {n : Nat} (h : n <= maxLen) : IntKind.i64.wrap (n : Int) = (n : Int) := by
 simp only [maxLen] at h
 simp only [IntKind.wrap, IntKind.signed, IntKind.bits]
 simp
 split <;> omega
theorem QS : NILL.den F ρ = F 0 2 [] := rfl
def BI (F : Fam) : Prop := ∀ j xs, F 0 j xs = bi j xs
theorem BI.nil (hB : BI F) : NILL.den F ρ = cd [] := by rw [QS, hB]; rfl
theorem BI.len (hB : BI F) (c : E) : (LEN c).den F ρ = IntKind.i64.wrap ((dc (c.den F ρ)).length : Int) := by
 simp only [LEN, E.den, E.denL, K.norm]
 rw [hB]
 rfl
structure LVok (F : Fam) (ρ : Nat -> Int) (w : World) (Im : Nat -> Prop) (ad : Nat -> Hd) (m : Mem) (ty : Nat) (row : Row) (v : SV) (V : LV) (hd : Hd) : Prop where
 conc : v.conc F ρ ad = hd.sl (dc (V.c.den F ρ)).length
 code : isCd (V.c.den F ρ)
 len : V.le.den F ρ = ((dc (V.c.den F ρ)).length : Int)
 rd : RdL w Im row hd (dc (V.c.den F ρ))
 own : V.own = true -> OwL w Im ty row hd (dc (V.c.den F ρ))
 sh : V.sh = true -> ShL w Im row hd (dc (V.c.den F ρ))
 blk : V.own = true -> ∀ b, (hd.sl (dc (V.c.den F ρ)).length).ownBlock = some b -> ∃ n ∈ V.ns, ∃ g x, m.at n = some (g, x) /\ g.tt F ρ = true /\ mutB F ρ ad n x = some b
theorem Gr {q x y : E} (hq : q.kind = .b) (hx : x.kind = .b) (hy : y.kind = .b) : (mkIte q x y).kind = .b /\ (mkIte q x y).tt F ρ = bif q.tt F ρ then x.tt F ρ else y.tt F ρ := by
 have h := AS q x y hq (hx.trans hy.symm) F ρ
 grind [E.kind, mkIte, E.val_b, E.tt]
theorem Lq {q x y : E} {k : IntKind} (hq : q.kind = .b) (hx : x.kind = .i k) (hy : y.kind = .i k) : (mkIte q x y).kind = .i k /\ (mkIte q x y).den F ρ = bif q.tt F ρ then x.den F ρ else y.den F ρ := by
 have h := AS q x y hq (hx.trans hy.symm) F ρ
 have hk : (mkIte q x y).kind = .i k := by rw [h.2, hx]
 refine ⟨hk, ?_⟩
 have h1 := h.1
 rw [E.val_i hk, E.val_i hx, E.val_i hy] at h1
 grind
theorem Dz {q x y : E} (hq : q.kind = .b) (hx : x.kind = .x) (hy : y.kind = .x) : (mkIte q x y).kind = .x /\ (mkIte q x y).den F ρ = bif q.tt F ρ then x.den F ρ else y.den F ρ := by
 have h := AS q x y hq (hx.trans hy.symm) F ρ
 grind [E.kind, mkIte, E.val_x, E.tt]
theorem CL {lo hi le : E} : (mkAnd (mkCmp .geq lo (.lit (.i .i64) 0)) (mkAnd (mkCmp .leq lo hi) (mkCmp .leq hi le))).kind = .b /\
 ((mkAnd (mkCmp .geq lo (.lit (.i .i64) 0)) (mkAnd (mkCmp .leq lo hi) (mkCmp .leq hi le))).tt F ρ = true -> 0 <= lo.den F ρ /\ lo.den F ρ <= hi.den F ρ /\ hi.den F ρ <= le.den F ρ) := by
 have p1 := Af .geq lo (.lit (.i .i64) 0) F ρ
 have p2 := Af .leq lo hi F ρ
 have p3 := Af .leq hi le F ρ
 have p4 := Ac _ _ p2.2 p3.2 F ρ
 have p5 := Ac _ _ p1.2 p4.2 F ρ
 refine ⟨p5.2, fun h => ?_⟩
 rw [p5.1, p4.1, p1.1, p2.1, p3.1] at h
 simp only [Bool.and_eq_true, cmpB, decide_eq_true_eq] at h
 exact h
theorem AI : ∀ {v : SV} {V : LV}, Ah m ty q v = some V -> V.le.kind = .i .i64 /\ V.c.kind = .x /\ V.g.kind = .b
 | .ls n le, V, h => by
   grind [Ah]
 | .sv n str l0 lo hi, V, h => by
   simp only [Ah] at h
   split at h
   ·split at h
    ·rename_i hc
     simp only [oJ] at h; subst h
     exact ⟨rfl, rfl, (Ac _ _ hc.2.2.2.2.2.2 (CL (F := fun _ _ _ => 0) (ρ := fun _ => 0)).1 (fun _ _ _ => 0) fun _ => 0).2⟩
    ·cases h
   ·cases h
 | .nilp c, V, h => by
   cases c <;> simp only [Ah, oJ, reduceCtorEq] at h
   subst h
   exact ⟨rfl, rfl, rfl⟩
 | .ite p a b, V, h => by
   simp only [Ah] at h
   split at h
   ·rename_i x y hx hy
    split at h
    ·rename_i hp
     simp only [oJ] at h; subst h
     obtain ⟨i1, i2, i3⟩ := AI hx
     obtain ⟨j1, j2, j3⟩ := AI hy
     exact ⟨(Lq (F := fun _ _ _ => 0) (ρ := fun _ => 0) hp i1 j1).1, (Dz (F := fun _ _ _ => 0) (ρ := fun _ => 0) hp i2 j2).1, (Gr (F := fun _ _ _ => 0) (ρ := fun _ => 0) hp i3 j3).1⟩
    ·cases h
   ·cases h
 | .sc _, V, h | .ptr .., V, h | .pi .., V, h | .sl .., V, h | .pe .., V, h | .mp .., V, h | .oq .., V, h | .fn .., V, h | .agg .., V, h | .tup .., V, h | .gd .., V, h | .und, V, h | .gl .., V, h => by simp [Ah] at h
theorem AV (hB : BI F) (hR : RelI F ρ w0 M0 Im ad m w) : ∀ {v : SV} {V : LV}, Ah m ty q v = some V -> V.g.tt F ρ = true -> ∃ hd, LVok F ρ w Im ad m ty q v V hd
 | .ls n le, V, h, hg => by
   simp only [Ah] at h
   split at h
   ·rename_i g ty' row' own le' c hn
    split at h
    ·rename_i hc
     obtain ⟨rfl, rfl, h3, h4, h5, h6⟩ := hc
     simp only [oJ] at h; subst h
     simp only at hg
     obtain ⟨i1, i2⟩ := hR.ent n g _ hn hg
     obtain ⟨j1, j2, j3⟩ := i1
     have hle := E.same_eq _ _ h3
     subst hle
     have hlen : (le.den F ρ).toNat = (dc (c.den F ρ)).length := by rw [j2]; simp
     refine ⟨ad n, ⟨?_, j1, j2, ?_, ?_, ?_, ?_⟩⟩
     ·simp only [SV.conc, hlen]
     ·grind [ShL.rd, OwL.rd]
     ·grind
     ·grind
     grind [mutB]
    ·cases h
   ·cases h
 | .sv n str l0 lo hi, V, h, hg => by
   simp only [Ah] at h
   split at h
   ·rename_i g ty' row' own le' c hn
    split at h
    ·rename_i hc
     obtain ⟨rfl, rfl, rfl, h3, h4, h5, h6⟩ := hc
     simp only [oJ] at h; subst h
     simp only at hg
     rw [(Ac _ _ h6 (CL (F := F) (ρ := ρ)).1 F ρ).1, Bool.and_eq_true] at hg
     obtain ⟨b1, b2, b3⟩ := (CL (F := F) (ρ := ρ)).2 hg.2
     obtain ⟨i1, i2⟩ := hR.ent n g _ hn hg.1
     obtain ⟨j1, j2, j3⟩ := i1
     have hle := E.same_eq _ _ h3
     subst hle
     have hlen : (l0.den F ρ).toNat = (dc (c.den F ρ)).length := by rw [j2]; simp
     have hden : (E.app .x 0 5 [c, lo, hi]).den F ρ = cd (((dc (c.den F ρ)).take (hi.den F ρ).toNat).drop (lo.den F ρ).toNat) := by
      simp only [E.den, Dx, K.norm]; rw [hB]; rfl
     have hrd : RdL w Im row' (ad n) (dc (c.den F ρ)) := by
      cases own
      ·grind [ShL.rd]
      ·grind [OwL.rd]
     obtain ⟨d1, d2, d3⟩ := hrd
     have hsl : (((dc (c.den F ρ)).take (hi.den F ρ).toNat).drop (lo.den F ρ).toNat).length = (hi.den F ρ).toNat - (lo.den F ρ).toNat := by simp; omega
     have hmx : (((dc (c.den F ρ)).take (hi.den F ρ).toNat).drop (lo.den F ρ).toNat).length <= maxLen := by rw [hsl]; omega
     have hget : ∀ i r', (((dc (c.den F ρ)).take (hi.den F ρ).toNat).drop (lo.den F ρ).toNat)[i]? = some r' -> (dc (c.den F ρ))[(lo.den F ρ).toNat + i]? = some r' /\ ((ad n).part (l0.den F ρ).toNat (lo.den F ρ).toNat row'.size).off = (ad n).off + (lo.den F ρ).toNat * row'.size := fun i r' hi' => by
      grind [Hd.part]
     refine ⟨(ad n).part (l0.den F ρ).toNat (lo.den F ρ).toNat row'.size, ⟨?_, ?_, ?_, ?_, (fun ho => by cases ho), ?_, (fun ho => by cases ho)⟩⟩
     ·grind [SV.conc, Ab]
     ·simp_all
     ·rw [hB.len, hden, Ab, Hz hmx]
     ·simp only [hden, Ab]
      refine ⟨hmx, ?_, fun i r' hi' => ?_⟩
      ·grind [Hd.part]
      grind [Hd.part, E.den, Row.size]
     ·intro ho
      simp only [Bool.not_eq_true'] at ho
      subst ho
      simp only [cond_false] at j3
      simp only [hden, Ab]
      obtain ⟨s1, s2, s3, s4⟩ := j3
      refine ⟨hmx, ?_, fun hne => ?_, fun i r' hi' => ?_⟩
      ·grind [Hd.part]
      ·grind [Hd.part]
      grind [Hd.part, E.den, Row.size]
    ·cases h
   ·cases h
 | .nilp c, V, h, hg => by
   cases c <;> simp only [Ah, oJ, reduceCtorEq] at h
   subst h
   have hn := hB.nil (ρ := ρ)
   refine ⟨⟨0, 0, 0, true, undef⟩, ⟨?_, ?_, ?_, ?_, ?_, ?_, ?_⟩⟩
   ·simp [hn, SV.conc, CV.val, Hd.sl]
   ·simp [hn]
   ·simp only [hn, Ab]; rfl
   ·simp only [hn, Ab]; exact ⟨Nat.zero_le _, Nat.zero_le _, fun i r' hi => by simp at hi⟩
   ·intro _; simp only [hn, Ab]; exact ⟨Nat.zero_le _, [], World.ownsRow_nil w 0 ty q.size, rfl⟩
   ·intro _; simp only [hn, Ab]; exact ⟨Nat.zero_le _, Nat.zero_le _, fun x => (x rfl).elim, fun i r' hi => by simp at hi⟩
   ·intro _ b hb; simp [hn, Hd.sl, Value.ownBlock] at hb
 | .ite p a b, V, h, hg => by
   simp only [Ah] at h
   split at h
   ·rename_i x y hx hy
    split at h
    ·rename_i hp
     simp only [oJ] at h; subst h
     obtain ⟨i1, i2, i3⟩ := AI hx
     obtain ⟨j1, j2, j3⟩ := AI hy
     have k1 := (Lq (F := F) (ρ := ρ) hp i1 j1).2
     have k2 := (Dz (F := F) (ρ := ρ) hp i2 j2).2
     have k3 := (Gr (F := F) (ρ := ρ) hp i3 j3).2
     simp only [k3] at hg
     cases hc : p.tt F ρ
     ·simp only [hc, cond_false] at hg k1 k2
      obtain ⟨hd, o1, o2, o3, o4, o5, o6, o7⟩ := AV hB hR hy hg
      refine ⟨hd, ⟨?_, ?_, ?_, ?_, ?_, ?_, ?_⟩⟩
      ·grind [SV.conc]
      ·simp_all
      ·simp_all
      ·simp_all
      ·simp_all
      ·simp_all
      grind
     ·simp only [hc, cond_true] at hg k1 k2
      obtain ⟨hd, o1, o2, o3, o4, o5, o6, o7⟩ := AV hB hR hx hg
      refine ⟨hd, ⟨?_, ?_, ?_, ?_, ?_, ?_, ?_⟩⟩
      ·grind [SV.conc]
      ·simp_all
      ·simp_all
      ·simp_all
      ·simp_all
      ·simp_all
      grind
    ·cases h
   ·cases h
 | .sc _, V, h, _ | .ptr .., V, h, _ | .pi .., V, h, _ | .sl .., V, h, _ | .pe .., V, h, _ | .mp .., V, h, _ | .oq .., V, h, _ | .fn .., V, h, _ | .agg .., V, h, _ | .tup .., V, h, _ | .gd .., V, h, _ | .und, V, h, _ | .gl .., V, h, _ => by simp [Ah] at h
def BN (m : Mem) (n : Nat) : Mem :=
 match m.at n with
 | some (g, _) => m.set n (some (g, .dead))
 | none => m
def AA (m : Mem) : List Nat -> Mem
 | [] => m
 | n :: r => AA (BN m n) r
theorem QT (m : Mem) (n k : Nat) : al (BN m n) k ↔ al m k := by
 grind [BN, Cd]
theorem EZ : ∀ (ns : List Nat) (m : Mem) (k : Nat), al (AA m ns) k ↔ al m k
 | [], _, _ => Iff.rfl
 | n :: r, m, k => (EZ r (BN m n) k).trans (QT m n k)
theorem IY (m : Mem) (n : Nat) : (BN m n).length = m.length := by
 grind [BN]
theorem Ay : ∀ (ns : List Nat) (m : Mem), (AA m ns).length = m.length
 | [], _ => rfl
 | n :: r, m => (Ay r (BN m n)).trans (IY m n)
theorem QU {n k : Nat} {g : E} {x : Blk} (h : (BN m n).at k = some (g, x)) : x = .dead \/ (m.at k = some (g, x) /\ k ≠ n) := by
 grind [BN, Mem.at_set_same, Mem.at_lt, Mem.at_set_other]
theorem E0 : ∀ {ns : List Nat} {m : Mem} {k : Nat} {g : E} {x : Blk}, (AA m ns).at k = some (g, x) -> x = .dead \/ (m.at k = some (g, x) /\ k ∉ ns)
 | [], m, k, g, x, h => Or.inr ⟨h, by simp⟩
 | n :: r, m, k, g, x, h => by
   rcases E0 (ns := r) h with h1 | ⟨h1, h2⟩
   ·exact Or.inl h1
   grind [QU]
theorem K3 (w : World) (t ty e : TypeId) (i : TypeInfo) (z : Value) (size bytes : Nat) (ht : P.underlying t = some (.slice e)) (hi : P.info? e = some i) (hz : i.zero = some z)
 (hsize : i.size = size) (hby : i.bytes = bytes) (hzs : z.cells.size = size) (hsz : 0 < size)
 (v : Value) (n : Nat) (xs : List Value) (hown : w.ownsRow 0 e size v n xs)
 (a : Addr) (k c : Nat) (news : List Value) (hl : news.length = k * size) (hnews : ∀ j u, news[j]? = some u -> w.cell? (a.add j) = some u) (h1 : ∀ u ∈ news, u.oneCell' = true)
 (h63 : n + k <= maxLen) (hbytes : (n + k) * bytes <= 140737488355328) :
 ∃ v' w', (Builtin.append_ #[t, t] ty #[v, .slice (some a) k c]).run P w = .ok v' w' /\ w'.ownsRow 0 e size v' (n + k) (xs ++ news) /\ w.grownBy w' v.ownBlock /\
   (v'.ownBlock = v.ownBlock \/ v'.ownBlock = some w.heap.size) := by
 obtain ⟨v', w', r1, r2, r3, r4⟩ := run_append_own (P := P) w 0 t ty e i z size bytes ht hi hz hsize hby hzs hsz v n xs hown a k c news hl hnews h1 h63 hbytes (Nat.zero_le _)
 refine ⟨v', w', r1, r2, r3, ?_⟩
 have hsmall : n + k <= 9223372036854775807 := by simp only [maxLen] at h63; omega
 subst hsize
 subst hby
 rcases hown.2 with ⟨rfl, rfl⟩ | ⟨g, cap, cur, rfl, hbg, hg, hnc, hcm, hcs, htake⟩
 ·by_cases hm : k = 0
  ·simp_all
  ·right
   have hr := run_append_nil (P := P) w t ty e i z ht hi hz a k c news hl hnews (by omega) (by omega) (by grind)
   rw [hr] at r1
   simp only [Result.ok.injEq] at r1
   rw [<- r1.1]; rfl
 ·by_cases hroom : n + k <= cap
  ·left
   have hfit : n * i.size + news.length <= cur.size := by rw [hl, hcs, <- Nat.add_mul]; exact Nat.mul_le_mul_right _ hroom
   have hr := run_append_room (P := P) w t ty e i ht hi g n cap cur hg a k c news hl hnews h1 hroom hfit
   rw [hr] at r1
   simp only [Result.ok.injEq] at r1
   rw [<- r1.1]; rfl
  ·right
   have holds : ∀ j u, xs[j]? = some u -> w.cell? ((⟨g, 0, none⟩ : Addr).add j) = some u := hown.cells (g := g) rfl
   have hr := run_append_grow (P := P) w t ty e i z ht hi hz ⟨g, 0, none⟩ n cap xs hown.1 holds a k c news hl hnews (by omega) (by omega) (growslice_fits (by omega) hbytes)
   rw [hr] at r1
   simp only [Result.ok.injEq] at r1
   rw [<- r1.1]; rfl
theorem HA {e size n : Nat} {v : Value} {xs : List Value} (h : w.ownsRow 0 e size v n xs) : ∃ hd : Hd, v = hd.sl n := by
 rcases h.2 with ⟨rfl, rfl⟩ | ⟨g, cap, cur, rfl, _⟩
 ·exact ⟨⟨0, 0, 0, true, undef⟩, rfl⟩
 ·exact ⟨⟨g, 0, cap, false, undef⟩, rfl⟩
theorem IB (h : Hd) (n : Nat) : (h.sl n = .slice none 0 0 /\ n = 0) \/ h.sl n = .slice (some ⟨h.blk, h.off, none⟩) n h.cap := by
 grind [Hd.sl]
end
def upd (ad : Nat -> Hd) (n : Nat) (h : Hd) : Nat -> Hd := fun k => if k = n then h else ad k
section
variable {P : Program} {F : Fam} {ρ : Nat -> Int} {G : Glob} {w0 w w' : World} {M0 Im0 Im Im' T : Nat -> Prop} {ad ad' : Nat -> Hd} {m m' : Mem}
theorem Ao (ad : Nat -> Hd) (n : Nat) (h : Hd) : upd ad n h n = h := by simp [upd]
theorem BW (ad : Nat -> Hd) {n k : Nat} (h : Hd) (hk : k ≠ n) : upd ad n h k = ad k := by simp [upd, hk]
theorem HB {nm : Nat} (h : (m.at nm).isNone = true) (hd : Hd) : ∀ k, al m k -> ad k = upd ad nm hd k := fun k hk => by
 rw [BW]
 rintro rfl
 simp_all [al]
theorem RelI.turn (hR : RelI F ρ w0 M0 Im ad m w) {n : Nat} {g : E} {x y : Blk} (hn : m.at n = some (g, x)) (hf : Fr T w w') (hT : ∀ b, T b -> mutB F ρ ad n x = some b /\ g.tt F ρ = true)
 (hb : g.tt F ρ = true -> BlkOK F ρ Im ad n w' y) (hm : ∀ b, mutB F ρ ad n y = some b -> mutB F ρ ad n x = some b) (hok : SV.okL (al m) y.cs) :
 RelI F ρ w0 M0 Im ad (m.set n (some (g, y))) w' := by
 have hl := Mem.at_lt hn
 have hTl : ∀ b, T b -> ((M0 b \/ w0.heap.size <= b) /\ ¬ Im b) /\ b < w.heap.size := fun b t => by
  have := (hR.ent n g x hn (hT b t).2).2 b (hT b t).1
  simp_all
 have hIm : ∀ b, Im b -> Im b /\ w'.heap[b]? = w.heap[b]? := fun b hb => ⟨hb, hf.block b (hR.im b hb) fun t => (hTl b t).1.2 hb⟩
 refine ⟨fun k g' z hk hg' => ?_, fun k g' x0 hk => ?_, fun k k' g1 z1 g2 z2 b h1 h2 h3 h4 h5 h6 => ?_, fun b hb => Nat.lt_of_lt_of_le (hR.im b hb) hf.size, hR.fr.trans hf fun b hb t => ?_⟩
 ·by_cases hkn : n = k
  ·subst hkn
   rw [Mem.at_set_same hl] at hk
   simp only [oJ, pJ] at hk
   obtain ⟨rfl, rfl⟩ := hk
   refine ⟨hb hg', fun b hbb => ?_⟩
   have := (hR.ent n g x hn hg').2 b (hm b hbb)
   exact ⟨this.1, this.2.1, Nat.lt_of_lt_of_le this.2.2 hf.size⟩
  ·rw [Mem.at_set_other hkn] at hk
   obtain ⟨i1, i2⟩ := hR.ent k g' z hk hg'
   refine ⟨i1.fr hIm (fun b hb => hf.block b (i2 b hb).2.2 fun t => hkn (hR.inj n k g x g' z b hn (hT b t).2 hk hg' (hT b t).1 hb)) rfl rfl, fun b hbb => ?_⟩
   exact ⟨(i2 b hbb).1, (i2 b hbb).2.1, Nat.lt_of_lt_of_le (i2 b hbb).2.2 hf.size⟩
 ·by_cases hkn : n = k
  ·subst hkn
   rw [Mem.at_set_same hl] at hk
   simp only [oJ, pJ] at hk
   rw [<- hk.2]
   exact SV.okL_mono (fun k hk => (Cd hn k).2 hk) _ hok
  ·rw [Mem.at_set_other hkn] at hk
   exact SV.okL_mono (fun k hk => (Cd hn k).2 hk) _ (hR.ok k g' x0 hk)
 ·have key : ∀ k g' z, (Mem.at (m.set n (some (g, y))) k) = some (g', z) -> g'.tt F ρ = true -> mutB F ρ ad k z = some b -> ∃ z', m.at k = some (g', z') /\ mutB F ρ ad k z' = some b := fun k g' z hk hg' hb => by
   grind [Mem.at_set_same, Mem.at_set_other]
  obtain ⟨z1', a1, a2⟩ := key k g1 z1 h1 h2 h5
  obtain ⟨z2', b1, b2⟩ := key k' g2 z2 h3 h4 h6
  exact hR.inj k k' g1 z1' g2 z2' b a1 h2 b1 h4 a2 b2
 grind
theorem RelI.put (hR : RelI F ρ w0 M0 Im ad m w) {ns : List Nat} {nm : Nat} {g : E} {y : Blk} {hd : Hd} (hf : Fr T w w')
 (hT : ∀ b, T b -> b < w.heap.size -> ∃ n ∈ ns, ∃ g' x, m.at n = some (g', x) /\ g'.tt F ρ = true /\ mutB F ρ ad n x = some b)
 (h1 : nm < m.length) (h2 : (m.at nm).isNone = true) (hb : BlkOK F ρ Im (upd ad nm hd) nm w' y)
 (hm : ∀ b, mutB F ρ (upd ad nm hd) nm y = some b -> b < w'.heap.size /\ (w.heap.size <= b \/ ∃ n ∈ ns, ∃ g' x, m.at n = some (g', x) /\ g'.tt F ρ = true /\ mutB F ρ ad n x = some b))
 (hok : SV.okL (al m) y.cs) : RelI F ρ w0 M0 Im (upd ad nm hd) ((AA m ns).set nm (some (g, y))) w' := by
 have hTl : ∀ b, (∃ n ∈ ns, ∃ g' x, m.at n = some (g', x) /\ g'.tt F ρ = true /\ mutB F ρ ad n x = some b) -> (M0 b \/ w0.heap.size <= b) /\ ¬ Im b /\ b < w.heap.size := fun b ⟨n, _, g', x, h3, h4, h5⟩ => (hR.ent n g' x h3 h4).2 b h5
 have hIm : ∀ b, Im b -> Im b /\ w'.heap[b]? = w.heap[b]? := fun b hb => ⟨hb, hf.block b (hR.im b hb) fun t => (hTl b (hT b t (hR.im b hb))).2.1 hb⟩
 have hlk : nm < (AA m ns).length := by rw [Ay]; exact h1
 have hal : ∀ k, al m k -> al ((AA m ns).set nm (some (g, y))) k := fun k hk => Di hlk k ((EZ ns m k).2 hk)
 have hcase : ∀ k g' z, Mem.at ((AA m ns).set nm (some (g, y))) k = some (g', z) -> (k = nm /\ g' = g /\ z = y) \/ (k ≠ nm /\ (z = .dead \/ (m.at k = some (g', z) /\ k ∉ ns))) := fun k g' z hk => by
  grind [Mem.at_set_same, Mem.at_set_other, E0]
 have hw0 := hR.fr.size
 refine ⟨fun k g' z hk hg' => ?_, fun k g' x0 hk => ?_, fun k k' g1 z1 g2 z2 b a1 a2 a3 a4 a5 a6 => ?_, fun b hb => Nat.lt_of_lt_of_le (hR.im b hb) hf.size, hR.fr.trans hf fun b hb t => ?_⟩
 ·rcases hcase k g' z hk with ⟨rfl, rfl, rfl⟩ | ⟨hne, rfl | ⟨hk', hns⟩⟩
  ·grind
  ·exact ⟨trivial, fun b hbb => by simp [mutB] at hbb⟩
  ·obtain ⟨i1, i2⟩ := hR.ent k g' z hk' hg'
   refine ⟨i1.fr hIm (fun b hbb => hf.block b (i2 b hbb).2.2 fun t => ?_) (BW ad hd hne) ?_, fun b hbb => ?_⟩
   ·obtain ⟨n, hn, g'', x, e1, e2, e3⟩ := hT b t (i2 b hbb).2.2
    have := hR.inj n k g'' x g' z b e1 e2 hk' hg' e3 hbb
    simp_all
   ·exact (SV.concL_congr (HB h2 hd) z.cs (hR.ok k g' z hk')).symm
   ·rw [AN (BW ad hd hne)] at hbb
    exact ⟨(i2 b hbb).1, (i2 b hbb).2.1, Nat.lt_of_lt_of_le (i2 b hbb).2.2 hf.size⟩
 ·rcases hcase k g' _ hk with ⟨rfl, _, hy⟩ | ⟨hne, hd' | ⟨hk', _⟩⟩
  ·rw [hy]; exact SV.okL_mono hal _ hok
  ·rw [hd']; trivial
  ·exact SV.okL_mono hal _ (hR.ok k g' x0 hk')
 ·have new : ∀ k' g2 z2, Mem.at ((AA m ns).set nm (some (g, y))) k' = some (g2, z2) -> g2.tt F ρ = true -> mutB F ρ (upd ad nm hd) k' z2 = some b -> mutB F ρ (upd ad nm hd) nm y = some b -> k' = nm := fun k' g2 z2 a3 a4 a6 hyb => by
   rcases hcase k' g2 z2 a3 with ⟨rfl, _, _⟩ | ⟨hne, rfl | ⟨hk', hns⟩⟩
   ·rfl
   ·simp [mutB] at a6
   ·exfalso
    rw [AN (BW ad hd hne)] at a6
    have hlt := ((hR.ent k' g2 z2 hk' a4).2 b a6).2.2
    rcases (hm b hyb).2 with h | ⟨n, hn, g'', x, e1, e2, e3⟩
    ·omega
    ·have := hR.inj n k' g'' x g2 z2 b e1 e2 hk' a4 e3 a6
     simp_all
  rcases hcase k g1 z1 a1 with ⟨rfl, _, rfl⟩ | ⟨hne, rfl | ⟨hk1, _⟩⟩
  ·grind
  ·simp [mutB] at a5
  ·rcases hcase k' g2 z2 a3 with ⟨rfl, _, rfl⟩ | ⟨hne', rfl | ⟨hk2, _⟩⟩
   ·grind
   ·simp [mutB] at a6
   ·rw [AN (BW ad hd hne)] at a5
    rw [AN (BW ad hd hne')] at a6
    exact hR.inj k k' g1 z1 g2 z2 b hk1 a2 hk2 a4 a5 a6
 grind
theorem Rel.turn (hR : Rel F ρ w0 M0 Im0 ad m w) {n : Nat} {g : E} {x y : Blk} (hn : m.at n = some (g, x)) (hf : Fr T w w') (hT : ∀ b, T b -> mutB F ρ ad n x = some b /\ g.tt F ρ = true)
 (hb : ∀ Im, RelI F ρ w0 M0 Im ad m w -> g.tt F ρ = true -> BlkOK F ρ Im ad n w' y) (hm : ∀ b, mutB F ρ ad n y = some b -> mutB F ρ ad n x = some b) (hok : SV.okL (al m) y.cs) :
 Rel F ρ w0 M0 Im0 ad (m.set n (some (g, y))) w' := by
 obtain ⟨h0, Im, h1, h2, hI⟩ := hR
 exact ⟨h0, Im, h1, h2, hI.turn hn hf hT (hb Im hI) hm hok⟩
theorem Ext.set (ad : Nat -> Hd) {n : Nat} {x y} (hn : m.at n = some x) : Ext ad ad m (m.set n (some y)) := ⟨fun _ _ => rfl, fun k hk => (Cd hn k).2 hk⟩
theorem Ext.put {ns : List Nat} {nm : Nat} {y} (hd : Hd) (h1 : nm < m.length) (h2 : (m.at nm).isNone = true) : Ext ad (upd ad nm hd) m ((AA m ns).set nm (some y)) :=
 ⟨HB h2 hd, fun k hk => Di (by rw [Ay]; exact h1) k ((EZ ns m k).2 hk)⟩
theorem DK {ns : List Nat} {nm : Nat} {y} (h1 : nm < m.length) : al ((AA m ns).set nm (some y)) nm := by
 grind [al, Mem.at_set_same, AA, Ay]
end
def blkC (m : Mem) (n : Nat) : Option (E × Nat × List SV) :=
 match m.at n with
 | some (g, .cells ty cs) => if g.kind = .b then some (g, ty, cs) else none
 | _ => none
def rdC (cs : List SV) (off sz : Nat) (ag : Bool) : Option SV :=
 bif ag then (if off + sz <= cs.length then some (.agg ((cs.drop off).take sz)) else none) else cs[off]?
def rdsC (cs : List SV) (off str sz : Nat) (ag : Bool) : Nat -> Nat -> Option (List SV)
 | 0, _ => some []
 | c + 1, j => match rdC cs (off + j * str) sz ag, rdsC cs off str sz ag c (j + 1) with
   | some v, some l => some (v :: l)
   | _, _ => none
def wrC (old : List SV) (off : Nat) (cs : List SV) : Option (List SV) := if off + cs.length <= old.length then some (Bh old off cs) else none
def wrsC (e : E) (off str : Nat) (cs : List SV) : Nat -> Nat -> List SV -> Option (List SV)
 | 0, _, old => some old
 | c + 1, j, old => if off + j * str + cs.length <= old.length then
     wrsC e off str cs c (j + 1) (Bh old (off + j * str) (Bm (mkCmp .eql e (.lit (.i .i64) j)) cs ((old.drop (off + j * str)).take cs.length)))
   else none
def rdG (G : Glob) (b : Nat) : Nat -> Nat -> Option (List SV)
 | _, 0 => some []
 | off, n + 1 => match G b off, rdG G b (off + 1) n with
   | some v, some l => some (v :: l)
   | _, _ => none
def apply (G : Glob) (m : Mem) (nm : Nat) : D -> Option (E × SV × Mem)
 | .val v => some (mkB true, v, m)
 | .ld n off sz ag => match blkC m n with
   | some (g, _, cs) => (rdC cs off sz ag).map fun v => (g, v, m)
   | none => none
 | .ldi n off str cnt e sz ag => match blkC m n with
   | some (g, _, cs) => if cnt < 100000 then (rdsC cs off str sz ag cnt 0).map fun l => (g, sel e 0 l, m) else none
   | none => none
 | .ldg b off sz ag => bif ag then (rdG G b off sz).map fun l => (mkB true, .agg l, m) else (G b off).map fun v => (mkB true, v, m)
 | .st n off vs => match blkC m n with
   | some (g, ty, cs) => (wrC cs off vs).map fun cs' => (g, .und, m.set n (some (g, .cells ty cs')))
   | none => none
 | .sti n off str cnt e vs => match blkC m n with
   | some (g, ty, cs) => if cnt < 100000 then (wrsC e off str vs cnt 0 cs).map fun cs' => (g, .und, m.set n (some (g, .cells ty cs'))) else none
   | none => none
 | .new ty cs sl => if nm < m.length /\ (m.at nm).isNone = true then some (mkB true, match sl with | none => .ptr nm 0 | some len => .sl nm 0 len len, m.set nm (some (mkB true, .cells ty cs))) else none
 | .call .. => none
def Cm : Row -> Option (List K)
 | .nil => some []
 | .c k r => (Cm r).map (k :: ·)
 | .ls .. => none
def FO : Nat -> E -> Option (List (List E))
 | 0, _ => none
 | _ + 1, .app .x 0 2 [] => some []
 | n + 1, .app .x 0 3 (c :: es) => (FO n c).map fun l => es :: l
 | _, _ => none
def cel (k : K) (c i : E) (j : Nat) : E :=
 match i.lit? with
 | some n => match FO 1000 c with
   | some l => match (l.reverse[n.toNat]?).bind (·[j]?) with
     | some e => if e.kind = k /\ e.sound = true then e else CEL k c i j
     | none => CEL k c i j
   | none => CEL k c i j
 | none => CEL k c i j
def celS (c i : E) : List K -> Nat -> List SV
 | [], _ => []
 | k :: ks, j => .sc (cel k c i j) :: celS c i ks (j + 1)
def Jx (P : Program) (e : Nat) (ks : List K) : Bool :=
 match P.info? e with
 | some i => match i.zero with
   | some z => z.cells.size == ks.length && (List.range ks.length).all fun j => match z.cells[j]?, ks[j]? with
     | some (.bool b), some .b => !b
     | some (.int k n), some (.i k') => decide (k = k') && n == 0
     | _, _ => false
   | none => false
 | none => false
def rowE (e : E) (r0 : Nat) : E := bif r0 == 0 then e else BE .add .i64 e (.lit (.i .i64) r0)
def rowG (e : E) (r0 : Nat) (c : E) : E := mkAnd (inB e big9) (inB (rowE e r0) (LEN c))
def Ez (m : Mem) : D -> Option (E × SV × Mem) :=fun _=>none
def MD (P : Program) (e : Nat) : Bool :=
 match P.info? e with
 | some i => match i.zero with
   | some z => match z.cells.toList with
     | [.slice none 0 0] => true
     | _ => false
   | none => false
 | none => false
def A0 (P : Program) (m : Mem) (nm : Nat) : X -> Option (E × SV × Mem)
 | .mnew t => none
 | .mlk t n key ok => none
 | .mup t n key val => none
 | .mdl t kt ty n key => none
 | .mln t ty n => none
 | .vix t n str l0 lo hi i => match m.at n with
   | some (_, .lst ty row _ _ _) => match Ah m ty row (.sv n str l0 lo hi) with
     | some V => if Av P t = some ty /\ szOf P ty = some str /\ i.kind = .i .i64 /\ lo.kind = .i .i64 then some (mkAnd V.g (inB i V.le), .pe n str (BE .add .i64 lo i) 0, m) else none
     | none => none
   | _ => none
 | .clr t ty e n le => none
 | .lds n off str e sz ag => none
 | .sts n off str e vs => none
 | .ldl n str i o => match m.at n with
   | some (g, .lst _ (.ls ty q .nil) _ le c) =>
     if g.kind = .b /\ str = 1 /\ o = 0 /\ nm < m.length /\ (m.at nm).isNone = true then
      some (mkAnd g (inB i le), .ls nm (LEN (CEL .x c i 0)), m.set nm (some (mkB true, .lst ty q false (LEN (CEL .x c i 0)) (CEL .x c i 0)))) else none
   | _ => none
 | .stl n str i o x => match m.at n with
   | some (_, .lst _ (.ls ty' q .nil) _ _ _) => match Ah m ty' q x with
     | some V0 => match (shareL m V0.ns).at n, Ah (shareL m V0.ns) ty' q x with
       | some (g, .lst ty (.ls ty2 q2 .nil) true le c), some V => if ty2 = ty' /\ q2 = q /\ g.kind = .b /\ V.sh = true /\ str = 1 /\ o = 0 then
        some (mkAnd (mkAnd g V.g) (inB i le), .und, (shareL m V0.ns).set n (some (g, .lst ty (.ls ty' q .nil) true le (.app .x 0 6 [c, i, .lit .x (0 : Nat), V.c])))) else none
       | _, _ => none
     | none => none
   | _ => none
 | .mkl t e n c => match Av P e, BT P e with
   | some ty', some (size, bytes) => match Bb P 20 ty' with
     | some ks => if n.same c = true /\ n.kind = .i .i64 /\ Av P t = some e /\ size = 1 /\ MD P e = true /\ nm < m.length /\ (m.at nm).isNone = true then
      some (mkAnd (mkCmp .geq n (.lit (.i .i64) 0)) (mkCmp .leq n (.lit .x (AU bytes))), .ls nm (LEN (.app .x 0 7 [n, NILL])),
       m.set nm (some (mkB true, .lst e (.ls ty' (Row.ofKs ks) .nil) true (LEN (.app .x 0 7 [n, NILL])) (.app .x 0 7 [n, NILL])))) else none
     | none => none
   | _, _ => none
 | _ => none
def subV (P : Program) (m : Mem) (t e : Nat) (x : SV) (lo hi : Option E) : Option (E × SV × Mem) :=
 match x with
 | .ls n le => match m.at n with
   | some (g, .lst ty row true le' c) =>
     let l := lo.getD (.lit (.i .i64) 0)
     let h := hi.getD le
     if ty = e /\ le.same le' = true /\ c.kind = .x /\ le'.kind = .i .i64 /\ g.kind = .b /\ Av P t = some e /\ szOf P e = some row.size /\ (∀ q, lo = some q -> q.kind = .i .i64) /\ (∀ q, hi = some q -> q.kind = .i .i64) then
      some (mkAnd g (mkAnd (mkCmp .geq l (.lit (.i .i64) 0)) (mkAnd (mkCmp .leq l h) (mkCmp .leq h le'))), .sv n row.size le l h, m)
     else none
   | _ => none
 | _ => none
def JZ (L : Nat) : E -> Option (E × E)
 | .bin .add .i64 (.bin .mul .i64 q (.lit (.i .i64) s)) e => if s = (L : Int) /\ q.kind = .i .i64 /\ e.kind = .i .i64 then some (q, e) else none
 | _ => none
def sameK (k : K) : List SV -> List E
 | .sc e :: r => if e.kind = k then e :: sameK k r else []
 | _ => []
def runE : List SV -> List E
 | .sc e :: r => sameK e.kind (.sc e :: r)
 | _ => []
def selE (e : E) : Nat -> List E -> E
 | _, [] => mkB false
 | _, [x] => x
 | j, x :: y :: r => mkIte (mkCmp .eql e (.lit (.i .i64) j)) x (selE e (j + 1) (y :: r))
def applyX (P : Program) (G : Glob) (m : Mem) (nm : Nat) : X -> Option (E × SV × Mem)
 | .old d => match apply G m nm d with
   | some r => some r
   | none => Ez m d
 | .len x => match tyL m x with
   | some (ty, row) => (Ah m ty row x).map fun V => (V.g, .sc V.le, m)
   | none => (Ah m 0 .nil x).map fun V => (V.g, .sc V.le, m)
 | .lde n str i o sz ag => match m.at n with
   | some (g, .lst _ row _ le c) => match Cm row with
     | some ks => if g.kind = .b /\ str = ks.length then
      (rdC (celS c i ks 0) o sz ag).map fun v => (mkAnd g (inB i le), v, m)
       else match JZ ks.length i with
        | some (q, e) => if g.kind = .b /\ str = 1 /\ sz = 1 /\ ag = false /\ ks.length <= 1000 then
         some (mkAnd (mkAnd g (inB q le)) (mkAnd (inB q big9) (inB e (.lit (.i .i64) (runE ((celS c q ks 0).drop o)).length))), .sc (selE e 0 (runE ((celS c q ks 0).drop o))), m)
          else none
        | none => none
     | none => none
   | _ => none
 | .ste n str i o cs => match m.at n with
   | some (g, .lst ty row true le c) => match Cm row with
     | some ks => match scs ((ks.drop o).take cs.length) cs with
       | some es => if g.kind = .b /\ str = ks.length /\ o + cs.length <= ks.length then some (mkAnd g (inB i le), .und, m.set n (some (g, .lst ty row true le (.app .x 0 6 (c :: i :: .lit .x o :: es))))) else none
       | none => none
     | none => none
   | _ => none
 | .app t e rt x y => match (match tyL m x with
  | some (_, row) => Cm row
  | none => Bb P 20 e) with
   | some ks => match Ah m e (Row.ofKs ks) x, BT P e with
     | some V, some (size, bytes) =>
       if size = ks.length /\ V.own = true /\ Av P t = some e /\ nm < m.length /\ (m.at nm).isNone = true then
        match y with
        | .sl m2 0 len _ => match blkC m m2 with
          | some (g2, _, cs) => if cs.length = len * ks.length then (Cl ks len cs V.c).map fun c' =>
           (mkAnd (mkAnd V.g g2) (mkCmp .leq (.app .x 0 0 [c']) (.lit .x (AU bytes))), .ls nm (LEN c'), (AA m V.ns).set nm (some (mkB true, .lst e (Row.ofKs ks) true (LEN c') c')))
            else none
          | none => none
        | y => match Ah m e (Row.ofKs ks) y with
          | some V2 => some (mkAnd (mkAnd V.g V2.g) (mkCmp .leq (.app .x 0 0 [.app .x 0 4 [V.c, V2.c]]) (.lit .x (AU bytes))), .ls nm (LEN (.app .x 0 4 [V.c, V2.c])),
           (AA m V.ns).set nm (some (mkB true, .lst e (Row.ofKs ks) true (LEN (.app .x 0 4 [V.c, V2.c])) (.app .x 0 4 [V.c, V2.c]))))
          | none => none
       else none
     | _, _ => none
   | none => none
 | .sub t e x lo hi => match subV P m t e x lo hi with
  | some r => some r
  | none => match tyL m x with
   | some (_, row) => match Ah m e row x with
     | some V0 => match Ah (shareL m V0.ns) e row x with
       | some V => if V.sh = true /\ Av P t = some e /\ szOf P e = some row.size /\ nm < m.length /\ ((shareL m V0.ns).at nm).isNone = true /\ (∀ q, lo = some q -> q.kind = .i .i64) /\ (∀ q, hi = some q -> q.kind = .i .i64) then
        let l := lo.getD (.lit (.i .i64) 0)
        let h := hi.getD V.le
        let c' := E.app .x 0 5 [V.c, l, h]
        some (mkAnd V.g (mkAnd (mkCmp .geq l (.lit (.i .i64) 0)) (mkAnd (mkCmp .leq l h) (mkCmp .leq h V.le))), .ls nm (LEN c'), (shareL m V0.ns).set nm (some (mkB true, .lst e row false (LEN c') c')))
         else none
       | none => none
     | none => none
   | none => none
 | .mk t e n c => match Bb P 20 e, BT P e with
   | some ks, some (size, bytes) => if n.same c = true /\ n.kind = .i .i64 /\ Av P t = some e /\ size = ks.length /\ Jx P e ks = true /\ nm < m.length /\ (m.at nm).isNone = true then
    let c' := E.app .x 0 7 (n :: ks.map fun k => .lit k 0)
    some (mkAnd (mkCmp .geq n (.lit (.i .i64) 0)) (mkCmp .leq n (.lit .x (AU bytes))), .ls nm (LEN c'), m.set nm (some (mkB true, .lst e (Row.ofKs ks) true (LEN c') c')))
     else none
   | _, _ => none
 | .bl e ks cs len => match Cl ks len cs NILL, BT P e with
   | some c', some (size, bytes) => if size = ks.length /\ (len : Int) <= AU bytes /\ nm < m.length /\ (m.at nm).isNone = true then
    some (mkB true, .ls nm (.lit (.i .i64) len), m.set nm (some (mkB true, .lst e (Row.ofKs ks) true (.lit (.i .i64) len) c')))
     else none
   | _, _ => none
 | .gsl e b off n => match Bb P 20 e with
   | some ks => match rdG G b off (n * ks.length) with
     | some cs => match Cl ks n cs NILL with
       | some c' => if 0 < n /\ 0 < ks.length /\ n <= 100000 /\ nm < m.length /\ (m.at nm).isNone = true then
        some (mkB true, .ls nm (.lit (.i .i64) n), m.set nm (some (mkB true, .lst e (Row.ofKs ks) false (.lit (.i .i64) n) c')))
         else none
       | none => none
     | none => none
   | none => none
 | x => A0 P m nm x
section
variable {P : Program} {F : Fam} {ρ : Nat -> Int} {G : Glob} {w0 w w' : World} {M0 Im0 Im Im' T : Nat -> Prop} {ad ad' : Nat -> Hd} {m m' : Mem}
theorem Be {n : Nat} {g : E} {ty : Nat} {cs : List SV} (h : blkC m n = some (g, ty, cs)) : m.at n = some (g, .cells ty cs) /\ g.kind = .b := by
 grind [blkC]
theorem IZ {b off : Nat} {cs : List Value} (h : ∀ j v, cs[j]? = some v -> w.cell? ⟨b, off + j, none⟩ = some v) : Bv P w b off cs.length true = .ok (.value (.agg cs.toArray)) w := by
 have := run_loadCells_list (P := P) w ⟨b, off, none⟩ cs (fun j v hj => by grind [Addr.add_none])
 simp [Bv, this]
theorem FQ {b off : Nat} {v : Value} (sz : Nat) (h : w.cell? ⟨b, off, none⟩ = some v) : Bv P w b off sz false = .ok (.value v) w := by
 simp [Bv, h]
theorem EA {b : Nat} {cs : List SV} {base off sz : Nat} {ag : Bool} {v : SV} (hc : ∀ j u, (SV.concL F ρ ad cs)[j]? = some u -> w.cell? ⟨b, base + j, none⟩ = some u) (h : rdC cs off sz ag = some v) :
 Bv P w b (base + off) sz ag = .ok (.value (v.conc F ρ ad)) w /\ ∀ p, SV.okL p cs -> v.ok p := by
 unfold rdC at h
 cases ag with
 | true =>
   simp only [cond_true] at h
   split at h
   ·rename_i hl
    simp only [oJ] at h; subst h
    have hlen : ((SV.concL F ρ ad cs).drop off |>.take sz).length = sz := by rw [Ae]; simp; omega
    have hr := IZ (P := P) (w := w) (b := b) (off := base + off) (cs := (SV.concL F ρ ad cs).drop off |>.take sz) (fun j v hj => by
     grind)
    simp_all [SV.conc, Ae, SV.ok, DF, DE]
   ·cases h
 | false =>
   grind [FQ, Ct, Ae]
theorem I0 {cs : List SV} {off str sz : Nat} {ag : Bool} : ∀ {c j : Nat} {l : List SV}, rdsC cs off str sz ag c j = some l -> l.length = c /\ ∀ i v, l[i]? = some v -> rdC cs (off + (j + i) * str) sz ag = some v
 | 0, j, l, h => by grind [rdsC]
 | c + 1, j, l, h => by
   simp only [rdsC] at h
   split at h
   ·rename_i v r h1 h2
    simp only [oJ] at h; subst h
    obtain ⟨i1, i2⟩ := I0 h2
    grind
   ·cases h
theorem G5 (hG : GOK G Im0 w) {b : Nat} : ∀ {n off : Nat} {l : List SV}, rdG G b off n = some l -> l.length = n /\ (∀ p, SV.okL p l) /\
 (∀ j v, (SV.concL F ρ ad l)[j]? = some v -> w.cell? ⟨b, off + j, none⟩ = some v)
 | 0, off, l, h => by simp [rdG] at h; subst h; exact ⟨rfl, fun _ => trivial, by simp [SV.concL]⟩
 | n + 1, off, l, h => by
   simp only [rdG] at h
   split at h
   ·rename_i v r h1 h2
    simp only [oJ] at h; subst h
    obtain ⟨i1, i2, i3⟩ := G5 hG h2
    obtain ⟨_, g1, g2, g3⟩ := hG F ρ b off v h1
    refine ⟨by simp [i1], fun p => ⟨SV.ok_mono (fun _ f => f.elim) v g3, i2 p⟩, fun j u hu => ?_⟩
    cases j with
    | zero =>
      simp only [SV.concL, List.getElem?_cons_zero, oJ] at hu
      subst hu
      rw [Nat.add_zero, g2, SV.conc_congr (ad' := ad) (p := fun _ => False) (fun _ f => f.elim) v g3]
    | succ j =>
      grind [SV.concL]
   ·cases h
theorem FR {b off : Nat} {c : Array Value} {ty : TypeId} {vs : List Value} (h : w.heap[b]? = some (.cells c ty (0, 0))) (hl : off + vs.length <= c.size) (h1 : ∀ v ∈ vs, v.oneCell' = true) :
 BF P w b off vs = .ok .skip (w.setRow b (c.toList.take off ++ vs ++ c.toList.drop (off + vs.length)).toArray) := by
 have := run_storeCells_at P b off ty vs 0 c w h (by simpa using hl) h1
 simp [BF, this]
theorem BX (cs vs : List SV) (off : Nat) : SV.concL F ρ ad (Bh cs off vs) = (SV.concL F ρ ad cs).take off ++ SV.concL F ρ ad vs ++ (SV.concL F ρ ad cs).drop (off + (SV.concL F ρ ad vs).length) := by
 simp_all [Bh, Ae]
theorem N2 {cs : List SV} (h : cs.all SV.one = true) : ∀ v ∈ SV.concL F ρ ad cs, v.oneCell' = true := by
 grind [Ae, SV.one_conc]
theorem K4 (l : List SV) (off n : Nat) (h : off + n <= l.length) : Bh l off ((l.drop off).take n) = l := by
 unfold Bh
 have e : ((l.drop off).take n).length = n := by simp; omega
 rw [e, List.append_assoc, <- List.drop_drop, List.take_append_drop, List.take_append_drop]
theorem Lr {b ty : Nat} {cs vs cs' : List SV} {off : Nat} (hh : w.heap[b]? = some (.cells (SV.concL F ρ ad cs).toArray ty (0, 0))) (h : wrC cs off vs = some cs') (h1 : vs.all SV.one = true) :
 BF P w b off (SV.concL F ρ ad vs) = .ok .skip (w.setRow b (SV.concL F ρ ad cs').toArray) /\ (w.setRow b (SV.concL F ρ ad cs').toArray).heap[b]? = some (.cells (SV.concL F ρ ad cs').toArray ty (0, 0)) /\ ∀ p, SV.okL p cs -> SV.okL p vs -> SV.okL p cs' := by
 unfold wrC at h
 split at h
 ·rename_i hl
  simp only [oJ] at h; subst h
  have hs := FR (P := P) (off := off) (vs := SV.concL F ρ ad vs) hh (by grind [Ae]) (N2 h1)
  refine ⟨?_, setRow_heap w b _ _ _ _ hh, fun p hp hv => FD hp hv⟩
  rw [hs, BX]
 ·cases h
theorem G6 {e : E} {off str b ty : Nat} {vs : List SV} (h1 : vs.all SV.one = true) : ∀ (c j : Nat) (cs cs' : List SV) (w : World), j + c < 1000000 -> w.heap[b]? = some (.cells (SV.concL F ρ ad cs).toArray ty (0, 0)) ->
 wrsC e off str vs c j cs = some cs' ->
 (∀ p, SV.okL p cs -> SV.okL p vs -> SV.okL p cs') /\
 ((e.den F ρ < j \/ ((j : Int) + c <= e.den F ρ)) -> SV.concL F ρ ad cs' = SV.concL F ρ ad cs) /\
 ((j : Int) <= e.den F ρ -> e.den F ρ < j + c -> BF P w b (off + (e.den F ρ).toNat * str) (SV.concL F ρ ad vs) = .ok .skip (w.setRow b (SV.concL F ρ ad cs').toArray))
 | 0, j, cs, cs', w, hj, hh, h => by
   grind [wrsC]
 | c + 1, j, cs, cs', w, hj, hh, h => by
   simp only [wrsC] at h
   split at h
   ·rename_i hl
    have hcmp := Af .eql e (.lit (.i .i64) (j : Int)) F ρ
    have hjd : (E.lit (.i .i64) (j : Int)).den F ρ = j := by
     simp only [E.den, K.norm, IntKind.wrap, IntKind.signed, IntKind.bits]
     simp
     split <;> omega
    rw [hjd] at hcmp
    have hlen : vs.length = ((cs.drop (off + j * str)).take vs.length).length := by simp; omega
    have hmc := Bs (F := F) (ρ := ρ) (ad := ad) hcmp.2 vs ((cs.drop (off + j * str)).take vs.length) hlen
    have hoks : ∀ p, SV.okL p cs -> SV.okL p vs -> SV.okL p (Bh cs (off + j * str) (Bm (mkCmp .eql e (.lit (.i .i64) (j : Int))) vs ((cs.drop (off + j * str)).take vs.length))) := fun p hp hv =>
     FD hp (DZ vs ((cs.drop (off + j * str)).take vs.length) hv (DF (DE hp _) _))
    by_cases he : e.den F ρ = j
    ·have ht : cmpB .eql (e.den F ρ) (j : Int) = true := by simp [cmpB, he]
     rw [hcmp.1, ht] at hmc
     simp only [cond_true] at hmc
     have hsp : SV.concL F ρ ad (Bh cs (off + j * str) (Bm (mkCmp .eql e (.lit (.i .i64) (j : Int))) vs ((cs.drop (off + j * str)).take vs.length))) = SV.concL F ρ ad (Bh cs (off + j * str) vs) := by
      rw [BX, BX, hmc]
     obtain ⟨r1, r2, r3⟩ := Lr (P := P) (vs := vs) (off := off + j * str) (cs' := Bh cs (off + j * str) vs) hh (by simp [wrC, hl]) h1
     rw [<- hsp] at r1 r2
     obtain ⟨i1, i2, _⟩ := G6 h1 c (j + 1) _ cs' _ (by omega) r2 h
     grind
    ·have ht : cmpB .eql (e.den F ρ) (j : Int) = false := by simp [cmpB, he]
     rw [hcmp.1, ht] at hmc
     simp only [cond_false] at hmc
     have hsp : SV.concL F ρ ad (Bh cs (off + j * str) (Bm (mkCmp .eql e (.lit (.i .i64) (j : Int))) vs ((cs.drop (off + j * str)).take vs.length))) = SV.concL F ρ ad cs := by
      rw [BX, hmc, <- BX, K4 cs _ _ hl]
     obtain ⟨i1, i2, i3⟩ := G6 h1 c (j + 1) _ cs' w (by omega) (by rw [hsp]; exact hh) h
     grind
   ·cases h
def Came (r : Result Next) (v : Value) (w' : World) : Prop := r = .ok (.value v) w' \/ (r = .ok .skip w' /\ v = undef)
def Done (F : Fam) (ρ : Nat -> Int) (w0 : World) (M0 Im0 : Nat -> Prop) (ad : Nat -> Hd) (m m' : Mem) (r : Result Next) (v : SV) : Prop :=
 ∃ ad' w', Came r (v.conc F ρ ad') w' /\ Rel F ρ w0 M0 Im0 ad' m' w' /\ Ext ad ad' m m' /\ v.ok (al m')
theorem GOK.now (hG : GOK G Im0 w0) (hR : Rel F ρ w0 M0 Im0 ad m w) : GOK G Im0 w := by
 obtain ⟨hM, Im, h1, h2, hI⟩ := hR
 exact hG.fr hM hI.fr fun b hb => hb
theorem K5 (hG : GOK G Im0 w0) (hR : Rel F ρ w0 M0 Im0 ad m w) {d : D} {nm : Nat} {g : E} {v : SV} {m' : Mem} (hg : d.good F ρ (al m)) (h : apply G m nm d = some (g, v, m')) :
 g.kind = .b /\ (g.tt F ρ = true -> Done F ρ w0 M0 Im0 ad m m' (d.run P F ρ ad w) v) := by
 have cells : ∀ {n g ty cs}, m.at n = some (g, .cells ty cs) -> g.tt F ρ = true -> w.heap[(ad n).blk]? = some (.cells (SV.concL F ρ ad cs).toArray ty (0, 0)) /\ SV.okL (al m) cs := fun {n g ty cs} hn hg => by
  obtain ⟨hM, Im, h1, h2, hI⟩ := hR
  exact ⟨(hI.ent n g _ hn hg).1, hI.ok n g _ hn⟩
 have hcell : ∀ {b : Nat} {cs : List SV} {ty : Nat}, w.heap[b]? = some (.cells (SV.concL F ρ ad cs).toArray ty (0, 0)) -> ∀ j u, (SV.concL F ρ ad cs)[j]? = some u -> w.cell? ⟨b, 0 + j, none⟩ = some u := fun {b cs ty} hh j u hu => by
  rw [Nat.zero_add, DH hh]; simpa using hu
 cases d with
 | val u =>
   simp only [apply, oJ, pJ] at h
   obtain ⟨rfl, rfl, rfl⟩ := h
   exact ⟨rfl, fun _ => ⟨ad, w, Or.inl rfl, hR, Ext.refl _ _, hg⟩⟩
 | ld n off sz ag =>
   simp only [apply] at h
   split at h
   ·rename_i g' ty cs hb
    obtain ⟨u, h1, h2⟩ := Option.map_eq_some_iff.1 h
    simp only [pJ] at h2
    obtain ⟨rfl, rfl, rfl⟩ := h2
    obtain ⟨b1, b2⟩ := Be hb
    refine ⟨b2, fun ht => ?_⟩
    obtain ⟨c1, c2⟩ := cells b1 ht
    obtain ⟨i1, i2⟩ := EA (P := P) (base := 0) (hcell c1) h1
    rw [Nat.zero_add] at i1
    exact ⟨ad, w, Or.inl i1, hR, Ext.refl _ _, i2 _ c2⟩
   ·cases h
 | ldi n off str cnt e sz ag =>
   simp only [apply] at h
   split at h
   ·rename_i g' ty cs hb
    split at h
    ·rename_i hcnt
     obtain ⟨l, h1, h2⟩ := Option.map_eq_some_iff.1 h
     simp only [pJ] at h2
     obtain ⟨rfl, rfl, rfl⟩ := h2
     obtain ⟨b1, b2⟩ := Be hb
     refine ⟨b2, fun ht => ?_⟩
     obtain ⟨c1, c2⟩ := cells b1 ht
     obtain ⟨p1, p2⟩ := I0 h1
     obtain ⟨g1, g2, g3⟩ := hg
     obtain ⟨u, s1, s2⟩ := GZ (F := F) (ρ := ρ) (ad := ad) (e := e) l 0 (by omega) (by simpa using g3) (by rw [p1]; omega)
     have hr := p2 _ _ s1
     simp only [Nat.zero_add, Nat.sub_zero] at hr
     obtain ⟨i1, i2⟩ := EA (P := P) (base := 0) (hcell c1) hr
     rw [Nat.zero_add] at i1
     refine ⟨ad, w, Or.inl ?_, hR, Ext.refl _ _, ?_⟩
     ·rw [s2]; exact i1
     ·refine JT _ _ ?_
      rw [Cs]
      intro x hx
      obtain ⟨i, hi⟩ := List.getElem?_of_mem hx
      exact (EA (P := P) (base := 0) (hcell c1) (p2 i x hi)).2 _ c2
    ·cases h
   ·cases h
 | ldg b off sz ag =>
   have hG' := hG.now hR
   cases ag with
   | true =>
     simp only [apply, cond_true] at h
     obtain ⟨l, h1, h2⟩ := Option.map_eq_some_iff.1 h
     simp only [pJ] at h2
     obtain ⟨rfl, rfl, rfl⟩ := h2
     obtain ⟨i1, i2, i3⟩ := G5 (F := F) (ρ := ρ) (ad := ad) hG' h1
     refine ⟨rfl, fun _ => ⟨ad, w, Or.inl ?_, hR, Ext.refl _ _, by grind [SV.ok, al]⟩⟩
     have := IZ (P := P) (w := w) (b := b) (off := off) (cs := SV.concL F ρ ad l) i3
     have hl : (SV.concL F ρ ad l).length = sz := by rw [Ae]; simpa using i1
     rw [hl] at this
     exact this
   | false =>
     simp only [apply, cond_false] at h
     obtain ⟨u, h1, h2⟩ := Option.map_eq_some_iff.1 h
     simp only [pJ] at h2
     obtain ⟨rfl, rfl, rfl⟩ := h2
     obtain ⟨_, g1, g2, g3⟩ := hG' F ρ b off u h1
     refine ⟨rfl, fun _ => ⟨ad, w, Or.inl ?_, hR, Ext.refl _ _, SV.ok_mono (fun _ f => f.elim) u g3⟩⟩
     refine FQ sz ?_
     rw [g2, SV.conc_congr (ad' := ad) (p := fun _ => False) (fun _ f => f.elim) u g3]
 | st n off vs =>
   simp only [apply] at h
   split at h
   ·rename_i g' ty cs hb
    obtain ⟨cs', h1, h2⟩ := Option.map_eq_some_iff.1 h
    simp only [pJ] at h2
    obtain ⟨rfl, rfl, rfl⟩ := h2
    obtain ⟨b1, b2⟩ := Be hb
    refine ⟨b2, fun ht => ?_⟩
    obtain ⟨c1, c2⟩ := cells b1 ht
    obtain ⟨r1, r2, r3⟩ := Lr (P := P) c1 h1 hg.2.2
    refine ⟨ad, _, Or.inr ⟨r1, rfl⟩, hR.turn b1 (Fr.setRow _ _) (fun b hb => ⟨by rw [hb]; rfl, ht⟩) (fun Im _ _ => r2) (fun b hb => hb) (r3 _ c2 hg.2.1), Ext.set ad b1, trivial⟩
   ·cases h
 | sti n off str cnt e vs =>
   simp only [apply] at h
   split at h
   ·rename_i g' ty cs hb
    split at h
    ·rename_i hcnt
     obtain ⟨cs', h1, h2⟩ := Option.map_eq_some_iff.1 h
     simp only [pJ] at h2
     obtain ⟨rfl, rfl, rfl⟩ := h2
     obtain ⟨b1, b2⟩ := Be hb
     refine ⟨b2, fun ht => ?_⟩
     obtain ⟨c1, c2⟩ := cells b1 ht
     obtain ⟨g1, g2, g3, g4, g5⟩ := hg
     obtain ⟨r1, _, r3⟩ := G6 (P := P) g3 cnt 0 cs cs' w (by omega) c1 h1
     have r := r3 (by simpa using g5) (by omega)
     refine ⟨ad, _, Or.inr ⟨r, rfl⟩, hR.turn b1 (Fr.setRow _ _) (fun b hb => ⟨by rw [hb]; rfl, ht⟩) (fun Im _ _ => setRow_heap w _ _ _ _ _ c1) (fun b hb => hb) (r1 _ c2 g2), Ext.set ad b1, trivial⟩
    ·cases h
   ·cases h
 | new ty cs sl =>
   simp only [apply] at h
   split at h
   ·rename_i hc
    simp only [oJ, pJ] at h
    obtain ⟨rfl, rfl, rfl⟩ := h
    refine ⟨rfl, fun _ => ?_⟩
    have hcg : SV.concL F ρ (upd ad nm ⟨w.heap.size, 0, 0, false, undef⟩) cs = SV.concL F ρ ad cs := (SV.concL_congr (HB hc.2 _) cs hg.1).symm
    have hnew : (w.alloc (.cells (SV.concL F ρ ad cs).toArray ty)).heap[w.heap.size]? = some (.cells (SV.concL F ρ ad cs).toArray ty (0, 0)) := (MapKept.heap_alloc w _).1
    refine ⟨upd ad nm ⟨w.heap.size, 0, 0, false, undef⟩, w.alloc (.cells (SV.concL F ρ ad cs).toArray ty), Or.inl ?_, ?_, ?_, ?_⟩
    ·grind [D.run, SV.conc, Ao]
    ·obtain ⟨hM, Im, h1, h2, hI⟩ := hR
     refine ⟨hM, Im, h1, h2, hI.put (ns := []) (T := fun _ => False) (Fr.alloc _ _ _) (fun b hb => hb.elim) hc.1 hc.2 ?_ (fun b hb => ?_) hg.1⟩
     ·grind [BlkOK, Ao]
     grind [mutB, Ao]
    ·exact Ext.put (ns := []) _ hc.1 hc.2
    ·have := DK (m := m) (ns := []) (nm := nm) (y := (mkB true, Blk.cells ty cs)) hc.1
     cases sl <;> exact this
   ·cases h
 | call f args => simp [apply] at h
end
section
variable {P : Program} {F : Fam} {ρ : Nat -> Int} {G : Glob} {w0 w w' : World} {M0 Im0 Im Im' T : Nat -> Prop} {ad ad' : Nat -> Hd} {m m' : Mem} {q : Row} {ks : List K}
theorem E1 : ∀ {q : Row} {ks : List K}, Cm q = some ks -> q = Row.ofKs ks
 | .nil, ks, h => by simp [Cm] at h; subst h; rfl
 | .c k r, ks, h => by
   simp only [Cm] at h
   obtain ⟨ks', h1, rfl⟩ := Option.map_eq_some_iff.1 h
   rw [E1 h1]; rfl
 | .ls .., ks, h => by simp [Cm] at h
theorem A6 : ∀ ks : List K, (Row.ofKs ks).size = ks.length
 | [] => rfl
 | k :: ks => by simp [Row.ofKs, Row.size, A6 ks]
theorem BK : ∀ {ks : List K} {zs : List Int} {vs : List Value}, RowV w Im (Row.ofKs ks) zs vs ↔ fits ks zs /\ vs = numV ks zs
 | [], zs, vs => by
   simp only [Row.ofKs, RowV]
   constructor
   ·rintro ⟨rfl, rfl⟩; exact ⟨trivial, rfl⟩
   ·rintro ⟨h1, h2⟩
    cases zs with
    | nil => exact ⟨rfl, h2⟩
    | cons _ _ => exact h1.elim
 | k :: ks, zs, vs => by
   simp only [Row.ofKs, RowV]
   constructor
   ·rintro ⟨z, zs', vs', rfl, rfl, h3, h4⟩
    obtain ⟨i1, i2⟩ := BK.1 h4
    exact ⟨⟨h3, i1⟩, by simp [numV, i2]⟩
   ·rintro ⟨h1, h2⟩
    cases zs with
    | nil => exact h1.elim
    | cons z zs => exact ⟨z, zs, numV ks zs, rfl, by rw [h2]; rfl, h1.1, BK.2 ⟨h1.2, rfl⟩⟩
theorem QV {ks : List K} {zs : List Int} (h : fits ks zs) : (numV ks zs).length = ks.length := by simp [numV, Ax h]
theorem Ce {ks ls : List K} {xs ys : List Int} (h : fits ks xs) (h' : fits ls ys) : fits (ks ++ ls) (xs ++ ys) := by
 induction ks generalizing xs with
 | nil => cases xs with
   | nil => exact h'
   | cons _ _ => exact h.elim
 | cons k ks ih => cases xs with
   | nil => exact h.elim
   | cons x xs => exact ⟨h.1, ih h.2⟩
theorem I1 : ∀ {ks : List K} {xs : List Int} (n : Nat), fits ks xs -> fits (ks.take n) (xs.take n)
 | [], [], n, _ => by simp [fits]
 | [], _ :: _, _, h => h.elim
 | _ :: _, [], _, h => h.elim
 | k :: ks, x :: xs, 0, _ => by simp [fits]
 | k :: ks, x :: xs, n + 1, h => by simp only [List.take_succ_cons]; exact ⟨h.1, I1 n h.2⟩
theorem I3 : ∀ {ks : List K} {xs : List Int} (n : Nat), fits ks xs -> fits (ks.drop n) (xs.drop n)
 | [], [], n, _ => by simp [fits]
 | [], _ :: _, _, h => h.elim
 | _ :: _, [], _, h => h.elim
 | k :: ks, x :: xs, 0, h => h
 | k :: ks, x :: xs, n + 1, h => by simp only [List.drop_succ_cons]; exact I3 n h.2
theorem K6 {ks ls : List K} {xs ys : List Int} (h : fits ks xs) : numV (ks ++ ls) (xs ++ ys) = numV ks xs ++ numV ls ys := by
 grind [numV, Ax]
theorem N3 (ks : List K) (xs : List Int) (n : Nat) : (numV ks xs).take n = numV (ks.take n) (xs.take n) := by grind [numV]
theorem N4 (ks : List K) (xs : List Int) (n : Nat) : (numV ks xs).drop n = numV (ks.drop n) (xs.drop n) := by grind [numV]
theorem N5 {zs es : List Int} {o : Nat} (h : fits ks zs) (he : fits ((ks.drop o).take es.length) es) (hl : o + es.length <= ks.length) :
 fits ks (splR zs o es) /\ numV ks (splR zs o es) = (numV ks zs).take o ++ numV ((ks.drop o).take es.length) es ++ (numV ks zs).drop (o + es.length) := by
 have e : ks = ks.take o ++ (ks.drop o).take es.length ++ ks.drop (o + es.length) := by
  rw [List.append_assoc, <- List.drop_drop, List.take_append_drop, List.take_append_drop]
 grind [I1, I3, splR, Ce, K6, N3, N4]
theorem J0 (c i : E) : ∀ (ks : List K) (j : Nat), (celS c i ks j).length = ks.length
 | [], _ => rfl
 | k :: ks, j => by simp [celS, J0 c i ks (j + 1)]
theorem Ls (c i : E) (p : Nat -> Prop) : ∀ (ks : List K) (j : Nat), SV.okL p (celS c i ks j)
 | [], _ => trivial
 | k :: ks, j => ⟨trivial, Ls c i p ks (j + 1)⟩
theorem Lt (hB : BI F) (k : K) (c i : E) (j : Nat) : (CEL k c i j).den F ρ = k.norm (((dc (c.den F ρ)).getD (i.den F ρ).toNat []).getD j 0) := by
 simp only [CEL, E.den, E.denL, K.norm]
 rw [hB]
 simp [bi, K.norm]
theorem A8 (hB : BI F) (k : K) (j : Nat) (aZ : List E) : (E.app k 0 j aZ).den F ρ = k.norm (bi j (aZ.map (E.den F ρ))) := by
 simp only [E.den, Dx]
 rw [hB]
theorem GO (hB : BI F) (ρ : Nat -> Int) : ∀ (n : Nat) {c : E} {l : List (List E)}, FO n c = some l -> dc (c.den F ρ) = (l.reverse.map fun es => es.map (E.den F ρ))
 | 0, c, l, h => by simp [FO] at h
 | n + 1, c, l, h => by
   unfold FO at h
   split at h
   ·rename_i heq; cases heq
   ·grind [E.den, NILL, cd, BI.nil, dc, Ab]
   ·rename_i n' c0 es heq
    cases heq
    obtain ⟨l0, h0, rfl⟩ := Option.map_eq_some_iff.1 h
    rw [A8 hB]
    simp only [List.map_cons, bi, K.norm, Ab, GO hB ρ n h0, List.reverse_cons, List.map_append, List.map_nil]
   ·cases h
theorem Su (hB : BI F) (k : K) (c i : E) (j : Nat) : (cel k c i j).val F ρ = (CEL k c i j).val F ρ := by
 unfold cel
 split
 ·rename_i n hn
  split
  ·rename_i l hl
   split
   ·rename_i e he
    split
    ·rename_i hc
     obtain ⟨es, h1, h2⟩ := Option.bind_eq_some_iff.1 he
     have hd := GO hB ρ _ hl
     rw [<- Bd, <- Bd, show (CEL k c i j).kind = k from rfl, hc.1, Lt hB, hd, E.lit?_den hn]
     grind [E.den, E.den_norm]
    ·rfl
   ·rfl
  ·rfl
 ·rfl
theorem I4 (hB : BI F) {c i : E} {r : List Int} (hr : (dc (c.den F ρ)).getD (i.den F ρ).toNat [] = r) : ∀ (ks : List K) (j : Nat) (zs : List Int), fits ks zs -> (∀ t, r.getD (j + t) 0 = zs.getD t 0) ->
 SV.concL F ρ ad (celS c i ks j) = numV ks zs
 | [], _, zs, h, _ => by cases zs with
   | nil => rfl
   | cons _ _ => exact h.elim
 | k :: ks, j, zs, h, hz => by
   cases zs with
   | nil => exact h.elim
   | cons z zs =>
     have h0 := hz 0
     simp only [Nat.add_zero, List.getD_cons_zero] at h0
     simp only [celS, SV.concL, SV.conc, numV, List.zipWith_cons_cons]
     have hv : (cel k c i j).val F ρ = k.val z := by
      rw [Su hB, <- Bd]
      show k.val _ = _
      rw [Lt hB, hr, h0, h.1]
     rw [hv, I4 hB hr ks (j + 1) zs h.2 fun t => by have := hz (t + 1); grind]
     rfl
theorem G7 (F : Fam) (ρ : Nat -> Int) (ad : Nat -> Hd) : ∀ {ks : List K} {cs : List SV} {es : List E}, scs ks cs = some es ->
 fits ks (es.map (E.den F ρ)) /\ SV.concL F ρ ad cs = numV ks (es.map (E.den F ρ)) /\ es.length = cs.length
 | [], [], es, h => by simp [scs] at h; subst h; exact ⟨trivial, rfl, rfl⟩
 | [], _ :: _, es, h => by simp [scs] at h
 | _ :: _, [], es, h => by simp [scs] at h
 | k :: ks, v :: cs, es, h => by
   cases v with
   | sc e =>
     simp only [scs] at h
     split at h
     ·rename_i hk
      obtain ⟨rfl, hs⟩ := hk
      obtain ⟨es', h1, rfl⟩ := Option.map_eq_some_iff.1 h
      obtain ⟨i1, i2, i3⟩ := G7 F ρ ad h1
      refine ⟨⟨E.den_norm F ρ e hs, i1⟩, ?_, by simp [i3]⟩
      simp [SV.concL, SV.conc, numV, i2, Bd]
     ·cases h
   | _ => simp [scs] at h
theorem Dj (hB : BI F) : ∀ {n : Nat} {cs : List SV} {c c' : E}, Cl ks n cs c = some c' -> isCd (c.den F ρ) -> c.kind = .x -> ∃ rows : RL, c'.den F ρ = cd (dc (c.den F ρ) ++ rows) /\ c'.kind = .x /\ rows.length = n /\ RowsV w Im (Row.ofKs ks) rows (SV.concL F ρ ad cs)
 | 0, cs, c, c', h, hc, hk => by
   simp only [Cl] at h
   split at h
   ·rename_i hl
    simp only [oJ] at h; subst h
    have : cs = [] := List.eq_nil_of_length_eq_zero hl
    subst this
    exact ⟨[], by rw [List.append_nil]; exact hc.symm, hk, rfl, rfl⟩
   ·cases h
 | n + 1, cs, c, c', h, hc, hk => by
   simp only [Cl] at h
   split at h
   ·rename_i es hes
    obtain ⟨i1, i2, i3⟩ := G7 F ρ ad hes
    have hd : (E.app .x 0 3 (c :: es)).den F ρ = cd (dc (c.den F ρ) ++ [es.map (E.den F ρ)]) := by
     rw [A8 hB]; rfl
    obtain ⟨rows, r1, r2, r3, r4⟩ := Dj hB (n := n) h (by simp_all) rfl
    refine ⟨es.map (E.den F ρ) :: rows, ?_, r2, by simp [r3], ?_⟩
    ·simp_all
    ·refine ⟨numV ks (es.map (E.den F ρ)), SV.concL F ρ ad (cs.drop ks.length), ?_, BK.2 ⟨i1, rfl⟩, r4⟩
     rw [<- i2, Ae, Ae, Ae, List.map_take, List.map_drop, List.take_append_drop]
   ·cases h
theorem flatL {b : Nat} : ∀ {l : RL} {o : Nat}, (∀ i r', l[i]? = some r' -> ∃ us, RowV w Im q r' us /\ ∀ j u, us[j]? = some u -> w.cell? ⟨b, o + i * q.size + j, none⟩ = some u) ->
 ∃ xs, RowsV w Im q l xs /\ ∀ j u, xs[j]? = some u -> w.cell? ⟨b, o + j, none⟩ = some u
 | [], o, h => ⟨[], rfl, fun j u hj => by simp at hj⟩
 | r :: l, o, h => by
   obtain ⟨us, u1, u2⟩ := h 0 r (by simp)
   obtain ⟨xs, x1, x2⟩ := flatL (l := l) (o := o + q.size) fun i r' hi => by
    obtain ⟨vs, v1, v2⟩ := h (i + 1) r' (by simpa using hi)
    refine ⟨vs, v1, fun j u hu => ?_⟩
    have := v2 j u hu
    rw [Nat.succ_mul] at this
    rwa [show o + q.size + i * q.size + j = o + (i * q.size + q.size) + j by omega]
   refine ⟨us ++ xs, ⟨us, xs, rfl, u1, x1⟩, fun j u hj => ?_⟩
   have hl := u1.len.1
   grind
theorem Ej {e size bytes : Nat} (h : BT P e = some (size, bytes)) : ∃ i z, P.info? e = some i /\ i.zero = some z /\ i.size = size /\ i.bytes = bytes /\ z.cells.size = size /\ 0 < size := by
 unfold BT at h
 obtain ⟨i, h1, h2⟩ := Option.bind_eq_some_iff.1 h
 obtain ⟨z, h3, h4⟩ := Option.bind_eq_some_iff.1 h2
 grind
theorem Dk {n bytes : Nat} (h : (n : Int) <= AU bytes) : n * bytes <= 140737488355328 /\ n <= maxLen := by
 have h' : n <= AU bytes := by omega
 unfold AU at h'
 have h1 : n * max bytes 1 <= 140737488355328 := by
  have := (Nat.le_div_iff_mul_le (by omega)).1 h'
  exact this
 have h2 : n * bytes <= n * max bytes 1 := Nat.mul_le_mul_left _ (by omega)
 have h3 : n * 1 <= n * max bytes 1 := Nat.mul_le_mul_left _ (by omega)
 simp only [maxLen]
 omega
theorem A9 {n : Nat} (h : n <= maxLen) : IntKind.i64.wrap (n : Int) = n := by
 simp only [maxLen] at h
 simp only [IntKind.wrap, IntKind.signed, IntKind.bits]
 simp
 split <;> omega
theorem N6 {α : Type} (cl V us : List α) (A s o N : Nat) (h : us = ((cl.take N).drop A).take s) (h1 : o + V.length <= s) (h2 : A + s <= N) (h3 : N <= cl.length) :
 (cl.take (A + o) ++ V ++ cl.drop (A + o + V.length)).take N = (cl.take N).take A ++ (us.take o ++ V ++ us.drop (o + V.length)) ++ (cl.take N).drop (A + s) := by
 have hul : us.length = s := by rw [h]; simp; omega
 have e1 : (cl.take N).take A = cl.take A := by rw [List.take_take]; congr 1; omega
 have e2 : cl.take (A + o) = cl.take A ++ us.take o := by
  rw [h, List.take_take, List.drop_take, List.take_take, <- List.take_add]
  congr 2
  omega
 rw [e1, e2]
 have e3 : (cl.drop (A + o + V.length)).take (N - (A + o + V.length)) = us.drop (o + V.length) ++ (cl.take N).drop (A + s) := by
  rw [h, <- List.drop_take]
  apply List.ext_getElem?
  intro j
  simp only [List.getElem?_append, List.getElem?_drop, List.getElem?_take, List.length_drop, List.length_take]
  split <;> split <;> (try split) <;> (try split) <;> first | rfl | omega | (congr 1; omega)
 have l1 : (cl.take A).length = A := by simp; omega
 have l2 : (us.take o).length = o := by simp; omega
 have lX : (cl.take A ++ us.take o ++ V).length = A + o + V.length := by rw [List.length_append, List.length_append, l1, l2]
 rw [List.take_append, List.take_of_length_le (by rw [lX]; omega), lX, e3]
 simp
theorem OwL.set {ty : Nat} {hd : Hd} {l : RL} (ho : OwL w Im ty (Row.ofKs ks) hd l) {i o : Nat} {es : List Int} {z : List Int} (hz : l[i]? = some z) (he : fits ((ks.drop o).take es.length) es) (hl : o + es.length <= ks.length) :
 ∃ w', BF P w hd.blk (hd.off + i * ks.length + o) (numV ((ks.drop o).take es.length) es) = .ok .skip w' /\ Fr (fun b => (hd.sl l.length).ownBlock = some b) w w' /\
   (∀ w1, Fr (fun b => (hd.sl l.length).ownBlock = some b) w w1 -> w1 = w' -> (∀ b, Im b -> w1.heap[b]? = w.heap[b]?) -> OwL w1 Im ty (Row.ofKs ks) hd (l.set i (splR z o es))) := by
 obtain ⟨h1, xs, h2, h3⟩ := ho
 have hi : i < l.length := (List.getElem?_eq_some_iff.1 hz).1
 have hsz := A6 ks
 rcases h2.2 with ⟨hn, hl0⟩ | ⟨g, cap, cur, e, k1, k2, k3, k4, k5, k6⟩
 ·omega
 ·have hg : (hd.sl l.length).ownBlock = some g := by rw [e]; rfl
  have hgb := Hd.own_blk hg
  subst hgb
  have hoff : hd.off = 0 /\ hd.cap = cap := by
   unfold Hd.sl at e
   cases hnn : hd.nil && l.length == 0
   ·simp_all
   ·simp_all
  rw [hsz] at k5 k6
  have hx := h3.len
  rw [hsz] at hx
  have hnl := QV he
  have hvl : (numV ((ks.drop o).take es.length) es).length = es.length := by rw [hnl]; simp; omega
  have hmul : i * ks.length + ks.length <= l.length * ks.length := by
   have : (i + 1) * ks.length <= l.length * ks.length := Nat.mul_le_mul_right _ hi
   rwa [Nat.succ_mul] at this
  have hcap : l.length * ks.length <= cap * ks.length := Nat.mul_le_mul_right _ k3
  have hones : ∀ v ∈ numV ((ks.drop o).take es.length) es, v.oneCell' = true := fun v hv => RowV.one (w := w) (Im := Im) (BK.2 ⟨he, rfl⟩) v hv
  have hst := FR (P := P) (off := i * ks.length + o) (vs := numV ((ks.drop o).take es.length) es) k2 (by rw [hvl, k5]; omega) hones
  rw [hoff.1, Nat.zero_add]
  refine ⟨_, hst, ?_, ?_⟩
  ·exact (Fr.setRow _ _).mono fun b hb => by rw [hb]; exact hg
  ·rintro w1 hf rfl hIm
   obtain ⟨us, u1, u2⟩ := h3.get i z hz
   obtain ⟨f1, f2⟩ := BK.1 u1
   obtain ⟨s1, s2⟩ := N5 f1 he hl
   refine ⟨by simpa using h1, _, ⟨?_, .inr ⟨hd.blk, cap, _, ?_, k1, setRow_heap w hd.blk cur _ ty _ k2, by simpa using k3, k4, ?_, rfl⟩⟩, ?_⟩
   ·grind
   ·grind
   ·grind
   ·have hset := RowsV.set (w := w) (Im := Im) h3 i (splR z o es) (numV ks (splR z o es)) hi (BK.2 ⟨s1, rfl⟩)
    rw [hsz] at hset
    have hxs : xs = xs.take (i * ks.length) ++ us ++ xs.drop (i * ks.length + ks.length) := by
     have hul := u1.len.1
     rw [hsz] at hul
     apply List.ext_getElem?
     intro j
     by_cases hj1 : j < i * ks.length
     ·grind
     ·by_cases hj2 : j < i * ks.length + ks.length
      ·have hlt : j - i * ks.length < us.length := by omega
       have := u2 (j - i * ks.length) us[j - i * ks.length] (by simp [hlt])
       grind
      ·rw [List.getElem?_append_right (by simp; omega), List.getElem?_drop]
       grind
    have hfin : ((cur.toList.take (i * ks.length + o) ++ numV ((ks.drop o).take es.length) es ++ cur.toList.drop (i * ks.length + o + (numV ((ks.drop o).take es.length) es).length)).toArray.toList.take ((l.set i (splR z o es)).length * (Row.ofKs ks).size)) =
     xs.take (i * ks.length) ++ numV ks (splR z o es) ++ xs.drop (i * ks.length + ks.length) := by
     have hul := u1.len.1
     rw [hsz] at hul
     have hus : us = ((cur.toList.take (l.length * ks.length)).drop (i * ks.length)).take ks.length := by
      apply List.ext_getElem?
      intro j
      by_cases hj : j < ks.length
      ·grind
      ·grind
     have hseg := N6 cur.toList (numV ((ks.drop o).take es.length) es) us (i * ks.length) ks.length o (l.length * ks.length) hus (by rw [hvl]; exact hl) hmul (by grind)
     rw [hvl] at hseg
     rw [s2, <- f2, hsz, List.length_set, <- k6, hvl]
     exact hseg
    grind [RowsV.fr]
end
section
variable {P : Program} {F : Fam} {ρ : Nat -> Int} {G : Glob} {w0 w w' : World} {M0 Im0 Im Im' T : Nat -> Prop} {ad ad' : Nat -> Hd} {m m' : Mem} {q : Row} {ks : List K}
theorem I5 (hB : BI F) (hR : Rel F ρ w0 M0 Im0 ad m w) {ty : Nat} {row : Row} {x : SV} {V : LV} (h : Ah m ty row x = some V) :
 V.g.kind = .b /\ (V.g.tt F ρ = true -> Done F ρ w0 M0 Im0 ad m m (lenR (x.conc F ρ ad) w) (.sc V.le)) := by
 obtain ⟨k1, k2, k3⟩ := AI h
 refine ⟨k3, fun hg => ?_⟩
 have hR' := hR
 obtain ⟨hM, Im, h1, h2, hI⟩ := hR
 obtain ⟨hd, o1, o2, o3, o4, o5, o6, o7⟩ := AV hB hI h hg
 refine ⟨ad, w, Or.inl ?_, hR', Ext.refl _ _, trivial⟩
 rw [o1]
 simp only [SV.conc, E.val_i k1, o3]
 rcases IB hd (dc (V.c.den F ρ)).length with ⟨e, h0⟩ | e
 ·rw [e, h0]; rfl
 ·rw [e]; rfl
theorem FT {i le : E} {n : Nat} (hle : le.den F ρ = (n : Int)) (h : (inB i le).tt F ρ = true) : (i.den F ρ).toNat < n /\ ((i.den F ρ).toNat : Int) = i.den F ρ := by
 grind [Am]
theorem I6 (hB : BI F) (hR : Rel F ρ w0 M0 Im0 ad m w) {n : Nat} {g : E} {ty : Nat} {row : Row} {own : Bool} {le c i : E} (hn : m.at n = some (g, .lst ty row own le c)) (hk : g.kind = .b) (hr : Cm row = some ks)
 {o sz : Nat} {ag : Bool} {v : SV} (hv : rdC (celS c i ks 0) o sz ag = some v) :
 (mkAnd g (inB i le)).kind = .b /\ ((mkAnd g (inB i le)).tt F ρ = true -> Done F ρ w0 M0 Im0 ad m m (Bv P w (ad n).blk ((ad n).off + (i.den F ρ).toNat * ks.length + o) sz ag) v) := by
 have hm := Ac g (inB i le) hk (Am (F := F) (ρ := ρ)).1 F ρ
 refine ⟨hm.2, fun hg => ?_⟩
 rw [hm.1, Bool.and_eq_true] at hg
 have hR' := hR
 obtain ⟨hM, Im, h1, h2, hI⟩ := hR
 obtain ⟨⟨i1, i2, i3⟩, _⟩ := hI.ent n g _ hn hg.1
 obtain ⟨b1, b2⟩ := FT i2 hg.2
 have hrd : RdL w Im row (ad n) (dc (c.den F ρ)) := by
  cases own
  ·exact ShL.rd i3
  ·exact OwL.rd i3
 have hq := E1 hr
 subst hq
 obtain ⟨us, u1, u2⟩ := hrd.2.2 (i.den F ρ).toNat _ (List.getElem?_eq_getElem b1)
 obtain ⟨f1, f2⟩ := BK.1 u1
 have hget : (dc (c.den F ρ)).getD (i.den F ρ).toNat [] = (dc (c.den F ρ))[(i.den F ρ).toNat] := by simp [List.getD, b1]
 have hconc := I4 (ad := ad) hB hget ks 0 _ f1 (fun t => by rw [Nat.zero_add])
 rw [A6] at u2
 obtain ⟨r1, r2⟩ := EA (P := P) (F := F) (ρ := ρ) (ad := ad) (b := (ad n).blk) (base := (ad n).off + (i.den F ρ).toNat * ks.length) (fun j u hu => by
  rw [hconc, <- f2] at hu
  exact u2 j u hu) hv
 exact ⟨ad, w, Or.inl r1, hR', Ext.refl _ _, r2 _ (Ls c i _ ks 0)⟩
theorem E2 (k : K) : ∀ (l : List SV), (∀ x ∈ sameK k l, x.kind = k) /\ ∀ (j : Nat) (x : E), (sameK k l)[j]? = some x -> l[j]? = some (SV.sc x)
 | [] => ⟨fun x hx => by simp [sameK] at hx, fun j x h => by simp [sameK] at h⟩
 | v :: l => by
   obtain ⟨i1, i2⟩ := E2 k l
   have hv : (∃ e, v = .sc e) \/ sameK k (v :: l) = [] := by cases v <;> first | exact Or.inl ⟨_, rfl⟩ | exact Or.inr rfl
   grind [E.kind, sameK]
theorem N7 (l : List SV) : (∃ k, ∀ x ∈ runE l, x.kind = k) /\ ∀ (j : Nat) (x : E), (runE l)[j]? = some x -> l[j]? = some (SV.sc x) := by
 unfold runE
 split
 ·rename_i e r
  exact ⟨⟨e.kind, (E2 e.kind (.sc e :: r)).1⟩, (E2 e.kind (.sc e :: r)).2⟩
 simp_all
theorem I7 {e : E} {k : K} : ∀ (es : List E) (j : Nat), (∀ x ∈ es, x.kind = k) -> (j : Int) <= e.den F ρ -> e.den F ρ < j + es.length -> j + es.length <= 1000000 ->
 ∃ x, es[(e.den F ρ).toNat - j]? = some x /\ (selE e j es).val F ρ = x.val F ρ /\ (selE e j es).kind = k
 | [], j, _, h1, h2, _ => by simp at h2; omega
 | [x], j, hk, h1, h2, _ => by
   simp only [List.length_singleton] at h2
   have : (e.den F ρ).toNat - j = 0 := by omega
   rw [this]
   exact ⟨x, rfl, rfl, hk x (by simp)⟩
 | x :: y :: r, j, hk, h1, h2, h3 => by
   simp only [List.length_cons] at h2 h3
   have hc := Af .eql e (.lit (.i .i64) (j : Int)) F ρ
   have hl : (E.lit (.i .i64) (j : Int)).den F ρ = j := by
    show IntKind.i64.wrap (j : Int) = j
    rw [IntKind.wrap_i64]; omega
   have hkr : (selE e (j + 1) (y :: r)).kind = k := by
    have : ∀ (es : List E) (j : Nat), es ≠ [] -> (∀ x ∈ es, x.kind = k) -> (selE e j es).kind = k := by
     intro es
     induction es with
     | nil => simp_all
     | cons a es ih =>
       intro j _ hk
       cases es with
       | nil => exact hk a (by simp)
       | cons b es =>
         have h2 := ih (j + 1) (by simp) fun x hx => hk x (List.mem_cons_of_mem _ hx)
         have := (AS (mkCmp .eql e (.lit (.i .i64) (j : Int))) a (selE e (j + 1) (b :: es)) (Af .eql e (.lit (.i .i64) (j : Int)) F ρ).2 (by simp_all) F ρ).2
         grind [selE]
    exact this _ _ (by simp) fun x hx => hk x (List.mem_cons_of_mem _ hx)
   have hi := AS (mkCmp .eql e (.lit (.i .i64) (j : Int))) x (selE e (j + 1) (y :: r)) hc.2 (by simp_all) F ρ
   have hk' : (selE e j (x :: y :: r)).kind = k := by simp only [selE]; rw [hi.2]; exact hk x (by simp)
   by_cases c : e.den F ρ = j
   ·grind [E.den, selE, cmpB]
   ·obtain ⟨z, z1, z2, z3⟩ := I7 (e := e) (k := k) (y :: r) (j + 1) (fun x hx => hk x (List.mem_cons_of_mem _ hx)) (by omega) (by grind) (by grind)
    grind [E.den, selE, cmpB]
theorem N8 (hB : BI F) (hR : Rel F ρ w0 M0 Im0 ad m w) {n : Nat} {g : E} {ty : Nat} {row : Row} {own : Bool} {le c i q e : E} (hn : m.at n = some (g, .lst ty row own le c)) (hk : g.kind = .b) (hr : Cm row = some ks)
 (hs : JZ ks.length i = some (q, e)) (hl : ks.length <= 1000) {o : Nat} :
 (mkAnd (mkAnd g (inB q le)) (mkAnd (inB q big9) (inB e (.lit (.i .i64) (runE ((celS c q ks 0).drop o)).length)))).kind = .b /\
 ((mkAnd (mkAnd g (inB q le)) (mkAnd (inB q big9) (inB e (.lit (.i .i64) (runE ((celS c q ks 0).drop o)).length)))).tt F ρ = true ->
   Done F ρ w0 M0 Im0 ad m m (Bv P w (ad n).blk ((ad n).off + (i.den F ρ).toNat * 1 + o) 1 false) (.sc (selE e 0 (runE ((celS c q ks 0).drop o))))) := by
 have k1 := Ac g (inB q le) hk (Am (F := F) (ρ := ρ)).1 F ρ
 have k2 := Ac (inB q big9) (inB e (.lit (.i .i64) (runE ((celS c q ks 0).drop o)).length)) (Am (F := F) (ρ := ρ)).1 (Am (F := F) (ρ := ρ)).1 F ρ
 have k3 := Ac _ _ k1.2 k2.2 F ρ
 refine ⟨k3.2, fun hg => ?_⟩
 rw [k3.1, Bool.and_eq_true, k2.1, Bool.and_eq_true] at hg
 obtain ⟨g1, g2, g3⟩ := hg
 obtain ⟨⟨kk, r1⟩, r2⟩ := N7 ((celS c q ks 0).drop o)
 obtain ⟨es, hes⟩ : ∃ es, runE ((celS c q ks 0).drop o) = es := ⟨_, rfl⟩
 rw [hes] at g3 r1 r2 ⊢
 have hesl : es.length <= 1000 := by
  rcases Nat.lt_or_ge 1000 es.length with h | h
  ·have h1 := r2 1000 es[1000] (List.getElem?_eq_getElem h)
   grind [J0]
  ·exact h
 have hbig : big9.den F ρ = 1000000000 := Cw (n := 1000000000) (Nat.le_refl _)
 obtain ⟨b1, b2⟩ := (Am (F := F) (ρ := ρ)).2 g2
 obtain ⟨b3, b4⟩ := (Am (F := F) (ρ := ρ)).2 g3
 rw [hbig] at b2
 rw [Cw (by omega)] at b4
 obtain ⟨x, x1, x2, x3⟩ := I7 (F := F) (ρ := ρ) (e := e) es 0 r1 (by simpa using b3) (by simpa using b4) (by omega)
 rw [Nat.sub_zero] at x1
 have hc := r2 _ _ x1
 rw [List.getElem?_drop] at hc
 have hd := (I6 (P := P) (i := q) (o := o + (e.den F ρ).toNat) (sz := 1) (ag := false) (v := .sc x) hB hR hn hk hr (by simpa [rdC] using hc)).2 g1
 have hi : i.den F ρ = q.den F ρ * ks.length + e.den F ρ := by
  unfold JZ at hs
  split at hs
  ·rename_i q' s e'
   split at hs
   ·rename_i hh
    simp only [oJ, pJ] at hs
    obtain ⟨rfl, rfl⟩ := hs
    obtain ⟨rfl, _, _⟩ := hh
    have m1 : 0 <= q'.den F ρ * (ks.length : Int) := Int.mul_nonneg b1 (by omega)
    have m2 : q'.den F ρ * (ks.length : Int) <= 1000000000 * 1000 := Int.mul_le_mul (by omega) (by omega) (by omega) (by omega)
    show IntKind.i64.wrap (IntKind.i64.wrap (q'.den F ρ * IntKind.i64.wrap (ks.length : Int)) + e'.den F ρ) = _
    have w1 : IntKind.i64.wrap (ks.length : Int) = ks.length := by rw [IntKind.wrap_i64]; omega
    rw [w1]
    have w2 : IntKind.i64.wrap (q'.den F ρ * (ks.length : Int)) = q'.den F ρ * ks.length := by rw [IntKind.wrap_i64]; omega
    rw [w2, IntKind.wrap_i64]
    omega
   ·cases hs
  ·cases hs
 have hadr : (ad n).off + (i.den F ρ).toNat * 1 + o = (ad n).off + (q.den F ρ).toNat * ks.length + (o + (e.den F ρ).toNat) := by
  have e1 : q.den F ρ = ((q.den F ρ).toNat : Int) := by omega
  have e2 : i.den F ρ = (((q.den F ρ).toNat * ks.length : Nat) : Int) + e.den F ρ := by rw [hi, Int.natCast_mul, <- e1]
  omega
 rw [hadr]
 obtain ⟨ad', w', d1, d2, d3, d4⟩ := hd
 refine ⟨ad', w', ?_, d2, d3, trivial⟩
 grind [SV.conc, selE]
theorem N9 (hB : BI F) (hR : Rel F ρ w0 M0 Im0 ad m w) {n : Nat} {g : E} {ty : Nat} {row : Row} {le c i : E} (hn : m.at n = some (g, .lst ty row true le c)) (hk : g.kind = .b) (hr : Cm row = some ks)
 {o : Nat} {cs : List SV} {es : List E} (he : scs ((ks.drop o).take cs.length) cs = some es) (hl : o + cs.length <= ks.length) :
 (mkAnd g (inB i le)).kind = .b /\ ((mkAnd g (inB i le)).tt F ρ = true -> Done F ρ w0 M0 Im0 ad m (m.set n (some (g, .lst ty row true le (.app .x 0 6 (c :: i :: .lit .x o :: es)))))
  (BF P w (ad n).blk ((ad n).off + (i.den F ρ).toNat * ks.length + o) (SV.concL F ρ ad cs)) .und) := by
 have hm := Ac g (inB i le) hk (Am (F := F) (ρ := ρ)).1 F ρ
 refine ⟨hm.2, fun hg => ?_⟩
 rw [hm.1, Bool.and_eq_true] at hg
 have hR' := hR
 obtain ⟨hM, Im, h1, h2, hI⟩ := hR
 obtain ⟨⟨i1, i2, i3⟩, i4⟩ := hI.ent n g _ hn hg.1
 obtain ⟨b1, b2⟩ := FT i2 hg.2
 have hq := E1 hr
 subst hq
 simp only [cond_true] at i3
 obtain ⟨s1, s2, s3⟩ := G7 F ρ ad he
 have hesl : (es.map (E.den F ρ)).length = cs.length := by simp [s3]
 have hlen : (le.den F ρ).toNat = (dc (c.den F ρ)).length := by rw [i2]; simp
 obtain ⟨w', r1, r2, r3⟩ := i3.set (P := P) (es := es.map (E.den F ρ)) (o := o) (List.getElem?_eq_getElem b1) (by rw [hesl]; exact s1) (by rw [hesl]; exact hl)
 rw [hesl, <- s2] at r1
 have hden : (E.app .x 0 6 (c :: i :: .lit .x o :: es)).den F ρ = cd ((dc (c.den F ρ)).set (i.den F ρ).toNat (splR (dc (c.den F ρ))[(i.den F ρ).toNat] o (es.map (E.den F ρ)))) := by
  rw [A8 hB]
  simp [bi, K.norm, E.den, List.getD, b1]
 refine ⟨ad, w', Or.inr ⟨r1, rfl⟩, ?_, Ext.set ad hn, trivial⟩
 refine hR'.turn hn r2 (fun b hb => ⟨by grind [mutB], hg.1⟩) (fun Im' hI' _ => ?_) (fun b hb => hb) trivial
 obtain ⟨⟨_, _, j3⟩, j4⟩ := hI'.ent n g _ hn hg.1
 simp only [cond_true] at j3
 refine ⟨by simp_all, by simp_all, ?_⟩
 simp only [cond_true, hden, Ab]
 obtain ⟨w1, t1, t2, t3⟩ := j3.set (P := P) (es := es.map (E.den F ρ)) (o := o) (List.getElem?_eq_getElem b1) (by rw [hesl]; exact s1) (by rw [hesl]; exact hl)
 grind [Fr.block, RelI.im, mutB]
theorem J1 {a : E} {n : Int} (h : (mkCmp .leq a (.lit .x n)).tt F ρ = true) : a.den F ρ <= n := by
 rw [(Af .leq a (.lit .x n) F ρ).1] at h
 have h' : a.den F ρ <= (E.lit .x n).den F ρ := by simpa only [cmpB, decide_eq_true_eq] using h
 exact h'
theorem J2 (hB : BI F) (hR : Rel F ρ w0 M0 Im0 ad m w) {t e rt : Nat} {x : SV} {V : LV} (hV : Ah m e (Row.ofKs ks) x = some V) (hg : V.g.tt F ρ = true) (ho : V.own = true) (ht : Av P t = some e)
 {bytes : Nat} (hi : BT P e = some (ks.length, bytes)) {nm : Nat} (hn1 : nm < m.length) (hn2 : (m.at nm).isNone = true) {y : Value} {rows : RL} {c' : E} (hc' : c'.den F ρ = cd (dc (V.c.den F ρ) ++ rows))
 (hy : (y = .slice none 0 0 /\ rows = []) \/ ∃ a cp news, y = .slice (some a) rows.length cp /\ (∀ Im, RowsV w Im (Row.ofKs ks) rows news) /\ ∀ j u, news[j]? = some u -> w.cell? (a.add j) = some u)
 (hcap : (((dc (V.c.den F ρ)) ++ rows).length : Int) <= AU bytes) :
 Done F ρ w0 M0 Im0 ad m ((AA m V.ns).set nm (some (mkB true, .lst e (Row.ofKs ks) true (LEN c') c'))) (valN ((Builtin.append_ #[t, t] rt #[x.conc F ρ ad, y]).run P w)) (.ls nm (LEN c')) := by
 obtain ⟨hM, Im, h1, h2, hI⟩ := hR
 obtain ⟨hd, o1, o2, o3, o4, o5, o6, o7⟩ := AV hB hI hV hg
 have o5 := o5 ho
 have o7 := o7 ho
 obtain ⟨hlen0, xs, hown, hrows⟩ := o5
 rw [A6] at hown
 obtain ⟨hcb, hcm⟩ := Dk hcap
 obtain ⟨i, z, hi1, hi2, hi3, hi4, hi5, hi6⟩ := Ej hi
 have htt := A4 ht
 have hlen' : (LEN c').den F ρ = (((dc (V.c.den F ρ)) ++ rows).length : Int) := by rw [hB.len, hc', Ab, A9 hcm]
 have key : ∃ v' w' news, (Builtin.append_ #[t, t] rt #[x.conc F ρ ad, y]).run P w = .ok v' w' /\ w'.ownsRow 0 e ks.length v' ((dc (V.c.den F ρ)) ++ rows).length (xs ++ news) /\ w.grownBy w' (hd.sl (dc (V.c.den F ρ)).length).ownBlock /\
  (v'.ownBlock = (hd.sl (dc (V.c.den F ρ)).length).ownBlock \/ v'.ownBlock = some w.heap.size) /\ RowsV w Im (Row.ofKs ks) rows news := by
  rw [o1]
  rcases hy with ⟨rfl, rfl⟩ | ⟨a, cp, news, rfl, hn, hc⟩
  ·have hr := run_append_owned_none (P := P) w 0 t rt e i ks.length htt hi1 _ _ _ hown
   refine ⟨_, w, [], hr, ?_, ⟨rfl, rfl, rfl, Nat.le_refl _, fun _ _ _ => rfl⟩, Or.inl rfl, rfl⟩
   simp_all
  ·have hnl := (hn Im).len
   rw [A6] at hnl
   obtain ⟨v', w', r1, r2, r3, r4⟩ := K3 (P := P) w t rt e i z ks.length bytes htt hi1 hi2 hi3 hi4 hi5 hi6 _ _ xs hown a rows.length cp news hnl hc (hn Im).one (by simp_all) (by simp_all)
   grind
 obtain ⟨v', w', news, r1, r2, r3, r4, r5⟩ := key
 obtain ⟨hd', hv'⟩ := HA r2
 have hcond : SV.conc F ρ (upd ad nm hd') (.ls nm (LEN c')) = v' := by
  simp only [SV.conc, Ao, hlen', Int.toNat_natCast]
  exact hv'.symm
 refine ⟨upd ad nm hd', w', Or.inl ?_, ⟨hM, Im, h1, h2, ?_⟩, Ext.put _ hn1 hn2, DK hn1⟩
 ·rw [r1, hcond]; rfl
 ·have hTs : ∀ b, (hd.sl (dc (V.c.den F ρ)).length).ownBlock = some b -> ∃ n ∈ V.ns, ∃ g' x, m.at n = some (g', x) /\ g'.tt F ρ = true /\ mutB F ρ ad n x = some b := fun b hb => o7 b hb
  refine hI.put (ns := V.ns) (T := fun b => (hd.sl (dc (V.c.den F ρ)).length).ownBlock = some b) (Fr.grown r3) (fun b hb _ => hTs b hb) hn1 hn2 ?_ (fun b hb => ?_) trivial
  ·refine ⟨by simp_all, by rw [hlen', hc', Ab], ?_⟩
   simp only [cond_true, hc', Ab, Ao]
   refine ⟨hcm, xs ++ news, ?_, ?_⟩
   ·grind [A6]
   ·refine (hrows.append r5).fr fun b hb => ⟨hb, r3.block b (hI.im b hb) fun e => ?_⟩
    obtain ⟨n, _, g', x', e1, e2, e3⟩ := hTs b e.symm
    exact ((hI.ent n g' x' e1 e2).2 b e3).2.1 hb
  ·simp only [mutB, Ao, hlen', Int.toNat_natCast, <- hv'] at hb
   have hlt := (r2.lt b hb).2
   grind
end
section
variable {P : Program} {F : Fam} {ρ : Nat -> Int} {G : Glob} {w0 w w' : World} {M0 Im0 Im Im' T : Nat -> Prop} {ad ad' : Nat -> Hd} {m m' : Mem} {q : Row} {ks : List K}
theorem Ea : ∀ {l : RL} {xs : List Value}, RowsV w Im (Row.ofKs ks) l xs -> RowsV w Im' (Row.ofKs ks) l xs
 | [], xs, h => h
 | r :: l, xs, h => by
   obtain ⟨us, ys, h1, h2, h3⟩ := h
   exact ⟨us, ys, h1, BK.2 (BK.1 h2), Ea h3⟩
theorem G8 (w : World) {t e sz : Nat} (ht : P.underlying t = some (.slice e)) (hs : szOf P e = some sz) (hd : Hd) (n : Nat) (hcap : n <= hd.cap) (lo hi : Option E) {l u : Int}
 (hlo : lo.map (E.val F ρ) = (lo.map fun _ => Value.int .i64 l)) (hlo0 : lo = none -> l = 0) (hhi : hi.map (E.val F ρ) = (hi.map fun _ => Value.int .i64 u)) (hhi0 : hi = none -> u = n)
 (h1 : 0 <= l) (h2 : l <= u) (h3 : u <= n) :
 ∃ hd' : Hd, (Instr.sliceAt t (hd.sl n) (lo.map (E.val F ρ)) (hi.map (E.val F ρ)) none).run P w = .ok (hd'.sl (u.toNat - l.toNat)) w /\ u.toNat - l.toNat <= hd'.cap /\ (0 < u.toNat - l.toNat -> hd'.blk = hd.blk /\ hd'.off = hd.off + l.toNat * sz) := by
 have hlu : l.toNat <= u.toNat := by omega
 have hun : u.toNat <= n := by omega
 have run : ∀ (a : Option Addr) (cap : Nat), n <= cap -> (Instr.sliceAt t (.slice a n cap) (lo.map (E.val F ρ)) (hi.map (E.val F ρ)) none).run P w =
  .ok (.slice (if cap = l.toNat then a else a.map (·.add (l.toNat * sz))) (u.toNat - l.toNat) (cap - l.toNat)) w := fun a cap hc => by
  rw [hlo, hhi]
  have b1 : u <= (cap : Int) := by omega
  have b0 : 0 <= u := by omega
  have b2 : l <= (u.toNat : Int) := by omega
  cases lo with
  | none =>
    have hl := hlo0 rfl
    subst hl
    cases hi with
    | none =>
      have hu := hhi0 rfl
      subst hu
      simp [Instr.sliceAt, Instr.slice, Instr.sliceBounds, run_underlying ht, Aj w hs]
    | some q =>
      simp [Instr.sliceAt, Instr.slice, Instr.sliceBounds, Instr.sliceBound, asIntOf, run_underlying ht, Aj w hs, b1, b0]
  | some p =>
    cases hi with
    | none =>
      have hu := hhi0 rfl
      subst hu
      have b3 : l <= (n : Int) := by omega
      simp [Instr.sliceAt, Instr.slice, Instr.sliceBounds, Instr.sliceBound, asIntOf, run_underlying ht, Aj w hs, h1, b3]
    | some q =>
      have b3 : l <= max u 0 := by omega
      simp [Instr.sliceAt, Instr.slice, Instr.sliceBounds, Instr.sliceBound, asIntOf, run_underlying ht, Aj w hs, h1, b0, b1, b2, b3]
 rcases IB hd n with ⟨e, h0⟩ | e
 ·grind
 ·rw [e, run (some ⟨hd.blk, hd.off, none⟩) hd.cap hcap]
  by_cases hc : hd.cap = l.toNat
  ·refine ⟨⟨hd.blk, hd.off, hd.cap - l.toNat, false, undef⟩, ?_, ?_, fun hp => ?_⟩
   ·grind [Hd.sl]
   ·simp only; omega
   ·omega
  ·refine ⟨⟨hd.blk, hd.off + l.toNat * sz, hd.cap - l.toNat, false, undef⟩, ?_, ?_, fun _ => ⟨rfl, rfl⟩⟩
   ·grind [Hd.sl, Addr.add_none]
   ·simp only; omega
theorem Oa (hB : BI F) (hR : Rel F ρ w0 M0 Im0 ad m w) {t e : Nat} {row : Row} {x : SV} {lo hi : Option E} {V0 V : LV} (h0 : Ah m e row x = some V0) (hV : Ah (shareL m V0.ns) e row x = some V)
 (hs : V.sh = true) (ht : Av P t = some e) (hz : szOf P e = some row.size) {nm : Nat} (hn1 : nm < m.length) (hn2 : ((shareL m V0.ns).at nm).isNone = true)
 (hlo : ∀ q, lo = some q -> q.kind = .i .i64) (hhi : ∀ q, hi = some q -> q.kind = .i .i64) :
 let l := lo.getD (.lit (.i .i64) 0)
 let h := hi.getD V.le
 let c' := E.app .x 0 5 [V.c, l, h]
 let g := mkAnd V.g (mkAnd (mkCmp .geq l (.lit (.i .i64) 0)) (mkAnd (mkCmp .leq l h) (mkCmp .leq h V.le)))
 g.kind = .b /\ (g.tt F ρ = true -> Done F ρ w0 M0 Im0 ad m ((shareL m V0.ns).set nm (some (mkB true, .lst e row false (LEN c') c')))
  (valN ((Instr.sliceAt t (x.conc F ρ ad) (lo.map (E.val F ρ)) (hi.map (E.val F ρ)) none).run P w)) (.ls nm (LEN c'))) := by
 intro l h c' g
 obtain ⟨k1, k2, k3⟩ := AI hV
 have p1 := Af .geq l (.lit (.i .i64) 0) F ρ
 have p2 := Af .leq l h F ρ
 have p3 := Af .leq h V.le F ρ
 have p4 := Ac _ _ p2.2 p3.2 F ρ
 have p5 := Ac _ _ p1.2 p4.2 F ρ
 have p6 := Ac _ _ k3 p5.2 F ρ
 refine ⟨p6.2, fun hg => ?_⟩
 have hg' : V.g.tt F ρ = true /\ 0 <= l.den F ρ /\ l.den F ρ <= h.den F ρ /\ h.den F ρ <= V.le.den F ρ := by
  have := hg
  rw [show g = mkAnd V.g (mkAnd (mkCmp .geq l (.lit (.i .i64) 0)) (mkAnd (mkCmp .leq l h) (mkCmp .leq h V.le))) from rfl, p6.1, p5.1, p4.1, p1.1, p2.1, p3.1] at this
  simp only [Bool.and_eq_true, cmpB, decide_eq_true_eq] at this
  exact ⟨this.1, this.2.1, this.2.2.1, this.2.2.2⟩
 obtain ⟨hvg, hl0, hlh, hhn⟩ := hg'
 have hR1 := hR.shareL V0.ns
 have hlen1 : nm < (shareL m V0.ns).length := by
  have : ∀ (ns : List Nat) (m : Mem), (shareL m ns).length = m.length := by
   intro ns
   induction ns with
   | nil => intro m; rfl
   | cons n r ih =>
     grind [shareL, Bi]
  rw [this]; exact hn1
 obtain ⟨hM, Im, h1, h2, hI⟩ := hR1
 obtain ⟨hd, o1, o2, o3, o4, o5, o6, o7⟩ := AV hB hI hV hvg
 have o6 := o6 hs
 have htt := A4 ht
 have elo : lo.map (E.val F ρ) = lo.map fun _ => Value.int .i64 (l.den F ρ) := by
  cases lo with
  | none => rfl
  | some q => grind [E.val_i]
 have ehi : hi.map (E.val F ρ) = hi.map fun _ => Value.int .i64 (h.den F ρ) := by
  cases hi with
  | none => rfl
  | some q => grind [E.val_i]
 obtain ⟨hd', r1, r2, r3⟩ := G8 (P := P) (F := F) (ρ := ρ) w htt hz hd (dc (V.c.den F ρ)).length o6.2.1 lo hi elo (fun e => by show (lo.getD _).den F ρ = 0; rw [e]; rfl) ehi (fun e => by grind) hl0 hlh (by rw [<- o3]; exact hhn)
 have hden : c'.den F ρ = cd (((dc (V.c.den F ρ)).take (h.den F ρ).toNat).drop (l.den F ρ).toNat) := by
  show (E.app .x 0 5 [V.c, l, h]).den F ρ = _
  rw [A8 hB]; rfl
 have hlen : (((dc (V.c.den F ρ)).take (h.den F ρ).toNat).drop (l.den F ρ).toNat).length = (h.den F ρ).toNat - (l.den F ρ).toNat := by
  simp; omega
 have hmx : (((dc (V.c.den F ρ)).take (h.den F ρ).toNat).drop (l.den F ρ).toNat).length <= maxLen := by have := o6.1; rw [hlen]; omega
 have hLEN : (LEN c').den F ρ = ((((dc (V.c.den F ρ)).take (h.den F ρ).toNat).drop (l.den F ρ).toNat).length : Int) := by rw [hB.len, hden, Ab, A9 hmx]
 refine ⟨upd ad nm hd', w, Or.inl ?_, ⟨hM, Im, h1, h2, ?_⟩, ⟨fun k hk => HB hn2 hd' k ((Bn V0.ns m k).2 hk), fun k hk => Di hlen1 k ((Bn V0.ns m k).2 hk)⟩, by simp [al, SV.ok, Mem.at_set_same hlen1]⟩
 ·simp_all [valN, SV.conc, Ao]
 ·have := hI.put (ns := []) (T := fun _ => False) (hd := hd') (g := mkB true) (y := .lst e row false (LEN c') c') (Fr.refl _ _) (fun b hb => hb.elim) hlen1 hn2 ?_ (fun b hb => by simp [mutB] at hb) trivial
  ·exact this
  ·refine ⟨by simp_all, by rw [hLEN, hden, Ab], ?_⟩
   simp only [cond_false, hden, Ab, Ao]
   refine ⟨hmx, by rw [hlen]; exact r2, fun hne => ?_, fun i r' hi => ?_⟩
   ·have hp : 0 < (h.den F ρ).toNat - (l.den F ρ).toNat := by rw [<- hlen]; exact List.length_pos_iff.2 hne
    rw [(r3 hp).1]
    exact o6.2.2.1 fun e => by simp_all
   ·have hlt := (List.getElem?_eq_some_iff.1 hi).1
    rw [hlen] at hlt
    rw [List.getElem?_drop, List.getElem?_take, if_pos (by omega)] at hi
    obtain ⟨us, u1, u2⟩ := o6.2.2.2 _ r' hi
    grind
theorem ME {e : Nat} (h : Jx P e ks = true) : ∃ i z, P.info? e = some i /\ i.zero = some z /\ z.cells.toList = numV ks (ks.map fun _ => 0) /\ fits ks (ks.map fun _ => 0) := by
 unfold Jx at h
 split at h
 ·rename_i i hi
  split at h
  ·rename_i z hz
   simp only [Bool.and_eq_true, beq_iff_eq, List.all_eq_true, List.mem_range] at h
   obtain ⟨h1, h2⟩ := h
   refine ⟨i, z, hi, hz, ?_, ?_⟩
   ·apply List.ext_getElem?
    intro j
    by_cases hj : j < ks.length
    ·have hx := h2 j hj
     have hc : z.cells[j]? = some z.cells[j] := Array.getElem?_eq_getElem (by omega)
     have hkk : ks[j]? = some ks[j] := List.getElem?_eq_getElem hj
     simp only [numV, List.getElem?_zipWith, List.getElem?_map, hkk, Option.map_some, Array.getElem?_toList]
     rw [hc] at hx ⊢
     rw [hkk] at hx
     generalize z.cells[j] = v at hx ⊢
     generalize ks[j] = k at hx ⊢
     cases v <;> cases k <;> simp at hx ⊢
     ·subst hx; rfl
     ·obtain ⟨rfl, rfl⟩ := hx; rfl
    grind [numV]
   ·clear h1 h2
    induction ks with
    | nil => trivial
    | cons k ks ih => exact ⟨by cases k with | b => rfl | i k => exact C7 k | x => rfl, ih⟩
  ·cases h
 ·cases h
theorem I8 {r : List Int} (hf : fits ks r) : ∀ n : Nat, RowsV w Im (Row.ofKs ks) (List.replicate n r) ((List.replicate n (numV ks r)).flatten)
 | 0 => rfl
 | n + 1 => by
   rw [List.replicate_succ, List.replicate_succ, List.flatten_cons]
   exact ⟨numV ks r, _, rfl, BK.2 ⟨hf, rfl⟩, I8 hf n⟩
theorem Fv (z : Array Value) (n : Nat) (hz : 0 < z.size) : (madeCells z (n * z.size)).toList = (List.replicate n z.toList).flatten := by
 induction n with
 | zero => simp [madeCells]
 | succ n ih =>
   rw [List.replicate_succ', List.flatten_append, <- ih]
   apply List.ext_getElem?
   intro j
   simp only [madeCells, List.flatten_cons, List.flatten_nil, List.append_nil]
   rw [Nat.succ_mul]
   by_cases h1 : j < n * z.size
   ·grind
   ·rw [List.getElem?_append_right (by simpa using h1)]
    by_cases h2 : j < n * z.size + z.size
    ·have hm : j % z.size = j - n * z.size := by
      have : j = (j - n * z.size) + z.size * n := by rw [Nat.mul_comm z.size n]; omega
      rw [this, Nat.add_mul_mod_self_left, Nat.mod_eq_of_lt (by omega)]
      rw [Nat.mul_comm z.size n]; omega
     grind
    grind
theorem QW (hB : BI F) (hR : Rel F ρ w0 M0 Im0 ad m w) {t e bytes : Nat} {n c : E} (hnc : n.same c = true) (hk : n.kind = .i .i64) (ht : Av P t = some e) (hi : BT P e = some (ks.length, bytes)) (hz : Jx P e ks = true)
 {nm : Nat} (hn1 : nm < m.length) (hn2 : (m.at nm).isNone = true) :
 let c' := E.app .x 0 7 (n :: ks.map fun k => .lit k 0)
 let g := mkAnd (mkCmp .geq n (.lit (.i .i64) 0)) (mkCmp .leq n (.lit .x (AU bytes)))
 g.kind = .b /\ (g.tt F ρ = true -> Done F ρ w0 M0 Im0 ad m (m.set nm (some (mkB true, .lst e (Row.ofKs ks) true (LEN c') c'))) (valN ((Instr.makeSlice t (n.val F ρ) (c.val F ρ)).run P w)) (.ls nm (LEN c'))) := by
 intro c' g
 have p1 := Af .geq n (.lit (.i .i64) 0) F ρ
 have p2 := Af .leq n (.lit .x (AU bytes)) F ρ
 have p3 := Ac _ _ p1.2 p2.2 F ρ
 refine ⟨p3.2, fun hg => ?_⟩
 have hg' : 0 <= n.den F ρ /\ n.den F ρ <= AU bytes := by
  have := hg
  rw [show g = mkAnd (mkCmp .geq n (.lit (.i .i64) 0)) (mkCmp .leq n (.lit .x (AU bytes))) from rfl, p3.1, p1.1, p2.1] at this
  simp only [Bool.and_eq_true, cmpB, decide_eq_true_eq] at this
  exact this
 have hcn := E.same_eq _ _ hnc
 subst hcn
 obtain ⟨N, hN⟩ := Int.eq_ofNat_of_zero_le hg'.1
 rw [hN] at hg'
 obtain ⟨hb, hmx⟩ := Dk hg'.2
 obtain ⟨i, z, hi1, hi2, hi3, hi4, hi5, hi6⟩ := Ej hi
 obtain ⟨i', z', j1, j2, j3, j4⟩ := ME hz
 rw [hi1] at j1
 simp only [oJ] at j1
 subst j1
 rw [hi2] at j2
 simp only [oJ] at j2
 subst j2
 have htt := A4 ht
 obtain ⟨w', r1, r2, r3⟩ := run_make_full (P := P) w 0 t e i z ks.length htt hi1 hi2 hi3 .i64 .i64 N (by grind) hmx (Nat.zero_le _)
 have hden : c'.den F ρ = cd (List.replicate N (ks.map fun _ => 0)) := by
  show (E.app .x 0 7 (n :: ks.map fun k => .lit k 0)).den F ρ = _
  rw [A8 hB]
  simp only [List.map_cons, bi, hN, K.norm, Int.toNat_natCast, List.map_map]
  congr 2
  apply List.map_congr_left
  intro k _
  simp only [Function.comp, E.den]
  cases k with
  | b => rfl
  | i k => exact C7 k
  | x => rfl
 have hLEN : (LEN c').den F ρ = (N : Int) := by rw [hB.len, hden, Ab, List.length_replicate, A9 hmx]
 obtain ⟨hM, Im, h1, h2, hI⟩ := hR
 refine ⟨upd ad nm ⟨w.heap.size, 0, N, false, undef⟩, w', Or.inl ?_, ⟨hM, Im, h1, h2, ?_⟩, Ext.put (ns := []) _ hn1 hn2, DK (ns := []) hn1⟩
 ·simp_all [E.val_i, valN, SV.conc, Ao, Hd.sl]
 ·refine hI.put (ns := []) (T := fun _ => False) ((Fr.grown r3).mono fun b hb => by cases hb) (fun b hb => hb.elim) hn1 hn2 ?_ (fun b hb => ?_) trivial
  ·refine ⟨by simp_all, by simp_all, ?_⟩
   simp only [cond_true, hden, Ab, Ao]
   refine ⟨by simp_all, _, ?_, I8 j4 N⟩
   rw [List.length_replicate, A6, <- j3, <- Fv z.cells N (by omega), hi5]
   exact r2
  ·simp only [mutB, Ao, hLEN, Int.toNat_natCast] at hb
   have hlt := (r2.lt b (by simpa [Hd.sl] using hb)).2
   refine ⟨hlt, Or.inl ?_⟩
   simp [Hd.sl, Value.ownBlock] at hb
   omega
theorem QX (hB : BI F) (hR : Rel F ρ w0 M0 Im0 ad m w) {e bytes len : Nat} {cs : List SV} {c' : E} (hs : Cl ks len cs NILL = some c') (hi : BT P e = some (ks.length, bytes)) (hcap : (len : Int) <= AU bytes)
 {nm : Nat} (hn1 : nm < m.length) (hn2 : (m.at nm).isNone = true) :
 Done F ρ w0 M0 Im0 ad m (m.set nm (some (mkB true, .lst e (Row.ofKs ks) true (.lit (.i .i64) len) c'))) ((D.new e cs (some len)).run P F ρ ad w) (.ls nm (.lit (.i .i64) len)) := by
 obtain ⟨hb, hmx⟩ := Dk hcap
 obtain ⟨rows, r1, r2, r3, r4⟩ := Dj (w := w) (ad := ad) (ρ := ρ) (Im := fun _ => False) hB hs (by grind [BI.nil, Gq]) rfl
 have hden : c'.den F ρ = cd rows := by rw [r1, hB.nil (ρ := ρ), Ab, List.nil_append]
 have hLEN : (E.lit (.i .i64) (len : Int)).den F ρ = (len : Int) := A9 hmx
 obtain ⟨hM, Im, h1, h2, hI⟩ := hR
 have hnew : (w.alloc (.cells (SV.concL F ρ ad cs).toArray e)).heap[w.heap.size]? = some (.cells (SV.concL F ρ ad cs).toArray e (0, 0)) := (MapKept.heap_alloc w _).1
 have hlen := r4.len
 rw [r3, A6] at hlen
 have r4' : RowsV (w.alloc (.cells (SV.concL F ρ ad cs).toArray e)) Im (Row.ofKs ks) rows (SV.concL F ρ ad cs) := r4.fr fun b hb => hb.elim
 refine ⟨upd ad nm ⟨w.heap.size, 0, len, false, undef⟩, w.alloc (.cells (SV.concL F ρ ad cs).toArray e), Or.inl ?_, ⟨hM, Im, h1, h2, ?_⟩, Ext.put (ns := []) _ hn1 hn2, DK (ns := []) hn1⟩
 ·simp [D.run, SV.conc, Ao, hLEN, Hd.sl]
 ·refine hI.put (ns := []) (T := fun _ => False) (Fr.alloc _ _ _) (fun b hb => hb.elim) hn1 hn2 ?_ (fun b hb => ?_) trivial
  ·refine ⟨by simp_all, by grind [Ab], ?_⟩
   simp only [cond_true, hden, Ab, Ao]
   refine ⟨by rw [r3]; exact hmx, _, ⟨by grind [A6], Or.inr ⟨w.heap.size, len, _, ?_, Nat.zero_le _, hnew, by omega, hmx, by simp [hlen, A6], ?_⟩⟩, r4'⟩
   ·simp [Hd.sl, r3]
   grind [A6]
  ·simp only [mutB, Ao, hLEN, Int.toNat_natCast] at hb
   simp [Hd.sl, Value.ownBlock] at hb
   simp_all
end
theorem Lu : ∀ a : List Int, ltR a a = false
 | [] => rfl
 | x :: l => by simp [ltR, Lu l]
theorem S5 {a b : List Int} (h : ltR a b = true) : a ≠ b := fun e => by grind [Lu]
theorem SortedR.cons {n : Nat} {r : List Int} {l : RL} : SortedR n (r :: l) ↔ (∀ a ∈ l, ltR (r.take n) (a.take n) = true) /\ SortedR n l := List.pairwise_cons
theorem SortedR.ne {n : Nat} {l : RL} (h : SortedR n l) : l.Pairwise fun a b => a.take n ≠ b.take n := List.Pairwise.imp (fun h => S5 h) h
section
variable {ks vs : List K} {kag vag : Bool}
theorem MapZ.len : ∀ {es : List MapEntry} {l : RL}, MapZ ks vs kag vag es l -> es.length = l.length
 | [], [], _ => rfl
 | [], _ :: _, h => h.elim
 | _ :: _, [], h => h.elim
 | _ :: es, _ :: l, h => by simp [MapZ.len h.2]
theorem MapZ.get : ∀ {es : List MapEntry} {l : RL}, MapZ ks vs kag vag es l -> ∀ (i : Nat) (e : MapEntry), es[i]? = some e -> ∃ r, l[i]? = some r /\ EntV ks vs kag vag e r
 | [], [], _, i, e, h => by simp at h
 | [], _ :: _, h, _, _, _ => h.elim
 | _ :: _, [], h, _, _, _ => h.elim
 | x :: es, r :: l, h, 0, e, he => by simp at he; subst he; exact ⟨r, rfl, h.1⟩
 | x :: es, r :: l, h, i + 1, e, he => by simpa using MapZ.get h.2 i e (by simpa using he)
theorem MapZ.mem {es : List MapEntry} {l : RL} (h : MapZ ks vs kag vag es l) {r : List Int} (hr : r ∈ l) : ∃ e ∈ es, EntV ks vs kag vag e r := by
 induction es generalizing l with
 | nil => cases l with
   | nil => cases hr
   | cons _ _ => exact h.elim
 | cons x es ih => cases l with
   | nil => exact h.elim
   | cons y l =>
     rcases List.mem_cons.1 hr with rfl | hr
     ·exact ⟨x, List.mem_cons_self .., h.1⟩
     ·obtain ⟨e, h1, h2⟩ := ih h.2 hr
      grind
theorem MapZ.set : ∀ {es : List MapEntry} {l : RL}, MapZ ks vs kag vag es l -> ∀ (i : Nat) (e : MapEntry) (r : List Int), EntV ks vs kag vag e r -> MapZ ks vs kag vag (es.set i e) (l.set i r)
 | [], [], _, i, e, r, h => by simp [MapZ]
 | [], _ :: _, h, _, _, _, _ => h.elim
 | _ :: _, [], h, _, _, _, _ => h.elim
 | x :: es, y :: l, h, 0, e, r, he => ⟨he, h.2⟩
 | x :: es, y :: l, h, i + 1, e, r, he => ⟨h.1, MapZ.set h.2 i e r he⟩
end
section
variable {P : Program} {F : Fam} {ρ : Nat -> Int} {G : Glob} {w0 w w' : World} {M0 Im0 Im Im' T : Nat -> Prop} {ad ad' : Nat -> Hd} {m m' : Mem} {q : Row} {ks : List K}
theorem G9 (w : World) {t e sz : Nat} (ht : P.underlying t = some (.slice e)) (hs : szOf P e = some sz) (hd : Hd) (n : Nat) (hcap : n <= hd.cap) (lo hi : Option E) {l u : Int}
 (hlo : lo.map (E.val F ρ) = (lo.map fun _ => Value.int .i64 l)) (hlo0 : lo = none -> l = 0) (hhi : hi.map (E.val F ρ) = (hi.map fun _ => Value.int .i64 u)) (hhi0 : hi = none -> u = n)
 (h1 : 0 <= l) (h2 : l <= u) (h3 : u <= n) :
 (Instr.sliceAt t (hd.sl n) (lo.map (E.val F ρ)) (hi.map (E.val F ρ)) none).run P w = .ok ((hd.part n l.toNat sz).sl (u.toNat - l.toNat)) w := by
 have run : ∀ (a : Option Addr) (cap : Nat), n <= cap -> (Instr.sliceAt t (.slice a n cap) (lo.map (E.val F ρ)) (hi.map (E.val F ρ)) none).run P w =
  .ok (.slice (if cap = l.toNat then a else a.map (·.add (l.toNat * sz))) (u.toNat - l.toNat) (cap - l.toNat)) w := fun a cap hc => by
  rw [hlo, hhi]
  have b1 : u <= (cap : Int) := by omega
  have b0 : 0 <= u := by omega
  have b2 : l <= (u.toNat : Int) := by omega
  cases lo with
  | none =>
    have hl := hlo0 rfl
    subst hl
    cases hi with
    | none =>
      have hu := hhi0 rfl
      subst hu
      simp [Instr.sliceAt, Instr.slice, Instr.sliceBounds, run_underlying ht, Aj w hs]
    | some q =>
      simp [Instr.sliceAt, Instr.slice, Instr.sliceBounds, Instr.sliceBound, asIntOf, run_underlying ht, Aj w hs, b1, b0]
  | some p =>
    cases hi with
    | none =>
      have hu := hhi0 rfl
      subst hu
      have b3 : l <= (n : Int) := by omega
      simp [Instr.sliceAt, Instr.slice, Instr.sliceBounds, Instr.sliceBound, asIntOf, run_underlying ht, Aj w hs, h1, b3]
    | some q =>
      have b3 : l <= max u 0 := by omega
      simp [Instr.sliceAt, Instr.slice, Instr.sliceBounds, Instr.sliceBound, asIntOf, run_underlying ht, Aj w hs, h1, b0, b1, b2, b3]
 grind [Hd.sl, Hd.part, Addr.add_none]
theorem Oc (hB : BI F) (hR : Rel F ρ w0 M0 Im0 ad m w) {t n str ty : Nat} {row : Row} {l0 lo hi i : E} {V : LV} (hV : Ah m ty row (.sv n str l0 lo hi) = some V) (ht : Av P t = some ty) (hs : szOf P ty = some str) (hik : i.kind = .i .i64) (hlk : lo.kind = .i .i64) (hal : al m n) :
 (mkAnd V.g (inB i V.le)).kind = .b /\ ((mkAnd V.g (inB i V.le)).tt F ρ = true -> Done F ρ w0 M0 Im0 ad m m (valN ((Instr.indexAt t ((SV.sv n str l0 lo hi).conc F ρ ad) (i.val F ρ)).run P w)) (.pe n str (BE .add .i64 lo i) 0)) := by
 obtain ⟨k1, k2, k3⟩ := AI hV
 have p1 := Ac V.g (inB i V.le) k3 (Am (F := F) (ρ := ρ)).1 F ρ
 refine ⟨p1.2, fun hg => ?_⟩
 rw [p1.1, Bool.and_eq_true] at hg
 have hR' := hR
 obtain ⟨hM, Im, h1, h2, hI⟩ := hR
 obtain ⟨hd, o1, o2, o3, o4, o5, o6, o7⟩ := AV hB hI hV hg.1
 obtain ⟨b1, b2⟩ := FT o3 hg.2
 have hV' := hV
 simp only [Ah] at hV'
 split at hV'
 ·rename_i g ty' row' own le' c hn
  split at hV'
  ·rename_i hc
   obtain ⟨rfl, rfl, rfl, h3, h4, h5, h6⟩ := hc
   simp only [oJ] at hV'
   subst hV'
   simp only at hg o1 o3 o4 b1
   have hgg := hg.1
   rw [(Ac _ _ h6 (CL (F := F) (ρ := ρ)).1 F ρ).1, Bool.and_eq_true] at hgg
   obtain ⟨c1, c2, c3⟩ := (CL (F := F) (ρ := ρ)).2 hgg.2
   obtain ⟨⟨j1, j2, j3⟩, i2⟩ := hI.ent n g _ hn hgg.1
   have hrd : RdL w Im row' (ad n) (dc (c.den F ρ)) := by
    cases own
    ·grind [ShL.rd]
    ·grind [OwL.rd]
   obtain ⟨d1, d2, d3⟩ := hrd
   have hden : (E.app .x 0 5 [c, lo, hi]).den F ρ = cd (((dc (c.den F ρ)).take (hi.den F ρ).toNat).drop (lo.den F ρ).toNat) := by
    rw [A8 hB]; rfl
   have hsl : (((dc (c.den F ρ)).take (hi.den F ρ).toNat).drop (lo.den F ρ).toNat).length = (hi.den F ρ).toNat - (lo.den F ρ).toNat := by simp; omega
   rw [hden, Ab, hsl] at b1
   have hle := E.same_eq _ _ h3
   subst hle
   have hsum : (BE .add .i64 lo i).den F ρ = lo.den F ρ + i.den F ρ := by
    have hb := AM .add .i64 lo i F ρ
    have hv := hb.1
    rw [E.val_i hb.2] at hv
    simp only [Value.int.injEq, true_and] at hv
    rw [hv]
    simp only [binI]
    have hnn : lo.den F ρ + i.den F ρ = (((lo.den F ρ).toNat + (i.den F ρ).toNat : Nat) : Int) := by omega
    rw [hnn]
    exact Hz (by omega)
   have hu := A4 ht
   have hform : (SV.sv n row'.size l0 lo hi).conc F ρ ad = .slice (some ⟨(ad n).blk, (ad n).off + (lo.den F ρ).toNat * row'.size, none⟩) ((hi.den F ρ).toNat - (lo.den F ρ).toNat) ((ad n).cap - (lo.den F ρ).toNat) := by
    simp only [SV.conc, Hd.sl]
    have : (((hi.den F ρ).toNat - (lo.den F ρ).toNat) == 0) = false := by simp; omega
    rw [this]
    simp only [Bool.and_false, cond_false, Hd.part]
    rw [if_neg (by omega)]
   refine ⟨ad, w, Or.inl ?_, hR', Ext.refl _ _, hal⟩
   rw [hform, E.val_i hik]
   have hnn : 0 <= i.den F ρ := by omega
   have hlt : i.den F ρ < (((hi.den F ρ).toNat - (lo.den F ρ).toNat : Nat) : Int) := by omega
   have hto : (lo.den F ρ + i.den F ρ).toNat = (lo.den F ρ).toNat + (i.den F ρ).toNat := by omega
   have hmul : (ad n).off + (lo.den F ρ).toNat * row'.size + (i.den F ρ).toNat * row'.size = (ad n).off + ((lo.den F ρ).toNat + (i.den F ρ).toNat) * row'.size := by rw [Nat.add_mul]; omega
   have hlt' : ¬ (((hi.den F ρ).toNat - (lo.den F ρ).toNat : Nat) : Int) <= i.den F ρ := by omega
   simp only [SV.conc, hsum, hto]
   simp [valN, Instr.indexAt, run_underlying hu, asIntOf, hnn, hlt, hlt', Aj w hs, Addr.add_none, hmul]
  ·cases hV'
 ·cases hV'
theorem MF (hB : BI F) (hR : Rel F ρ w0 M0 Im0 ad m w) {t e : Nat} {x : SV} {lo hi : Option E} {g : E} {v : SV} (h : subV P m t e x lo hi = some (g, v, m')) :
 g.kind = .b /\ (g.tt F ρ = true -> Done F ρ w0 M0 Im0 ad m m' (valN ((Instr.sliceAt t (x.conc F ρ ad) (lo.map (E.val F ρ)) (hi.map (E.val F ρ)) none).run P w)) v) := by
 unfold subV at h
 split at h
 ·rename_i n le
  split at h
  ·rename_i g' ty row le' c hn
   simp only at h
   split at h
   ·rename_i hc
    obtain ⟨rfl, c2, c3, c4, c5, c6, c7, c8, c9⟩ := hc
    simp only [oJ, pJ] at h
    obtain ⟨rfl, rfl, rfl⟩ := h
    have hle := E.same_eq _ _ c2
    subst hle
    have p1 := CL (F := F) (ρ := ρ) (lo := lo.getD (.lit (.i .i64) 0)) (hi := hi.getD le) (le := le)
    have p2 := Ac g' _ c5 p1.1 F ρ
    refine ⟨p2.2, fun hg => ?_⟩
    rw [p2.1, Bool.and_eq_true] at hg
    obtain ⟨b1, b2, b3⟩ := p1.2 hg.2
    have hR' := hR
    obtain ⟨hM, Im, h1, h2, hI⟩ := hR
    obtain ⟨⟨i1, i2, i3⟩, i4⟩ := hI.ent n g' _ hn hg.1
    simp only [cond_true] at i3
    obtain ⟨d1, d2, d3⟩ := i3.rd
    have htt := A4 c6
    have hlen : (le.den F ρ).toNat = (dc (c.den F ρ)).length := by rw [i2]; simp
    have elo : lo.map (E.val F ρ) = lo.map fun _ => Value.int .i64 ((lo.getD (.lit (.i .i64) 0)).den F ρ) := by
     cases lo with
     | none => rfl
     | some q => grind [E.val_i]
    have ehi : hi.map (E.val F ρ) = hi.map fun _ => Value.int .i64 ((hi.getD le).den F ρ) := by
     cases hi with
     | none => rfl
     | some q => grind [E.val_i]
    have run := G9 (P := P) (F := F) (ρ := ρ) w htt c7 (ad n) (dc (c.den F ρ)).length d2 lo hi elo (fun e => by rw [e]; rfl) ehi (fun e => by rw [e]; exact i2) b1 b2 (by rw [<- i2]; exact b3)
    refine ⟨ad, w, Or.inl ?_, hR', Ext.refl _ _, Mem.at_al hn⟩
    simp_all [SV.conc, valN]
   ·cases h
  ·cases h
 ·cases h
theorem J3 (hB : BI F) (hR : Rel F ρ w0 M0 Im0 ad m w) {d : D} {g : E} {v : SV} (hd : d.good F ρ (al m)) (h : Ez m d = some (g, v, m')) :
 g.kind = .b /\ (g.tt F ρ = true -> Done F ρ w0 M0 Im0 ad m m' (d.run P F ρ ad w) v) :=by cases h
end
section
variable {P : Program} {F : Fam} {ρ : Nat -> Int} {G : Glob} {w0 w w' : World} {M0 Im0 Im Im' T : Nat -> Prop} {ad ad' : Nat -> Hd} {m m' : Mem} {q : Row} {ks : List K} {hd : Hd} {l : RL} {ty ty' : Nat}
theorem IC {r : List Int} {us : List Value} : RowV w Im (.ls ty' q .nil) r us ↔ ∃ z h, r = [z] /\ us = [Hd.sl h (dc z).length] /\ isCd z /\ ShL w Im q h (dc z) := by
 constructor
 ·rintro ⟨z, zs', h, vs', rfl, rfl, ⟨a, b⟩, rfl, rfl⟩
  exact ⟨z, h, rfl, rfl, a, b⟩
 ·rintro ⟨z, h, rfl, rfl, a, b⟩
  exact ⟨z, [], h, [], rfl, rfl, ⟨a, b⟩, rfl, rfl⟩
theorem OwL.setL (ho : OwL w Im ty (.ls ty' q .nil) hd l) {i : Nat} (hi : i < l.length) (u : Value) (hu : u.oneCell' = true) :
 ∃ w', BF P w hd.blk (hd.off + i * 1 + 0) [u] = .ok .skip w' /\ Fr (fun b => (hd.sl l.length).ownBlock = some b) w w' /\
   ∀ w1 z, w1 = w' -> (∀ b, Im b -> w1.heap[b]? = w.heap[b]?) -> RowV w Im (.ls ty' q .nil) [z] [u] -> OwL w1 Im ty (.ls ty' q .nil) hd (l.set i [z]) := by
 obtain ⟨h1, xs, h2, h3⟩ := ho
 have hsz : (Row.ls ty' q .nil).size = 1 := rfl
 rcases h2.2 with ⟨hn, hl0⟩ | ⟨g, cap, cur, e, k1, k2, k3, k4, k5, k6⟩
 ·omega
 ·have hg : (hd.sl l.length).ownBlock = some g := by rw [e]; rfl
  have hgb := Hd.own_blk hg
  subst hgb
  have hoff : hd.off = 0 := by
   unfold Hd.sl at e
   cases hnn : hd.nil && l.length == 0
   ·simp_all
   ·simp_all
  rw [hsz, Nat.mul_one] at k5 k6
  have hx := h3.len
  rw [hsz, Nat.mul_one] at hx
  have hst := FR (P := P) (off := i) (vs := [u]) k2 (by simp; omega) (by simpa using hu)
  rw [hoff, Nat.zero_add, Nat.mul_one, Nat.add_zero]
  refine ⟨_, hst, (Fr.setRow _ _).mono fun b hb => by rw [hb]; exact hg, ?_⟩
  rintro w1 z rfl hIm hrow
  have hset := (RowsV.set h3 i [z] [u] hi hrow).fr (w' := w.setRow hd.blk (cur.toList.take i ++ [u] ++ cur.toList.drop (i + [u].length)).toArray) (Im' := Im) fun b hb => ⟨hb, hIm b hb⟩
  rw [hsz, Nat.mul_one] at hset
  have hlen : (cur.toList.take i ++ [u] ++ cur.toList.drop (i + [u].length)).length = cap := by
   simp; omega
  refine ⟨by simpa using h1, _, ⟨?_, .inr ⟨hd.blk, cap, _, by simp_all, k1, setRow_heap w hd.blk cur _ ty _ k2, by simpa using k3, k4, by simp_all, ?_⟩⟩, hset⟩
  ·grind
  ·rw [hsz, Nat.mul_one, List.length_set]
   have hc : cur.toList.length = cap := by rw [Array.length_toList]; exact k5
   rw [<- k6]
   apply List.ext_getElem?
   intro j
   simp only [List.getElem?_take, List.getElem?_append, List.length_append, List.length_take, List.length_cons, List.length_nil, List.getElem?_drop, List.getElem?_cons, hc]
   grind
theorem Od (hB : BI F) (hR : Rel F ρ w0 M0 Im0 ad m w) {n : Nat} {g : E} {own : Bool} {le c i : E} (hn : m.at n = some (g, .lst ty (.ls ty' q .nil) own le c)) (hk : g.kind = .b)
 {nm : Nat} (hn1 : nm < m.length) (hn2 : (m.at nm).isNone = true) :
 (mkAnd g (inB i le)).kind = .b /\ ((mkAnd g (inB i le)).tt F ρ = true -> Done F ρ w0 M0 Im0 ad m (m.set nm (some (mkB true, .lst ty' q false (LEN (CEL .x c i 0)) (CEL .x c i 0))))
  (Bv P w (ad n).blk ((ad n).off + (i.den F ρ).toNat * 1 + 0) 1 false) (.ls nm (LEN (CEL .x c i 0)))) := by
 have hm := Ac g (inB i le) hk (Am (F := F) (ρ := ρ)).1 F ρ
 refine ⟨hm.2, fun hg => ?_⟩
 rw [hm.1, Bool.and_eq_true] at hg
 obtain ⟨hM, Im, h1, h2, hI⟩ := hR
 obtain ⟨⟨i1, i2, i3⟩, _⟩ := hI.ent n g _ hn hg.1
 obtain ⟨b1, b2⟩ := FT i2 hg.2
 have hrd : RdL w Im (.ls ty' q .nil) (ad n) (dc (c.den F ρ)) := by
  cases own
  ·exact ShL.rd i3
  ·exact OwL.rd i3
 obtain ⟨us, u1, u2⟩ := hrd.2.2 (i.den F ρ).toNat _ (List.getElem?_eq_getElem b1)
 obtain ⟨z, h, e1, rfl, e3, e4⟩ := IC.1 u1
 have hden : (CEL .x c i 0).den F ρ = z := by
  show (E.app .x 0 1 [c, i, .lit .x ((0 : Nat) : Int)]).den F ρ = z
  rw [A8 hB]
  simp only [List.map_cons, List.map_nil, bi, E.den, K.norm]
  have hgd : (dc (c.den F ρ)).getD (i.den F ρ).toNat [] = [z] := by rw [List.getD_eq_getElem?_getD, List.getElem?_eq_getElem b1, Option.getD_some, e1]
  rw [hgd]
  rfl
 have hLEN : (LEN (CEL .x c i 0)).den F ρ = ((dc z).length : Int) := by rw [hB.len, hden, A9 e4.1]
 have hc := u2 0 _ rfl
 refine ⟨upd ad nm h, w, Or.inl ?_, ⟨hM, Im, h1, h2, ?_⟩, Ext.put (ns := []) _ hn1 hn2, DK (ns := []) hn1⟩
 ·have := FQ (P := P) 1 hc
  simp only [SV.conc, Ao, hLEN, Int.toNat_natCast]
  exact this
 ·have := hI.put (ns := []) (T := fun _ => False) (hd := h) (g := mkB true) (y := .lst ty' q false (LEN (CEL .x c i 0)) (CEL .x c i 0)) (Fr.refl _ _) (fun b hb => hb.elim) hn1 hn2 ?_ (fun b hb => by simp [mutB] at hb) trivial
  ·exact this
  ·refine ⟨by rw [hden]; exact e3, by rw [hLEN, hden], ?_⟩
   grind [Ao]
theorem Oe (hB : BI F) {ns : List Nat} (hR0 : Rel F ρ w0 M0 Im0 ad m w) {n : Nat} {g : E} {le c i : E} (hn : (shareL m ns).at n = some (g, .lst ty (.ls ty' q .nil) true le c)) (hk : g.kind = .b)
 {x : SV} {V : LV} (hV : Ah (shareL m ns) ty' q x = some V) (hs : V.sh = true) :
 (mkAnd (mkAnd g V.g) (inB i le)).kind = .b /\ ((mkAnd (mkAnd g V.g) (inB i le)).tt F ρ = true -> Done F ρ w0 M0 Im0 ad m ((shareL m ns).set n (some (g, .lst ty (.ls ty' q .nil) true le (.app .x 0 6 [c, i, .lit .x (0 : Nat), V.c]))))
  (BF P w (ad n).blk ((ad n).off + (i.den F ρ).toNat * 1 + 0) (SV.concL F ρ ad [x])) .und) := by
 obtain ⟨k1, k2, k3⟩ := AI hV
 have hm0 := Ac g V.g hk k3 F ρ
 have hm := Ac (mkAnd g V.g) (inB i le) hm0.2 (Am (F := F) (ρ := ρ)).1 F ρ
 refine ⟨hm.2, fun hg => ?_⟩
 rw [hm.1, hm0.1, Bool.and_eq_true, Bool.and_eq_true] at hg
 have hR := hR0.shareL ns
 have hR' := hR
 obtain ⟨hM, Im, h1, h2, hI⟩ := hR
 obtain ⟨⟨i1, i2, i3⟩, i4⟩ := hI.ent n g _ hn hg.1.1
 obtain ⟨b1, b2⟩ := FT i2 hg.2
 simp only [cond_true] at i3
 have hlen : (le.den F ρ).toNat = (dc (c.den F ρ)).length := by rw [i2]; simp
 obtain ⟨hd, o1, o2, o3, o4, o5, o6, o7⟩ := AV hB hI hV hg.1.2
 have hvc : SV.concL F ρ ad [x] = [hd.sl (dc (V.c.den F ρ)).length] := by simp only [SV.concL, o1]
 obtain ⟨w', r1, r2, r3⟩ := i3.setL (P := P) b1 (hd.sl (dc (V.c.den F ρ)).length) (Hd.sl_one _ _)
 have hrow1 : ((dc (c.den F ρ))[(i.den F ρ).toNat]).length = 1 := by
  obtain ⟨us, u1, u2⟩ := (OwL.rd i3).2.2 (i.den F ρ).toNat _ (List.getElem?_eq_getElem b1)
  exact u1.len.2
 have hspl : ∀ z, splR ((dc (c.den F ρ))[(i.den F ρ).toNat]) 0 [z] = [z] := fun z => by
  unfold splR
  rw [List.take_zero, List.nil_append, List.drop_eq_nil_of_le (by rw [hrow1]; simp), List.append_nil]
 have hden : (E.app .x 0 6 [c, i, .lit .x (0 : Nat), V.c]).den F ρ = cd ((dc (c.den F ρ)).set (i.den F ρ).toNat [V.c.den F ρ]) := by
  rw [A8 hB]
  simp only [List.map_cons, List.map_nil, bi, K.norm]
  rw [List.getD_eq_getElem?_getD, List.getElem?_eq_getElem b1, Option.getD_some]
  show cd ((dc (c.den F ρ)).set (i.den F ρ).toNat (splR _ 0 [V.c.den F ρ])) = _
  rw [hspl]
 refine ⟨ad, w', Or.inr ⟨by rw [hvc]; exact r1, rfl⟩, ?_, ⟨fun _ _ => rfl, fun k hk' => (Cd hn k).2 ((Bn ns m k).2 hk')⟩, trivial⟩
 refine hR'.turn hn r2 (fun b hb => ⟨by grind [mutB], hg.1.1⟩) (fun Im' hI' _ => ?_) (fun b hb => hb) trivial
 obtain ⟨⟨_, _, j3⟩, j4⟩ := hI'.ent n g _ hn hg.1.1
 simp only [cond_true] at j3
 refine ⟨by simp_all, by simp_all, ?_⟩
 simp only [cond_true, hden, Ab]
 obtain ⟨hd2, p1, p2, p3, p4, p5, p6, p7⟩ := AV hB hI' hV hg.1.2
 have ee : hd2.sl (dc (V.c.den F ρ)).length = hd.sl (dc (V.c.den F ρ)).length := p1.symm.trans o1
 obtain ⟨w1, t1, t2, t3⟩ := j3.setL (P := P) b1 (hd.sl (dc (V.c.den F ρ)).length) (Hd.sl_one _ _)
 grind [Fr.block, RelI.im, mutB, IC]
theorem Og (hB : BI F) (hR : Rel F ρ w0 M0 Im0 ad m w) {t e bytes : Nat} {n c : E} (hnc : n.same c = true) (hk : n.kind = .i .i64) (ht : Av P t = some e) (hi : BT P e = some (1, bytes)) (hz : MD P e = true)
 {nm : Nat} (hn1 : nm < m.length) (hn2 : (m.at nm).isNone = true) :
 let c' := E.app .x 0 7 [n, NILL]
 let g := mkAnd (mkCmp .geq n (.lit (.i .i64) 0)) (mkCmp .leq n (.lit .x (AU bytes)))
 g.kind = .b /\ (g.tt F ρ = true -> Done F ρ w0 M0 Im0 ad m (m.set nm (some (mkB true, .lst e (.ls ty' q .nil) true (LEN c') c'))) (valN ((Instr.makeSlice t (n.val F ρ) (c.val F ρ)).run P w)) (.ls nm (LEN c'))) := by
 intro c' g
 have p1 := Af .geq n (.lit (.i .i64) 0) F ρ
 have p2 := Af .leq n (.lit .x (AU bytes)) F ρ
 have p3 := Ac _ _ p1.2 p2.2 F ρ
 refine ⟨p3.2, fun hg => ?_⟩
 have hg' : 0 <= n.den F ρ /\ n.den F ρ <= AU bytes := by
  have := hg
  rw [show g = mkAnd (mkCmp .geq n (.lit (.i .i64) 0)) (mkCmp .leq n (.lit .x (AU bytes))) from rfl, p3.1, p1.1, p2.1] at this
  simp only [Bool.and_eq_true, cmpB, decide_eq_true_eq] at this
  exact this
 have hcn := E.same_eq _ _ hnc
 subst hcn
 obtain ⟨N, hN⟩ := Int.eq_ofNat_of_zero_le hg'.1
 rw [hN] at hg'
 obtain ⟨hb, hmx⟩ := Dk hg'.2
 obtain ⟨i, z, hi1, hi2, hi3, hi4, hi5, hi6⟩ := Ej hi
 have j3 : z.cells.toList = [.slice none 0 0] := by
  unfold MD at hz
  rw [hi1] at hz
  simp only [hi2] at hz
  split at hz
  ·assumption
  ·cases hz
 have htt := A4 ht
 obtain ⟨w', r1, r2, r3⟩ := run_make_full (P := P) w 0 t e i z 1 htt hi1 hi2 hi3 .i64 .i64 N (by grind) hmx (Nat.zero_le _)
 have hden : c'.den F ρ = cd (List.replicate N [cd []]) := by
  show (E.app .x 0 7 [n, NILL]).den F ρ = _
  rw [A8 hB]
  simp only [List.map_cons, List.map_nil, bi, hN, K.norm, Int.toNat_natCast, hB.nil]
 have hLEN : (LEN c').den F ρ = (N : Int) := by rw [hB.len, hden, Ab, List.length_replicate, A9 hmx]
 obtain ⟨hM, Im, h1, h2, hI⟩ := hR
 refine ⟨upd ad nm ⟨w.heap.size, 0, N, false, undef⟩, w', Or.inl ?_, ⟨hM, Im, h1, h2, ?_⟩, Ext.put (ns := []) _ hn1 hn2, DK (ns := []) hn1⟩
 ·simp_all [E.val_i, valN, SV.conc, Ao, Hd.sl]
 ·refine hI.put (ns := []) (T := fun _ => False) ((Fr.grown r3).mono fun b hb => by cases hb) (fun b hb => hb.elim) hn1 hn2 ?_ (fun b hb => ?_) trivial
  ·refine ⟨by simp_all, by simp_all, ?_⟩
   simp only [cond_true, hden, Ab, Ao]
   have rep : ∀ N : Nat, RowsV w' Im (.ls ty' q .nil) (List.replicate N [cd []]) ((List.replicate N [Value.slice none 0 0]).flatten) := by
    intro N
    induction N with
    | zero => rfl
    | succ N ih =>
      rw [List.replicate_succ, List.replicate_succ, List.flatten_cons]
      refine ⟨[.slice none 0 0], _, rfl, IC.2 ⟨cd [], ⟨0, 0, 0, true, undef⟩, rfl, by rw [Ab]; rfl, Gq _, ?_⟩, ih⟩
      rw [Ab]
      exact ⟨by unfold maxLen; simp, Nat.zero_le _, fun h => absurd rfl h, fun i r' h => by simp at h⟩
   refine ⟨by simp_all, _, ?_, rep N⟩
   rw [List.length_replicate, show (Row.ls ty' q .nil).size = 1 from rfl, <- j3, <- Fv z.cells N (by omega), hi5]
   exact r2
  ·simp only [mutB, Ao, hLEN, Int.toNat_natCast] at hb
   have hlt := (r2.lt b (by simpa [Hd.sl] using hb)).2
   refine ⟨hlt, Or.inl ?_⟩
   simp [Hd.sl, Value.ownBlock] at hb
   omega
theorem Oh (hB : BI F) (hG : GOK G Im0 w0) (hR : Rel F ρ w0 M0 Im0 ad m w) {e b off n : Nat} {cs : List SV} {c' : E} (hr : rdG G b off (n * ks.length) = some cs) (hs : Cl ks n cs NILL = some c') (hn : 0 < n) (hk : 0 < ks.length) (hmx : n <= 100000)
 {nm : Nat} (hn1 : nm < m.length) (hn2 : (m.at nm).isNone = true) :
 Done F ρ w0 M0 Im0 ad m (m.set nm (some (mkB true, .lst e (Row.ofKs ks) false (.lit (.i .i64) n) c'))) (.ok (.value (.slice (some ⟨b, off, none⟩) n n)) w) (.ls nm (.lit (.i .i64) n)) := by
 have hGn := hG.now hR
 obtain ⟨l1, l2, l3⟩ := G5 (F := F) (ρ := ρ) (ad := ad) hGn hr
 obtain ⟨hM, Im, h1, h2, hI⟩ := hR
 obtain ⟨rows, r1, r2, r3, r4⟩ := Dj (w := w) (ad := ad) (ρ := ρ) (Im := Im) hB hs (by grind [BI.nil, Gq]) rfl
 have hden : c'.den F ρ = cd rows := by rw [r1, hB.nil (ρ := ρ), Ab, List.nil_append]
 have hml : n <= maxLen := by unfold maxLen; omega
 have hLEN : (E.lit (.i .i64) (n : Int)).den F ρ = (n : Int) := A9 hml
 have hIb : Im0 b := by
  have hpos : 0 < n * ks.length := Nat.mul_pos hn hk
  obtain ⟨k, hk'⟩ : ∃ k, n * ks.length = k + 1 := ⟨n * ks.length - 1, by omega⟩
  rw [hk'] at hr
  simp only [rdG] at hr
  split at hr
  ·rename_i v r g1 g2
   exact (hG F ρ b off v g1).1
  ·cases hr
 refine ⟨upd ad nm ⟨b, off, n, false, undef⟩, w, Or.inl ?_, ⟨hM, Im, h1, h2, ?_⟩, Ext.put (ns := []) _ hn1 hn2, DK (ns := []) hn1⟩
 ·simp [SV.conc, Ao, hLEN, Hd.sl]
 ·have := hI.put (ns := []) (T := fun _ => False) (hd := ⟨b, off, n, false, undef⟩) (g := mkB true) (y := .lst e (Row.ofKs ks) false (.lit (.i .i64) n) c') (Fr.refl _ _) (fun b hb => hb.elim) hn1 hn2 ?_ (fun b hb => by simp [mutB] at hb) trivial
  ·exact this
  ·refine ⟨by simp_all, by grind [Ab], ?_⟩
   simp only [cond_false, hden, Ab, Ao]
   refine ⟨by rw [r3]; exact hml, by simp_all, fun _ => h1 b hIb, fun i r' hi => ?_⟩
   grind [RowsV.get]
theorem J4 (hB : BI F) (hR : Rel F ρ w0 M0 Im0 ad m w) {x : X} {nm : Nat} {g : E} {v : SV} (hx : x.good F ρ (al m)) (h : A0 P m nm x = some (g, v, m')) :
 g.kind = .b /\ (g.tt F ρ = true -> Done F ρ w0 M0 Im0 ad m m' (x.run P F ρ ad w) v) := by
 cases x with
 | mnew t => cases h
 | mlk t n key ok => cases h
 | mup t n key val => cases h
 | mdl t kt ty n key => cases h
 | mln t ty n => cases h
 | vix t n str l0 lo hi i =>
   simp only [A0] at h
   split at h
   ·split at h
    ·rename_i V hV
     split at h
     ·rename_i hc
      simp only [oJ, pJ] at h
      obtain ⟨rfl, rfl, rfl⟩ := h
      exact Oc hB hR hV hc.1 hc.2.1 hc.2.2.1 hc.2.2.2 hx
     ·cases h
    ·cases h
   ·cases h
 | clr t ty e n le => cases h
 | lds n off str e sz ag => cases h
 | sts n off str e vs => cases h
 | ldl n str i o =>
   simp only [A0] at h
   split at h
   ·rename_i g' ty0 ty q own le c hn
    split at h
    ·rename_i hc
     obtain ⟨c1, rfl, rfl, c4, c5⟩ := hc
     simp only [oJ, pJ] at h
     obtain ⟨rfl, rfl, rfl⟩ := h
     exact Od hB hR hn c1 c4 c5
    ·cases h
   ·cases h
 | stl n str i o y =>
   simp only [A0] at h
   split at h
   ·split at h
    ·rename_i V0 hV0
     split at h
     ·rename_i g' ty ty2 q2 le c V hn hV
      split at h
      ·rename_i hc
       obtain ⟨rfl, rfl, c3, c4, rfl, rfl⟩ := hc
       simp only [oJ, pJ] at h
       obtain ⟨rfl, rfl, rfl⟩ := h
       exact Oe hB hR hn c3 hV c4
      ·cases h
     ·cases h
    ·cases h
   ·cases h
 | mkl t e n c =>
   simp only [A0] at h
   split at h
   ·rename_i ty' size bytes he hi
    split at h
    ·rename_i ks hks
     split at h
     ·rename_i hc
      obtain ⟨c1, c2, c3, rfl, c5, c6, c7⟩ := hc
      simp only [oJ, pJ] at h
      obtain ⟨rfl, rfl, rfl⟩ := h
      exact Og hB hR c1 c2 c3 hi c5 c6 c7
     ·cases h
    ·cases h
   ·cases h
 | _ => simp [A0] at h
end
section
variable {P : Program} {F : Fam} {ρ : Nat -> Int} {G : Glob} {w0 w w' : World} {M0 Im0 Im Im' T : Nat -> Prop} {ad ad' : Nat -> Hd} {m m' : Mem} {q : Row} {ks : List K}
theorem J5 (hB : BI F) (hG : GOK G Im0 w0) (hR : Rel F ρ w0 M0 Im0 ad m w) {x : X} {nm : Nat} {g : E} {v : SV} {m' : Mem} (hx : x.good F ρ (al m)) (h : applyX P G m nm x = some (g, v, m')) :
 g.kind = .b /\ (g.tt F ρ = true -> Done F ρ w0 M0 Im0 ad m m' (x.run P F ρ ad w) v) := by
 cases x with
 | old d =>
   simp only [applyX] at h
   split at h
   ·rename_i r hr
    simp only [oJ] at h; subst h
    exact K5 (P := P) hG hR hx hr
   ·exact J3 (P := P) hB hR hx h
 | len x =>
   simp only [applyX] at h
   split at h
   ·obtain ⟨V, hV, he⟩ := Option.map_eq_some_iff.1 h
    simp only [pJ] at he
    obtain ⟨rfl, rfl, rfl⟩ := he
    exact I5 hB hR hV
   ·obtain ⟨V, hV, he⟩ := Option.map_eq_some_iff.1 h
    simp only [pJ] at he
    obtain ⟨rfl, rfl, rfl⟩ := he
    exact I5 hB hR hV
 | lde n str i o sz ag =>
   simp only [applyX] at h
   split at h
   ·rename_i g' ty row own le c hn
    split at h
    ·rename_i ks hr
     split at h
     ·rename_i hc
      obtain ⟨u, hv, he⟩ := Option.map_eq_some_iff.1 h
      simp only [pJ] at he
      obtain ⟨rfl, rfl, rfl⟩ := he
      obtain ⟨hk, rfl⟩ := hc
      exact I6 hB hR hn hk hr hv
     ·split at h
      ·rename_i q e hs
       split at h
       ·rename_i hc
        simp only [oJ, pJ] at h
        obtain ⟨rfl, rfl, rfl⟩ := h
        obtain ⟨hk, rfl, rfl, rfl, hl⟩ := hc
        exact N8 hB hR hn hk hr hs hl
       ·cases h
      ·cases h
    ·cases h
   ·cases h
 | ste n str i o cs =>
   simp only [applyX] at h
   split at h
   ·rename_i g' ty row le c hn
    split at h
    ·rename_i ks hr
     split at h
     ·rename_i es he
      split at h
      ·rename_i hc
       simp only [oJ, pJ] at h
       obtain ⟨rfl, rfl, rfl⟩ := h
       obtain ⟨hk, rfl, hl⟩ := hc
       exact N9 hB hR hn hk hr he hl
      ·cases h
     ·cases h
    ·cases h
   ·cases h
 | app t e rt x y =>
   simp only [applyX] at h
   split at h
   ·rename_i ks hks
    split at h
    ·rename_i V size bytes hV hi
     split at h
     ·rename_i hc
      obtain ⟨rfl, ho, ht, hn1, hn2⟩ := hc
      obtain ⟨k1, k2, k3⟩ := AI hV
      split at h
      ·rename_i m2 len cp
       split at h
       ·rename_i g2 ty2 cs hb
        split at h
        ·rename_i hl
         obtain ⟨c', hs, he⟩ := Option.map_eq_some_iff.1 h
         simp only [pJ] at he
         obtain ⟨rfl, rfl, rfl⟩ := he
         obtain ⟨b1, b2⟩ := Be hb
         have p1 := Ac V.g g2 k3 b2 F ρ
         have p2 := Af .leq (.app .x 0 0 [c']) (.lit .x (AU bytes)) F ρ
         have p3 := Ac _ _ p1.2 p2.2 F ρ
         refine ⟨p3.2, fun hg => ?_⟩
         rw [p3.1, p1.1, Bool.and_eq_true, Bool.and_eq_true] at hg
         have hcap := J1 hg.2
         have hR' := hR
         obtain ⟨hM, Im, h1, h2, hI⟩ := hR'
         obtain ⟨hd, o1, o2, o3, o4, o5, o6, o7⟩ := AV hB hI hV hg.1.1
         obtain ⟨rows, r1, r2, r3, r4⟩ := Dj (w := w) (Im := Im) (ad := ad) hB hs o2 k2
         rw [A8 hB] at hcap
         simp only [List.map_cons, List.map_nil, bi, K.norm, r1, Ab] at hcap
         refine J2 hB hR hV hg.1.1 ho ht hi hn1 hn2 r1 (Or.inr ⟨⟨(ad m2).blk, 0, none⟩, cp, SV.concL F ρ ad cs, by simp only [SV.conc, r3], fun Im' => Ea r4, fun j u hu => ?_⟩) hcap
         have hh := (hI.ent m2 g2 _ b1 hg.1.2).1
         rw [Addr.add_none, Nat.zero_add, DH hh]
         simpa using hu
        ·cases h
       ·cases h
      ·rename_i y hy
       split at h
       ·rename_i V2 hV2
        simp only [oJ, pJ] at h
        obtain ⟨rfl, rfl, rfl⟩ := h
        obtain ⟨l1, l2, l3⟩ := AI hV2
        have p1 := Ac V.g V2.g k3 l3 F ρ
        have p2 := Af .leq (.app .x 0 0 [.app .x 0 4 [V.c, V2.c]]) (.lit .x (AU bytes)) F ρ
        have p3 := Ac _ _ p1.2 p2.2 F ρ
        refine ⟨p3.2, fun hg => ?_⟩
        rw [p3.1, p1.1, Bool.and_eq_true, Bool.and_eq_true] at hg
        have hcap := J1 hg.2
        have hR' := hR
        obtain ⟨hM, Im, h1, h2, hI⟩ := hR'
        obtain ⟨hd, o1, o2, o3, o4, o5, o6, o7⟩ := AV hB hI hV2 hg.1.2
        have hden : (E.app .x 0 4 [V.c, V2.c]).den F ρ = cd (dc (V.c.den F ρ) ++ dc (V2.c.den F ρ)) := by rw [A8 hB]; rfl
        rw [A8 hB] at hcap
        simp only [List.map_cons, List.map_nil, bi, K.norm, hden, Ab] at hcap
        refine J2 hB hR hV hg.1.1 ho ht hi hn1 hn2 hden ?_ hcap
        rcases IB hd (dc (V2.c.den F ρ)).length with ⟨e0, hz⟩ | e0
        ·simp_all
        ·right
         obtain ⟨xs, x1, x2⟩ := flatL (w := w) (Im := Im) (b := hd.blk) (o := hd.off) o4.2.2
         exact ⟨_, _, xs, o1.trans e0, fun Im' => Ea x1, fun j u hu => by grind [Addr.add_none]⟩
       ·cases h
     ·cases h
    ·cases h
   ·cases h
 | sub t e x lo hi =>
   simp only [applyX] at h
   split at h
   ·rename_i r hr
    simp only [oJ] at h; subst h
    exact MF hB hR hr
   split at h
   ·rename_i ty row hrow
    split at h
    ·rename_i V0 hV0
     split at h
     ·rename_i V hV
      split at h
      ·rename_i hc
       simp only [oJ, pJ] at h
       obtain ⟨rfl, rfl, rfl⟩ := h
       exact Oa hB hR hV0 hV hc.1 hc.2.1 hc.2.2.1 hc.2.2.2.1 hc.2.2.2.2.1 hc.2.2.2.2.2.1 hc.2.2.2.2.2.2
      ·cases h
     ·cases h
    ·cases h
   ·cases h
 | mk t e n c =>
   simp only [applyX] at h
   split at h
   ·rename_i ks size bytes hks hi
    split at h
    ·rename_i hc
     simp only [oJ, pJ] at h
     obtain ⟨rfl, rfl, rfl⟩ := h
     obtain ⟨c1, c2, c3, rfl, c5, c6, c7⟩ := hc
     exact QW hB hR c1 c2 c3 hi c5 c6 c7
    ·cases h
   ·cases h
 | bl e ks cs len =>
   simp only [applyX] at h
   split at h
   ·rename_i c' size bytes hs hi
    split at h
    ·rename_i hc
     simp only [oJ, pJ] at h
     obtain ⟨rfl, rfl, rfl⟩ := h
     obtain ⟨rfl, c2, c3, c4⟩ := hc
     exact ⟨Ag _, fun _ => QX hB hR hs hi c2 c3 c4⟩
    ·cases h
   ·cases h
 | gsl e b off n =>
   simp only [applyX] at h
   split at h
   ·rename_i ks hks
    split at h
    ·rename_i cs hr
     split at h
     ·rename_i c' hs
      split at h
      ·rename_i hc
       simp only [oJ, pJ] at h
       obtain ⟨rfl, rfl, rfl⟩ := h
       obtain ⟨c1, c2, c3, c4, c5⟩ := hc
       exact ⟨Ag _, fun _ => Oh hB hG hR hr hs c1 c2 c3 c4 c5⟩
      ·cases h
     ·cases h
    ·cases h
   ·cases h
 | _ => exact J4 (nm := nm) hB hR hx h
end
inductive Sh where
 | sc (k : K)
 | lt (k : K) (n : Int)
 | agg (cs : List Sh)
 | lst (ty : Nat) (row : Row) (own : Bool)
 | obj (ty : Nat) (cs : List Sh)
 | ref (j : Nat)
 | pin (j off str : Nat)
 | fnc (f : Nat) (cs : List Sh)
 | nul (c : CV)
 | tup (cs : List Sh)
 | opt (sh : Sh)
 | und
 | mp (ks vs : List K) (kag vag : Bool)
 | seg (ty : Nat) (ks : List K) (cs : List Sh)
 | lsn (ty : Nat) (row : Row)
 deriving Repr, Inhabited
mutual
def Sh.ks : Sh -> List K
 | .sc k => [k]
 | .pin .. => [.i .i64]
 | .agg l | .obj _ l | .fnc _ l | .tup l => Sh.ksL l
 | .lst .. => [.x]
 | .lsn .. => [.x]
 | .mp .. => [.x]
 | .seg _ _ l => .x :: Sh.ksL l
 | .opt s => .b :: s.ks
 | _ => []
def Sh.ksL : List Sh -> List K
 | [] => []
 | s :: r => s.ks ++ Sh.ksL r
end
mutual
def Sh.nn : Sh -> Nat
 | .agg l | .fnc _ l | .tup l => Sh.nnL l
 | .obj _ l => Sh.nnL l + 1
 | .lst .. => 1
 | .lsn .. => 1
 | .mp .. => 1
 | .seg _ _ l => Sh.nnL l + 1
 | .opt s => s.nn
 | _ => 0
def Sh.nnL : List Sh -> Nat
 | [] => 0
 | s :: r => s.nn + Sh.nnL r
end
mutual
def Sh.refs : Sh -> List Nat
 | .agg l | .obj _ l | .fnc _ l | .tup l | .seg _ _ l => Sh.refsL l
 | .ref j => [j]
 | .pin j _ _ => [j]
 | .opt s => s.refs
 | _ => []
def Sh.refsL : List Sh -> List Nat
 | [] => []
 | s :: r => s.refs ++ Sh.refsL r
end
abbrev Ents := List (Nat × E × Blk)
mutual
def Sh.gen (ev : Nat -> E) (nv : Nat -> Nat) : Sh -> E -> Nat -> Nat -> SV × Ents
 | .sc _, _, vi, _ => (.sc (ev vi), [])
 | .lt k n, _, _, _ => (.sc (.lit k n), [])
 | .agg l, g, vi, ni => let r := Sh.genL ev nv l g vi ni; (.agg r.1, r.2)
 | .lst ty row own, g, vi, ni => (.ls (nv ni) (LEN (ev vi)), [(ni, g, .lst ty row own (LEN (ev vi)) (ev vi))])
 | .lsn ty row, g, vi, ni => (.ls (nv ni) (LEN (ev vi)), [(ni, g, .lst ty row true (LEN (ev vi)) (ev vi))])
 | .obj ty cs, g, vi, ni => let r := Sh.genL ev nv cs g vi (ni + 1); (.ptr (nv ni) 0, (ni, g, .cells ty r.1) :: r.2)
 | .ref j, _, _, _ => (.ptr (nv j) 0, [])
 | .pin j off str, _, vi, _ => (.pi (nv j) off str (ev vi), [])
 | .fnc f cs, g, vi, ni => let r := Sh.genL ev nv cs g vi ni; (.fn f r.1, r.2)
 | .nul c, _, _, _ => (.nilp c, [])
 | .tup l, g, vi, ni => let r := Sh.genL ev nv l g vi ni; (.tup r.1, r.2)
 | .opt s, g, vi, ni => let r := s.gen ev nv (mkAnd g (Ak (ev vi))) (vi + 1) ni; (.ite (ev vi) (.nilp .nP) r.1, r.2)
 | .und, _, _, _ => (.und, [])
 | .mp ks vs kag vag, g, vi, ni => (.mp (nv ni), [(ni, g, .mp ks vs kag vag (ev vi))])
 | .seg ty ks cs, g, vi, ni => let r := Sh.genL ev nv cs g (vi + 1) (ni + 1); (.ptr (nv ni) 0, (ni, g, .seg ty r.1 ks (ev vi)) :: r.2)
def Sh.genL (ev : Nat -> E) (nv : Nat -> Nat) : List Sh -> E -> Nat -> Nat -> List SV × Ents
 | [], _, _, _ => ([], [])
 | s :: r, g, vi, ni => let a := s.gen ev nv g vi ni; let b := Sh.genL ev nv r g (vi + s.ks.length) (ni + s.nn); (a.1 :: b.1, a.2 ++ b.2)
end
noncomputable def F0 : Fam := fun k j xs => if k = 0 then bi j xs else 0
theorem BO : BI F0 := fun j xs => rfl
structure Tr (B : Nat) (F1 F2 : Fam) (ρ1 ρ2 : Nat -> Int) (ad1 ad2 : Nat -> Hd) (ev1 ev2 : Nat -> E) (nv1 nv2 : Nat -> Nat) : Prop where
 b1 : BI F1
 b2 : BI F2
 den : ∀ i, (ev1 i).den F1 ρ1 = (ev2 i).den F2 ρ2
 kd : ∀ i, (ev1 i).kind = (ev2 i).kind
 hd : ∀ j, j < B -> ad1 (nv1 j) = ad2 (nv2 j)
structure SameE (F1 F2 : Fam) (ρ1 ρ2 : Nat -> Int) (ad1 ad2 : Nat -> Hd) (nv1 nv2 : Nat -> Nat) (a b : Nat × E × Blk) : Prop where
 nm : a.1 = b.1
 gd : a.2.1.tt F1 ρ1 = b.2.1.tt F2 ρ2
 mu : mutB F1 ρ1 ad1 (nv1 a.1) a.2.2 = mutB F2 ρ2 ad2 (nv2 b.1) b.2.2
 ok : ∀ (Im : Nat -> Prop) (w : World), BlkOK F1 ρ1 Im ad1 (nv1 a.1) w a.2.2 ↔ BlkOK F2 ρ2 Im ad2 (nv2 b.1) w b.2.2
section
variable {F1 F2 : Fam} {ρ1 ρ2 : Nat -> Int} {ad1 ad2 : Nat -> Hd} {ev1 ev2 : Nat -> E} {nv1 nv2 : Nat -> Nat} {B : Nat}
theorem Tr.tt (h : Tr B F1 F2 ρ1 ρ2 ad1 ad2 ev1 ev2 nv1 nv2) (i : Nat) : (ev1 i).tt F1 ρ1 = (ev2 i).tt F2 ρ2 := by unfold E.tt; rw [h.den i]
theorem Tr.val (h : Tr B F1 F2 ρ1 ρ2 ad1 ad2 ev1 ev2 nv1 nv2) (i : Nat) : (ev1 i).val F1 ρ1 = (ev2 i).val F2 ρ2 := by rw [<- Bd, <- Bd, h.kd, h.den]
theorem Tr.len (h : Tr B F1 F2 ρ1 ρ2 ad1 ad2 ev1 ev2 nv1 nv2) (i : Nat) : (LEN (ev1 i)).den F1 ρ1 = (LEN (ev2 i)).den F2 ρ2 := by rw [h.b1.len, h.b2.len, h.den]
def SameL (F1 F2 : Fam) (ρ1 ρ2 : Nat -> Int) (ad1 ad2 : Nat -> Hd) (nv1 nv2 : Nat -> Nat) : Ents -> Ents -> Prop
 | [], [] => True
 | a :: l, b :: r => SameE F1 F2 ρ1 ρ2 ad1 ad2 nv1 nv2 a b /\ SameL F1 F2 ρ1 ρ2 ad1 ad2 nv1 nv2 l r
 | _, _ => False
theorem SameL.append : ∀ {a b c d : Ents}, SameL F1 F2 ρ1 ρ2 ad1 ad2 nv1 nv2 a b -> SameL F1 F2 ρ1 ρ2 ad1 ad2 nv1 nv2 c d -> SameL F1 F2 ρ1 ρ2 ad1 ad2 nv1 nv2 (a ++ c) (b ++ d)
 | [], [], c, d, _, h' => h'
 | [], _ :: _, _, _, h, _ => h.elim
 | _ :: _, [], _, _, h, _ => h.elim
 | a :: l, b :: r, c, d, h, h' => ⟨h.1, SameL.append h.2 h'⟩
theorem SameL.mem : ∀ {a b : Ents}, SameL F1 F2 ρ1 ρ2 ad1 ad2 nv1 nv2 a b -> ∀ x ∈ a, ∃ y ∈ b, SameE F1 F2 ρ1 ρ2 ad1 ad2 nv1 nv2 x y
 | [], [], _, x, hx => by cases hx
 | [], _ :: _, h, _, _ => h.elim
 | _ :: _, [], h, _, _ => h.elim
 | a :: l, b :: r, h, x, hx => by
   rcases List.mem_cons.1 hx with rfl | hx
   ·exact ⟨b, List.mem_cons_self .., h.1⟩
   ·obtain ⟨y, h1, h2⟩ := SameL.mem h.2 x hx
    grind
mutual
theorem Oi (h : Tr B F1 F2 ρ1 ρ2 ad1 ad2 ev1 ev2 nv1 nv2) : ∀ (s : Sh) (g1 g2 : E) (vi ni : Nat), g1.kind = .b -> g2.kind = .b -> g1.tt F1 ρ1 = g2.tt F2 ρ2 -> (∀ i k, s.ks[i]? = some k -> (ev1 (vi + i)).kind = k) -> ni + s.nn <= B -> (∀ j ∈ s.refs, j < B) ->
 (s.gen ev1 nv1 g1 vi ni).1.conc F1 ρ1 ad1 = (s.gen ev2 nv2 g2 vi ni).1.conc F2 ρ2 ad2 /\ SameL F1 F2 ρ1 ρ2 ad1 ad2 nv1 nv2 (s.gen ev1 nv1 g1 vi ni).2 (s.gen ev2 nv2 g2 vi ni).2
 | .sc k, g1, g2, vi, ni, _, _, _, hk, hb, hr => ⟨h.val vi, trivial⟩
 | .lt k n, g1, g2, vi, ni, _, _, _, hk, hb, hr => ⟨by simp [Sh.gen, SV.conc, E.val, E.kind, E.tt, E.den], trivial⟩
 | .agg l, g1, g2, vi, ni, k1, k2, hg, hk, hb, hr => by
   obtain ⟨i1, i2⟩ := B7 h l g1 g2 vi ni k1 k2 hg hk hb hr
   grind [Sh.gen, SV.conc]
 | .lst ty row own, g1, g2, vi, ni, k1, k2, hg, hk, hb, hr => by
   have hl := h.len vi
   have hd := h.hd ni (by grind [Sh.nn])
   refine ⟨by grind [Sh.gen, SV.conc], ⟨rfl, hg, ?_, fun Im w => ?_⟩, trivial⟩
   ·cases own <;> simp only [mutB, hl, hd]
   ·simp only [BlkOK, hl, hd, h.den]
 | .lsn ty row, g1, g2, vi, ni, k1, k2, hg, hk, hb, hr => by
   have hl := h.len vi
   have hd := h.hd ni (by grind [Sh.nn])
   refine ⟨by grind [Sh.gen, SV.conc], ⟨rfl, hg, ?_, fun Im w => ?_⟩, trivial⟩
   ·grind [mutB]
   ·simp only [BlkOK, hl, hd, h.den]
 | .obj ty cs, g1, g2, vi, ni, k1, k2, hg, hk, hb, hr => by
   obtain ⟨i1, i2⟩ := B7 h cs g1 g2 vi (ni + 1) k1 k2 hg hk (by grind [Sh.nn]) hr
   have hd := h.hd ni (by grind [Sh.nn])
   refine ⟨by simp only [Sh.gen, SV.conc, hd], ⟨rfl, hg, ?_, fun Im w => ?_⟩, i2⟩
   ·simp only [mutB, hd]
   grind [BlkOK]
 | .ref j, g1, g2, vi, ni, _, _, _, hk, hb, hr => ⟨by simp only [Sh.gen, SV.conc, h.hd j (hr j (by simp [Sh.refs]))], trivial⟩
 | .pin j off str, g1, g2, vi, ni, _, _, _, hk, hb, hr => ⟨by simp only [Sh.gen, SV.conc, h.hd j (hr j (by simp [Sh.refs])), h.den vi], trivial⟩
 | .fnc f cs, g1, g2, vi, ni, k1, k2, hg, hk, hb, hr => by
   obtain ⟨i1, i2⟩ := B7 h cs g1 g2 vi ni k1 k2 hg hk hb hr
   grind [Sh.gen, SV.conc]
 | .nul c, g1, g2, vi, ni, _, _, _, hk, hb, hr => ⟨rfl, trivial⟩
 | .tup l, g1, g2, vi, ni, k1, k2, hg, hk, hb, hr => by
   obtain ⟨i1, i2⟩ := B7 h l g1 g2 vi ni k1 k2 hg hk hb hr
   grind [Sh.gen, SV.conc]
 | .opt s, g1, g2, vi, ni, k1, k2, hg, hk, hb, hr => by
   have a1 := Ac g1 (Ak (ev1 vi)) k1 (Ad (ev1 vi) F1 ρ1).2 F1 ρ1
   have a2 := Ac g2 (Ak (ev2 vi)) k2 (Ad (ev2 vi) F2 ρ2).2 F2 ρ2
   obtain ⟨i1, i2⟩ := Oi h s (mkAnd g1 (Ak (ev1 vi))) (mkAnd g2 (Ak (ev2 vi))) (vi + 1) ni a1.2 a2.2 (by rw [a1.1, a2.1, (Ad (ev1 vi) F1 ρ1).1, (Ad (ev2 vi) F2 ρ2).1, hg, h.tt]) (fun i k hi => by
    have := hk (i + 1) k (by simpa [Sh.ks] using hi)
    grind) hb hr
   refine ⟨?_, i2⟩
   simp only [Sh.gen, SV.conc, h.tt, i1]
 | .und, g1, g2, vi, ni, _, _, _, hk, hb, hr => ⟨rfl, trivial⟩
 | .mp ks vs kag vag, g1, g2, vi, ni, k1, k2, hg, hk, hb, hr => by
   have hd := h.hd ni (by grind [Sh.nn])
   refine ⟨by simp only [Sh.gen, SV.conc, hd], ⟨rfl, hg, ?_, fun Im w => ?_⟩, trivial⟩
   ·simp only [mutB, hd]
   ·simp only [BlkOK, hd, h.den]
 | .seg ty ks cs, g1, g2, vi, ni, k1, k2, hg, hk, hb, hr => by
   obtain ⟨i1, i2⟩ := B7 h cs g1 g2 (vi + 1) (ni + 1) k1 k2 hg (fun i k hi => by
    have := hk (i + 1) k (by simpa [Sh.ks] using hi)
    grind) (by grind [Sh.nn]) hr
   have hd := h.hd ni (by grind [Sh.nn])
   refine ⟨by simp only [Sh.gen, SV.conc, hd], ⟨rfl, hg, ?_, fun Im w => ?_⟩, i2⟩
   ·simp only [mutB, hd]
   ·simp only [BlkOK, hd, i1, h.den]
theorem B7 (h : Tr B F1 F2 ρ1 ρ2 ad1 ad2 ev1 ev2 nv1 nv2) : ∀ (l : List Sh) (g1 g2 : E) (vi ni : Nat), g1.kind = .b -> g2.kind = .b -> g1.tt F1 ρ1 = g2.tt F2 ρ2 -> (∀ i k, (Sh.ksL l)[i]? = some k -> (ev1 (vi + i)).kind = k) -> ni + Sh.nnL l <= B -> (∀ j ∈ Sh.refsL l, j < B) ->
 SV.concL F1 ρ1 ad1 (Sh.genL ev1 nv1 l g1 vi ni).1 = SV.concL F2 ρ2 ad2 (Sh.genL ev2 nv2 l g2 vi ni).1 /\ SameL F1 F2 ρ1 ρ2 ad1 ad2 nv1 nv2 (Sh.genL ev1 nv1 l g1 vi ni).2 (Sh.genL ev2 nv2 l g2 vi ni).2
 | [], g1, g2, vi, ni, _, _, _, _, _, _ => ⟨rfl, trivial⟩
 | s :: r, g1, g2, vi, ni, k1, k2, hg, hk, hb, hr => by
   obtain ⟨i1, i2⟩ := Oi h s g1 g2 vi ni k1 k2 hg (fun i k hi => hk i k (by grind [Sh.ksL])) (by grind [Sh.nnL]) fun j hj => hr j (by grind [Sh.refsL])
   obtain ⟨j1, j2⟩ := B7 h r g1 g2 (vi + s.ks.length) (ni + s.nn) k1 k2 hg (fun i k hi => by
    have := hk (s.ks.length + i) k (by grind [Sh.ksL])
    grind) (by grind [Sh.nnL]) fun j hj => hr j (by grind [Sh.refsL])
   grind [Sh.genL, SV.concL, SameL.append]
end
mutual
theorem Oj {ev : Nat -> E} {nv : Nat -> Nat} {p : Nat -> Prop} : ∀ (s : Sh) (g : E) (vi ni : Nat), (∀ j, ni <= j -> j < ni + s.nn -> p (nv j)) -> (∀ j ∈ s.refs, p (nv j)) ->
 (s.gen ev nv g vi ni).1.ok p /\ ∀ x ∈ (s.gen ev nv g vi ni).2, (ni <= x.1 /\ x.1 < ni + s.nn) /\ SV.okL p x.2.2.cs
 | .sc k, g, vi, ni, hp, hr => ⟨trivial, fun x hx => by cases hx⟩
 | .lt k n, g, vi, ni, hp, hr => ⟨trivial, fun x hx => by cases hx⟩
 | .agg l, g, vi, ni, hp, hr => BB l g vi ni hp hr
 | .lst ty row own, g, vi, ni, hp, hr => ⟨hp _ (Nat.le_refl _) (by simp [Sh.nn]), fun x hx => by simp only [Sh.gen, List.mem_singleton] at hx; subst hx; exact ⟨⟨Nat.le_refl _, by simp [Sh.nn]⟩, trivial⟩⟩
 | .lsn ty row, g, vi, ni, hp, hr => ⟨hp _ (Nat.le_refl _) (by simp [Sh.nn]), fun x hx => by simp only [Sh.gen, List.mem_singleton] at hx; subst hx; exact ⟨⟨Nat.le_refl _, by simp [Sh.nn]⟩, trivial⟩⟩
 | .obj ty cs, g, vi, ni, hp, hr => by
   obtain ⟨i1, i2⟩ := BB (ev := ev) (nv := nv) cs g vi (ni + 1) (fun j h1 h2 => hp j (by omega) (by grind [Sh.nn])) hr
   refine ⟨hp _ (Nat.le_refl _) (by simp [Sh.nn]), fun x hx => ?_⟩
   simp only [Sh.gen, List.mem_cons] at hx
   rcases hx with rfl | hx
   ·exact ⟨⟨Nat.le_refl _, by simp [Sh.nn]⟩, i1⟩
   grind [Sh.nn]
 | .ref j, g, vi, ni, hp, hr => ⟨hr j (by simp [Sh.refs]), fun x hx => by cases hx⟩
 | .pin j off str, g, vi, ni, hp, hr => ⟨hr j (by simp [Sh.refs]), fun x hx => by cases hx⟩
 | .fnc f cs, g, vi, ni, hp, hr => BB cs g vi ni hp hr
 | .nul c, g, vi, ni, hp, hr => ⟨trivial, fun x hx => by cases hx⟩
 | .tup l, g, vi, ni, hp, hr => BB l g vi ni hp hr
 | .opt s, g, vi, ni, hp, hr => by
   obtain ⟨i1, i2⟩ := Oj (ev := ev) (nv := nv) s (mkAnd g (Ak (ev vi))) (vi + 1) ni hp hr
   exact ⟨⟨trivial, i1⟩, i2⟩
 | .und, g, vi, ni, hp, hr => ⟨trivial, fun x hx => by cases hx⟩
 | .mp ks vs kag vag, g, vi, ni, hp, hr => ⟨hp _ (Nat.le_refl _) (by simp [Sh.nn]), fun x hx => by simp only [Sh.gen, List.mem_singleton] at hx; subst hx; exact ⟨⟨Nat.le_refl _, by simp [Sh.nn]⟩, trivial⟩⟩
 | .seg ty ks cs, g, vi, ni, hp, hr => by
   obtain ⟨i1, i2⟩ := BB (ev := ev) (nv := nv) cs g (vi + 1) (ni + 1) (fun j h1 h2 => hp j (by omega) (by grind [Sh.nn])) hr
   refine ⟨hp _ (Nat.le_refl _) (by simp [Sh.nn]), fun x hx => ?_⟩
   simp only [Sh.gen, List.mem_cons] at hx
   rcases hx with rfl | hx
   ·exact ⟨⟨Nat.le_refl _, by simp [Sh.nn]⟩, i1⟩
   grind [Sh.nn]
theorem BB {ev : Nat -> E} {nv : Nat -> Nat} {p : Nat -> Prop} : ∀ (l : List Sh) (g : E) (vi ni : Nat), (∀ j, ni <= j -> j < ni + Sh.nnL l -> p (nv j)) -> (∀ j ∈ Sh.refsL l, p (nv j)) ->
 SV.okL p (Sh.genL ev nv l g vi ni).1 /\ ∀ x ∈ (Sh.genL ev nv l g vi ni).2, (ni <= x.1 /\ x.1 < ni + Sh.nnL l) /\ SV.okL p x.2.2.cs
 | [], g, vi, ni, hp, hr => ⟨trivial, fun x hx => by cases hx⟩
 | s :: r, g, vi, ni, hp, hr => by
   obtain ⟨i1, i2⟩ := Oj (ev := ev) (nv := nv) s g vi ni (fun j h1 h2 => hp j h1 (by grind [Sh.nnL])) fun j hj => hr j (by grind [Sh.refsL])
   obtain ⟨j1, j2⟩ := BB (ev := ev) (nv := nv) r g (vi + s.ks.length) (ni + s.nn) (fun j h1 h2 => hp j (by omega) (by grind [Sh.nnL])) fun j hj => hr j (by grind [Sh.refsL])
   refine ⟨⟨i1, j1⟩, fun x hx => ?_⟩
   grind [Sh.genL, Sh.nnL]
end
mutual
theorem Lv {ev : Nat -> E} {nv : Nat -> Nat} : ∀ (s : Sh) (g : E) (vi ni j : Nat), ni <= j -> j < ni + s.nn -> ∃ x ∈ (s.gen ev nv g vi ni).2, x.1 = j
 | .sc _, g, vi, ni, j, h1, h2 => by grind [Sh.nn]
 | .lt _ _, g, vi, ni, j, h1, h2 => by grind [Sh.nn]
 | .agg l, g, vi, ni, j, h1, h2 => BZ l g vi ni j h1 h2
 | .lst ty row own, g, vi, ni, j, h1, h2 => by simp only [Sh.nn] at h2; exact ⟨_, List.mem_singleton.2 rfl, by show ni = j; omega⟩
 | .lsn ty row, g, vi, ni, j, h1, h2 => by simp only [Sh.nn] at h2; exact ⟨_, List.mem_singleton.2 rfl, by show ni = j; omega⟩
 | .obj ty cs, g, vi, ni, j, h1, h2 => by
   by_cases hj : j = ni
   ·exact ⟨_, List.mem_cons_self .., hj.symm⟩
   ·obtain ⟨x, x1, x2⟩ := BZ (ev := ev) (nv := nv) cs g vi (ni + 1) j (by omega) (by grind [Sh.nn])
    exact ⟨x, List.mem_cons_of_mem _ x1, x2⟩
 | .ref _, g, vi, ni, j, h1, h2 => by grind [Sh.nn]
 | .pin _ _ _, g, vi, ni, j, h1, h2 => by grind [Sh.nn]
 | .fnc f cs, g, vi, ni, j, h1, h2 => BZ cs g vi ni j h1 h2
 | .nul c, g, vi, ni, j, h1, h2 => by grind [Sh.nn]
 | .tup l, g, vi, ni, j, h1, h2 => BZ l g vi ni j h1 h2
 | .opt s, g, vi, ni, j, h1, h2 => Lv s (mkAnd g (Ak (ev vi))) (vi + 1) ni j h1 h2
 | .und, g, vi, ni, j, h1, h2 => by grind [Sh.nn]
 | .mp ks vs kag vag, g, vi, ni, j, h1, h2 => by simp only [Sh.nn] at h2; exact ⟨_, List.mem_singleton.2 rfl, by show ni = j; omega⟩
 | .seg ty ks cs, g, vi, ni, j, h1, h2 => by
   by_cases hj : j = ni
   ·exact ⟨_, List.mem_cons_self .., hj.symm⟩
   ·obtain ⟨x, x1, x2⟩ := BZ (ev := ev) (nv := nv) cs g (vi + 1) (ni + 1) j (by omega) (by grind [Sh.nn])
    exact ⟨x, List.mem_cons_of_mem _ x1, x2⟩
theorem BZ {ev : Nat -> E} {nv : Nat -> Nat} : ∀ (l : List Sh) (g : E) (vi ni j : Nat), ni <= j -> j < ni + Sh.nnL l -> ∃ x ∈ (Sh.genL ev nv l g vi ni).2, x.1 = j
 | [], g, vi, ni, j, h1, h2 => by grind [Sh.nnL]
 | s :: r, g, vi, ni, j, h1, h2 => by
   by_cases hj : j < ni + s.nn
   ·obtain ⟨x, x1, x2⟩ := Lv (ev := ev) (nv := nv) s g vi ni j h1 hj
    exact ⟨x, List.mem_append_left _ x1, x2⟩
   ·obtain ⟨x, x1, x2⟩ := BZ (ev := ev) (nv := nv) r g (vi + s.ks.length) (ni + s.nn) j (by omega) (by grind [Sh.nnL])
    exact ⟨x, List.mem_append_right _ x1, x2⟩
end
end
inductive Src where
 | nm (n : Nat)
 | vw (ty : Nat) (row : Row) (v : SV) (V : LV)
 | dm
 | mpn (n : Nat)
 | mpv (v : SV) (ns : List Nat)
 deriving Repr, Inhabited
def dd : List Nat -> List Nat
 | [] => []
 | n :: r => bif r.contains n then dd r else n :: dd r
theorem EB {n : Nat} : ∀ {l : List Nat}, n ∈ dd l ↔ n ∈ l
 | [] => Iff.rfl
 | k :: r => by
   simp only [dd]
   cases hc : r.contains k
   ·simp only [cond_false, List.mem_cons, EB (l := r)]
   ·simp only [cond_true, List.mem_cons, EB (l := r)]
    simp_all
def Src.ns : Src -> List Nat
 | .nm n => [n]
 | .vw _ _ _ V => dd V.ns
 | .dm => []
 | .mpn n => [n]
 | .mpv _ ns => dd ns
def isNm (l : List Src) (j n : Nat) : Bool :=
 match l[j]? with
 | some (.nm k) => k == n
 | _ => false
def optV : SV -> Option (E × Option SV)
 | .nilp .nP => some (mkB true, none)
 | .ite c (.nilp .nP) v => some (c, some v)
 | .ite c v (.nilp .nP) => some (Ak c, some v)
 | .ptr n o => some (mkB false, some (.ptr n o))
 | _ => none
theorem I9 {F : Fam} {ρ : Nat -> Int} {ad : Nat -> Hd} {v : SV} {c : E} {u : Option SV} (h : optV v = some (c, u)) :
 (u = none -> v = .nilp .nP /\ c = mkB true) /\ ∀ z, u = some z -> v.conc F ρ ad = bif c.tt F ρ then .pointer none else z.conc F ρ ad := by
 unfold optV at h
 split at h <;> simp only [oJ, pJ, reduceCtorEq] at h <;> obtain ⟨rfl, rfl⟩ := h
 ·simp_all
 ·refine ⟨fun hz => (by cases hz), fun z hz => ?_⟩
  simp only [oJ] at hz; subst hz
  rfl
 ·grind [SV.conc, CV.val, Ad, E.tt]
 simp_all
def B0 (m : Mem) (ty : Nat) (row : Row) (own : Bool) (v : SV) : Option (List E × List Src × E) :=
 match Ah m ty row v with
 | some V => if (bif own then V.own else V.sh) = true then some ([V.c], [.vw ty row v V], V.g) else none
 | none => none
def MG (m : Mem) (ks vs : List K) (kag vag : Bool) (n : Nat) : Option (List E × List Src × E) :=none
def HC (m : Mem) (ks vs : List K) (kag vag : Bool) : SV -> Option (E × List Nat × E) :=fun _=>none
def mpHd (F : Fam) (ρ : Nat -> Int) (ad : Nat -> Hd) : SV -> Hd
 | .mp n => ad n
 | .ite p a b => bif p.tt F ρ then mpHd F ρ ad a else mpHd F ρ ad b
 | _ => default
theorem GP {m : Mem} {ks vs : List K} {kag vag : Bool} : ∀ {v : SV} {c : E} {ns : List Nat} {g : E}, HC m ks vs kag vag v = some (c, ns, g) -> c.kind = .x /\ g.kind = .b /\ ∀ (F : Fam) (ρ : Nat -> Int) (ad : Nat -> Hd), g.tt F ρ = true ->
 ∃ n ∈ ns, ∃ g' c', m.at n = some (g', .mp ks vs kag vag c') /\ g'.tt F ρ = true /\ c.den F ρ = c'.den F ρ /\ mpHd F ρ ad v = ad n /\ v.conc F ρ ad = .map (some (ad n).blk) :=fun h=>by cases h
theorem MH {m m2 : Mem} {ks vs : List K} {kag vag : Bool} : ∀ {v : SV} {r : E × List Nat × E}, HC m ks vs kag vag v = some r -> (∀ n ∈ r.2.1, m2.at n = m.at n) -> HC m2 ks vs kag vag v = some r :=fun h=>by cases h
def Ok (m : Mem) (ks vs : List K) (kag vag : Bool) (v : SV) : Option (List E × List Src × E) := (HC m ks vs kag vag v).map fun r => ([r.1], [.mpv v r.2.1], r.2.2)
def blkS (m : Mem) (n : Nat) : Option (E × Nat × List SV × List K × E) :=
 match m.at n with
 | some (g, .seg ty cs ks c) => if g.kind = .b /\ c.kind = .x then some (g, ty, cs, ks, c) else none
 | _ => none
theorem FU {m : Mem} {n : Nat} {g : E} {ty : Nat} {cs : List SV} {ks : List K} {c : E} (h : blkS m n = some (g, ty, cs, ks, c)) : m.at n = some (g, .seg ty cs ks c) /\ g.kind = .b /\ c.kind = .x := by
 grind [blkS]
theorem Dl {m : Mem} {ks vs : List K} {kag vag : Bool} {n : Nat} {r : List E × List Src × E} (h : MG m ks vs kag vag n = some r) : ∃ g c, m.at n = some (g, .mp ks vs kag vag c) /\ r = ([c], [.mpn n], g) /\ c.kind = .x /\ g.kind = .b :=by cases h
def BH (d : List E × List Src × E) (v : SV) (f : SV -> Option (List E × List Src × E)) : Option (List E × List Src × E) :=
 match optV v with
 | some (_, none) => some d
 | some (c, some u) => if c.kind = .b /\ c.sound = true then (f u).map fun r => (c :: r.1, r.2.1, mkOr c r.2.2) else none
 | none => none
def getLsn (m : Mem) (ty : Nat) (row : Row) : SV -> Option (List E × List Src × E)
 | .ls n le => match m.at n with
   | some (g, .lst ty' row' true le' c) => if ty' = ty /\ row' = row /\ le.same le' = true /\ c.kind = .x /\ le'.kind = .i .i64 /\ g.kind = .b then some ([c], [.nm n], g) else none
   | _ => none
 | _ => none
theorem C2 {m : Mem} {ty : Nat} {row : Row} {v : SV} {r : List E × List Src × E} (h : getLsn m ty row v = some r) : ∃ n le g c, v = .ls n le /\ m.at n = some (g, .lst ty row true le c) /\ r = ([c], [.nm n], g) /\ c.kind = .x /\ le.kind = .i .i64 /\ g.kind = .b := by
 cases v <;> simp only [getLsn, reduceCtorEq] at h
 grind [E.same_eq]
mutual
def Sh.get (m : Mem) : Sh -> List Src -> SV -> Option (List E × List Src × E)
 | .sc k, _, .sc e => if e.kind = k /\ e.sound = true then some ([e], [], mkB true) else none
 | .lt k n, _, .sc (.lit k' n') => if k = k' /\ n = n' then some ([], [], mkB true) else none
 | .agg l, acc, .agg vs => Sh.getL m l acc vs
 | .lst ty row own, _, v => B0 m ty row own v
 | .lsn ty row, _, v => getLsn m ty row v
 | .obj ty cs, acc, .ptr n 0 => match blkC m n with
   | some (g, ty', vs) => if ty' = ty then (Sh.getL m cs (acc ++ [.nm n]) vs).map fun r => (r.1, .nm n :: r.2.1, mkAnd g r.2.2) else none
   | none => none
 | .ref j, acc, .ptr n 0 => if isNm acc j n = true then some ([], [], mkB true) else none
 | .pin j off str, acc, .pi n off' str' e => if isNm acc j n = true /\ off' = off /\ str' = str /\ e.kind = .i .i64 /\ e.sound = true then some ([e], [], mkB true) else none
 | .fnc f l, acc, .fn f' vs => if f = f' then Sh.getL m l acc vs else none
 | .nul c, _, .nilp c' => if c = c' then some ([], [], mkB true) else none
 | .tup l, acc, .tup vs => Sh.getL m l acc vs
 | .opt s, acc, v => BH (mkB true :: s.ks.map fun k => .lit k 0, List.replicate s.nn .dm, mkB true) v fun u => s.get m acc u
 | .und, _, .und => some ([], [], mkB true)
 | .mp ks vs kag vag, _, .mp n => MG m ks vs kag vag n
 | .mp ks vs kag vag, _, .ite p a b => Ok m ks vs kag vag (.ite p a b)
 | .seg ty ks cs, acc, .ptr n 0 => match blkS m n with
   | some (g, ty', vs, ks', c) => if ty' = ty /\ ks' = ks then (Sh.getL m cs (acc ++ [.nm n]) vs).map fun r => (c :: r.1, .nm n :: r.2.1, mkAnd g r.2.2) else none
   | none => none
 | _, _, _ => none
def Sh.getL (m : Mem) : List Sh -> List Src -> List SV -> Option (List E × List Src × E)
 | [], _, [] => some ([], [], mkB true)
 | s :: l, acc, v :: vs => match s.get m acc v with
   | some (es, ns, g) => (Sh.getL m l (acc ++ ns) vs).map fun r => (es ++ r.1, ns ++ r.2.1, mkAnd g r.2.2)
   | none => none
 | _, _, _ => none
end
open Classical in
noncomputable def srcHd (F : Fam) (ρ : Nat -> Int) (w : World) (Im : Nat -> Prop) (ad : Nat -> Hd) (m : Mem) : Src -> Hd
 | .nm n => ad n
 | .vw ty row v V => if h : ∃ hd, LVok F ρ w Im ad m ty row v V hd then h.choose else default
 | .dm => default
 | .mpn n => ad n
 | .mpv v _ => mpHd F ρ ad v
section
variable {F : Fam} {ρ ρ' : Nat -> Int} {w0 w : World} {M0 Im : Nat -> Prop} {ad hs : Nat -> Hd} {m : Mem} {ev : Nat -> E}
structure EntOK (F : Fam) (ρ : Nat -> Int) (ρ' : Nat -> Int) (w : World) (Im : Nat -> Prop) (ad hs : Nat -> Hd) (m : Mem) (S : List Src) (src : Nat -> List Nat) (x : Nat × E × Blk) : Prop where
 ok : BlkOK F0 ρ' Im hs x.1 w x.2.2
 mu : ∀ b, mutB F0 ρ' hs x.1 x.2.2 = some b -> ∃ n ∈ src x.1, ∃ g y, m.at n = some (g, y) /\ g.tt F ρ = true /\ mutB F ρ ad n y = some b
 nm : ∀ n, S[x.1]? = some (.nm n) -> (∃ ty cs, x.2.2 = .cells ty cs) \/ (∃ ty cs ks c, x.2.2 = .seg ty cs ks c) \/ ∃ ty row le c g' le' c', x.2.2 = .lst ty row true le c /\ m.at n = some (g', .lst ty row true le' c') /\ c.den F0 ρ' = c'.den F ρ /\ le.den F0 ρ' = le'.den F ρ /\ hs x.1 = ad n
 mp : ∀ n, S[x.1]? = some (.mpn n) -> ∃ ks vs kag vag c g c', x.2.2 = .mp ks vs kag vag c /\ m.at n = some (g, .mp ks vs kag vag c') /\ c.den F0 ρ' = c'.den F ρ
 mv : ∀ v ns, S[x.1]? = some (.mpv v ns) -> ∃ ks vs kag vag c n g c', x.2.2 = .mp ks vs kag vag c /\ m.at n = some (g, .mp ks vs kag vag c') /\ g.tt F ρ = true /\ c.den F0 ρ' = c'.den F ρ /\ hs x.1 = ad n
 vw : ∀ ty row v V, S[x.1]? = some (.vw ty row v V) -> ∃ own le c, x.2.2 = .lst ty row own le c /\ Ah m ty row v = some V /\ c.den F0 ρ' = V.c.den F ρ /\ v.conc F ρ ad = (hs x.1).sl (dc (V.c.den F ρ)).length /\ V.g.tt F ρ = true /\ (own = true -> V.own = true)
def EvOK (F : Fam) (ρ ρ' : Nat -> Int) (ev : Nat -> E) (vi : Nat) (es : List E) : Prop := ∀ i e, es[i]? = some e -> (ev (vi + i)).den F0 ρ' = e.den F ρ /\ (ev (vi + i)).kind = e.kind
theorem EvOK.left {vi : Nat} {a b : List E} (h : EvOK F ρ ρ' ev vi (a ++ b)) : EvOK F ρ ρ' ev vi a := fun i e hi => h i e (by grind)
theorem EvOK.right {vi : Nat} {a b : List E} (h : EvOK F ρ ρ' ev vi (a ++ b)) : EvOK F ρ ρ' ev (vi + a.length) b := fun i e hi => by
 have := h (a.length + i) e (by grind)
 grind
theorem EvOK.tail {vi : Nat} {a : E} {b : List E} (h : EvOK F ρ ρ' ev vi (a :: b)) : EvOK F ρ ρ' ev (vi + 1) b := EvOK.right (a := [a]) h
theorem EvOK.head {vi : Nat} {a : E} {b : List E} (h : EvOK F ρ ρ' ev vi (a :: b)) : (ev vi).den F0 ρ' = a.den F ρ /\ (ev vi).kind = a.kind := h 0 a rfl
theorem EvOK.val {vi : Nat} {a : E} {b : List E} (h : EvOK F ρ ρ' ev vi (a :: b)) : (ev vi).val F0 ρ' = a.val F ρ := by
 obtain ⟨h1, h2⟩ := h.head
 rw [<- Bd, <- Bd, h1, h2]
theorem EvOK.tt {vi : Nat} {a : E} {b : List E} (h : EvOK F ρ ρ' ev vi (a :: b)) : (ev vi).tt F0 ρ' = a.tt F ρ := by unfold E.tt; rw [h.head.1]
theorem ID {a b : List E} {ks ls : List K} (h : a.map E.kind = ks) (h' : b.map E.kind = ls) : (a ++ b).map E.kind = ks ++ ls := by simp_all
mutual
theorem Eb : ∀ (s : Sh) (acc : List Src) (v : SV) (r : List E × List Src × E), s.get m acc v = some r -> r.1.map E.kind = s.ks /\ r.2.1.length = s.nn /\ r.2.2.kind = .b /\ ∀ e ∈ r.1, e.kind ≠ .x -> e.sound = true
 | .sc k, acc, v, r, h => by
   cases v <;> simp only [Sh.get, reduceCtorEq] at h
   split at h
   ·rename_i hc
    simp only [oJ] at h; subst h
    exact ⟨by simp [Sh.ks, hc.1], rfl, rfl, fun e he => by simp_all⟩
   ·cases h
 | .lt k n, acc, v, r, h => by
   cases v with
   | sc e =>
     cases e <;> simp only [Sh.get, reduceCtorEq] at h
     split at h
     ·simp only [oJ] at h; subst h
      exact ⟨rfl, rfl, rfl, fun e he => by simp at he⟩
     ·cases h
   | _ => simp [Sh.get] at h
 | .agg l, acc, v, r, h => by
   cases v <;> simp only [Sh.get, reduceCtorEq] at h
   exact AW l acc _ r h
 | .lst ty row own, acc, v, r, h => by
   have h' : B0 m ty row own v = some r := by cases v <;> simpa only [Sh.get] using h
   unfold B0 at h'
   split at h'
   ·rename_i V hV
    split at h'
    ·simp only [oJ] at h'; subst h'
     obtain ⟨k1, k2, k3⟩ := AI hV
     exact ⟨by simp [Sh.ks, k2], rfl, k3, fun e he hx => by simp_all⟩
    ·cases h'
   ·cases h'
 | .lsn ty row, acc, v, r, h => by
   have h' : getLsn m ty row v = some r := by cases v <;> simpa only [Sh.get] using h
   obtain ⟨n, le, g, c, rfl, hn, rfl, h3, h4, h5⟩ := C2 h'
   exact ⟨by simp [Sh.ks, h3], rfl, h5, fun e he hx => by simp_all⟩
 | .obj ty cs, acc, v, r, h => by
   cases v with
   | ptr n o =>
     cases o with
     | zero =>
       simp only [Sh.get] at h
       split at h
       ·rename_i g ty' vs hb
        split at h
        ·obtain ⟨q, hq, rfl⟩ := Option.map_eq_some_iff.1 h
         obtain ⟨i1, i2, i3, i4⟩ := AW cs _ _ q hq
         exact ⟨i1, by simp [Sh.nn, i2], (Ac g q.2.2 (Be hb).2 i3 (fun _ _ _ => 0) fun _ => 0).2, i4⟩
        ·cases h
       ·cases h
     | succ o => simp [Sh.get] at h
   | _ => simp [Sh.get] at h
 | .pin j off str, acc, v, r, h => by
   cases v <;> simp only [Sh.get, reduceCtorEq] at h
   split at h
   ·rename_i hc
    simp only [oJ] at h; subst h
    exact ⟨by grind [Sh.ks], rfl, rfl, fun e he => by simp_all⟩
   ·cases h
 | .ref j, acc, v, r, h => by
   cases v with
   | ptr n o =>
     cases o with
     | zero =>
       simp only [Sh.get] at h
       split at h
       ·simp only [oJ] at h; subst h
        exact ⟨rfl, rfl, rfl, fun e he => by simp at he⟩
       ·cases h
     | succ o => simp [Sh.get] at h
   | _ => simp [Sh.get] at h
 | .fnc f l, acc, v, r, h => by
   cases v <;> simp only [Sh.get, reduceCtorEq] at h
   split at h
   ·exact AW l acc _ r h
   ·cases h
 | .nul c, acc, v, r, h => by
   cases v <;> simp only [Sh.get, reduceCtorEq] at h
   split at h
   ·simp only [oJ] at h; subst h
    exact ⟨rfl, rfl, rfl, fun e he => by simp at he⟩
   ·cases h
 | .tup l, acc, v, r, h => by
   cases v <;> simp only [Sh.get, reduceCtorEq] at h
   exact AW l acc _ r h
 | .opt s, acc, v, r, h => by
   have h' : BH (mkB true :: s.ks.map fun k => E.lit k 0, List.replicate s.nn Src.dm, mkB true) v (fun u => s.get m acc u) = some r := by cases v <;> simpa only [Sh.get] using h
   unfold BH at h'
   split at h'
   ·simp only [oJ] at h'; subst h'
    refine ⟨by simp [Sh.ks, E.kind, Function.comp_def], by simp [Sh.nn], rfl, fun e he hx => ?_⟩
    rcases List.mem_cons.1 he with rfl | he
    ·rfl
    ·obtain ⟨k, _, rfl⟩ := List.mem_map.1 he; rfl
   ·rename_i c u ho
    split at h'
    ·rename_i hc
     obtain ⟨q, hq, rfl⟩ := Option.map_eq_some_iff.1 h'
     obtain ⟨i1, i2, i3, i4⟩ := Eb s acc u q hq
     refine ⟨by simp [Sh.ks, hc.1, i1], i2, (BQ c q.2.2 hc.1 i3 (fun _ _ _ => 0) fun _ => 0).2, fun e he hx => ?_⟩
     grind
    ·cases h'
   ·cases h'
 | .und, acc, v, r, h => by
   cases v <;> simp only [Sh.get, reduceCtorEq] at h
   simp only [oJ] at h; subst h
   exact ⟨rfl, rfl, rfl, fun e he => by simp at he⟩
 | .mp ks vs kag vag, acc, v, r, h => by
   cases v <;> simp only [Sh.get, reduceCtorEq] at h
   case mp n =>
    obtain ⟨g, c, h1, rfl, h3, h4⟩ := Dl h
    exact ⟨by simp [Sh.ks, h3], rfl, h4, fun e he hx => by simp_all⟩
   case ite p a b =>
    obtain ⟨⟨c, ns, g⟩, h1, rfl⟩ := Option.map_eq_some_iff.1 h
    obtain ⟨h3, h4, _⟩ := GP h1
    exact ⟨by simp [Sh.ks, h3], rfl, h4, fun e he hx => by simp_all⟩
 | .seg ty ks cs, acc, v, r, h => by
   cases v with
   | ptr n o =>
     cases o with
     | zero =>
       simp only [Sh.get] at h
       split at h
       ·rename_i g ty' vs ks' c hb
        split at h
        ·obtain ⟨q, hq, rfl⟩ := Option.map_eq_some_iff.1 h
         obtain ⟨b1, b2, b3⟩ := FU hb
         obtain ⟨i1, i2, i3, i4⟩ := AW cs _ _ q hq
         refine ⟨by simp [Sh.ks, b3, i1], by simp [Sh.nn, i2], (Ac g q.2.2 b2 i3 (fun _ _ _ => 0) fun _ => 0).2, fun e he hx => ?_⟩
         grind
        ·cases h
       ·cases h
     | succ o => simp [Sh.get] at h
   | _ => simp [Sh.get] at h
theorem AW : ∀ (l : List Sh) (acc : List Src) (vs : List SV) (r : List E × List Src × E), Sh.getL m l acc vs = some r -> r.1.map E.kind = Sh.ksL l /\ r.2.1.length = Sh.nnL l /\ r.2.2.kind = .b /\ ∀ e ∈ r.1, e.kind ≠ .x -> e.sound = true
 | [], acc, [], r, h => by simp only [Sh.getL, oJ] at h; subst h; exact ⟨rfl, rfl, rfl, fun e he => by simp at he⟩
 | [], acc, _ :: _, r, h => by simp [Sh.getL] at h
 | _ :: _, acc, [], r, h => by simp [Sh.getL] at h
 | s :: l, acc, v :: vs, r, h => by
   simp only [Sh.getL] at h
   split at h
   ·rename_i es ns g hs
    obtain ⟨q, hq, rfl⟩ := Option.map_eq_some_iff.1 h
    obtain ⟨i1, i2, i3, i4⟩ := Eb s acc v _ hs
    obtain ⟨j1, j2, j3, j4⟩ := AW l _ vs q hq
    refine ⟨ID i1 j1, by grind [Sh.nnL], (Ac g q.2.2 i3 j3 (fun _ _ _ => 0) fun _ => 0).2, fun e he hx => ?_⟩
    grind
   ·cases h
end
end
def srcOf (S : List Src) (j : Nat) : List Nat := match S[j]? with | some s => s.ns | none => []
section
variable {F : Fam} {ρ ρ' : Nat -> Int} {w0 w : World} {M0 Im : Nat -> Prop} {ad hs : Nat -> Hd} {m : Mem} {ev : Nat -> E} {S : List Src}
mutual
theorem Ec {nv : Nat -> Nat} : ∀ (s : Sh) (g : E) (vi ni : Nat), g.kind = .b -> (∀ i k, s.ks[i]? = some k -> (ev (vi + i)).kind = k) -> ∀ x ∈ (s.gen ev nv g vi ni).2, x.2.1.kind = .b /\ (x.2.1.tt F ρ = true -> g.tt F ρ = true)
 | .sc k, g, vi, ni, hg, hk, x, hx => by cases hx
 | .lt k n, g, vi, ni, hg, hk, x, hx => by cases hx
 | .agg l, g, vi, ni, hg, hk, x, hx => B8 l g vi ni hg hk x hx
 | .lst ty row own, g, vi, ni, hg, hk, x, hx => by grind [Sh.gen]
 | .lsn ty row, g, vi, ni, hg, hk, x, hx => by grind [Sh.gen]
 | .obj ty cs, g, vi, ni, hg, hk, x, hx => by
   simp only [Sh.gen, List.mem_cons] at hx
   rcases hx with rfl | hx
   ·simp_all
   ·exact B8 cs g vi (ni + 1) hg hk x hx
 | .ref j, g, vi, ni, hg, hk, x, hx => by cases hx
 | .pin j off str, g, vi, ni, hg, hk, x, hx => by cases hx
 | .fnc f cs, g, vi, ni, hg, hk, x, hx => B8 cs g vi ni hg hk x hx
 | .nul c, g, vi, ni, hg, hk, x, hx => by cases hx
 | .tup l, g, vi, ni, hg, hk, x, hx => B8 l g vi ni hg hk x hx
 | .opt s, g, vi, ni, hg, hk, x, hx => by
   have a := Ac g (Ak (ev vi)) hg (Ad (ev vi) F ρ).2 F ρ
   obtain ⟨i1, i2⟩ := Ec s (mkAnd g (Ak (ev vi))) (vi + 1) ni a.2 (fun i k hi => by
    have := hk (i + 1) k (by simpa [Sh.ks] using hi)
    grind) x hx
   simp_all
 | .und, g, vi, ni, hg, hk, x, hx => by cases hx
 | .mp ks vs kag vag, g, vi, ni, hg, hk, x, hx => by grind [Sh.gen]
 | .seg ty ks cs, g, vi, ni, hg, hk, x, hx => by
   simp only [Sh.gen, List.mem_cons] at hx
   rcases hx with rfl | hx
   ·simp_all
   ·exact B8 cs g (vi + 1) (ni + 1) hg (fun i k hi => by
     have := hk (i + 1) k (by simpa [Sh.ks] using hi)
     grind) x hx
theorem B8 {nv : Nat -> Nat} : ∀ (l : List Sh) (g : E) (vi ni : Nat), g.kind = .b -> (∀ i k, (Sh.ksL l)[i]? = some k -> (ev (vi + i)).kind = k) -> ∀ x ∈ (Sh.genL ev nv l g vi ni).2, x.2.1.kind = .b /\ (x.2.1.tt F ρ = true -> g.tt F ρ = true)
 | [], g, vi, ni, hg, hk, x, hx => by cases hx
 | s :: r, g, vi, ni, hg, hk, x, hx => by
   simp only [Sh.genL, List.mem_append] at hx
   rcases hx with hx | hx
   ·exact Ec s g vi ni hg (fun i k hi => hk i k (by grind [Sh.ksL])) x hx
   ·exact B8 r g (vi + s.ks.length) (ni + s.nn) hg (fun i k hi => by
     have := hk (s.ks.length + i) k (by grind [Sh.ksL])
     grind) x hx
end
theorem EvOK.kinds {vi : Nat} {es : List E} {ks : List K} (h : EvOK F ρ ρ' ev vi es) (hk : es.map E.kind = ks) : ∀ i k, ks[i]? = some k -> (ev (vi + i)).kind = k := fun i k hi => by
 subst hk
 rw [List.getElem?_map] at hi
 obtain ⟨e, h1, h2⟩ := Option.map_eq_some_iff.1 hi
 rw [(h i e h1).2, h2]
def SrcAt (S : List Src) (ni : Nat) (ns : List Src) : Prop := ∀ j s, ns[j]? = some s -> S[ni + j]? = some s
theorem SrcAt.left {ni : Nat} {a b : List Src} (h : SrcAt S ni (a ++ b)) : SrcAt S ni a := fun j s hj => h j s (by grind)
theorem SrcAt.right {ni : Nat} {a b : List Src} (h : SrcAt S ni (a ++ b)) : SrcAt S (ni + a.length) b := fun j s hj => by
 have := h (a.length + j) s (by grind)
 grind
theorem SrcAt.both {a b : List Src} (h : SrcAt S 0 a) (h' : SrcAt S a.length b) : SrcAt S 0 (a ++ b) := fun j s hj => by
 by_cases hl : j < a.length
 ·rw [List.getElem?_append_left hl] at hj; exact h j s hj
 ·rw [List.getElem?_append_right (by omega)] at hj
  have := h' _ s hj
  simp_all
mutual
theorem HD (hB : BI F) (hI : RelI F ρ w0 M0 Im ad m w) (hS : ∀ j s, S[j]? = some s -> hs j = srcHd F ρ w Im ad m s) : ∀ (s : Sh) (acc : List Src) (v : SV) (r : List E × List Src × E) (gd : E) (vi : Nat), s.get m acc v = some r -> gd.kind = .b ->
 SrcAt S 0 acc -> SrcAt S acc.length r.2.1 -> EvOK F ρ ρ' ev vi r.1 -> r.2.2.tt F ρ = true ->
 v.conc F ρ ad = (s.gen ev id gd vi acc.length).1.conc F0 ρ' hs /\ ∀ x ∈ (s.gen ev id gd vi acc.length).2, x.2.1.tt F0 ρ' = true -> EntOK F ρ ρ' w Im ad hs m S (srcOf S) x
 | .sc k, acc, v, r, gd, vi, h, hgd, hA, hs1, hev, hg => by
   cases v <;> simp only [Sh.get, reduceCtorEq] at h
   grind [SV.conc, Sh.gen, EvOK.val]
 | .lt k n, acc, v, r, gd, vi, h, hgd, hA, hs1, hev, hg => by
   cases v with
   | sc e =>
     cases e <;> simp only [Sh.get, reduceCtorEq] at h
     grind [SV.conc, Sh.gen, E.val, E.kind, E.tt, E.den]
   | _ => simp [Sh.get] at h
 | .agg l, acc, v, r, gd, vi, h, hgd, hA, hs1, hev, hg => by
   cases v <;> simp only [Sh.get, reduceCtorEq] at h
   obtain ⟨i1, i2⟩ := Bf hB hI hS l acc _ r gd vi h hgd hA hs1 hev hg
   grind [SV.conc, Sh.gen]
 | .lst ty row own, acc, v, r, gd, vi, h, hgd, hA, hs1, hev, hg => by
   have h' : B0 m ty row own v = some r := by cases v <;> simpa only [Sh.get] using h
   unfold B0 at h'
   split at h'
   ·rename_i V hV
    split at h'
    ·rename_i ho
     simp only [oJ] at h'; subst h'
     simp only at hg hev hs1
     have hex := AV hB hI hV hg
     have hhd : hs acc.length = hex.choose := by
      have := hS _ _ (hs1 0 _ rfl)
      simp only [Nat.add_zero] at this
      rw [this]
      simp only [srcHd, dif_pos hex]
     obtain ⟨o1, o2, o3, o4, o5, o6, o7⟩ := hex.choose_spec
     rw [<- hhd] at o1 o4 o5 o6 o7
     have hden := hev.head.1
     have hlen : (LEN (ev vi)).den F0 ρ' = ((dc (V.c.den F ρ)).length : Int) := by rw [BO.len, hden, A9 o4.1]
     refine ⟨by grind [Sh.gen, SV.conc], fun x hx _ => ?_⟩
     simp only [Sh.gen, List.mem_singleton] at hx
     subst hx
     have hS0 : S[acc.length]? = some (Src.vw ty row v V) := by
      have := hs1 0 _ rfl
      simpa only [Nat.add_zero] using this
     refine ⟨⟨by rw [hden]; exact o2, by rw [hlen, hden], ?_⟩, fun b hb => ?_, fun n hn => (by simp_all), fun n hn => (by simp_all), fun v' ns' hn => (by simp_all), fun ty' row' v' V' hv' => by
      rw [hS0] at hv'
      simp only [oJ, Src.vw.injEq] at hv'
      obtain ⟨rfl, rfl, rfl, rfl⟩ := hv'
      grind⟩
     ·grind
     grind [mutB, srcOf, dd, Src.ns, EB]
    ·cases h'
   ·cases h'
 | .lsn ty row, acc, v, r, gd, vi, h, hgd, hA, hs1, hev, hg => by
   have h' : getLsn m ty row v = some r := by cases v <;> simpa only [Sh.get] using h
   obtain ⟨n, le, g, c, rfl, hn, rfl, h3, h4, h5⟩ := C2 h'
   simp only at hg hev hs1
   have hS0 : S[acc.length]? = some (Src.nm n) := by
    have := hs1 0 _ rfl
    simpa only [Nat.add_zero] using this
   have hnn : hs acc.length = ad n := by rw [hS _ _ hS0]; rfl
   have hent := (hI.ent n g _ hn hg).1
   have hden := hev.head.1
   have hlc : le.den F ρ = ((dc (c.den F ρ)).length : Int) := hent.2.1
   have hwl : IntKind.i64.wrap (((dc (c.den F ρ)).length : Nat) : Int) = ((dc (c.den F ρ)).length : Int) := by
    have := hent.2.2
    simp only [cond_true] at this
    exact A9 this.1
   have hlen : (LEN (ev vi)).den F0 ρ' = le.den F ρ := by rw [BO.len, hden, hwl, hlc]
   refine ⟨by grind [Sh.gen, SV.conc], fun x hx _ => ?_⟩
   simp only [Sh.gen, List.mem_singleton] at hx
   subst hx
   refine ⟨?_, fun b hb => ?_, fun n' hn' => ?_, fun n' hn' => (by simp_all), fun v' ns' hn' => (by simp_all), fun ty' row' v' V' hv' => (by simp_all)⟩
   ·grind [BlkOK]
   ·simp only [mutB, hlen, hnn] at hb
    have hsrc : srcOf S acc.length = [n] := by simp only [srcOf, hS0, Src.ns]
    exact ⟨n, by rw [hsrc]; simp, g, _, hn, hg, by grind [mutB]⟩
   grind
 | .obj ty cs, acc, v, r, gd, vi, h, hgd, hA, hs1, hev, hg => by
   cases v with
   | ptr n o =>
     cases o with
     | zero =>
       simp only [Sh.get] at h
       split at h
       ·rename_i g ty' vs hb
        split at h
        ·rename_i hty
         obtain ⟨q, hq, rfl⟩ := Option.map_eq_some_iff.1 h
         obtain ⟨b1, b2⟩ := Be hb
         subst hty
         obtain ⟨_, _, k3, _⟩ := AW cs _ _ q hq
         rw [(Ac g q.2.2 b2 k3 F ρ).1, Bool.and_eq_true] at hg
         have hlen : (acc ++ [Src.nm n]).length = acc.length + 1 := by simp
         have hs1' : SrcAt S acc.length ([Src.nm n] ++ q.2.1) := hs1
         have hA' : SrcAt S 0 (acc ++ [Src.nm n]) := hA.both hs1'.left
         have hs2 : SrcAt S (acc ++ [Src.nm n]).length q.2.1 := by rw [hlen]; exact hs1'.right
         obtain ⟨i1, i2⟩ := Bf hB hI hS cs (acc ++ [.nm n]) vs q gd vi hq hgd hA' hs2 hev hg.2
         rw [hlen] at i1 i2
         have hn : hs acc.length = ad n := by
          have := hS _ _ (hs1 0 _ rfl)
          simp only [Nat.add_zero] at this
          rw [this]; rfl
         have hent := (hI.ent n g _ b1 hg.1).1
         refine ⟨by grind [Sh.gen, SV.conc], fun x hx hxg => ?_⟩
         simp only [Sh.gen, List.mem_cons] at hx
         rcases hx with rfl | hx
         ·have hS0 : S[acc.length]? = some (Src.nm n) := by
           have := hs1 0 _ rfl
           simpa only [Nat.add_zero] using this
          refine ⟨?_, fun b hb => ?_, fun _ _ => Or.inl ⟨_, _, rfl⟩, fun n' hn' => (by simp_all), fun v' ns' hn' => (by simp_all), fun ty' row' v' V' hv' => (by simp_all)⟩
          ·grind [BlkOK]
          ·simp only [mutB, hn, oJ] at hb
           have hsrc : srcOf S acc.length = [n] := by
            have := hs1 0 _ rfl
            simp only [Nat.add_zero] at this
            simp only [srcOf, this, Src.ns]
           refine ⟨n, by rw [hsrc]; simp, g, _, b1, hg.1, by simp only [mutB, hb]⟩
         ·exact i2 x hx hxg
        ·cases h
       ·cases h
     | succ o => simp [Sh.get] at h
   | _ => simp [Sh.get] at h
 | .pin j off str, acc, v, r, gd, vi, h, hgd, hA, hs1, hev, hg => by
   cases v <;> simp only [Sh.get, reduceCtorEq] at h
   split at h
   ·rename_i hc
    obtain ⟨hn, rfl, rfl, hk, hs⟩ := hc
    simp only [oJ] at h; subst h
    refine ⟨?_, fun x hx => by cases hx⟩
    unfold isNm at hn
    split at hn
    ·rename_i k hk
     have hkn := (by simpa using hn : k = _)
     subst hkn
     have := hS _ _ (hA j _ hk)
     rw [Nat.zero_add] at this
     simp only [Sh.gen, SV.conc, id, this, hev.head.1]
     rfl
    ·cases hn
   ·cases h
 | .ref j, acc, v, r, gd, vi, h, hgd, hA, hs1, hev, hg => by
   cases v with
   | ptr n o =>
     cases o with
     | zero =>
       simp only [Sh.get] at h
       split at h
       ·rename_i hn
        simp only [oJ] at h; subst h
        refine ⟨?_, fun x hx => by cases hx⟩
        unfold isNm at hn
        split at hn
        ·rename_i k hk
         have hkn : k = n := by simpa using hn
         subst hkn
         have := hS _ _ (hA j _ hk)
         rw [Nat.zero_add] at this
         simp only [Sh.gen, SV.conc, id, this]
         rfl
        ·cases hn
       ·cases h
     | succ o => simp [Sh.get] at h
   | _ => simp [Sh.get] at h
 | .fnc f l, acc, v, r, gd, vi, h, hgd, hA, hs1, hev, hg => by
   cases v <;> simp only [Sh.get, reduceCtorEq] at h
   split at h
   ·rename_i hf
    subst hf
    obtain ⟨i1, i2⟩ := Bf hB hI hS l acc _ r gd vi h hgd hA hs1 hev hg
    grind [SV.conc, Sh.gen]
   ·cases h
 | .nul c, acc, v, r, gd, vi, h, hgd, hA, hs1, hev, hg => by
   cases v <;> simp only [Sh.get, reduceCtorEq] at h
   split at h
   ·rename_i hc
    simp only [oJ] at h; subst h
    subst hc
    exact ⟨rfl, fun x hx => by cases hx⟩
   ·cases h
 | .tup l, acc, v, r, gd, vi, h, hgd, hA, hs1, hev, hg => by
   cases v <;> simp only [Sh.get, reduceCtorEq] at h
   obtain ⟨i1, i2⟩ := Bf hB hI hS l acc _ r gd vi h hgd hA hs1 hev hg
   grind [SV.conc, Sh.gen]
 | .opt s, acc, v, r, gd, vi, h, hgd, hA, hs1, hev, hg => by
   have h' : BH (mkB true :: s.ks.map fun k => E.lit k 0, List.replicate s.nn Src.dm, mkB true) v (fun u => s.get m acc u) = some r := by cases v <;> simpa only [Sh.get] using h
   unfold BH at h'
   split at h'
   ·rename_i c ho
    simp only [oJ] at h'; subst h'
    simp only at hev
    obtain ⟨e1, e2⟩ := (I9 (F := F) (ρ := ρ) (ad := ad) ho).1 rfl
    have hall : (ev vi).tt F0 ρ' = true := by rw [hev.tt]; simp
    have hkk : (ev vi).kind = .b := by rw [hev.head.2]; rfl
    refine ⟨?_, fun x hx hxg => ?_⟩
    ·grind [Sh.gen, SV.conc]
    ·have a := Ac gd (Ak (ev vi)) hgd (Ad (ev vi) F0 ρ').2 F0 ρ'
     have hk : ∀ i k, s.ks[i]? = some k -> (ev (vi + 1 + i)).kind = k := fun i k hi => by
      have := (hev (i + 1) (.lit k 0) (by simp [hi])).2
      rwa [show vi + (i + 1) = vi + 1 + i by omega] at this
     have := (Ec (F := F0) (ρ := ρ') s (mkAnd gd (Ak (ev vi))) (vi + 1) acc.length a.2 hk x hx).2 hxg
     grind [Ad, F0]
   ·rename_i c u ho
    split at h'
    ·rename_i hc
     obtain ⟨q, hq, rfl⟩ := Option.map_eq_some_iff.1 h'
     simp only at hev hs1 hg
     obtain ⟨k1, k2, k3, _⟩ := Eb s acc u q hq
     have hv := (I9 (F := F) (ρ := ρ) (ad := ad) ho).2 u rfl
     have a := Ac gd (Ak (ev vi)) hgd (Ad (ev vi) F0 ρ').2 F0 ρ'
     have htt : (ev vi).tt F0 ρ' = c.tt F ρ := hev.tt
     rw [(BQ c q.2.2 hc.1 k3 F ρ).1, Bool.or_eq_true] at hg
     by_cases hct : c.tt F ρ = true
     ·refine ⟨?_, fun x hx hxg => ?_⟩
      ·grind [Sh.gen, SV.conc, CV.val]
      ·have := (Ec (F := F0) (ρ := ρ') s (mkAnd gd (Ak (ev vi))) (vi + 1) acc.length a.2 (hev.tail.kinds k1) x hx).2 hxg
       grind [Ad, F0]
     ·have hcf : c.tt F ρ = false := by simpa using hct
      obtain ⟨i1, i2⟩ := HD hB hI hS s acc u q (mkAnd gd (Ak (ev vi))) (vi + 1) hq a.2 hA hs1 hev.tail (hg.resolve_left hct)
      grind [Sh.gen, SV.conc]
    ·cases h'
   ·cases h'
 | .und, acc, v, r, gd, vi, h, hgd, hA, hs1, hev, hg => by
   cases v <;> simp only [Sh.get, reduceCtorEq] at h
   simp only [oJ] at h; subst h
   exact ⟨rfl, fun x hx => by cases hx⟩
 | .mp ks vs kag vag, acc, v, r, gd, vi, h, hgd, hA, hs1, hev, hg => by
   cases v <;> simp only [Sh.get, reduceCtorEq] at h
   case mp n =>
    obtain ⟨g, c, b1, rfl, h3, h4⟩ := Dl h
    have hS0 : S[acc.length]? = some (Src.mpn n) := by
     have := hs1 0 _ rfl
     simpa only [Nat.add_zero] using this
    have hn : hs acc.length = ad n := by rw [hS _ _ hS0]; rfl
    have hent := (hI.ent n g _ b1 hg).1
    have hden := hev.head.1
    refine ⟨by grind [Sh.gen, SV.conc], fun x hx hxg => ?_⟩
    simp only [Sh.gen, List.mem_singleton] at hx
    subst hx
    refine ⟨?_, fun b hb => ?_, fun n' hn' => (by simp_all), fun n' hn' => ?_, fun v' ns' hn' => (by simp_all), fun ty' row' v' V' hv' => (by simp_all)⟩
    ·grind [BlkOK]
    ·simp only [mutB, hn, oJ] at hb
     have hsrc : srcOf S acc.length = [n] := by simp only [srcOf, hS0, Src.ns]
     exact ⟨n, by rw [hsrc]; simp, g, _, b1, hg, by simp only [mutB, hb]⟩
    grind
   case ite p a b =>
    obtain ⟨⟨c, ns, g⟩, h1, rfl⟩ := Option.map_eq_some_iff.1 h
    obtain ⟨h3, h4, h5⟩ := GP h1
    obtain ⟨n, hn, g', c', q1, q2, q3, q4, q5⟩ := h5 F ρ ad hg
    have hS0 : S[acc.length]? = some (Src.mpv (.ite p a b) ns) := by
     have := hs1 0 _ rfl
     simpa only [Nat.add_zero] using this
    have hn' : hs acc.length = ad n := by rw [hS _ _ hS0]; exact q4
    have hent := (hI.ent n g' _ q1 q2).1
    have hden := hev.head.1
    refine ⟨by grind [Sh.gen, SV.conc], fun x hx hxg => ?_⟩
    simp only [Sh.gen, List.mem_singleton] at hx
    subst hx
    refine ⟨?_, fun b hb => ?_, fun n' hn'' => (by simp_all), fun n' hn'' => (by simp_all), fun v' ns' hn'' => ?_, fun ty' row' v' V' hv' => (by simp_all)⟩
    ·grind [BlkOK]
    ·simp only [mutB, hn', oJ] at hb
     have hsrc : srcOf S acc.length = dd ns := by simp only [srcOf, hS0, Src.ns]
     exact ⟨n, by grind [EB], g', _, q1, q2, by simp only [mutB, hb]⟩
    grind
 | .seg ty ks cs, acc, v, r, gd, vi, h, hgd, hA, hs1, hev, hg => by
   cases v with
   | ptr n o =>
     cases o with
     | zero =>
       simp only [Sh.get] at h
       split at h
       ·rename_i g ty' vs ks' c hb
        split at h
        ·rename_i hty
         obtain ⟨q, hq, rfl⟩ := Option.map_eq_some_iff.1 h
         obtain ⟨b1, b2, b3⟩ := FU hb
         obtain ⟨rfl, rfl⟩ := hty
         obtain ⟨_, _, k3, _⟩ := AW cs _ _ q hq
         simp only at hev
         rw [(Ac g q.2.2 b2 k3 F ρ).1, Bool.and_eq_true] at hg
         have hlen : (acc ++ [Src.nm n]).length = acc.length + 1 := by simp
         have hs1' : SrcAt S acc.length ([Src.nm n] ++ q.2.1) := hs1
         have hA' : SrcAt S 0 (acc ++ [Src.nm n]) := hA.both hs1'.left
         have hs2 : SrcAt S (acc ++ [Src.nm n]).length q.2.1 := by rw [hlen]; exact hs1'.right
         obtain ⟨i1, i2⟩ := Bf hB hI hS cs (acc ++ [.nm n]) vs q gd (vi + 1) hq hgd hA' hs2 hev.tail hg.2
         rw [hlen] at i1 i2
         have hS0 : S[acc.length]? = some (Src.nm n) := by
          have := hs1 0 _ rfl
          simpa only [Nat.add_zero] using this
         have hn : hs acc.length = ad n := by rw [hS _ _ hS0]; rfl
         have hent := (hI.ent n g _ b1 hg.1).1
         have hden := hev.head.1
         refine ⟨by grind [Sh.gen, SV.conc], fun x hx hxg => ?_⟩
         simp only [Sh.gen, List.mem_cons] at hx
         rcases hx with rfl | hx
         ·refine ⟨?_, fun b hb => ?_, fun _ _ => Or.inr (Or.inl ⟨_, _, _, _, rfl⟩), fun n' hn' => (by simp_all), fun v' ns' hn' => (by simp_all), fun ty'' row' v' V' hv' => (by simp_all)⟩
          ·grind [BlkOK]
          ·simp only [mutB, hn, oJ] at hb
           have hsrc : srcOf S acc.length = [n] := by simp only [srcOf, hS0, Src.ns]
           exact ⟨n, by rw [hsrc]; simp, g, _, b1, hg.1, by simp only [mutB, hb]⟩
         ·exact i2 x hx hxg
        ·cases h
       ·cases h
     | succ o => simp [Sh.get] at h
   | _ => simp [Sh.get] at h
theorem Bf (hB : BI F) (hI : RelI F ρ w0 M0 Im ad m w) (hS : ∀ j s, S[j]? = some s -> hs j = srcHd F ρ w Im ad m s) : ∀ (l : List Sh) (acc : List Src) (vs : List SV) (r : List E × List Src × E) (gd : E) (vi : Nat), Sh.getL m l acc vs = some r -> gd.kind = .b ->
 SrcAt S 0 acc -> SrcAt S acc.length r.2.1 -> EvOK F ρ ρ' ev vi r.1 -> r.2.2.tt F ρ = true ->
 SV.concL F ρ ad vs = SV.concL F0 ρ' hs (Sh.genL ev id l gd vi acc.length).1 /\ ∀ x ∈ (Sh.genL ev id l gd vi acc.length).2, x.2.1.tt F0 ρ' = true -> EntOK F ρ ρ' w Im ad hs m S (srcOf S) x
 | [], acc, [], r, gd, vi, h, hgd, hA, hs1, hev, hg => ⟨rfl, fun x hx => by cases hx⟩
 | [], acc, _ :: _, r, gd, vi, h, hgd, hA, hs1, hev, hg => by simp [Sh.getL] at h
 | _ :: _, acc, [], r, gd, vi, h, hgd, hA, hs1, hev, hg => by simp [Sh.getL] at h
 | s :: l, acc, v :: vs, r, gd, vi, h, hgd, hA, hs1, hev, hg => by
   simp only [Sh.getL] at h
   split at h
   ·rename_i es ns g hs0
    obtain ⟨q, hq, rfl⟩ := Option.map_eq_some_iff.1 h
    obtain ⟨k1, k2, k3, _⟩ := Eb s acc v _ hs0
    obtain ⟨l1, l2, l3, _⟩ := AW l _ vs q hq
    simp only at k1 k2 k3 hev hs1 hg
    rw [(Ac g q.2.2 k3 l3 F ρ).1, Bool.and_eq_true] at hg
    have hel : es.length = s.ks.length := by rw [<- k1]; simp
    obtain ⟨i1, i2⟩ := HD hB hI hS s acc v (es, ns, g) gd vi hs0 hgd hA hs1.left hev.left hg.1
    have hlen : (acc ++ ns).length = acc.length + s.nn := by rw [List.length_append, k2]
    have hA' : SrcAt S 0 (acc ++ ns) := hA.both hs1.left
    have hs2 : SrcAt S (acc ++ ns).length q.2.1 := by rw [List.length_append]; exact hs1.right
    have hev2 := hev.right
    rw [hel] at hev2
    obtain ⟨j1, j2⟩ := Bf hB hI hS l (acc ++ ns) vs q gd (vi + s.ks.length) hq hgd hA' hs2 hev2 hg.2
    grind [SV.concL, Sh.genL]
   ·cases h
end
end
inductive Tl where
 | seg (ks : List K)
 | lst (row : Row)
 deriving DecidableEq, Inhabited
instance : Coe (List K) Tl := ⟨Tl.seg⟩
structure Ob where
 j : Nat
 ty : Nat
 tl : Option Tl := none
 cs : List Sh
 deriving Inhabited
def mkO (ty : Nat) (tl : Option Tl) (vs : List SV) : Blk :=
 match tl, vs with
 | none, vs => .cells ty vs
 | some (.seg ks), .sc c :: vs => if c.kind = .x then .seg ty vs ks c else .dead
 | some (.lst row), .sc c :: _ => if c.kind = .x then .lst ty row true (LEN c) c else .dead
 | some _, _ => .dead
def unO : Blk -> Option (Nat × Option Tl × List SV)
 | .cells ty cs => some (ty, none, cs)
 | .seg ty cs ks c => if c.kind = .x then some (ty, some (.seg ks), .sc c :: cs) else none
 | .lst ty row true _ c => if c.kind = .x then some (ty, some (.lst row), [.sc c]) else none
 | _ => none
def Blk.nrm : Blk -> Blk
 | .lst ty row own _ c => .lst ty row own (LEN c) c
 | b => b
theorem Blk.nrm_cs (b : Blk) : b.nrm.cs = b.cs := by cases b <;> rfl
def Blk.lenOK (F : Fam) (ρ : Nat -> Int) : Blk -> Prop
 | .lst _ _ _ le c => le.den F ρ = (LEN c).den F ρ
 | _ => True
theorem Blk.nrm_same {F : Fam} {ρ : Nat -> Int} {b : Blk} (h : b.lenOK F ρ) (ad : Nat -> Hd) (n : Nat) : mutB F ρ ad n b.nrm = mutB F ρ ad n b /\ ∀ (Im : Nat -> Prop) (w : World), BlkOK F ρ Im ad n w b.nrm ↔ BlkOK F ρ Im ad n w b := by
 cases b with
 | lst ty row own le c =>
   simp only [Blk.lenOK] at h
   refine ⟨?_, fun Im w => ?_⟩
   ·cases own <;> simp only [Blk.nrm, mutB, h]
   ·simp only [Blk.nrm, BlkOK, h]
 | _ => exact ⟨rfl, fun _ _ => Iff.rfl⟩
theorem BlkOK.lenOK {F : Fam} {ρ : Nat -> Int} (hB : BI F) {Im : Nat -> Prop} {ad : Nat -> Hd} {n : Nat} {w : World} {b : Blk} (h : BlkOK F ρ Im ad n w b) : b.lenOK F ρ := by
 cases b with
 | lst ty row own le c =>
   simp only [Blk.lenOK]
   have hw : (dc (c.den F ρ)).length <= maxLen := by
    have := h.2.2
    cases own
    ·exact this.1
    ·exact this.1
   rw [hB.len, A9 hw, h.2.1]
 | _ => trivial
theorem Sv {b : Blk} {ty : Nat} {tl : Option Tl} {vs : List SV} (h : unO b = some (ty, tl, vs)) : mkO ty tl vs = b.nrm := by
 unfold unO at h
 grind [mkO, Blk.nrm]
def isX : List SV -> Bool
 | .sc c :: _ => decide (c.kind = .x)
 | _ => false
theorem J6 {F1 F2 : Fam} {ρ1 ρ2 : Nat -> Int} {ad1 ad2 : Nat -> Hd} {n j ty : Nat} {tl : Option Tl} {vs us : List SV} (hB1 : BI F1) (hB2 : BI F2) (h : SV.concL F1 ρ1 ad1 vs = SV.concL F2 ρ2 ad2 us) (hx : isX vs = isX us) (hn : ad1 n = ad2 j) :
 mutB F1 ρ1 ad1 n (mkO ty tl vs) = mutB F2 ρ2 ad2 j (mkO ty tl us) /\ ∀ (Im : Nat -> Prop) (w : World), BlkOK F1 ρ1 Im ad1 n w (mkO ty tl vs) ↔ BlkOK F2 ρ2 Im ad2 j w (mkO ty tl us) := by
 cases tl with
 | none => grind [mkO, mutB, BlkOK]
 | some ks =>
   by_cases h1 : isX vs = true
   ·have h2 := h1
    rw [hx] at h2
    unfold isX at h1 h2
    split at h1
    ·rename_i c r
     split at h2
     ·rename_i c' r'
      have k1 : c.kind = .x := by simpa using h1
      have k2 : c'.kind = .x := by simpa using h2
      simp only [SV.concL, List.cons.injEq, SV.conc, E.val_x k1, E.val_x k2, Value.int.injEq, true_and] at h
      cases ks with
      | seg ks => grind [mkO, mutB, BlkOK]
      | lst row =>
        grind [E.den, LEN, BI.len, mkO, mutB, BlkOK]
     ·cases h2
    ·cases h1
   ·have h1' : isX vs = false := by simpa using h1
    have h2' : isX us = false := by rw [<- hx]; exact h1'
    have dead : ∀ l : List SV, isX l = false -> mkO ty (some ks) l = .dead := fun l hl => by
     unfold isX at hl
     split at hl
     ·rename_i c r
      have : ¬ c.kind = .x := by simpa using hl
      cases ks <;> simp only [mkO, if_neg this]
     ·rename_i hne
      cases l with
      | nil => cases ks <;> rfl
      | cons v r =>
        cases v with
        | sc c => simp_all
        | _ => cases ks <;> rfl
    rw [dead _ h1', dead _ h2']
    exact ⟨rfl, fun _ _ => Iff.rfl⟩
theorem S6 {p : Nat -> Prop} {ty : Nat} {tl : Option Tl} {vs : List SV} (h : SV.okL p vs) : SV.okL p (mkO ty tl vs).cs := by
 unfold mkO
 split
 ·exact h
 ·split
  ·exact h.2
  ·trivial
 ·split
  ·trivial
  ·trivial
 ·trivial
structure Ent where
 key : Nat
 f : Nat
 ps : List Sh
 os : List Ob
 kp : List Nat
 rs : Sh
 fn : Nat -> List Int -> Int
 pre : List Int -> Prop
abbrev Tabs := List Ent
def env (xs : List Int) : Nat -> Int := fun i => xs.getD i 0
def varE (ks : List K) : Nat -> E := fun i => match ks[i]? with | some k => .var k i | none => mkB false
def Ent.pks (e : Ent) : List K := Sh.ksL e.ps
def Ent.outL (e : Ent) : List Sh := e.os.flatMap (fun o => o.cs) ++ [e.rs]
def Ent.oks (e : Ent) : List K := Sh.ksL e.outL
def Ent.np (e : Ent) : Nat := e.pks.length
def Ent.nn (e : Ent) : Nat := Sh.nnL e.ps
def Ent.pgen (e : Ent) : List SV × Ents := Sh.genL (varE e.pks) id e.ps (mkB true) 0 0
def Ent.ogen (e : Ent) : List SV × Ents := Sh.genL (varE (e.pks ++ e.oks)) id e.outL (mkB true) e.np e.nn
def objE : List Ob -> List SV -> Ents
 | [], _ => []
 | o :: r, vs => (o.j, mkB true, mkO o.ty o.tl (vs.take o.cs.length)) :: objE r (vs.drop o.cs.length)
def MI (kp : List Nat) (l : Ents) : Ents := l.filter fun x => kp.contains x.1
def AE (l : List SV) : SV := l.getLastD .und
def Ent.oents (e : Ent) : Ents := objE e.os e.ogen.1 ++ (MI e.kp e.pgen.2 ++ e.ogen.2)
def Al (fn : Nat -> List Int -> Int) (xs : List Int) : Nat -> List K -> List Int
 | _, [] => []
 | j, k :: ks => k.norm (fn j xs) :: Al fn xs (j + 1) ks
structure RelE (F : Fam) (ρ : Nat -> Int) (w0 : World) (M0 Im : Nat -> Prop) (hs : Nat -> Hd) (l : Ents) (w : World) : Prop where
 ent : ∀ x ∈ l, x.2.1.tt F ρ = true -> BlkOK F ρ Im hs x.1 w x.2.2 /\ ∀ b, mutB F ρ hs x.1 x.2.2 = some b -> (M0 b \/ w0.heap.size <= b) /\ ¬ Im b /\ b < w.heap.size
 inj : ∀ x ∈ l, ∀ y ∈ l, x.2.1.tt F ρ = true -> y.2.1.tt F ρ = true -> ∀ b, mutB F ρ hs x.1 x.2.2 = some b -> mutB F ρ hs y.1 y.2.2 = some b -> x.1 = y.1
 im : ∀ b, Im b -> b < w.heap.size
 fr : Fr M0 w0 w
def EntryOK (P : Program) (G : Glob) (e : Ent) : Prop :=
 ∀ xs, fits e.pks xs -> e.pre xs -> ∀ (w : World) (M0 Im0 : Nat -> Prop) (hs : Nat -> Hd), (∀ b, M0 b -> ¬ Im0 b /\ b < w.heap.size) -> GOK G Im0 w -> RelE F0 (env xs) w M0 Im0 hs e.pgen.2 w ->
   Calls P e.f (SV.concL F0 (env xs) hs e.pgen.1).toArray w fun en w' => ∃ (hs' : Nat -> Hd) (Im' : Nat -> Prop), (∀ j, j < e.nn -> hs' j = hs j) /\ (∀ b, Im0 b -> Im' b) /\ (∀ b, Im' b -> Im0 b \/ M0 b \/ w.heap.size <= b) /\
    en = .returned ((AE e.ogen.1).conc F0 (env (xs ++ Al e.fn xs 0 e.oks)) hs') /\ RelE F0 (env (xs ++ Al e.fn xs 0 e.oks)) w M0 Im' hs' e.oents w'
def Tabs.get (l : Tabs) (k : Nat) : Option Ent := l.find? fun e => e.key == k
def preC : Nat := 1000000
open Classical in
noncomputable def Tabs.F (l : Tabs) : Fam := fun k j xs => if k = 0 then bi j xs else match l.get k with
 | some e => if j = preC then (if e.pre xs then 1 else 0) else e.fn j xs
 | none => 0
theorem Tabs.BI (l : Tabs) : BI l.F := fun j xs => by simp [Tabs.F]
def C3 (key : Nat) (es : List E) : Nat -> List K -> List E
 | _, [] => []
 | j, k :: ks => .app k key j es :: C3 key es (j + 1) ks
def namB : Nat := 100000000
def E3 (b : Nat) : Nat -> List K -> List E
 | _, [] => []
 | j, k :: ks => .var k (b + j) :: E3 b (j + 1) ks
def eqsE : List E -> List E -> E
 | a :: l, b :: r => .and (.cmp .eql a b) (eqsE l r)
 | _, _ => mkB true
def outV (key nm : Nat) (es : List E) (ks : List K) : List E := bif decide (namB <= key) then E3 ((key * 100000 + nm) * 64) 0 ks else C3 key es 0 ks
def defG (key nm : Nat) (es : List E) (ks : List K) : E := bif decide (namB <= key) then eqsE (E3 ((key * 100000 + nm) * 64) 0 ks) (C3 key es 0 ks) else mkB true
def nvC (srcs : List Src) (N nm k : Nat) : Nat -> Nat := fun j => if j < N then (match srcs[j]? with | some (.nm n) => n | _ => 1000000000 + j) else if j - N < k then nm + (j - N) else 1000000000 + j
def evC (es os : List E) : Nat -> E := fun i => if i < es.length then es.getD i (mkB false) else os.getD (i - es.length) (mkB false)
def mutJ (l : Ents) : List Nat := l.filterMap fun x => match x.2.2 with
 | .cells .. => some x.1
 | .lst _ _ true _ _ => some x.1
 | .mp .. => some x.1
 | .seg .. => some x.1
 | _ => none
def C9 : List Nat -> Bool
 | [] => true
 | n :: r => !r.contains n && C9 r
def AO (m : Mem) : List (Nat × E × Blk) -> Mem
 | [] => m
 | (n, g, b) :: r => AO (m.set n (some (g, b))) r
def MJ : Blk -> Blk -> Blk
 | .lst _ _ _ le _, .lst ty row own _ c => .lst ty row own le c
 | _, b => b
def leC : List (Nat × E × Blk) -> E
 | [] => mkB true
 | (_, _, .lst _ _ _ le c) :: r => if le.kind = .i .i64 then mkAnd (mkCmp .eql (LEN c) le) (leC r) else mkB false
 | _ :: r => leC r
theorem Cp : ∀ l : List (Nat × E × Blk), (leC l).kind = .b
 | [] => rfl
 | (_, _, .lst _ _ _ le c) :: r => by
   simp only [leC]
   split
   ·exact (Ac _ _ (Af .eql (LEN c) le (fun _ _ _ => 0) fun _ => 0).2 (Cp r) (fun _ _ _ => 0) fun _ => 0).2
   ·rfl
 | (_, _, .cells ..) :: r => Cp r
 | (_, _, .seg ..) :: r => Cp r
 | (_, _, .mp ..) :: r => Cp r
 | (_, _, .dead) :: r => Cp r
theorem CM {F : Fam} {ρ : Nat -> Int} : ∀ {l : List (Nat × E × Blk)}, (leC l).tt F ρ = true -> ∀ y ∈ l, y.2.2.lenOK F ρ
 | [], _, y, hy => by cases hy
 | (n, g, .lst ty row own le c) :: r, h, y, hy => by
   simp only [leC] at h
   split at h
   ·have hk := Af .eql (LEN c) le F ρ
    rw [(Ac _ _ hk.2 (Cp r) F ρ).1, Bool.and_eq_true] at h
    rcases List.mem_cons.1 hy with rfl | hy
    ·have := h.1
     rw [hk.1] at this
     simp only [cmpB, beq_iff_eq] at this
     exact this.symm
    ·exact CM h.2 y hy
   ·simp at h
 | (n, g, .cells ..) :: r, h, y, hy => by
   rcases List.mem_cons.1 hy with rfl | hy
   ·trivial
   ·exact CM (l := r) h y hy
 | (n, g, .seg ..) :: r, h, y, hy => by
   rcases List.mem_cons.1 hy with rfl | hy
   ·trivial
   ·exact CM (l := r) h y hy
 | (n, g, .mp ..) :: r, h, y, hy => by
   rcases List.mem_cons.1 hy with rfl | hy
   ·trivial
   ·exact CM (l := r) h y hy
 | (n, g, .dead) :: r, h, y, hy => by
   rcases List.mem_cons.1 hy with rfl | hy
   ·trivial
   ·exact CM (l := r) h y hy
def noLs (srcs : List Src) (kp : List Nat) (l : Ents) : Bool := l.all fun x => match x.2.2, srcs[x.1]? with
 | .lst .., some (.nm _) => !kp.contains x.1
 | _, _ => true
def Cf (srcs : List Src) (m : Mem) : List Ob -> List SV -> Option (List (Nat × E × Blk))
 | [], _ => some []
 | o :: r, vs => match srcs[o.j]? with
   | some (.nm n) => match m.at n with
     | some (g, b) => if (unO b).isSome = true /\ (unO b).map (·.1) = some o.ty /\ (unO b).map (·.2.1) = some o.tl /\ (o.tl.isSome = true -> isX (vs.take o.cs.length) = true) then (Cf srcs m r (vs.drop o.cs.length)).map fun l => (n, g, MJ b (mkO o.ty o.tl (vs.take o.cs.length))) :: l else none
     | _ => none
   | _ => none
def S7 (srcs : List Src) (kp : List Nat) : Bool := kp.all fun j => match srcs[j]? with
 | some (.nm _) => true
 | some (.vw _ _ _ _) => true
 | some (.mpn _) => true
 | some (.mpv _ _) => true
 | _ => false
def MK (srcs : List Src) (j : Nat) : Bool :=
 match srcs[j]? with
 | some (.nm _) => true
 | _ => false
def Gs (m : Mem) (nm k : Nat) : Bool := (List.range k).all fun i => decide (nm + i < m.length) && (m.at (nm + i)).isNone
def Cn (e : Ent) (m : Mem) (nm : Nat) (args : List SV) : Option (E × SV × Mem) :=
 match Sh.getL m e.ps [] args with
 | some (es, srcs, g) =>
   let os := outV e.key nm es e.oks
   let gen := Sh.genL (evC es os) (nvC srcs e.nn nm (Sh.nnL e.outL)) e.outL (mkB true) e.np e.nn
   let mj := mutJ e.pgen.2
   let dead := (mj.filter fun j => !e.kp.contains j && !(e.os.any fun o => o.j == j)).flatMap (srcOf srcs)
   match Cf srcs m e.os gen.1 with
   | some sets => if C9 (mj.flatMap (srcOf srcs)) = true /\ (S7 srcs e.kp = true /\ noLs srcs e.kp e.pgen.2 = true) /\ Gs m nm (Sh.nnL e.outL) = true /\ m.length < 1000000000 /\ C9 (e.os.map (·.j)) = true /\
    (e.os.all fun o => mj.contains o.j && !e.kp.contains o.j) = true /\
    e.key ≠ 0 /\ e.oks.length < preC /\ ((Sh.refsL e.outL).all fun j => MK srcs j && decide (j < e.nn)) = true /\ ((Sh.refsL e.ps).all fun j => decide (j < e.nn)) = true then
    some (mkAnd (mkAnd (mkAnd g (.app .b e.key preC es)) (leC sets)) (defG e.key nm es e.oks), AE gen.1, AO (AO (AA m dead) sets) (gen.2.map fun x => (nvC srcs e.nn nm (Sh.nnL e.outL) x.1, x.2.1, x.2.2)))
     else none
   | none => none
 | none => none
section
variable {P : Program} {F : Fam} {ρ ρ' : Nat -> Int} {G : Glob} {w0 w w' : World} {M0 Im0 Im Im' T : Nat -> Prop} {ad ad' hs hs' : Nat -> Hd} {m m' : Mem}
theorem Da (ks : List K) (i : Nat) (k : K) (h : ks[i]? = some k) : (varE ks i).kind = k := by simp [varE, h, E.kind]
theorem Ha {ks : List K} {xs : List Int} (hf : fits ks xs) (i : Nat) : (varE ks i).den F (env xs) = if i < ks.length then xs.getD i 0 else 0 := by
 unfold varE
 by_cases hi : i < ks.length
 ·grind [E.den, env, JP]
 ·rw [List.getElem?_eq_none (by omega), if_neg hi]
  simp [b2i]
theorem HE (fn : Nat -> List Int -> Int) (xs : List Int) : ∀ (ks : List K) (j : Nat), fits ks (Al fn xs j ks)
 | [], _ => trivial
 | k :: ks, j => ⟨K.norm_norm k _, HE fn xs ks (j + 1)⟩
theorem FV (key : Nat) (es : List E) : ∀ (ks : List K) (j : Nat), (C3 key es j ks).length = ks.length
 | [], _ => rfl
 | k :: ks, j => by simp [C3, FV key es ks (j + 1)]
theorem HF (key : Nat) (es : List E) : ∀ (ks : List K) (j : Nat), (C3 key es j ks).map E.kind = ks
 | [], _ => rfl
 | k :: ks, j => by simp [C3, E.kind, HF key es ks (j + 1)]
theorem FW (b : Nat) : ∀ (ks : List K) (j : Nat), (E3 b j ks).length = ks.length
 | [], _ => rfl
 | k :: ks, j => by simp [E3, FW b ks (j + 1)]
theorem HG (b : Nat) : ∀ (ks : List K) (j : Nat), (E3 b j ks).map E.kind = ks
 | [], _ => rfl
 | k :: ks, j => by simp [E3, E.kind, HG b ks (j + 1)]
theorem J7 (key nm : Nat) (es : List E) (ks : List K) : (outV key nm es ks).length = ks.length := by
 grind [outV, namB, FV, FW]
theorem Ja (key nm : Nat) (es : List E) (ks : List K) : (outV key nm es ks).map E.kind = ks := by
 grind [outV, namB, HF, HG]
theorem J8 {F : Fam} : ∀ {a b : List E}, a.length = b.length -> (eqsE a b).tt F ρ = true -> a.map (E.den F ρ) = b.map (E.den F ρ)
 | [], [], _, _ => rfl
 | [], _ :: _, h, _ => by simp at h
 | _ :: _, [], h, _ => by simp at h
 | x :: a, y :: b, h, ht => by
   simp only [eqsE, E.tt, E.den, BA, Bool.and_eq_true, cmpB, beq_iff_eq] at ht
   simp only [List.map_cons, ht.1, J8 (a := a) (b := b) (by simpa using h) ht.2]
theorem Ol : ∀ (a b : List E), (eqsE a b).kind = .b
 | [], [] => rfl
 | [], _ :: _ => rfl
 | _ :: _, [] => rfl
 | _ :: _, _ :: _ => rfl
theorem Om (key nm : Nat) (es : List E) (ks : List K) : (defG key nm es ks).kind = .b := by
 unfold defG; cases decide (namB <= key)
 ·rfl
 ·exact Ol _ _
theorem QY {F : Fam} {key nm : Nat} {es : List E} {ks : List K} (h : (defG key nm es ks).tt F ρ = true) : (outV key nm es ks).map (E.den F ρ) = (C3 key es 0 ks).map (E.den F ρ) := by
 grind [outV, defG, namB, J8, FW, FV]
theorem Tabs.F_fn {l : Tabs} {e : Ent} (he : l.get e.key = some e) (hk : e.key ≠ 0) {j : Nat} (hj : j ≠ preC) (xs : List Int) : l.F e.key j xs = e.fn j xs := by
 grind [F]
open Classical in
theorem Tabs.F_pre {l : Tabs} {e : Ent} (he : l.get e.key = some e) (hk : e.key ≠ 0) {xs : List Int} (h : (E.app .b e.key preC []).kind = .b) : (i2b (K.b.norm (l.F e.key preC xs)) = true ↔ e.pre xs) := by
 have : l.F e.key preC xs = if e.pre xs then 1 else 0 := by simp [Tabs.F, hk, he]
 rw [this]
 by_cases hp : e.pre xs
 ·simp [hp, K.norm, i2b]
 ·simp [hp, K.norm, i2b]
theorem Jb {l : Tabs} {e : Ent} (he : l.get e.key = some e) (hk : e.key ≠ 0) (es : List E) : ∀ (ks : List K) (j : Nat), j + ks.length <= preC -> (C3 e.key es j ks).map (E.den l.F ρ) = Al e.fn (es.map (E.den l.F ρ)) j ks
 | [], _, _ => rfl
 | k :: ks, j, h => by
   simp only [C3, List.map_cons, Al, E.den, Dx, Tabs.F_fn he hk (show j ≠ preC by grind)]
   rw [Jb he hk es ks (j + 1) (by grind)]
theorem Lw {es : List E} {ks : List K} (hk : es.map E.kind = ks) (hs : ∀ e ∈ es, e.kind ≠ .x -> e.sound = true) : fits ks (es.map (E.den F ρ)) := by
 subst hk
 induction es with
 | nil => trivial
 | cons e es ih =>
   refine ⟨?_, ih fun x hx => hs x (List.mem_cons_of_mem _ hx)⟩
   by_cases hx : e.kind = .x
   ·rw [hx]; rfl
   grind [E.den_norm]
theorem E4 (a b : List Int) (i : Nat) : (a ++ b).getD i 0 = if i < a.length then a.getD i 0 else b.getD (i - a.length) 0 := by
 grind
theorem Tr.params (B : Nat) {ks : List K} {xs ys : List Int} (hx : fits ks xs) (hh : ∀ j, j < B -> hs' j = hs j) : Tr B F0 F0 (env xs) (env (xs ++ ys)) hs hs' (varE ks) (varE ks) id id := by
 refine ⟨BO, BO, fun i => ?_, fun i => rfl, fun j hj => (hh j hj).symm⟩
 have hl := Ax hx
 unfold varE
 cases hk : ks[i]? with
 | none => simp
 | some k =>
   have hi := (List.getElem?_eq_some_iff.1 hk).1
   simp only [E.den, env, E4, hl, hi, if_true]
theorem Db : ∀ {l : List (Nat × E × Blk)} {m : Mem} {k : Nat} {g : E} {x : Blk}, (AO m l).at k = some (g, x) -> (k, g, x) ∈ l \/ ((∀ y ∈ l, y.1 ≠ k) /\ m.at k = some (g, x)) \/ ((∃ y ∈ l, y.1 = k /\ m.length <= k))
 | [], m, k, g, x, h => Or.inr (Or.inl ⟨by simp, h⟩)
 | (n, g', b) :: r, m, k, g, x, h => by
   simp only [AO] at h
   rcases Db (l := r) h with h1 | ⟨h1, h2⟩ | ⟨y, h1, h2, h3⟩
   ·simp_all
   ·by_cases hk : n = k
    ·subst hk
     by_cases hl : n < m.length
     ·grind [Mem.at_set_same]
     simp_all
    grind [Mem.at_set_other]
   grind
theorem Bp : ∀ (l : List (Nat × E × Blk)) (m : Mem), (AO m l).length = m.length
 | [], _ => rfl
 | (n, g, b) :: r, m => by simp only [AO, Bp r, List.length_set]
theorem E5 : ∀ {l : List (Nat × E × Blk)} {m : Mem} {k : Nat}, al m k -> al (AO m l) k
 | [], m, k, h => h
 | (n, g, b) :: r, m, k, h => by
   refine E5 (l := r) ?_
   by_cases hl : n < m.length
   ·exact Di hl k h
   ·rw [List.set_eq_of_length_le (by omega)]; exact h
theorem Jc : ∀ {l : List (Nat × E × Blk)} {m : Mem} {y : Nat × E × Blk}, y ∈ l -> y.1 < m.length -> al (AO m l) y.1
 | [], m, y, h, _ => by cases h
 | (n, g, b) :: r, m, y, h, hl => by
   rcases List.mem_cons.1 h with rfl | h
   ·refine E5 (l := r) ?_
    grind [al, Mem.at_set_same]
   ·exact Jc (l := r) h (by simpa using hl)
theorem E6 {f : Nat -> List Nat} : ∀ {l : List Nat}, C9 (l.flatMap f) = true -> ∀ a ∈ l, ∀ b ∈ l, ∀ n, n ∈ f a -> n ∈ f b -> a = b
 | [], _, a, ha, _, _, _, _, _ => by cases ha
 | c :: l, h, a, ha, b, hb, n, hna, hnb => by
   have key : ∀ (u v : List Nat), C9 (u ++ v) = true -> C9 v = true /\ ∀ n ∈ u, n ∉ v := by
    intro u
    induction u with
    | nil => simp_all
    | cons x u ih =>
      grind [C9]
   rw [List.flatMap_cons] at h
   obtain ⟨h1, h2⟩ := key _ _ h
   rcases List.mem_cons.1 ha with ha' | ha' <;> rcases List.mem_cons.1 hb with hb' | hb'
   ·rw [ha', hb']
   ·simp_all
   ·simp_all
   ·exact E6 h1 a ha' b hb' n hna hnb
theorem DL {l : Ents} {x : Nat × E × Blk} (hx : x ∈ l) {b : Nat} (h : mutB F ρ ad x.1 x.2.2 = some b) : x.1 ∈ mutJ l := by
 unfold mutJ
 refine List.mem_filterMap.2 ⟨x, hx, ?_⟩
 revert h
 cases x.2.2 with
 | cells ty cs => intro _; rfl
 | lst ty row own le c =>
   cases own with
   | true => intro _; rfl
   | false => grind [mutB]
 | mp => intro _; rfl
 | seg => intro _; rfl
 | dead => grind [mutB]
theorem Dm {nm k : Nat} (h : Gs m nm k = true) {i : Nat} (hi : i < k) : nm + i < m.length /\ (m.at (nm + i)).isNone = true := by
 grind [Gs]
theorem Oo (b : Blk) (ty : Nat) (tl : Option Tl) (vs : List SV) : (MJ b (mkO ty tl vs)).nrm = mkO ty tl vs := by
 have h1 : ∀ x : Blk, (MJ b x).nrm = x.nrm := fun x => by cases b <;> cases x <;> rfl
 rw [h1]
 unfold mkO
 split
 ·rfl
 ·split <;> rfl
 ·split <;> rfl
 ·rfl
theorem BL {srcs : List Src} : ∀ {os : List Ob} {vs : List SV} {l : List (Nat × E × Blk)}, Cf srcs m os vs = some l ->
 ∀ y ∈ l, ∃ j b0 X, srcs[j]? = some (.nm y.1) /\ j ∈ os.map (·.j) /\ ((j, mkB true, X) ∈ objE os vs /\ X = y.2.2.nrm) /\ m.at y.1 = some (y.2.1, b0)
 | [], vs, l, h, y, hy => by grind [Cf]
 | o :: r, vs, l, h, y, hy => by
   simp only [Cf] at h
   split at h
   ·rename_i n hn
    split at h
    ·rename_i g b0 hm
     split at h
     ·obtain ⟨l', hl, rfl⟩ := Option.map_eq_some_iff.1 h
      rcases List.mem_cons.1 hy with rfl | hy
      ·grind [objE, Oo]
      ·obtain ⟨j', b0', X, a1, a2, a3, a4⟩ := BL hl y hy
       grind [objE]
     ·cases h
    ·cases h
   ·cases h
theorem HI {srcs : List Src} : ∀ {os : List Ob} {vs : List SV} {l : List (Nat × E × Blk)}, Cf srcs m os vs = some l -> ∀ j ∈ os.map (·.j), ∃ n, srcs[j]? = some (.nm n) /\ ∃ y ∈ l, y.1 = n
 | [], vs, l, h, j, hj => by simp at hj
 | o :: r, vs, l, h, j, hj => by
   simp only [Cf] at h
   split at h
   ·rename_i n hn
    split at h
    ·rename_i g b0 hm
     split at h
     ·obtain ⟨l', hl, rfl⟩ := Option.map_eq_some_iff.1 h
      simp only [List.map_cons, List.mem_cons] at hj
      rcases hj with rfl | hj
      ·simp_all
      ·obtain ⟨n', a1, y, a2, a3⟩ := HI hl j hj
       grind
     ·cases h
    ·cases h
   ·cases h
def isXv : SV -> Bool
 | .sc c => decide (c.kind = .x)
 | _ => false
theorem S8 (vs : List SV) : isX vs = (vs.map isXv).headD false := by
 cases vs with
 | nil => rfl
 | cons v r => cases v <;> rfl
theorem J9 {ev1 ev2 : Nat -> E} {nv1 nv2 : Nat -> Nat} (hk : ∀ i, (ev1 i).kind = (ev2 i).kind) : ∀ (L : List Sh) (g1 g2 : E) (vi ni : Nat), (Sh.genL ev1 nv1 L g1 vi ni).1.map isXv = (Sh.genL ev2 nv2 L g2 vi ni).1.map isXv
 | [], _, _, _, _ => rfl
 | s :: r, g1, g2, vi, ni => by
   have ih := J9 (nv1 := nv1) (nv2 := nv2) hk r g1 g2 (vi + s.ks.length) (ni + s.nn)
   simp only [Sh.genL, List.map_cons, ih]
   congr 1
   cases s <;> simp only [Sh.gen, isXv, hk]
theorem Ka {ev : Nat -> E} {nv : Nat -> Nat} : ∀ (L : List Sh) (acc : List Src) (vs : List SV) (r : List E × List Src × E) (g : E) (vi ni : Nat), Sh.getL m L acc vs = some r -> (∀ i k, (Sh.ksL L)[i]? = some k -> (ev (vi + i)).kind = k) -> vs.map isXv = (Sh.genL ev nv L g vi ni).1.map isXv
 | [], acc, [], r, g, vi, ni, h, hk => rfl
 | [], acc, _ :: _, r, g, vi, ni, h, hk => by simp [Sh.getL] at h
 | _ :: _, acc, [], r, g, vi, ni, h, hk => by simp [Sh.getL] at h
 | s :: L, acc, v :: vs, r, g, vi, ni, h, hk => by
   simp only [Sh.getL] at h
   split at h
   ·rename_i es ns g' hs
    obtain ⟨q, hq, rfl⟩ := Option.map_eq_some_iff.1 h
    have ih := Ka (nv := nv) L _ vs q g (vi + s.ks.length) (ni + s.nn) hq (fun i k hi => by
     have := hk (s.ks.length + i) k (by grind [Sh.ksL])
     rwa [<- Nat.add_assoc] at this)
    simp only [Sh.genL, List.map_cons, ih]
    congr 1
    cases s with
    | sc k =>
      have h0 := hk 0 k (by simp [Sh.ksL, Sh.ks])
      rw [Nat.add_zero] at h0
      cases v <;> simp only [Sh.get, reduceCtorEq] at hs
      grind [Sh.gen, isXv]
    | lt k n =>
      cases v with
      | sc e =>
        cases e <;> simp only [Sh.get, reduceCtorEq] at hs
        split at hs
        ·rename_i hc
         obtain ⟨rfl, rfl⟩ := hc
         rfl
        ·cases hs
      | _ => simp [Sh.get] at hs
    | lst ty row own =>
      have h' : B0 m ty row own v = some (es, ns, g') := by cases v <;> simpa only [Sh.get] using hs
      simp only [Sh.gen, isXv]
      grind [B0, Ah]
    | opt s =>
      have h' : BH (mkB true :: s.ks.map fun k => E.lit k 0, List.replicate s.nn Src.dm, mkB true) v (fun u => s.get m acc u) = some (es, ns, g') := by cases v <;> simpa only [Sh.get] using hs
      simp only [Sh.gen, isXv]
      grind [BH, optV]
    | lsn ty row => cases v <;> first | rfl | simp [Sh.get, getLsn] at hs
    | _ => cases v <;> first | rfl | simp [Sh.get] at hs
   ·cases h
theorem FX {F1 F2 : Fam} {ρ1 ρ2 : Nat -> Int} {ad1 ad2 : Nat -> Hd} : ∀ {os : List Ob} {vs us : List SV}, SV.concL F1 ρ1 ad1 vs = SV.concL F2 ρ2 ad2 us -> vs.map isXv = us.map isXv -> ∀ j X, (j, mkB true, X) ∈ objE os vs ->
 ∃ ty tl vs' us', X = mkO ty tl vs' /\ (j, mkB true, mkO ty tl us') ∈ objE os us /\ SV.concL F1 ρ1 ad1 vs' = SV.concL F2 ρ2 ad2 us' /\ isX vs' = isX us'
 | [], vs, us, h, hx, j, X, hm => by simp [objE] at hm
 | o :: r, vs, us, h, hx, j, X, hm => by
   simp only [objE, List.mem_cons, pJ, true_and] at hm
   have ht : ∀ n, SV.concL F1 ρ1 ad1 (vs.take n) = SV.concL F2 ρ2 ad2 (us.take n) := fun n => by
    simp_all [Ae]
   have hd : ∀ n, SV.concL F1 ρ1 ad1 (vs.drop n) = SV.concL F2 ρ2 ad2 (us.drop n) := fun n => by
    simp_all [Ae]
   rcases hm with ⟨rfl, rfl⟩ | hm
   ·exact ⟨o.ty, o.tl, _, us.take o.cs.length, rfl, by simp [objE], ht _, by simp_all [S8]⟩
   ·obtain ⟨ty, tl, vs', us', a1, a2, a3, a4⟩ := FX (hd o.cs.length) (by simp_all) j X hm
    grind [objE]
theorem Sw {p : Nat -> Prop} {os : List Ob} {vs : List SV} (h : SV.okL p vs) : ∀ x ∈ objE os vs, SV.okL p x.2.2.cs := by
 induction os generalizing vs with
 | nil => intro x hx; cases hx
 | cons o r ih =>
   intro x hx
   grind [objE, S6, DF, DE]
theorem HJ {F1 F2 : Fam} {ρ1 ρ2 : Nat -> Int} {ad1 ad2 : Nat -> Hd} {vs us : List SV} (h : SV.concL F1 ρ1 ad1 vs = SV.concL F2 ρ2 ad2 us) : (AE vs).conc F1 ρ1 ad1 = (AE us).conc F2 ρ2 ad2 := by
 rw [Ae, Ae] at h
 have hl : ∀ (F : Fam) (ρ : Nat -> Int) (ad : Nat -> Hd) (l : List SV), (AE l).conc F ρ ad = (l.map (SV.conc F ρ ad)).getLastD undef := fun F ρ ad l => by
  unfold AE
  cases l with
  | nil => rfl
  | cons a l => grind
 rw [hl, hl, h]
theorem QZ {p : Nat -> Prop} {vs : List SV} (h : SV.okL p vs) : (AE vs).ok p := by
 unfold AE
 rw [List.getLastD_eq_getLast?]
 cases hh : vs.getLast? with
 | none => trivial
 | some x => grind [Cs]
end
section
variable {P : Program} {ρ ρ' : Nat -> Int} {G : Glob} {w0 w w' : World} {M0 Im0 Im Im' T : Nat -> Prop} {ad ad' hs hs' : Nat -> Hd} {m m' : Mem}
theorem FY {F : Fam} {ρ : Nat -> Int} {m : Mem} {ad : Nat -> Hd} {ty : Nat} {q : Row} : ∀ {v : SV} {V : LV}, Ah m ty q v = some V -> V.own = true -> V.g.tt F ρ = true -> ∀ b, (v.conc F ρ ad).ownBlock = some b ->
 ∃ n ∈ V.ns, ∃ g le c, m.at n = some (g, .lst ty q true le c) /\ g.tt F ρ = true /\ c.den F ρ = V.c.den F ρ /\ v.conc F ρ ad = (ad n).sl (le.den F ρ).toNat
 | .ls n le, V, h, ho, hg, b, hb => by
   simp only [Ah] at h
   split at h
   ·rename_i g ty' row' own le' c hn
    split at h
    ·rename_i hc
     obtain ⟨rfl, rfl, h3, h4, h5, h6⟩ := hc
     simp only [oJ] at h; subst h
     simp only at ho hg
     subst ho
     have hle := E.same_eq _ _ h3
     subst hle
     exact ⟨n, by simp, g, _, c, hn, hg, rfl, rfl⟩
    ·cases h
   ·cases h
 | .sv n str l0 lo hi, V, h, ho, hg, b, hb => by
   grind [Ah]
 | .nilp c, V, h, ho, hg, b, hb => by
   cases c <;> simp only [Ah, oJ, reduceCtorEq] at h
   simp [SV.conc, CV.val, Value.ownBlock] at hb
 | .ite p x y, V, h, ho, hg, b, hb => by
   simp only [Ah] at h
   split at h
   ·rename_i X Y hx hy
    split at h
    ·rename_i hp
     simp only [oJ] at h; subst h
     simp only [Bool.and_eq_true] at ho
     obtain ⟨i1, i2, i3⟩ := AI hx
     obtain ⟨j1, j2, j3⟩ := AI hy
     simp only at hg
     rw [(Gr hp i3 j3).2] at hg
     have hd := (Dz (F := F) (ρ := ρ) hp i2 j2).2
     cases hpt : p.tt F ρ
     ·simp only [SV.conc, hpt, cond_false] at hb hg hd ⊢
      obtain ⟨n, hn, g, le, c, q1, q2, q3, q4⟩ := FY hy ho.2 hg b hb
      grind
     ·simp only [SV.conc, hpt, cond_true] at hb hg hd ⊢
      obtain ⟨n, hn, g, le, c, q1, q2, q3, q4⟩ := FY hx ho.1 hg b hb
      grind
    ·cases h
   ·cases h
 | .sc _, V, h, _, _, _, _ | .ptr .., V, h, _, _, _, _ | .pi .., V, h, _, _, _, _ | .sl .., V, h, _, _, _, _ | .pe .., V, h, _, _, _, _ | .mp .., V, h, _, _, _, _ | .oq .., V, h, _, _, _, _ | .fn .., V, h, _, _, _, _ | .agg .., V, h, _, _, _, _ | .tup .., V, h, _, _, _, _ | .gd .., V, h, _, _, _, _ | .und, V, h, _, _, _, _ | .gl .., V, h, _, _, _, _ => by simp [Ah] at h
theorem OwL.hd {w : World} {Im : Nat -> Prop} {ty : Nat} {q : Row} {h h' : Hd} {l : RL} (ho : OwL w Im ty q h l) (e : h.sl l.length = h'.sl l.length) : OwL w Im ty q h' l := by
 obtain ⟨h1, xs, h2, h3⟩ := ho
 exact ⟨h1, xs, by rw [<- e]; exact h2, h3⟩
mutual
theorem Oq : ∀ (s : Sh) (acc : List Src) (v : SV) (r : List E × List Src × E), s.get m acc v = some r -> ∀ n, Src.nm n ∈ r.2.1 -> al m n
 | .sc k, acc, v, r, h, n, hn => by
   cases v <;> simp only [Sh.get, reduceCtorEq] at h
   grind
 | .lt k z, acc, v, r, h, n, hn => by
   cases v with
   | sc x =>
     cases x <;> simp only [Sh.get, reduceCtorEq] at h
     grind
   | _ => simp [Sh.get] at h
 | .agg L, acc, v, r, h, n, hn => by
   cases v <;> simp only [Sh.get, reduceCtorEq] at h
   exact CN L acc _ r h n hn
 | .lst ty row own, acc, v, r, h, n, hn => by
   grind [B0, Sh.get]
 | .lsn ty row, acc, v, r, h, n, hn => by
   grind [getLsn, Sh.get, C2, Src.nm.injEq, Mem.at_al]
 | .obj ty cs, acc, v, r, h, n, hn => by
   cases v with
   | ptr k o =>
     cases o with
     | zero =>
       simp only [Sh.get] at h
       split at h
       ·rename_i g' ty' vs hb
        split at h
        ·obtain ⟨q, hq, rfl⟩ := Option.map_eq_some_iff.1 h
         simp only [List.mem_cons, Src.nm.injEq] at hn
         rcases hn with rfl | hn
         ·exact Mem.at_al (Be hb).1
         ·exact CN cs _ vs q hq n hn
        ·cases h
       ·cases h
     | succ o => simp [Sh.get] at h
   | _ => simp [Sh.get] at h
 | .mp ks vs kag vag, acc, v, r, h, n, hn => by
   cases v <;> simp only [Sh.get, reduceCtorEq] at h
   case mp k =>
    grind [Dl]
   case ite p a b =>
    obtain ⟨q, h1, rfl⟩ := Option.map_eq_some_iff.1 h
    simp at hn
 | .seg ty ks cs, acc, v, r, h, n, hn => by
   cases v with
   | ptr k o =>
     cases o with
     | zero =>
       simp only [Sh.get] at h
       split at h
       ·rename_i g' ty' vs ks' c hb
        split at h
        ·obtain ⟨q, hq, rfl⟩ := Option.map_eq_some_iff.1 h
         simp only [List.mem_cons, Src.nm.injEq] at hn
         rcases hn with rfl | hn
         ·exact Mem.at_al (FU hb).1
         ·exact CN cs _ vs q hq n hn
        ·cases h
       ·cases h
     | succ o => simp [Sh.get] at h
   | _ => simp [Sh.get] at h
 | .pin j off str, acc, v, r, h, n, hn => by
   cases v <;> simp only [Sh.get, reduceCtorEq] at h
   grind
 | .ref j, acc, v, r, h, n, hn => by
   cases v with
   | ptr k o =>
     cases o with
     | zero =>
       grind [Sh.get]
     | succ o => simp [Sh.get] at h
   | _ => simp [Sh.get] at h
 | .fnc f L, acc, v, r, h, n, hn => by
   cases v <;> simp only [Sh.get, reduceCtorEq] at h
   split at h
   ·exact CN L acc _ r h n hn
   ·cases h
 | .nul c, acc, v, r, h, n, hn => by
   cases v <;> simp only [Sh.get, reduceCtorEq] at h
   grind
 | .tup L, acc, v, r, h, n, hn => by
   cases v <;> simp only [Sh.get, reduceCtorEq] at h
   exact CN L acc _ r h n hn
 | .opt s, acc, v, r, h, n, hn => by
   have h' : BH (mkB true :: s.ks.map fun k => E.lit k 0, List.replicate s.nn Src.dm, mkB true) v (fun u => s.get m acc u) = some r := by cases v <;> simpa only [Sh.get] using h
   unfold BH at h'
   split at h'
   ·grind
   ·split at h'
    ·obtain ⟨q, hq, rfl⟩ := Option.map_eq_some_iff.1 h'
     exact Oq s acc _ q hq n hn
    ·cases h'
   ·cases h'
 | .und, acc, v, r, h, n, hn => by
   grind [Sh.get]
theorem CN : ∀ (L : List Sh) (acc : List Src) (vs : List SV) (r : List E × List Src × E), Sh.getL m L acc vs = some r -> ∀ n, Src.nm n ∈ r.2.1 -> al m n
 | [], acc, [], r, h, n, hn => by grind [Sh.getL]
 | [], acc, _ :: _, r, h, n, hn => by simp [Sh.getL] at h
 | _ :: _, acc, [], r, h, n, hn => by simp [Sh.getL] at h
 | s :: L, acc, v :: vs, r, h, n, hn => by
   simp only [Sh.getL] at h
   split at h
   ·rename_i es' ns' g' hs0
    obtain ⟨q, hq, rfl⟩ := Option.map_eq_some_iff.1 h
    rcases List.mem_append.1 hn with hn | hn
    ·exact Oq s acc v _ hs0 n hn
    ·exact CN L _ vs q hq n hn
   ·cases h
end
theorem SameL.self {F1 F2 : Fam} {ρ1 ρ2 : Nat -> Int} {ad1 ad2 : Nat -> Hd} {nv1 nv2 : Nat -> Nat} : ∀ {a : Ents}, SameL F1 F2 ρ1 ρ2 ad1 ad2 nv1 nv2 a a -> ∀ x ∈ a, SameE F1 F2 ρ1 ρ2 ad1 ad2 nv1 nv2 x x
 | [], _, x, hx => by cases hx
 | a :: l, h, x, hx => by
   rcases List.mem_cons.1 hx with rfl | hx
   ·exact h.1
   ·exact SameL.self h.2 x hx
theorem HK {l : Tabs} {e : Ent} (he : l.get e.key = some e) (hG : GOK G Im0 w0) (hR : Rel l.F ρ w0 M0 Im0 ad m w) {nm : Nat} {args : List SV} {g : E} {v : SV}
 (h : Cn e m nm args = some (g, v, m')) : g.kind = .b /\ (g.tt l.F ρ = true -> ∃ (xs : List Int) (hs : Nat -> Hd) (M1 Im : Nat -> Prop), fits e.pks xs /\ e.pre xs /\ SV.concL l.F ρ ad args = SV.concL F0 (env xs) hs e.pgen.1 /\
  (∀ b, M1 b -> ¬ Im b /\ b < w.heap.size) /\ GOK G Im w /\ RelE F0 (env xs) w M1 Im hs e.pgen.2 w /\
  ∀ (w' : World) (hs' : Nat -> Hd) (Im' : Nat -> Prop), (∀ j, j < e.nn -> hs' j = hs j) -> (∀ b, Im b -> Im' b) -> (∀ b, Im' b -> Im b \/ M1 b \/ w.heap.size <= b) -> RelE F0 (env (xs ++ Al e.fn xs 0 e.oks)) w M1 Im' hs' e.oents w' ->
    ∃ ad', v.conc l.F ρ ad' = (AE e.ogen.1).conc F0 (env (xs ++ Al e.fn xs 0 e.oks)) hs' /\ Rel l.F ρ w0 M0 Im0 ad' m' w' /\ Ext ad ad' m m' /\ v.ok (al m')) := by
 have hB := l.BI
 unfold Cn at h
 split at h
 ·rename_i es srcs g0 hget
  simp only at h
  split at h
  ·rename_i sets hsets
   split at h
   ·rename_i hc
    obtain ⟨c1, ⟨c2, c2'⟩, c3, c4, c5, c6, c7, c8, c9, c10⟩ := hc
    simp only [oJ, pJ] at h
    obtain ⟨rfl, rfl, rfl⟩ := h
    obtain ⟨k1, k2, k3, k4⟩ := AW e.ps [] args _ hget
    simp only at k1 k2 k3 k4
    have hpk : (E.app .b e.key preC es).kind = .b := rfl
    have hm := Ac g0 (.app .b e.key preC es) k3 hpk l.F ρ
    have hml := Ac (mkAnd g0 (.app .b e.key preC es)) (leC sets) hm.2 (Cp _) l.F ρ
    have hmd := Ac (mkAnd (mkAnd g0 (.app .b e.key preC es)) (leC sets)) (defG e.key nm es e.oks) hml.2 (Om _ _ _ _) l.F ρ
    refine ⟨hmd.2, fun hg => ?_⟩
    rw [hmd.1, Bool.and_eq_true] at hg
    obtain ⟨hg, hgd⟩ := hg
    rw [hml.1, Bool.and_eq_true] at hg
    obtain ⟨hg, hgl⟩ := hg
    rw [hm.1, Bool.and_eq_true] at hg
    have hG' := hG.now hR
    have hR0 := hR
    obtain ⟨hM, Im, h1, h2, hI⟩ := hR
    have hxs : ∃ xs, xs = es.map (E.den l.F ρ) := ⟨_, rfl⟩
    obtain ⟨xs, hxs⟩ := hxs
    have hfit : fits e.pks xs := by rw [hxs]; exact Lw k1 k4
    have hxl : xs.length = e.np := Ax hfit
    have hel : es.length = e.np := by rw [<- hxl, hxs]; simp
    have hpre : e.pre xs := by
     have := hg.2
     unfold E.tt at this
     simp only [E.den, Dx, <- hxs] at this
     exact (Tabs.F_pre he c7 rfl).1 this
    have hSrc : SrcAt srcs 0 srcs := fun j s hj => by simpa using hj
    have hev : EvOK l.F ρ (env xs) (varE e.pks) 0 es := fun i x hi => by
     have hil := (List.getElem?_eq_some_iff.1 hi).1
     rw [Nat.zero_add]
     refine ⟨?_, ?_⟩
     ·rw [Ha hfit, if_pos (by rw [show e.pks.length = e.np from rfl]; omega), hxs]
      simp [List.getD, hi]
     ·refine Da _ _ _ ?_
      have : (es.map E.kind)[i]? = some x.kind := by simp [hi]
      rw [k1] at this; exact this
    obtain ⟨p1, p2⟩ := Bf (F := l.F) (ρ := ρ) (ρ' := env xs) (w0 := w0) (w := w) (M0 := M0) (Im := Im) (ad := ad) (m := m) (ev := varE e.pks) (S := srcs) (hs := fun j => match srcs[j]? with | some s => srcHd l.F ρ w Im ad m s | none => default)
     hB hI (fun j s hj => by simp only [hj]) e.ps [] args _ (mkB true) 0 hget (Ag _) (fun j s hj => by simp at hj) hSrc hev hg.1
    generalize hhs : (fun j => match srcs[j]? with | some s => srcHd l.F ρ w Im ad m s | none => default : Nat -> Hd) = hs at p1 p2
    change SV.concL l.F ρ ad args = SV.concL F0 (env xs) hs e.pgen.1 at p1
    change ∀ x ∈ e.pgen.2, _ at p2
    have hM1 : ∃ M1 : Nat -> Prop, M1 = fun b => ∃ x ∈ e.pgen.2, x.2.1.tt F0 (env xs) = true /\ mutB F0 (env xs) hs x.1 x.2.2 = some b := ⟨_, rfl⟩
    obtain ⟨M1, hM1⟩ := hM1
    have hM1b : ∀ b, M1 b -> (M0 b \/ w0.heap.size <= b) /\ ¬ Im b /\ b < w.heap.size := fun b hb => by
     rw [hM1] at hb
     obtain ⟨x, hx, hxg, hxb⟩ := hb
     obtain ⟨n, _, g', y, a1, a2, a3⟩ := (p2 x hx hxg).mu b hxb
     exact (hI.ent n g' y a1 a2).2 b a3
    have hrel : RelE F0 (env xs) w M1 Im hs e.pgen.2 w := by
     refine ⟨fun x hx hxg => ⟨(p2 x hx hxg).ok, fun b hb => ?_⟩, fun x hx y hy hxg hyg b hbx hby => ?_, hI.im, Fr.refl _ _⟩
     ·have hb1 : M1 b := by rw [hM1]; exact ⟨x, hx, hxg, hb⟩
      exact ⟨Or.inl hb1, (hM1b b hb1).2⟩
     ·obtain ⟨n, n1, g1, y1, a1, a2, a3⟩ := (p2 x hx hxg).mu b hbx
      obtain ⟨n', n1', g1', y1', a1', a2', a3'⟩ := (p2 y hy hyg).mu b hby
      have := hI.inj n n' g1 y1 g1' y1' b a1 a2 a1' a2' a3 a3'
      subst this
      exact E6 c1 x.1 (DL hx hbx) y.1 (DL hy hby) n n1 n1'
    refine ⟨xs, hs, M1, Im, hfit, hpre, p1, fun b hb => ⟨(hM1b b hb).2.1, (hM1b b hb).2.2⟩, hG.fr hM hI.fr h1, hrel, fun w' hs' Im' q1 q2 q3 q5 => ?_⟩
    have hys : ∃ ys, ys = Al e.fn xs 0 e.oks := ⟨_, rfl⟩
    obtain ⟨ys, hys⟩ := hys
    rw [<- hys] at q5 ⊢
    have hyfit : fits e.oks ys := by rw [hys]; exact HE _ _ _ _
    have hyl : ys.length = e.oks.length := Ax hyfit
    have hod : (outV e.key nm es e.oks).map (E.den l.F ρ) = ys := by rw [QY hgd, Jb he c7 es e.oks 0 (by have := c8; omega), <- hxs, hys]
    have hall : fits (e.pks ++ e.oks) (xs ++ ys) := Ce hfit hyfit
    let nw := Sh.nnL e.outL
    let ad' : Nat -> Hd := fun k => if nm <= k /\ k < nm + nw then hs' (e.nn + (k - nm)) else if 1000000000 <= k then hs' (k - 1000000000) else ad k
    have hfree : ∀ k, al m k -> ¬ (nm <= k /\ k < nm + nw) /\ k < m.length := fun k hk => by
     obtain ⟨x, hx⟩ := Option.isSome_iff_exists.1 hk
     refine ⟨fun ⟨a, b⟩ => ?_, Mem.at_lt hx⟩
     have := (Dm c3 (i := k - nm) (by show k - nm < nw; omega)).2
     rw [show nm + (k - nm) = k by omega, hx] at this
     cases this
    have hadal : ∀ k, al m k -> ad k = ad' k := fun k hk => by
     obtain ⟨a, b⟩ := hfree k hk
     have c4' := c4
     simp only [ad', if_neg a, if_neg (show ¬ 1000000000 <= k by omega)]
    have hnmal : ∀ j n, srcs[j]? = some (Src.nm n) -> hs j = ad n := fun j n hj => by rw [<- hhs]; simp only [hj]; rfl
    have newlt : ∀ t, t < nw -> nm + t < m.length := fun t ht => (Dm c3 ht).1
    have nmal : ∀ j n, srcs[j]? = some (Src.nm n) -> al m n := fun j n hj => CN e.ps [] args _ hget n (List.mem_of_getElem? hj)
    have hadnv : ∀ j, ad' (nvC srcs e.nn nm nw j) = hs' j := fun j => by
     unfold nvC
     by_cases hj : j < e.nn
     ·rw [if_pos hj]
      split
      ·rename_i n hn
       rw [<- hadal n (nmal j n hn), <- hnmal j n hn, q1 j hj]
      ·have hnl : nm + nw <= m.length \/ nw = 0 := by
        by_cases hz : nw = 0
        ·exact Or.inr hz
        ·exact Or.inl (by have := newlt (nw - 1) (by omega); omega)
       simp only [ad']
       rw [if_neg (by omega), if_pos (by omega), show 1000000000 + j - 1000000000 = j by omega]
     ·rw [if_neg hj]
      by_cases hw : j - e.nn < nw
      ·rw [if_pos hw]
       simp only [ad']
       rw [if_pos (by omega)]
       congr 1; omega
      ·rw [if_neg hw]
       have hnl : nm + nw <= m.length \/ nw = 0 := by
        by_cases hz : nw = 0
        ·exact Or.inr hz
        ·exact Or.inl (by have := newlt (nw - 1) (by omega); omega)
       simp only [ad']
       rw [if_neg (by omega), if_pos (by omega), show 1000000000 + j - 1000000000 = j by omega]
    have htr : ∀ B, Tr B l.F F0 ρ (env (xs ++ ys)) ad' hs' (evC es (outV e.key nm es e.oks)) (varE (e.pks ++ e.oks)) (nvC srcs e.nn nm nw) id := fun B => by
     have hkk : (outV e.key nm es e.oks).map E.kind = e.oks := Ja _ _ _ _
     have hol := J7 e.key nm es e.oks
     refine ⟨hB, BO, fun i => ?_, fun i => ?_, fun j _ => hadnv j⟩
     ·rw [Ha hall, List.length_append, E4, hxl]
      unfold evC
      rw [hel, show e.pks.length = e.np from rfl]
      by_cases hi : i < e.np
      ·rw [if_pos hi, if_pos (by omega), if_pos hi, hxs]
       simp [List.getD, show i < es.length by omega]
      ·rw [if_neg hi, if_neg hi]
       by_cases hi2 : i - e.np < e.oks.length
       ·rw [if_pos (by omega), <- hod]
        simp [List.getD, show i - e.np < (outV e.key nm es e.oks).length by omega]
       ·rw [if_neg (by omega)]
        simp [List.getD, List.getElem?_eq_none (show (outV e.key nm es e.oks).length <= i - e.np by omega), b2i]
     ·unfold evC varE
      rw [hel]
      by_cases hi : i < e.np
      ·rw [if_pos hi, List.getElem?_append_left (by exact hi)]
       have : (es.map E.kind)[i]? = e.pks[i]? := by rw [k1]; rfl
       rw [List.getElem?_map, List.getElem?_eq_getElem (show i < es.length by omega)] at this
       simp only [Option.map_some] at this
       rw [<- this]
       simp [List.getD, show i < es.length by omega, E.kind]
      ·rw [if_neg hi, List.getElem?_append_right (by rw [show e.pks.length = e.np from rfl]; omega), show e.pks.length = e.np from rfl]
       by_cases hi2 : i - e.np < e.oks.length
       ·have : ((outV e.key nm es e.oks).map E.kind)[i - e.np]? = e.oks[i - e.np]? := by rw [hkk]
        rw [List.getElem?_map, List.getElem?_eq_getElem (show i - e.np < (outV e.key nm es e.oks).length by omega)] at this
        simp only [Option.map_some] at this
        rw [<- this]
        simp [List.getD, show i - e.np < (outV e.key nm es e.oks).length by omega, E.kind]
       ·rw [List.getElem?_eq_none (by omega)]
        simp [List.getD, List.getElem?_eq_none (show (outV e.key nm es e.oks).length <= i - e.np by omega)]
    have hkev : ∀ i k, (Sh.ksL e.outL)[i]? = some k -> (evC es (outV e.key nm es e.oks) (e.np + i)).kind = k := fun i k hi => by
     have hkk : (outV e.key nm es e.oks).map E.kind = e.oks := Ja _ _ _ _
     have hil : i < e.oks.length := (List.getElem?_eq_some_iff.1 hi).1
     have hol := J7 e.key nm es e.oks
     unfold evC
     rw [hel, if_neg (by omega), show e.np + i - e.np = i by omega]
     have : ((outV e.key nm es e.oks).map E.kind)[i]? = some k := by rw [hkk]; exact hi
     rw [List.getElem?_map, List.getElem?_eq_getElem (show i < (outV e.key nm es e.oks).length by omega)] at this
     simp only [Option.map_some, oJ] at this
     simp [List.getD, show i < (outV e.key nm es e.oks).length by omega, this]
    have hrefs : ∀ j ∈ Sh.refsL e.outL, MK srcs j = true /\ j < e.nn := fun j hj => by
     have := List.all_eq_true.1 c9 j hj
     simpa using this
    obtain ⟨t1, t2⟩ := B7 (htr (e.nn + nw)) e.outL (mkB true) (mkB true) e.np e.nn (Ag _) (Ag _) (by simp) hkev (Nat.le_refl _) (fun j hj => by have := (hrefs j hj).2; omega)
    change SV.concL l.F ρ ad' _ = SV.concL F0 (env (xs ++ ys)) hs' e.ogen.1 at t1
    change SameL l.F F0 ρ (env (xs ++ ys)) ad' hs' (nvC srcs e.nn nm nw) id _ e.ogen.2 at t2
    have hisx : (Sh.genL (evC es (outV e.key nm es e.oks)) (nvC srcs e.nn nm nw) e.outL (mkB true) e.np e.nn).1.map isXv = e.ogen.1.map isXv := J9 (htr 0).kd e.outL _ _ _ _
    generalize hgen : Sh.genL (evC es (outV e.key nm es e.oks)) (nvC srcs e.nn nm (Sh.nnL e.outL)) e.outL (mkB true) e.np e.nn = gen at hsets t1 t2 hisx ⊢
    have hgo : ∀ p : Nat -> Prop, (∀ j, e.nn <= j -> j < e.nn + nw -> p (nvC srcs e.nn nm nw j)) -> (∀ j ∈ Sh.refsL e.outL, p (nvC srcs e.nn nm nw j)) -> SV.okL p gen.1 /\ ∀ x ∈ gen.2, (e.nn <= x.1 /\ x.1 < e.nn + nw) /\ SV.okL p x.2.2.cs := fun p a b => by
     rw [<- hgen]; exact BB _ _ _ _ a b
    have hgh : ∀ j, e.nn <= j -> j < e.nn + nw -> ∃ x ∈ gen.2, x.1 = j := fun j a b => by rw [<- hgen]; exact BZ _ _ _ _ j a b
    have hnew : ∀ j, e.nn <= j -> j < e.nn + nw -> nvC srcs e.nn nm nw j = nm + (j - e.nn) /\ nm + (j - e.nn) < m.length := fun j a b => by
     refine ⟨?_, newlt _ (by omega)⟩
     unfold nvC
     rw [if_neg (by omega), if_pos (by omega)]
    have hself := (B7 (Tr.params (ys := ys) e.nn hfit q1) e.ps (mkB true) (mkB true) 0 0 (Ag _) (Ag _) (by simp) (fun i k hi => by rw [Nat.zero_add]; exact Da _ _ _ hi) (by rw [Nat.zero_add]; exact Nat.le_refl _) (fun j hj => by have := List.all_eq_true.1 c10 j hj; simpa using this)).2.self
    change ∀ x ∈ e.pgen.2, _ at hself
    have hsrclen : ∀ j s, srcs[j]? = some s -> j < e.nn := fun j s hj => by have := (List.getElem?_eq_some_iff.1 hj).1; rw [k2] at this; exact this
    let dead := ((mutJ e.pgen.2).filter fun j => !e.kp.contains j && !(e.os.any fun o => o.j == j)).flatMap (srcOf srcs)
    have hkeep : ∀ k, al m k -> al (AO (AO (AA m dead) sets) (gen.2.map fun x => (nvC srcs e.nn nm nw x.1, x.2.1, x.2.2))) k := fun k hk => E5 (E5 ((EZ dead m k).2 hk))
    have hnews : ∀ j, e.nn <= j -> j < e.nn + nw -> al (AO (AO (AA m dead) sets) (gen.2.map fun x => (nvC srcs e.nn nm nw x.1, x.2.1, x.2.2))) (nvC srcs e.nn nm nw j) := fun j a b => by
     obtain ⟨x, x1, x2⟩ := hgh j a b
     obtain ⟨r1, r2⟩ := hnew j a b
     have := Jc (l := gen.2.map fun x => (nvC srcs e.nn nm nw x.1, x.2.1, x.2.2)) (m := AO (AA m dead) sets) (y := (nvC srcs e.nn nm nw x.1, x.2.1, x.2.2)) (List.mem_map.2 ⟨x, x1, rfl⟩) (by rw [Bp, Ay, x2]; show nvC srcs e.nn nm nw j < _; rw [r1]; exact r2)
     rwa [x2] at this
    obtain ⟨gok1, gok2⟩ := hgo (al (AO (AO (AA m dead) sets) (gen.2.map fun x => (nvC srcs e.nn nm nw x.1, x.2.1, x.2.2)))) hnews fun j hj => by
     obtain ⟨r1, r2⟩ := hrefs j hj
     unfold MK at r1
     split at r1
     ·rename_i n hn
      have : nvC srcs e.nn nm nw j = n := by unfold nvC; rw [if_pos r2]; simp only [hn]
      rw [this]
      exact hkeep n (nmal j n hn)
     ·cases r1
    let NameIs : Nat -> Nat -> Blk -> Prop := fun j n x => (srcOf srcs j = [n] /\ j < e.nn) \/ (e.nn <= j /\ n = nvC srcs e.nn nm nw j) \/ (n ∈ srcOf srcs j /\ j < e.nn /\ ∃ g, m.at n = some (g, x) /\ g.tt l.F ρ = true)
    have hIm : ∀ b, Im b -> Im' b /\ w'.heap[b]? = w.heap[b]? := fun b hb => ⟨q2 b hb, q5.fr.block b (hI.im b hb) fun t => (hM1b b t).2.1 hb⟩
    have cls : ∀ n g x, (AO (AO (AA m dead) sets) (gen.2.map fun x => (nvC srcs e.nn nm nw x.1, x.2.1, x.2.2))).at n = some (g, x) -> g.tt l.F ρ = true ->
     ((∃ g', m.at n = some (g', x) /\ g'.tt l.F ρ = true) /\ ∀ b, mutB l.F ρ ad n x = some b -> ¬ M1 b /\ ¬ Im' b) \/
     (∃ z ∈ e.oents, z.2.1.tt F0 (env (xs ++ ys)) = true /\ NameIs z.1 n x /\ mutB l.F ρ ad' n x = mutB F0 (env (xs ++ ys)) hs' z.1 z.2.2 /\ BlkOK l.F ρ Im' ad' n w' x) \/ x = .dead := by
     intro n g x hn hg'
     rcases Db hn with hn | ⟨hn1, hn⟩ | ⟨y, hy, hy1, hy2⟩
     ·obtain ⟨y, hy, he'⟩ := List.mem_map.1 hn
      simp only [pJ] at he'
      obtain ⟨rfl, rfl, rfl⟩ := he'
      obtain ⟨z, hz, hs⟩ := t2.mem y hy
      right; left
      have hzo : z ∈ e.oents := by unfold Ent.oents; exact List.mem_append_right _ (List.mem_append_right _ hz)
      have hzg : z.2.1.tt F0 (env (xs ++ ys)) = true := by rw [<- hs.gd]; exact hg'
      have hb1 := (q5.ent z hzo hzg).1
      exact ⟨z, hzo, hzg, Or.inr (Or.inl ⟨by rw [<- hs.nm]; exact (gok2 y hy).1.1, by rw [<- hs.nm]⟩), hs.mu, (hs.ok Im' w').2 hb1⟩
     ·rcases Db hn with hn | ⟨hn2, hn⟩ | ⟨y, hy, hy1, hy2⟩
      ·obtain ⟨j, b0, X, s1, s2, ⟨s4, s4'⟩, s5⟩ := BL hsets _ hn
       simp only at s1 s4' s5
       obtain ⟨ty, tl, vs', us', hX, u1, u2, u3⟩ := FX (F1 := l.F) (F2 := F0) (ρ1 := ρ) (ρ2 := env (xs ++ ys)) (ad1 := ad') (ad2 := hs') t1 hisx j X s4
       have hnr := Blk.nrm_same (CM hgl _ hn) ad' n
       simp only at hnr
       right; left
       have hzo : (j, mkB true, mkO ty tl us') ∈ e.oents := by unfold Ent.oents; exact List.mem_append_left _ u1
       have hjn := hsrclen j _ s1
       have hadn : ad' n = hs' j := by rw [<- hadal n (Mem.at_al s5), <- hnmal j n s1, q1 j hjn]
       have hb1 := (q5.ent _ hzo (by simp)).1
       obtain ⟨v1, v2⟩ := J6 (n := n) (j := j) (ty := ty) (tl := tl) hB BO u2 u3 hadn
       rw [<- hX, s4'] at v1 v2
       exact ⟨_, hzo, by simp, Or.inl ⟨by simp [srcOf, s1, Src.ns], hjn⟩, hnr.1.symm.trans v1, (hnr.2 Im' w').1 ((v2 Im' w').2 hb1)⟩
      ·rcases E0 hn with hd | ⟨hn3, hn4⟩
       ·exact Or.inr (Or.inr hd)
       ·cases hmb : mutB l.F ρ ad n x with
        | none => exact Or.inl ⟨⟨g, hn3, hg'⟩, fun b hb => by cases hb⟩
        | some b =>
          obtain ⟨hx1, hx2⟩ := hI.ent n g x hn3 hg'
          by_cases hb1 : M1 b
          ·have hb1' := hb1
           rw [hM1] at hb1'
           obtain ⟨y, hy, hyg, hyb⟩ := hb1'
           have hEnt := p2 y hy hyg
           obtain ⟨n', n1, g1, y1, a1, a2, a3⟩ := hEnt.mu b hyb
           have hnn := hI.inj n' n g1 y1 g x b a1 a2 hn3 hg' a3 hmb
           subst hnn
           have hyj := DL hy hyb
           have hkp : e.kp.contains y.1 = true := by
            cases hkc : e.kp.contains y.1 with
            | true => rfl
            | false =>
              exfalso
              by_cases hos : (e.os.any fun o => o.j == y.1) = true
              ·obtain ⟨o, ho1, ho2⟩ := List.any_eq_true.1 hos
               have hoj : o.j = y.1 := by simpa using ho2
               obtain ⟨n'', b1, yy, b2, b3⟩ := HI hsets y.1 (List.mem_map.2 ⟨o, ho1, hoj⟩)
               have : srcOf srcs y.1 = [n''] := by simp [srcOf, b1, Src.ns]
               rw [this] at n1
               simp only [List.mem_singleton] at n1
               subst n1
               exact hn2 yy b2 b3
              ·refine hn4 (List.mem_flatMap.2 ⟨y.1, List.mem_filter.2 ⟨hyj, ?_⟩, n1⟩)
               rw [hkc]
               simp only [Bool.not_false, Bool.true_and, Bool.not_eq_true', Bool.not_eq_true] at hos ⊢
               exact hos
           have hyo : y ∈ e.oents := by unfold Ent.oents MI; exact List.mem_append_right _ (List.mem_append_left _ (List.mem_filter.2 ⟨hy, hkp⟩))
           have hse := hself y hy
           have hyg' : y.2.1.tt F0 (env (xs ++ ys)) = true := by rw [<- hse.gd]; exact hyg
           obtain ⟨r1, r2⟩ := q5.ent y hyo hyg'
           have r1' := (hse.ok Im' w').2 r1
           have hk1 := List.all_eq_true.1 c2 y.1 (by simpa using hkp)
           have hadn : ad' n' = ad n' := (hadal n' (Mem.at_al hn3)).symm
           right; left
           have hmu : mutB l.F ρ ad' n' x = mutB F0 (env (xs ++ ys)) hs' y.1 y.2.2 := by
            rw [AN hadn, hmb]
            have := hse.mu
            simp only [id] at this
            rw [<- this, hyb]
           split at hk1
           ·rename_i n0 hn0
            have hso : srcOf srcs y.1 = [n0] := by simp [srcOf, hn0, Src.ns, dd]
            rw [hso] at n1
            simp only [List.mem_singleton] at n1
            subst n1
            refine ⟨y, hyo, hyg', Or.inl ⟨hso, hsrclen _ _ hn0⟩, hmu, ?_⟩
            have e1 := hEnt.ok
            have hsame : w'.heap[b]? = w.heap[b]? := by
             rcases hEnt.nm n' hn0 with ⟨ty, cs, hc⟩ | ⟨ty, cs, ks, c, hc⟩ | ⟨ty, row, le, c, _, _, _, hc, _⟩
             ·rw [hc] at e1 r1' hyb
              simp only [BlkOK, id] at e1 r1'
              simp only [mutB, oJ] at hyb
              rw [hyb] at e1 r1'
              rw [e1, r1']
             ·rw [hc] at e1 r1' hyb
              simp only [BlkOK, id] at e1 r1'
              simp only [mutB, oJ] at hyb
              rw [hyb] at e1 r1'
              rw [e1.2.2, r1'.2.2]
             ·exfalso
              have hno := List.all_eq_true.1 c2' y hy
              simp only [hc, hn0, hkp] at hno
              cases hno
            refine hx1.fr hIm (fun b' hb' => ?_) hadn ?_
            ·rw [hmb] at hb'
             simp only [oJ] at hb'
             subst hb'
             exact hsame
            ·exact (SV.concL_congr hadal x.cs (hI.ok n' g x hn3)).symm
           ·rename_i ty row v0 V hn0
            obtain ⟨own, le, c, v1, v2, v3, v4, v5, v6⟩ := hEnt.vw ty row v0 V hn0
            cases own with
            | false => rw [v1] at hyb; simp [mutB] at hyb
            | true =>
              have e1 := hEnt.ok
              rw [v1] at hyb r1' e1
              obtain ⟨k1, k2, k3⟩ := e1
              have hvb : (v0.conc l.F ρ ad).ownBlock = some b := by
               rw [v4, <- v3]
               simp only [mutB, k2, Int.toNat_natCast, id] at hyb
               exact hyb
              obtain ⟨n0, z0, g0, le0, c0, z1, z2, z3, z4⟩ := FY v2 (v6 rfl) v5 b hvb
              have hnn0 := hI.inj n0 n' g0 _ g x b z1 z2 hn3 hg' (by simp only [mutB]; rw [<- z4]; exact hvb) hmb
              subst hnn0
              rw [hn3] at z1
              simp only [oJ, pJ] at z1
              obtain ⟨rfl, rfl⟩ := z1
              refine ⟨y, hyo, hyg', Or.inr (Or.inr ⟨n1, hsrclen _ _ hn0, g, hn3, hg'⟩), hmu, ?_⟩
              obtain ⟨u1, u2, u3⟩ := r1'
              simp only [cond_true, id] at u3
              obtain ⟨x1, x2, x3⟩ := hx1
              refine ⟨x1, x2, ?_⟩
              simp only [cond_true]
              rw [v3, <- z3] at u3
              refine u3.hd ?_
              have hle0 : (le0.den l.F ρ).toNat = (dc (c0.den l.F ρ)).length := by rw [x2]; simp
              rw [hadn, <- hle0, <- z4, v4, hle0, z3]
           ·rename_i n0 hn0
            have hso : srcOf srcs y.1 = [n0] := by simp [srcOf, hn0, Src.ns, dd]
            rw [hso] at n1
            simp only [List.mem_singleton] at n1
            subst n1
            obtain ⟨ks, vs, kag, vag, c, g2, c', m1, m2, m3⟩ := hEnt.mp _ hn0
            rw [hn3] at m2
            simp only [oJ, pJ] at m2
            obtain ⟨rfl, rfl⟩ := m2
            refine ⟨y, hyo, hyg', Or.inl ⟨hso, hsrclen _ _ hn0⟩, hmu, ?_⟩
            have e1 := hEnt.mu
            rw [m1] at r1' hyb
            simp only [BlkOK, id, m3] at r1'
            simp only [mutB, oJ] at hyb hmb
            rw [hyb, <- hmb] at r1'
            simp only [BlkOK, hadn]
            exact r1'
           ·rename_i v0 ns0 hn0
            obtain ⟨ks, vs, kag, vag, c, n0, g0, c', m1, m2, m3, m4, m5⟩ := hEnt.mv _ _ hn0
            rw [m1] at r1' hyb
            simp only [mutB, oJ, id] at hyb
            have hnn0 := hI.inj n0 n' g0 _ g x b m2 m3 hn3 hg' (by simp only [mutB]; rw [<- m5, hyb]) hmb
            subst hnn0
            rw [hn3] at m2
            simp only [oJ, pJ] at m2
            obtain ⟨rfl, rfl⟩ := m2
            refine ⟨y, hyo, hyg', Or.inr (Or.inr ⟨n1, hsrclen _ _ hn0, g, hn3, hg'⟩), hmu, ?_⟩
            simp only [BlkOK, id, m4] at r1'
            simp only [mutB, oJ] at hmb
            rw [hyb, <- hmb] at r1'
            simp only [BlkOK, hadn]
            exact r1'
           ·cases hk1
          ·refine Or.inl ⟨⟨g, hn3, hg'⟩, fun b' hb' => ?_⟩
           simp only [oJ] at hb'
           subst hb'
           refine ⟨hb1, fun hi => ?_⟩
           obtain ⟨_, f2, f3⟩ := hx2 b hmb
           rcases q3 b hi with h | h | h
           ·exact f2 h
           ·exact hb1 h
           ·omega
      ·exfalso
       obtain ⟨j, b0, X, s1, s2, s4, s5⟩ := BL hsets y hy
       have := Mem.at_lt s5
       rw [Ay] at hy2
       omega
     ·exfalso
      obtain ⟨z, hz, he'⟩ := List.mem_map.1 hy
      obtain ⟨⟨a, b⟩, _⟩ := gok2 z hz
      obtain ⟨r1, r2⟩ := hnew z.1 a b
      rw [Bp, Ay] at hy2
      rw [<- he'] at hy1
      simp only at hy1
      omega
    have hmz : ∀ z ∈ e.oents, z.2.1.tt F0 (env (xs ++ ys)) = true -> ∀ b, mutB F0 (env (xs ++ ys)) hs' z.1 z.2.2 = some b -> ((M0 b \/ w0.heap.size <= b) /\ ¬ Im' b /\ b < w'.heap.size) /\ (M1 b \/ w.heap.size <= b) := fun z hz hzg b hb => by
     obtain ⟨r1, r2, r3⟩ := (q5.ent z hz hzg).2 b hb
     refine ⟨⟨?_, r2, r3⟩, r1⟩
     rcases r1 with r1 | r1
     ·exact (hM1b b r1).1
     ·have := hI.fr.size; exact Or.inr (by omega)
    refine ⟨ad', ?_, ⟨hM, Im', fun b hb => q2 b (h1 b hb), fun b hb => ?_, ?_⟩, ⟨hadal, hkeep⟩, QZ gok1⟩
    ·exact HJ t1
    ·rcases q3 b hb with h | h | h
     ·exact h2 b h
     ·rcases (hM1b b h).1 with h | h
      ·exact Or.inr (Or.inl h)
      ·exact Or.inr (Or.inr h)
     ·have := hI.fr.size; exact Or.inr (Or.inr (by omega))
    ·refine hI.step q5.fr (fun b _ hb => ⟨(hM1b b hb).1, (hM1b b hb).2.1⟩) q2 q5.im hadal hkeep (fun n g x hn hg' => ?_) (fun n g x hn => ?_) (fun n k g x g' y b a1 a2 a3 a4 a5 a6 a7 => ?_)
     ·rcases cls n g x hn hg' with h | ⟨z, z1, z2, z3, z4, z5⟩ | rfl
      ·exact Or.inl h
      ·exact Or.inr ⟨z5, fun b hb => hmz z z1 z2 b (by rw [<- z4]; exact hb)⟩
      ·exact Or.inr ⟨trivial, fun b hb => by simp [mutB] at hb⟩
     ·rcases Db hn with hn | ⟨_, hn⟩ | ⟨y, hy, hy1, hy2⟩
      ·obtain ⟨y, hy, he'⟩ := List.mem_map.1 hn
       simp only [pJ] at he'
       rw [<- he'.2.2]; exact (gok2 y hy).2
      ·rcases Db hn with hn | ⟨_, hn⟩ | ⟨y, hy, hy1, hy2⟩
       ·obtain ⟨j, b0, X, s1, s2, s4, s5⟩ := BL hsets _ hn
        have hok := Sw gok1 _ s4.1
        simp only [s4.2, Blk.nrm_cs] at hok
        exact hok
       ·rcases E0 hn with hd | ⟨hn3, _⟩
        ·rw [hd]; trivial
        ·exact SV.okL_mono hkeep _ (hI.ok n g x hn3)
       ·exfalso
        obtain ⟨j, b0, X, s1, s2, s4, s5⟩ := BL hsets y hy
        have := Mem.at_lt s5
        rw [Ay] at hy2
        omega
      ·exfalso
       obtain ⟨z, hz, he'⟩ := List.mem_map.1 hy
       obtain ⟨⟨a, b⟩, _⟩ := gok2 z hz
       obtain ⟨r1, r2⟩ := hnew z.1 a b
       rw [Bp, Ay] at hy2
       rw [<- he'] at hy1
       simp only at hy1
       have r1' : nvC srcs e.nn nm (Sh.nnL e.outL) z.1 = nm + (z.1 - e.nn) := r1
       omega
     ·have up : ∀ n g x, (AO (AO (AA m dead) sets) (gen.2.map fun x => (nvC srcs e.nn nm nw x.1, x.2.1, x.2.2))).at n = some (g, x) -> g.tt l.F ρ = true -> mutB l.F ρ ad' n x = some b -> ∃ z ∈ e.oents, z.2.1.tt F0 (env (xs ++ ys)) = true /\ NameIs z.1 n x /\ mutB F0 (env (xs ++ ys)) hs' z.1 z.2.2 = some b := fun n g x hn hg' hb => by
       rcases cls n g x hn hg' with ⟨⟨g', o1, o2⟩, o3⟩ | ⟨z, z1, z2, z3, z4, z5⟩ | rfl
       ·exfalso
        rw [AN (hadal n (Mem.at_al o1)).symm] at hb
        rcases a7 with a7 | a7
        ·exact (o3 b hb).1 a7
        ·have := ((hI.ent n g' x o1 o2).2 b hb).2.2; omega
       ·exact ⟨z, z1, z2, z3, by rw [<- z4]; exact hb⟩
       ·simp [mutB] at hb
      obtain ⟨z, z1, z2, z3, z4⟩ := up n g x a1 a2 a5
      obtain ⟨z', z1', z2', z3', z4'⟩ := up k g' y a3 a4 a6
      have := q5.inj z z1 z' z1' z2 z2' b z4 z4'
      rw [<- this] at z3'
      rcases z3 with ⟨e1, e2⟩ | ⟨e1, e2⟩ | ⟨e1, e2, e3⟩ <;> rcases z3' with ⟨f1, f2⟩ | ⟨f1, f2⟩ | ⟨f1, f2, f3⟩
      ·rw [e1] at f1; simpa using f1
      ·omega
      ·rw [e1] at f1; simp only [List.mem_singleton] at f1; exact f1.symm
      ·omega
      ·rw [e2, f2]
      ·omega
      ·rw [f1] at e1; simpa using e1
      ·omega
      ·obtain ⟨gn, n1, n2⟩ := e3
       obtain ⟨gk, k1, k2⟩ := f3
       exact hI.inj n k gn x gk y b n1 n2 k1 k2 (by rw [<- AN (hadal n (Mem.at_al n1)).symm]; exact a5) (by rw [<- AN (hadal k (Mem.at_al k1)).symm]; exact a6)
   ·cases h
  ·cases h
 ·cases h
theorem GQ {l : Tabs} {e : Ent} (he : l.get e.key = some e) (hE : EntryOK P G e) (hG : GOK G Im0 w0) (hR : Rel l.F ρ w0 M0 Im0 ad m w) {nm : Nat} {args : List SV} {g : E} {v : SV}
 (h : Cn e m nm args = some (g, v, m')) : g.kind = .b /\ (g.tt l.F ρ = true -> Calls P e.f (SV.concL l.F ρ ad args).toArray w fun en w' => ∃ ad', en = .returned (v.conc l.F ρ ad') /\ Rel l.F ρ w0 M0 Im0 ad' m' w' /\ Ext ad ad' m m' /\ v.ok (al m')) := by
 obtain ⟨h1, h2⟩ := HK he hG hR h
 refine ⟨h1, fun ht => ?_⟩
 obtain ⟨xs, hs, M1, Im, a1, a2, a3, a4, a5, a6, a7⟩ := h2 ht
 rw [a3]
 refine (hE xs a1 a2 w M1 Im hs a4 a5 a6).mono ?_
 rintro en w' ⟨hs', Im', q1, q2, q3, rfl, q5⟩
 obtain ⟨ad', r1, r2, r3, r4⟩ := a7 w' hs' Im' q1 q2 q3 q5
 exact ⟨ad', by rw [r1], r2, r3, r4⟩
end
end Go.Proofs.YtgpflpbldeflhaaDoor.Ew

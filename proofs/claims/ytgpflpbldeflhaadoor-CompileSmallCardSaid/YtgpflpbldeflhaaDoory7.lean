/- Texts that the claim needs, set narrow. -/
import Derived.Test.YtgpflpbldeflhaaDoory6
import Derived.Shelf.RegionOpenPlain
import Derived.Deep.LoopGhost
import Derived.Deep.Draws
import Derived.Lib.Walk
import Derived.Sort.WalkB12
import Derived.Sort.EncStr
import Derived.Lib.SliceRun
import Derived.Lib.SlicesS
import Derived.Lib.SlicesCompact
set_option linter.unusedVariables false
set_option linter.unusedSimpArgs false
set_option maxHeartbeats 8000000
namespace Go.Proofs.YtgpflpbldeflhaaDoor.Ew.Sr
open Go Go.RowKit
noncomputable section
theorem Ik : ∀ n, ∃ f0, EntryOK Tryd.prog G0 (e89n n f0) /\ PostOK (e89n n f0) Bq
 | 0 => ⟨z0, fun xs hf hp => absurd hp.2 (Nat.not_lt_zero _), fun xs hf hp => absurd hp.2 (Nat.not_lt_zero _)⟩
 | n + 1 => by
   obtain ⟨f0, h⟩ := Ik n
   obtain ⟨h1, h2⟩ := ok89s h
   exact ⟨(e89s n f0).fn, h1, h2⟩
def f89 (j : Nat) (xs : List Int) : Int := (Ik (mu89 xs + 1)).choose j xs
def e89 : Ent := ⟨89, 89, [Dt, i64, i64, i64], [dO], [], .tup [], f89, pre89⟩
theorem ok89 : EPz e89 Bq := by
 have ho : ∀ xs, Al e89.fn xs 0 e89.oks = Al (Ik (mu89 xs + 1)).choose xs 0 e89.oks := fun xs => C6 fun j => rfl
 refine ⟨fun xs hf hp => ?_, fun xs hf hp => ?_⟩
 ·have h := (Ik (mu89 xs + 1)).choose_spec.1 xs hf ⟨hp, Nat.lt_succ_self _⟩
  rw [ho xs]
  exact h
 ·have h := (Ik (mu89 xs + 1)).choose_spec.2 xs hf ⟨hp, Nat.lt_succ_self _⟩
  rw [ho xs]
  exact h
def c84 : Ctx := ⟨[e89, e90], []⟩
def pre84 (xs : List Int) : Prop := LN (env xs 0)
def srt (c : Int) : RL := ((vl c).mergeSort fun x y => decide (x <= y)).map fun z => [z]
def Pj (xs ys : List Int) : Prop := RO kU (env ys 0) /\ dc (env ys 0) = srt (env xs 0)
def b84 : Ent := ⟨84, 84, [Dt], [dO], [], .tup [], z0, pre84⟩
def e84 : Ent := b84.fw (fnG Tryd.prog G0 b84 Pj)
theorem c84ok : c84.OK Tryd.prog G0 := ⟨rfl, mF ⟨ok89.1, ok90, trivial⟩, mF trivial⟩
theorem ok84 : EPz e84 Pj := by
 refine c84ok.entryK false [(89, e89), (90, e90)] ?_
 go_invoke
 refine enK rfl ?_
 intro l ρ D hp hSS _
 replace hp : LN D := hp
 have p0 := hp.2
 obtain ⟨n, hn⟩ : ∃ n, ((dc D).length : Int) = n := ⟨_, rfl⟩
 have w1 : IntKind.i64.wrap n = n := i64w (by omega) (by omega)
 have w2 : IntKind.u64.wrap n = n := u64w (by omega) (by omega)
 have hb := Lib.bitLen_le n.toNat 20 (by omega) (by omega)
 have y9 : IntKind.i64.wrap (e90.fn 0 [n]) = ((Lib.bitLen n.toNat : Nat) : Int) := by
  show IntKind.i64.wrap ((Lib.bitLen n.toNat : Nat) : Int) = _
  exact i64w (by omega) (by omega)
 obtain ⟨m, hm⟩ : ∃ m, ((Lib.bitLen n.toNat : Nat) : Int) = m := ⟨_, rfl⟩
 rw [hm] at y9
 have y0 : e89.pre [D, 0, n, m] := ⟨⟨hp, Int.le_refl _, by show 0 <= n; omega, by show n <= ((dc D).length : Int); omega⟩, fun h => absurd h (Nat.lt_irrefl 0), by show 0 <= m; omega, by show m <= 100; omega⟩
 have z := ok89.2 [D, 0, n, m] ⟨rfl, rfl, w1, i64w (by omega) (by omega), trivial⟩ y0
 obtain ⟨u, hu⟩ : ∃ u, e89.fn 0 [D, 0, n, m] = u := ⟨_, rfl⟩
 have z : St D u 0 n /\ So (vl u) (0 : Int).toNat n.toNat := by rw [<- hu]; exact z
 have zl := z.1.len
 have e1 : dc u = srt D := by
  rw [z.1.1.rows]
  unfold srt
  rw [So.sort z.1.2.pm (by rw [Au, zl]; have := z.2; rwa [show n.toNat = (dc D).length by omega] at this)]
 refine ⟨?_, ?_⟩
 ·simp (disch := omega) only [ewZ, reduceCtorEq, seval, hSS, hn, w1, w2, y9, hu, zl]
  exact ⟨trivial, y0⟩
 ·simp (disch := omega) only [ewZ, reduceCtorEq, seval, hSS, hn, w1, w2, y9, hu]
  exact ⟨z.1.1, e1⟩
end
end Go.Proofs.YtgpflpbldeflhaaDoor.Ew.Sr
namespace Go.Proofs.YtgpflpbldeflhaaDoor.Ew.Sr
open Go Go.RowKit Go.Lib Go.Sort Go.Proofs
abbrev encU : Int -> Value := fun x => Value.int .u32 x
theorem SI {w wr : World} {n blk off : Nat} {dk : Array Int} {i : Nat} (hi : i < dk.size) (hwr : wr = putRow encU (Sort.ahead w n) blk off dk) (x : Int) :
 (wr.setCell ⟨blk, off + i, none⟩ (encU x)).drew = putRow encU (Sort.ahead w (n + 1)) blk off (dk.setIfInBounds i x) := by
 subst hwr
 rw [putRow_set encU _ blk off dk i x hi, <- ahead_drew]
 rfl
set_option maxHeartbeats 4000000 in
set_option maxRecDepth 1000000 in
theorem Lk (blk off cap : Nat) (d : Array Int) (w : World) (hH : Holds encU w blk off d) (hsz : d.size <= 9223372036854775807) (hcap : d.size <= cap) :
 Calls Tryd.prog 85 #[.slice (some ⟨blk, off, none⟩) d.size cap] w fun e w' => e = .returned (.slice (some ⟨blk, off, none⟩) (compactUpTo d d.size).length cap) /\ ∃ q, w' = putRow encU (Sort.ahead w q) blk off (compactUpTo d d.size ++ List.replicate (d.size - (compactUpTo d d.size).length) 0).toArray := by
 have same : ∀ q, (∀ j, j < d.size -> keeps d j = true) -> (compactUpTo d d.size).length = d.size /\ w.drewN q = putRow encU (Sort.ahead w q) blk off (compactUpTo d d.size ++ List.replicate (d.size - (compactUpTo d d.size).length) 0).toArray := by
  intro q hall
  have e : compactUpTo d d.size = d.toList := by rw [compactUpTo_all d _ hall, range_map_get]
  rw [e]
  refine ⟨by simp, ?_⟩
  simp only [Array.length_toList, Nat.sub_self, List.replicate_zero, List.append_nil, Array.toArray_toList]
  exact (putRow_self encU (Sort.ahead w q) blk off d (holds_ahead encU w q blk off d hH)).symm
 have HS : Aside (∀ q, (∀ j, j < d.size -> keeps d j = true) -> (compactUpTo d d.size).length = d.size /\ w.drewN q = putRow encU (Sort.ahead w q) blk off (compactUpTo d d.size ++ List.replicate (d.size - (compactUpTo d d.size).length) 0).toArray) := same
 clear same
 by_cases h2 : d.size < 2
 ·have HH : Aside (Holds encU w blk off d) := hH
  clear hH
  go_enter Tryd.func85, Tryd.ntmps85
  go_wp2
  go_ret
  obtain ⟨e1, e2⟩ := HS.out 0 (fun j hj => keeps_lt_one d j (by omega))
  exact ⟨by rw [e1]; rfl, 0, e2⟩
 ·go_enter Tryd.func85, Tryd.ntmps85
  go_wp2
  go_loopg [3] d.size (fun g s3 wr => ∃ k q : Nat, 1 <= k /\ k <= d.size /\ d.size - k <= g /\ s3 = .int .i64 k /\ wr = w.drewN q /\ ∀ j, j < k -> keeps d j = true)
  case atStart => exact ⟨1, 0, Nat.le_refl _, by omega, by omega, rfl, rfl, keeps_lt_one d⟩
  case round =>
   obtain ⟨k, q, hk1, hk, hg, rfl, rfl, hall⟩ := hrel
   by_cases hlt : k < d.size
   ·obtain ⟨c1, f1⟩ := hH k hlt
    obtain ⟨c0, f0⟩ := hH (k - 1) (by omega)
    have A : Aside (∀ j, j < k -> keeps d j = true) := hall
    have HH : Aside (Holds encU w blk off d) := hH
    clear hall hH
    generalize hx : d[k]! = x at c1
    generalize hy : d[k - 1]! = y at c0
    have B : Aside (d[k]! = x /\ d[k - 1]! = y) := ⟨hx, hy⟩
    clear hx hy
    by_cases hdup : x = y
    ·subst hdup
     go_wp2_with fail
     go_region
     go_wp2
     clear c0 c1 f0 f1
     go_loopg [3, 5] d.size (fun g s3 s5 wr => ∃ (kk k2 q2 : Nat) (dk : Array Int), s3 = .int .i64 kk /\ s5 = .int .i64 k2 /\ 1 <= k2 /\ k + k2 <= d.size /\ d.size - (k + k2) <= g /\ wr = putRow encU (Sort.ahead w q2) blk off dk /\ CompInv d (k + k2) kk dk)
     case atStart => exact ⟨k, 1, q + 1, d, rfl, rfl, Nat.le_refl _, by omega, by omega, (putRow_self encU (Sort.ahead w (q + 1)) blk off d (holds_ahead encU w (q + 1) blk off d HH.out)).symm, CompInv.start A.out (keeps_neg (by omega) (by rw [B.out.1, B.out.2]))⟩
     case round =>
      obtain ⟨kk, k2, q2, dk, rfl, rfl, h1, hle, hg2, hwr, hI⟩ := hrel
      have hkk := hI.lt
      have hds := hI.size
      have hHk : Holds encU wr blk off dk := by rw [hwr]; exact holds_putRow encU _ blk off d dk (holds_ahead encU w q2 blk off d HH.out) hds
      have W2 : Aside (wr = putRow encU (Sort.ahead w q2) blk off dk) := hwr
      have I2 : Aside (CompInv d (k + k2) kk dk) := hI
      clear hwr
      by_cases hlt2 : k + k2 < d.size
      ·obtain ⟨cm, _⟩ := hHk (k + k2) (by omega)
       obtain ⟨cp, _⟩ := hHk (k + k2 - 1) (by omega)
       obtain ⟨ck, fk⟩ := hHk kk (by omega)
       rw [hI.high (k + k2) (by omega), show off + (k + k2) = off + k + k2 by omega] at cm
       rw [hI.high (k + k2 - 1) (by omega), show off + (k + k2 - 1) = off + k + (k2 - 1) by omega] at cp
       clear hHk hI
       generalize hu : d[k + k2]! = u at cm
       generalize hv : d[k + k2 - 1]! = v at cp
       generalize dk[kk]! = old at ck
       have C : Aside (d[k + k2]! = u /\ d[k + k2 - 1]! = v) := ⟨hu, hv⟩
       clear hu hv
       by_cases huv : u = v
       ·subst huv
        go_wp2_with fail
        go_region
        go_wp2
        go_roundg (d.size - (k + (k2 + 1)))
        case measure => omega
        case rel => exact ⟨kk, k2 + 1, q2 + 1, dk, rfl, by go_num, by omega, by omega, Nat.le_refl _, by rw [W2.out]; rfl, I2.out.skip (keeps_neg (by omega) (by rw [C.out.1, C.out.2]))⟩
       ·go_wp2_with fail
        go_region
        go_wp2
        go_roundg (d.size - (k + (k2 + 1)))
        case measure => omega
        case rel => exact ⟨kk + 1, k2 + 1, q2 + 1, dk.setIfInBounds kk u, by go_num, by go_num, by omega, by omega, Nat.le_refl _, SI (by omega) W2.out u, by have := I2.out.keep hlt2 (keeps_pos (by rw [C.out.1, C.out.2]; exact huv)); rwa [C.out.1] at this⟩
      ·have hend : k + k2 = d.size := by omega
       have hcl : ∀ ty, (Builtin.clear_ #[77] ty #[.slice (some ⟨blk, off + kk, none⟩) (d.size - kk) (cap - kk)]).run Tryd.prog wr = .ok (.tuple #[]) (wr.setCells blk (off + kk) (List.replicate (d.size - kk) (encU 0))) :=
        fun ty => Lib.run_clear_slice wr _ _ ty _ Tryd.underlying77 Tryd.zeroValue26 rfl rfl blk (off + kk) _ _ (by omega) (fun j hj => by rw [show off + kk + j = off + (kk + j) by omega, (hHk (kk + j) (by omega)).1]; rfl) (fun j hj => by rw [show off + kk + j = off + (kk + j) by omega]; exact (hHk (kk + j) (by omega)).2)
       clear hHk hI
       go_wp2
       go_ret
       have hI := I2.out
       rw [hend] at hI
       refine ⟨by rw [hI.len]; rfl, q2, ?_⟩
       rw [hI.len, <- hI.done 0, <- putRow_setCells encU _ blk off _ dk kk (by simp; omega), <- W2.out, List.map_replicate]
    ·go_wp2_with fail
     go_region
     go_wp2
     go_roundg (d.size - (k + 1))
     case measure => omega
     case rel =>
      refine ⟨k + 1, q + 1, by omega, by omega, Nat.le_refl _, by go_num, rfl, fun j hj => ?_⟩
      by_cases e : j = k
      ·subst e
       exact keeps_pos (by rw [B.out.1, B.out.2]; exact hdup)
      ·exact A.out j (by omega)
   ·have : k = d.size := by omega
    subst this
    have HH : Aside (Holds encU w blk off d) := hH
    clear hH
    go_wp2
    go_ret
    obtain ⟨e1, e2⟩ := HS.out q hall
    exact ⟨by rw [e1]; rfl, q, e2⟩
end Go.Proofs.YtgpflpbldeflhaaDoor.Ew.Sr
set_option maxHeartbeats 4000000
namespace Go.Proofs.YtgpflpbldeflhaaDoor.Ew.Sr
open Go Go.RowKit Go.Lib Go.Sort Go.Proofs
noncomputable section
theorem Q9 {w w' : World} {M0 Im0 : Nat -> Prop} {hs : Nat -> Hd} {ty : Nat} {q : Row} (hM : ∀ b, M0 b -> ¬ Im0 b /\ b < w.heap.size) (hI : ∀ b, Im0 b -> b < w.heap.size) (hf : Fr M0 w w') {nn k : Nat} {ys : List Int} {hd' : Hd}
 (hc : isCd (env ys k)) (ho : OwL w' Im0 ty q hd' (dc (env ys k))) (hb : ∀ b, (hd'.sl (dc (env ys k)).length).ownBlock = some b -> M0 b \/ w.heap.size <= b) :
 RelE F0 (env ys) w M0 Im0 (upd hs nn hd') [(nn, mkB true, .lst ty q true (LEN (.var .x k)) (.var .x k))] w' := by
 have hl : (LEN (.var .x k)).den F0 (env ys) = ((dc (env ys k)).length : Int) := by
  rw [BO.len]
  exact A9 ho.1
 have hd : (E.var .x k).den F0 (env ys) = env ys k := rfl
 refine ⟨fun x hx _ => ?_, fun x hx y hy _ _ b _ _ => ?_, fun b hb' => Nat.lt_of_lt_of_le (hI b hb') hf.size, hf⟩
 ·simp only [List.mem_singleton] at hx
  subst hx
  have hm : mutB F0 (env ys) (upd hs nn hd') nn (.lst ty q true (LEN (.var .x k)) (.var .x k)) = (hd'.sl (dc (env ys k)).length).ownBlock := by
   simp only [mutB, Ao, hl, Int.toNat_natCast]
  refine ⟨⟨by rw [hd]; exact hc, by rw [hd]; exact hl, ?_⟩, fun b hb' => ?_⟩
  ·rw [hd]; simp only [cond_true, Ao]; exact ho
  ·rw [hm] at hb'
   refine ⟨hb b hb', fun hi => ?_, (ho.2.choose_spec.1.lt b hb').2⟩
   rcases hb b hb' with h | h
   ·exact (hM b h).1 hi
   ·have := hI b hi; omega
 ·simp only [List.mem_singleton] at hx hy
  subst hx; subst hy; rfl
theorem Ra {w w0 : World} {M0 Im0 : Nat -> Prop} {hs : Nat -> Hd} {ty : Nat} {q : Row} {n k : Nat} {ys : List Int} {l : Ents} (hR : RelE F0 (env ys) w0 M0 Im0 hs l w) (hm : (n, mkB true, .lst ty q true (LEN (.var .x k)) (.var .x k)) ∈ l) :
 isCd (env ys k) /\ OwL w Im0 ty q (hs n) (dc (env ys k)) /\ (∀ b, ((hs n).sl (dc (env ys k)).length).ownBlock = some b -> M0 b \/ w0.heap.size <= b) /\
 SV.conc F0 (env ys) hs (.ls n (LEN (.var .x k))) = (hs n).sl (dc (env ys k)).length /\ mutB F0 (env ys) hs n (.lst ty q true (LEN (.var .x k)) (.var .x k)) = ((hs n).sl (dc (env ys k)).length).ownBlock := by
 obtain ⟨h1, h2⟩ := hR.ent _ hm (by simp)
 obtain ⟨a1, a2, a3⟩ := h1
 have hd : (E.var .x k).den F0 (env ys) = env ys k := rfl
 rw [hd] at a1 a2 a3
 simp only [cond_true] at a3
 have hm : mutB F0 (env ys) hs n (.lst ty q true (LEN (.var .x k)) (.var .x k)) = ((hs n).sl (dc (env ys k)).length).ownBlock := by simp only [mutB, a2, Int.toNat_natCast]
 refine ⟨a1, a3, fun b hb => (h2 b (by rw [hm]; exact hb)).1, by simp only [SV.conc, a2, Int.toNat_natCast], hm⟩
theorem LP {w : World} {Im : Nat -> Prop} : ∀ {l : RL} {xs : List Value}, RowsV w Im uR l xs -> xs = (l.map fun r => r.headD 0).map encU /\ ∀ z ∈ l.map fun r => r.headD 0, IntKind.u32.wrap z = z
 | [], xs, h => by simp only [RowsV] at h; subst h; exact ⟨rfl, fun z hz => by cases hz⟩
 | r :: l, xs, h => by
   obtain ⟨us, ys, rfl, h2, h3⟩ := h
   obtain ⟨i1, i2⟩ := LP h3
   obtain ⟨z, zs', vs', rfl, rfl, hz, h4⟩ := h2
   obtain ⟨rfl, rfl⟩ := h4
   refine ⟨?_, fun y hy => ?_⟩
   ·rw [i1]; rfl
   ·simp only [List.map_cons, List.mem_cons, List.headD_cons] at hy
    rcases hy with rfl | hy
    ·exact hz
    ·exact i2 y hy
theorem Ky {w : World} {Im : Nat -> Prop} : ∀ {zs : List Int}, (∀ z ∈ zs, IntKind.u32.wrap z = z) -> RowsV w Im uR (zs.map fun z => [z]) (zs.map encU)
 | [], _ => rfl
 | z :: zs, h => ⟨[.int .u32 z], zs.map encU, rfl, ⟨z, [], [], rfl, rfl, h z (by simp), rfl, rfl⟩, Ky fun y hy => h y (List.mem_cons_of_mem _ hy)⟩
theorem SJ {w : World} {g : Nat} {cur : Array Value} {e : TypeId} {ss : List Int} (hb : w.heap[g]? = some (.cells cur e (0, 0))) (ht : cur.toList.take ss.length = ss.map encU) : Holds encU w g 0 ss.toArray := by
 intro j hj
 have hj' : j < ss.length := by simpa using hj
 refine ⟨?_, by simp [World.frozen?, hb]⟩
 have h1 : (cur.toList.take ss.length)[j]? = (ss.map encU)[j]? := by rw [ht]
 rw [List.getElem?_take_of_lt hj'] at h1
 simp only [World.cell?, hb, Nat.zero_add]
 simp only [Option.isSome_none, Bool.false_eq_true, if_false]
 rw [<- Array.getElem?_toList, h1]
 simp [hj']
theorem Tz {w : World} {g n : Nat} {cur : Array Value} {e : TypeId} {fr : Nat × Nat} (d : Array Int) (hb : w.heap[g]? = some (.cells cur e fr)) :
 (putRow encU (Sort.ahead w n) g 0 d).heap[g]? = some (.cells (putCells encU 0 d cur) e fr) := by
 simp [putRow, mapBlock, Sort.ahead, Array.getElem?_modify, hb, onCells]
theorem SK {w : World} {g n : Nat} (d : Array Int) : w.grownBy (putRow encU (Sort.ahead w n) g 0 d) (some g) := by
 refine ⟨rfl, rfl, rfl, by simp, fun k hk hne => ?_⟩
 have : g ≠ k := fun e => hne (by rw [e])
 simp [putRow, mapBlock, Sort.ahead, Array.getElem?_modify, this]
theorem TA (cur : Array Value) (ts rs : List Int) (h : (ts ++ rs).length <= cur.size) : (putCells encU 0 (ts ++ rs).toArray cur).toList.take ts.length = ts.map encU := by
 rw [List.length_append] at h
 apply List.ext_getElem?
 intro j
 by_cases hj : j < ts.length
 ·rw [List.getElem?_take_of_lt hj, Array.getElem?_toList]
  simp [putCells, hj, show j < cur.size by omega, show j < ts.length + rs.length by omega]
 ·rw [List.getElem?_take_eq_none (by omega), List.getElem?_eq_none (by simp; omega)]
theorem GV (zs : List Int) : (Lib.compact zs).length <= zs.length := by
 unfold Lib.compact compactUpTo
 rw [List.length_map]
 have := List.length_filter_le (keeps zs.toArray) (List.range zs.length)
 rwa [List.length_range] at this
theorem GF (zs : List Int) (j : Nat) (h : j < zs.length) : zs.toArray[j]! = zs[j] := by simp [h]
theorem Eu (zs : List Int) (z : Int) : z ∈ Lib.compact zs ↔ z ∈ zs := by
 unfold Lib.compact compactUpTo
 constructor
 ·intro h
  obtain ⟨j, hj, rfl⟩ := List.mem_map.1 h
  have hj := List.mem_range.1 (List.mem_filter.1 hj).1
  rw [GF zs j hj]; exact List.getElem_mem hj
 ·intro h
  obtain ⟨j, hj, rfl⟩ := List.getElem_of_mem h
  rw [<- GF zs j hj]
  clear h
  induction j with
  | zero => exact List.mem_map.2 ⟨0, List.mem_filter.2 ⟨List.mem_range.2 hj, keeps_lt_one _ 0 (by omega)⟩, rfl⟩
  | succ j ih =>
    by_cases e : zs.toArray[j + 1]! = zs.toArray[j]!
    ·rw [e]; exact ih (by omega)
    ·exact List.mem_map.2 ⟨j + 1, List.mem_filter.2 ⟨List.mem_range.2 hj, keeps_pos e⟩, rfl⟩
theorem Na (zs : List Int) (h : zs.Pairwise fun a b => a <= b) : (Lib.compact zs).Pairwise fun a b => a < b := by
 unfold Lib.compact compactUpTo
 rw [List.pairwise_map]
 have le : ∀ i j, i <= j -> j < zs.length -> zs.toArray[i]! <= zs.toArray[j]! := fun i j hij hj => by
  rw [GF zs j hj, GF zs i (by omega)]
  rcases (show i = j \/ i < j by omega) with rfl | e
  ·exact Int.le_refl _
  ·exact List.pairwise_iff_getElem.1 h i j (by omega) hj e
 refine (List.Pairwise.filter (keeps zs.toArray) (List.pairwise_lt_range (n := zs.length))).imp_of_mem fun {i j} hi hj hij => ?_
 have hj' := List.mem_filter.1 hj
 have hjl := List.mem_range.1 hj'.1
 have hk : j = 0 \/ zs.toArray[j]! ≠ zs.toArray[j - 1]! := by simpa [keeps] using hj'.2
 have h1 := le i (j - 1) (by omega) (by omega)
 have h2 := le (j - 1) j (by omega) hjl
 have h3 := hk.resolve_left (by omega)
 omega
set_option maxRecDepth 1000000 in
theorem Ll (w : World) : Calls Tryd.prog 85 #[.slice none 0 0] w fun e w' => e = .returned (.slice none 0 0) /\ w' = w := by
 go_enter Tryd.func85, Tryd.ntmps85
 go_wp2
 all_goals (go_ret; exact ⟨rfl, rfl⟩)
def cpt (c : Int) : RL := (Lib.compact (vl c)).map fun z => [z]
def A7 (key : Nat) : Ent := ⟨key, 85, [.lst 26 uR true], [], [], .lst 26 uR true, fun _ xs => cd (cpt (env xs 0)), fun _ => True⟩
theorem SL (G : Glob) (key : Nat) : EntryOK Tryd.prog G (A7 key) := by
 intro xs hf hp w M0 Im0 hs hM hG hR
 obtain ⟨a, rfl⟩ : ∃ a, xs = [a] := by
  have h : xs.length = 1 := Ax hf
  exact List.length_eq_one_iff.1 h
 obtain ⟨o1, o2, o3, o4, o5⟩ := Ra (n := 0) (k := 0) hR (List.mem_cons_self ..)
 have e0 : env [a] 0 = a := rfl
 rw [e0] at o1 o2 o3 o4 o5
 obtain ⟨q1, xs', q2, q3⟩ := o2
 obtain ⟨r1, r2⟩ := LP q3
 have r1 : xs' = (vl a).map encU := r1
 have r2 : ∀ z ∈ vl a, IntKind.u32.wrap z = z := r2
 have hln : (vl a).length = (dc a).length := Au a
 have hargs : (SV.concL F0 (env [a]) hs (A7 key).pgen.1).toArray = #[(hs 0).sl (dc a).length] := by
  show #[SV.conc F0 (env [a]) hs (.ls 0 (LEN (.var .x 0)))] = _
  rw [o4]
 rw [hargs]
 obtain ⟨z, hz⟩ : ∃ z, z = cd (cpt a) := ⟨_, rfl⟩
 have hz1 : env ([a] ++ Al (A7 key).fn [a] 0 (A7 key).oks) 1 = z := by rw [hz]; rfl
 have hzd : dc z = cpt a := by rw [hz]; exact Ab _
 have hcl := GV (vl a)
 have hzl : (dc z).length = (Lib.compact (vl a)).length := by rw [hzd]; exact List.length_map ..
 have fin : ∀ (w' : World) (hd' : Hd), Fr (fun b => ((hs 0).sl (dc a).length).ownBlock = some b) w w' -> w'.ownsRow 0 26 1 (hd'.sl (Lib.compact (vl a)).length) (Lib.compact (vl a)).length ((Lib.compact (vl a)).map encU) ->
  (∀ b, (hd'.sl (Lib.compact (vl a)).length).ownBlock = some b -> ((hs 0).sl (dc a).length).ownBlock = some b) ->
  ∃ (hs' : Nat -> Hd) (Im' : Nat -> Prop), (∀ j, j < (A7 key).nn -> hs' j = hs j) /\ (∀ b, Im0 b -> Im' b) /\ (∀ b, Im' b -> Im0 b \/ M0 b \/ w.heap.size <= b) /\
  Ending.returned (hd'.sl (Lib.compact (vl a)).length) = .returned ((AE (A7 key).ogen.1).conc F0 (env ([a] ++ Al (A7 key).fn [a] 0 (A7 key).oks)) hs') /\ RelE F0 (env ([a] ++ Al (A7 key).fn [a] 0 (A7 key).oks)) w M0 Im' hs' (A7 key).oents w' := by
  intro w' hd' hfr hown hbl
  have hT : Fr M0 w w' := ⟨hfr.os, hfr.tape, hfr.output, hfr.size, fun k hk hn => hfr.block k hk fun e => by
   rcases o3 k e with h | h
   ·exact hn h
   ·omega⟩
  have hO : OwL w' Im0 26 uR hd' (dc z) := by
   refine ⟨by rw [hzl]; omega, _, by rw [hzl]; exact hown, ?_⟩
   rw [hzd]
   exact Ky fun y hy => r2 y ((Eu _ _).1 hy)
  refine ⟨upd hs 1 hd', Im0, fun j hj => BW hs hd' (by have : j < 1 := hj; omega), fun _ h => h, fun b h => Or.inl h, ?_, ?_⟩
  ·show _ = Ending.returned (SV.conc F0 _ (upd hs 1 hd') (.ls 1 (LEN (.var .x 1))))
   have : (LEN (.var .x 1)).den F0 (env ([a] ++ Al (A7 key).fn [a] 0 (A7 key).oks)) = ((Lib.compact (vl a)).length : Nat) := by
    rw [BO.len]
    have : (E.var .x 1).den F0 (env ([a] ++ Al (A7 key).fn [a] 0 (A7 key).oks)) = z := hz1
    rw [this, hzl]
    exact A9 (by omega)
   simp only [SV.conc, Ao, this, Int.toNat_natCast]
  ·have := Q9 (hs := hs) (nn := 1) (k := 1) (ys := [a] ++ Al (A7 key).fn [a] 0 (A7 key).oks) hM hR.im hT (hd' := hd') (by rw [hz1, hz]; exact Gq _) (by rw [hz1]; exact hO) (by
    rw [hz1, hzl]
    intro b hb
    exact o3 b (hbl b hb))
   exact this
 rcases q2.2 with ⟨e1, e2⟩ | ⟨g, cap, cur, hv, _, hg, hnc, hcm, hcs, ht⟩
 ·have hl0 : (dc a).length = 0 := e2
  have e3 : (hs 0).sl (dc a).length = .slice none 0 0 := e1
  have hv0 : vl a = [] := List.length_eq_zero_iff.1 (hln.trans hl0)
  have hc0 : Lib.compact (vl a) = [] := by rw [hv0]; rfl
  rw [e3]
  refine (Ll w).mono ?_
  rintro e w' ⟨rfl, rfl⟩
  have e4 : (hs 0).sl 0 = .slice none 0 0 := by rw [hl0] at e3; exact e3
  have q4 : w'.ownsRow 0 26 1 ((hs 0).sl 0) 0 [] := by
   have := q2
   rw [r1, hv0, hl0] at this
   exact this
  have := fin w' (hs 0) (Fr.refl _ _) (by rw [hc0]; exact q4) (by rw [hc0, List.length_nil, hl0]; exact fun _ h => h)
  rw [hc0, List.length_nil, e4] at this
  exact this
 ·rw [hv]
  have hgl : g < w.heap.size := (Array.getElem?_eq_some_iff.1 hg).1
  have ht' : cur.toList.take (vl a).length = (vl a).map encU := by
   rw [hln, <- r1]
   have : (dc a).length * uR.size = (dc a).length := Nat.mul_one _
   rw [this] at ht
   exact ht
  have H := Lk g 0 cap (vl a).toArray w (SJ hg ht') (by unfold maxLen at q1; simp; omega) (by simp; omega)
  have hps : ∀ d, (putCells encU 0 d cur).size = cur.size := fun d => by simp [putCells]
  have hsz : (vl a).toArray.size = (vl a).length := by simp
  rw [hsz] at H
  rw [hln] at H
  rw [<- hln] at H
  have H : Calls Tryd.prog 85 #[.slice (some ⟨g, 0, none⟩) (vl a).length cap] w fun e w' => e = .returned (.slice (some ⟨g, 0, none⟩) (Lib.compact (vl a)).length cap) /\ ∃ q, w' = putRow encU (Sort.ahead w q) g 0 (Lib.compact (vl a) ++ List.replicate ((vl a).length - (Lib.compact (vl a)).length) 0).toArray := H
  rw [hln] at H
  refine H.mono ?_
  rintro e w' ⟨rfl, q, rfl⟩
  have hO : (putRow encU (Sort.ahead w q) g 0 (Lib.compact (vl a) ++ List.replicate ((dc a).length - (Lib.compact (vl a)).length) 0).toArray).ownsRow 0 26 1 (.slice (some ⟨g, 0, none⟩) (Lib.compact (vl a)).length cap) (Lib.compact (vl a)).length ((Lib.compact (vl a)).map encU) :=
   ⟨by simp, .inr ⟨g, cap, _, rfl, Nat.zero_le _, Tz _ hg, by omega, hcm, (hps _).trans hcs, by rw [Nat.mul_one]; exact TA cur _ _ (by rw [List.length_append, List.length_replicate, hcs, show uR.size = 1 from rfl]; omega)⟩⟩
  obtain ⟨hd', hd1⟩ := HA hO
  rw [hd1] at hO ⊢
  refine fin _ hd' ?_ hO ?_
  ·rw [hv]; exact Fr.grown (SK _)
  ·rw [<- hd1, hv]; exact fun b h => h
end
end Go.Proofs.YtgpflpbldeflhaaDoor.Ew.Sr
namespace Go.Proofs.YtgpflpbldeflhaaDoor.Ew.Sr
open Go Go.RowKit
noncomputable section
def spK : List K := [.i .u32, .i .u32]
def spR : Row := .ofKs spK
def lsp : Sh := .lst 138 spR false
def rowsOK (ks : List K) (l : RL) : Prop := ∀ r ∈ l, fits ks r
def inR (v : Int) (r : List Int) : Bool := decide (r.getD 0 0 <= v) && decide (v <= r.getD 1 0)
def inS (l : RL) (v : Int) : Bool := l.any (inR v)
theorem AK {ks : List K} {c i : Int} (h : rowsOK ks (dc c)) (h0 : 0 <= i) (h1 : i < ((dc c).length : Int)) : ∃ r, (dc c).getD i.toNat [] = r /\ fits ks r /\ r ∈ dc c /\ (dc c).drop i.toNat = r :: (dc c).drop (i + 1).toNat := by
 have hl : i.toNat < (dc c).length := by omega
 refine ⟨(dc c)[i.toNat], by simp [List.getD, hl], h _ (List.getElem_mem hl), List.getElem_mem hl, ?_⟩
 rw [List.drop_eq_getElem_cons hl, show (i + 1).toNat = i.toNat + 1 by omega]
theorem u32r {z : Int} (h : IntKind.u32.wrap z = z) : 0 <= z /\ z <= 4294967295 := by rw [IntKind.wrap_u32] at h; omega
theorem u32w {z : Int} (h1 : 0 <= z) (h2 : z <= 4294967295) : IntKind.u32.wrap z = z := by rw [IntKind.wrap_u32]; omega
def ruK : List K := [.i .u8, .i .u8, .i .u8, .i .u8, .i .u32, .i .u8, .i .u32, .i .u8, .i .u16, .i .u16, .i .u16, .i .u16, .b]
def ruR : Row := .ofKs ruK
def ru : Sh := .agg (ruK.map .sc)
def psz (n : Int) : Int := 2 ^ (32 - n).toNat
def flW (mask want : Int) (v : Nat) : Bool := decide (bitsI .and .u8 (v : Int) mask = want)
def flL (mask want : Int) (l : List Nat) : RL := (l.filter (flW mask want)).map fun v : Nat => ([(v : Int), (v : Int)] : List Int)
def spF (k : Nat) (r : List Int) : RL :=
 match k with
 | 0 => if r.getD 0 0 < 2 then [[r.getD 0 0, r.getD 0 0]] else [[0, 1]]
 | 1 => if r.getD 1 0 = 1 then [[0, 0]] else if r.getD 1 0 = 6 then [[1, 1]] else if r.getD 1 0 = 17 then [[2, 2]] else [[0, 2]]
 | 2 => [[r.getD 4 0, r.getD 4 0 + psz (r.getD 5 0) - 1]]
 | 3 => [[r.getD 6 0, r.getD 6 0 + psz (r.getD 7 0) - 1]]
 | 4 => [[r.getD 8 0, r.getD 9 0]]
 | 5 => [[r.getD 10 0, r.getD 11 0]]
 | _ => flL (r.getD 2 0) (r.getD 3 0) (List.range 64)
def pfR (a n : Int) : Prop := 0 <= n /\ n <= 32 /\ a % psz n = 0
def ruP (r : List Int) : Prop := fits ruK r /\ pfR (r.getD 4 0) (r.getD 5 0) /\ pfR (r.getD 6 0) (r.getD 7 0)
theorem bit1' (z : Int) : (if i2b (K.b.norm z) = true then (1 : Int) else 0) = K.b.norm z := by
 by_cases h : z = 0
 ·subst h; rfl
 ·simp [K.norm, i2b, b2i, h]
theorem u8r {z : Int} (h : IntKind.u8.wrap z = z) : 0 <= z /\ z <= 255 := by rw [IntKind.wrap_u8] at h; omega
theorem u8w {z : Int} (h1 : 0 <= z) (h2 : z <= 255) : IntKind.u8.wrap z = z := by rw [IntKind.wrap_u8]; omega
theorem u16r {z : Int} (h : IntKind.u16.wrap z = z) : 0 <= z /\ z <= 65535 := by rw [IntKind.wrap_u16] at h; omega
theorem or32' (x y : Int) (hx : 0 <= x /\ x < 4294967296) (hy : 0 <= y /\ y < 4294967296) : bitsI .or .u32 x y = ((x.toNat ||| y.toNat : Nat) : Int) /\ x.toNat ||| y.toNat < 4294967296 := by
 have h : x.toNat ||| y.toNat < 2 ^ 32 := Nat.or_lt_two_pow (by omega) (by omega)
 refine ⟨?_, h⟩
 have e1 : (BitVec.ofInt 32 x).toNat = x.toNat := by rw [BitVec.toNat_ofInt]; omega
 have e2 : (BitVec.ofInt 32 y).toNat = y.toNat := by rw [BitVec.toNat_ofInt]; omega
 show IntKind.u32.wrap ((BitVec.ofInt 32 x ||| BitVec.ofInt 32 y).toNat : Int) = _
 rw [BitVec.toNat_or, e1, e2]
 exact u32w (by omega) (by omega)
theorem pfx {a n : Int} (ha : IntKind.u32.wrap a = a) (h : pfR a n) :
 bitsI .or .u32 a (IntKind.u32.wrap (IntKind.u64.wrap (IntKind.u64.wrap (1 * 2 ^ min (IntKind.u8.wrap (32 - n)).toNat IntKind.u64.bits) - 1))) = a + psz n - 1 /\ a + psz n - 1 <= 4294967295 /\ 1 <= psz n := by
 obtain ⟨h1, h2, h3⟩ := h
 have har := u32r ha
 unfold psz at h3 ⊢
 obtain ⟨k, hk⟩ : ∃ k, (32 - n).toNat = k := ⟨_, rfl⟩
 have hk2 : k <= 32 := by omega
 rw [u8w (by omega) (by omega), hk, show IntKind.u64.bits = 64 from rfl, show min k 64 = k by omega]
 rw [hk] at h3
 have e : (2 ^ k : Int) = ((2 ^ k : Nat) : Int) := by rw [Int.natCast_pow]; rfl
 have p1 : 1 <= 2 ^ k := Nat.one_le_two_pow
 have p2 : 2 ^ k <= 2 ^ 32 := Nat.pow_le_pow_right (by omega) hk2
 rw [e] at h3 ⊢
 obtain ⟨P, hP⟩ : ∃ P, 2 ^ k = P := ⟨_, rfl⟩
 rw [hP] at h3 ⊢ p1 p2
 rw [Int.one_mul, u64w (z := (P : Int)) (by omega) (by omega), u64w (z := (P : Int) - 1) (by omega) (by omega), u32w (z := (P : Int) - 1) (by omega) (by omega)]
 obtain ⟨o1, o2⟩ := or32' a ((P : Int) - 1) (by omega) (by omega)
 obtain ⟨q, hq⟩ : ∃ q, a.toNat = P * q := ⟨a.toNat / P, by
  have : a.toNat % P = 0 := by
   have h4 : ((a.toNat % P : Nat) : Int) = 0 := by rw [Int.natCast_emod, Int.toNat_of_nonneg har.1]; exact h3
   omega
  rw [Nat.mul_comm]; exact (Nat.div_mul_cancel (Nat.dvd_of_mod_eq_zero this)).symm⟩
 have hm : ((P : Int) - 1).toNat = P - 1 := by omega
 have ho : a.toNat ||| (P - 1) = a.toNat + (P - 1) := by
  rw [hq]
  have := Nat.two_pow_add_eq_or_of_lt (i := k) (b := P - 1) (by rw [hP]; omega) q
  rw [hP] at this
  exact this.symm
 rw [hm, ho] at o1 o2
 rw [o1]
 omega
end
end Go.Proofs.YtgpflpbldeflhaaDoor.Ew.Sr
set_option maxHeartbeats 8000000
namespace Go.Proofs.YtgpflpbldeflhaaDoor.Ew.Sr
open Go Go.RowKit
noncomputable section
def bxU : Sh := .obj 26 [u32]
def cfn : Sh := .fnc 74 [bxU]
def preIf (xs : List Int) : Prop := rowsOK spK (dc (env xs 0)) /\ env xs 2 = ((dc (env xs 0)).length : Int) /\ 0 <= env xs 3 /\ env xs 3 <= env xs 2 /\ env xs 2 <= 1000000
def Pk (xs ys : List Int) : Prop := (env ys 0 = 1 /\ inS ((dc (env xs 0)).drop (env xs 3).toNat) (env xs 1) = false) \/ (env ys 0 = 0 /\ inS ((dc (env xs 0)).drop (env xs 3).toNat) (env xs 1) = true /\ 0 <= env ys 1 /\ env ys 1 < env xs 2)
def muIf (xs : List Int) : Nat := (env xs 2 - env xs 3).toNat
def pIf : List Bool := [true,false,true,false]
def lbIf : LEnt := ⟨⟨9086, 999999, [lsp, cfn, .lt kJ 0, i64, i64], [], [0, 1], .tup [.sc .b, i64], z0, preIf⟩, [0, 1, 4, 7, 8], [4], [5] ++ (List.range 11).map (· + 8), [.ex 0, .ret], 19, []⟩
def leIf : LEnt := lbIf.fw (fnM Tryd.prog G0 86 pIf lbIf Pk)
def pre73 (xs : List Int) : Prop := rowsOK spK (dc (env xs 0)) /\ ((dc (env xs 0)).length : Int) <= 1000000
def Pl (xs ys : List Int) : Prop := env ys 0 = b2i (inS (dc (env xs 0)) (env xs 1))
def b73 : Ent := ⟨73, 73, [lsp, cfn], [], [0, 1], .sc .b, z0, pre73⟩
def cIf : Ctx := ⟨[], [(86, pIf, leIf)]⟩
def e73 : Ent := b73.fw (fnG Tryd.prog G0 b73 Pl)
def brR (last : Int) (r : List Int) : RL := [r.getD 0 0] :: (if r.getD 1 0 < last then [[r.getD 1 0 + 1]] else [])
def brL (last : Int) (l : RL) : RL := l.flatMap (brR last)
def preB (xs : List Int) : Prop := rowsOK spK (dc (env xs 2)) /\ RO kU (env xs 1) /\ env xs 3 = ((dc (env xs 2)).length : Int) /\ 0 <= env xs 4 /\ env xs 4 <= env xs 3 /\ env xs 3 <= 100000 /\ ((dc (env xs 1)).length : Int) <= 1 + 2 * env xs 4
def Nb (xs ys : List Int) : Prop := dc (env ys 0) = dc (env xs 1) ++ brL (env xs 0) ((dc (env xs 2)).drop (env xs 4).toNat)
def muB (xs : List Int) : Nat := (env xs 3 - env xs 4).toNat
def pB : List Bool := [true,true,false,true,false]
def lu : Sh := .lst 26 uR true
def lbB : LEnt := ⟨⟨9072, 999999, [u32, lu, lsp, i64, i64], [], [1], .tup [lu], z0, preB⟩, [0, 5, 9, 10, 11], [5], [7] ++ (List.range 20).map (· + 11), [.ex 0], 35, []⟩
def leB : LEnt := lbB.fw (fnM Tryd.prog G0 72 pB lbB Nb)
def e85 : Ent := A7 85
def cB : Ctx := ⟨[e84, e85], [(72, pB, leB)]⟩
def pre72 (xs : List Int) : Prop := rowsOK spK (dc (env xs 1)) /\ ((dc (env xs 1)).length : Int) <= 100000
def brdP (last : Int) (l : RL) (v : List Int) : Prop := v.Pairwise (fun a b => a < b) /\ (∀ x, x ∈ v ↔ [x] ∈ [0] :: brL last l) /\ v.length <= 1 + 2 * l.length
def Pm (xs ys : List Int) : Prop := RO kU (env ys 0) /\ brdP (env xs 0) (dc (env xs 1)) (vl (env ys 0))
def b72 : Ent := ⟨72, 72, [u32, lsp], [], [0], lu, z0, pre72⟩
def e72 : Ent := b72.fw (fnG Tryd.prog G0 b72 Pm)
theorem okIf : IPz 86 pIf leIf Pk := by
 refine Ctx.OK.nil.loopK muIf false 9086 [] ⟨_, _, _, Tryd.func86, rfl, rfl⟩ ?_
 go_invoke
 refine enK rfl ?_
 intro φ l ρ L x hx n hn i hi hp hφ hSS _
 obtain ⟨p1, p2, p3, p4, p5⟩ := hp
 replace p1 : rowsOK spK (dc L) := p1
 simp only [ewY, seval] at p2 p3 p4 p5
 by_cases c : i < n
 ·obtain ⟨r, er, hr, _, hdr⟩ := AK p1 p3 (by omega)
  obtain ⟨a, r1, rfl, ha, hr⟩ := Aa hr
  obtain ⟨b, r2, rfl, hb, hr⟩ := Aa hr
  obtain rfl := Ba hr
  simp only [AH] at ha hb
  have hd : inS ((dc L).drop i.toNat) x = (inR x [a, b] || inS ((dc L).drop (i + 1).toNat) x) := by rw [hdr]; rfl
  by_cases hv : a <= x /\ x <= b
  ·have hb' : inR x [a, b] = true := by show (decide (a <= x) && decide (x <= b)) = true; rw [decide_eq_true hv.1, decide_eq_true hv.2]; rfl
   refine ⟨?_, ?_⟩ <;> simp (disch := omega) only [ewZ, reduceCtorEq, seval, hSS, c, er, ha, hb, hv]
   ·omega
   ·refine Or.inr ⟨rfl, ?_, p3, c⟩
    show inS ((dc L).drop i.toNat) x = true
    rw [hd, hb']; rfl
  ·have hb' : inR x [a, b] = false := by
    show (decide (a <= x) && decide (x <= b)) = false
    by_cases h : a <= x
    ·rw [decide_eq_false (show ¬ x <= b from fun h' => hv ⟨h, h'⟩), Bool.and_false]
    ·rw [decide_eq_false h, Bool.false_and]
   have yp : lbIf.ent.pre [L, x, n, i + 1] := ⟨p1, p2, by show 0 <= i + 1; omega, by show i + 1 <= n; omega, p5⟩
   have ym : muIf [L, x, n, i + 1] < muIf [L, x, n, i] := by show (n - (i + 1)).toNat < (n - i).toNat; omega
   have ih := hφ [L, x, n, i + 1] ⟨rfl, hx, hn, i64w (by omega) (by omega), trivial⟩ yp ym
   have hv2 : a <= x -> b < x := by omega
   refine ⟨?_, ?_⟩
   ·simp (disch := omega) only [ewZ, reduceCtorEq, seval, hSS, c, er, ha, hb]
    exact ⟨⟨p3, by omega⟩, fun _ => ⟨yp, ym⟩⟩
   ·obtain ⟨w0, hw0⟩ : ∃ w, K.b.norm (φ 0 [L, x, n, i + 1]) = w := ⟨_, rfl⟩
    obtain ⟨w1, hw1⟩ : ∃ w, IntKind.i64.wrap (φ 1 [L, x, n, i + 1]) = w := ⟨_, rfl⟩
    have c1 : ((a <= x -> b < x) /\ i2b w0 = true) ↔ i2b w0 = true := ⟨And.right, fun h => ⟨hv2, h⟩⟩
    simp (disch := omega) only [ewZ, reduceCtorEq, seval, hSS, c, er, ha, hb, hw0, hw1, c1, if_neg hv]
    have ih' : (w0 = 1 /\ inS ((dc L).drop (i + 1).toNat) x = false) \/ (w0 = 0 /\ inS ((dc L).drop (i + 1).toNat) x = true /\ 0 <= w1 /\ w1 < n) := by rw [<- hw0, <- hw1]; exact ih
    rw [hb', Bool.false_or] at hd
    show (_ /\ inS ((dc L).drop i.toNat) x = false) \/ (_ /\ inS ((dc L).drop i.toNat) x = true /\ _)
    rw [hd]
    rcases ih' with ⟨rfl, h2⟩ | ⟨rfl, h2, h3, h4⟩
    ·exact Or.inl ⟨rfl, h2⟩
    ·exact Or.inr ⟨rfl, h2, h3, h4⟩
 ·refine ⟨?_, ?_⟩ <;> simp (disch := omega) only [ewZ, reduceCtorEq, seval, hSS, c]
  ·refine Or.inl ⟨rfl, ?_⟩
   show inS ((dc L).drop i.toNat) x = false
   rw [List.drop_eq_nil_of_le (by omega)]; rfl
theorem cIfok : cIf.OK Tryd.prog G0 := ⟨rfl, mF trivial, mF ⟨okIf.1, trivial⟩⟩
theorem ok73 : EPz e73 Pl := by
 refine cIfok.nm.entryK false [(100009086, leIf.nm.ent)] ?_
 go_invoke
 refine enK rfl ?_
 intro l ρ L x hx hp v1 hn1 v2 hn2 hSS hd
 simp (disch := omega) only [and_true, Ent.nm_fn, hSS, ewZ, reduceCtorEq, seval] at hd
 obtain ⟨hd1, hd2⟩ := hd
 obtain ⟨p1, p2⟩ := hp
 replace p1 : rowsOK spK (dc L) := p1
 replace p2 : ((dc L).length : Int) <= 1000000 := p2
 have wL : IntKind.i64.wrap (((dc L).length : Nat) : Int) = (((dc L).length : Nat) : Int) := i64w (by omega) (by omega)
 simp only [wL] at hd1 hd2
 have yp : leIf.ent.pre [L, x, (((dc L).length : Nat) : Int), 0] := ⟨p1, rfl, by show (0 : Int) <= 0; decide, by show (0 : Int) <= (((dc L).length : Nat) : Int); omega, p2⟩
 have q := (PostOK.usf (vs := [v1, v2]) okIf.2 ⟨hd1, hd2, trivial⟩) ⟨rfl, hx, wL, rfl, trivial⟩ yp
 replace q : (v1 = 1 /\ inS ((dc L).drop 0) x = false) \/ (v1 = 0 /\ inS ((dc L).drop 0) x = true /\ 0 <= v2 /\ v2 < (((dc L).length : Nat) : Int)) := q
 rw [List.drop_zero] at q
 rcases q with ⟨rfl, q2⟩ | ⟨rfl, q2, q3, q4⟩
 ·refine ⟨?_, ?_⟩
  ·simp (disch := omega) only [ewZ, reduceCtorEq, seval, hSS, wL, yp]
  ·simp (disch := omega) only [ewZ, reduceCtorEq, seval, hSS, wL]
   show _ = b2i (inS (dc L) x)
   rw [q2]; rfl
 ·refine ⟨?_, ?_⟩
  ·simp (disch := omega) only [ewZ, reduceCtorEq, seval, hSS, wL, yp]
  ·simp (disch := omega) only [ewZ, reduceCtorEq, seval, hSS, wL]
   show _ = b2i (inS (dc L) x)
   rw [q2]; show b2i (decide (0 <= v2)) = b2i true; rw [decide_eq_true q3]
theorem okB : IPz 72 pB leB Nb := by
 refine Ctx.OK.nil.loopK muB false 9072 [] ⟨_, _, _, Tryd.func72, rfl, rfl⟩ ?_
 go_invoke
 refine enK rfl ?_
 intro φ l ρ t ht O L n hn i hi hp hφ hSS _
 obtain ⟨p1, p2, p3, p4, p5, p6, p7⟩ := hp
 replace p1 : rowsOK spK (dc L) := p1
 replace p2 : RO kU O := p2
 simp only [ewY, seval] at p3 p4 p5 p6 p7
 by_cases c : i < n
 ·obtain ⟨r, er, hr, _, hdr⟩ := AK p1 p4 (by omega)
  obtain ⟨a, r1, rfl, ha, hr⟩ := Aa hr
  obtain ⟨b, r2, rfl, hb, hr⟩ := Aa hr
  obtain rfl := Ba hr
  simp only [AH] at ha hb
  have hbr := u32r hb
  have nx : (∀ r ∈ ([a] :: (if b < t then [[b + 1]] else []) : RL), fits [kU] r) -> ([a] :: (if b < t then [[b + 1]] else []) : RL).length <= 2 ->
   lbB.ent.pre [t, cd (dc O ++ brR t [a, b]), L, n, i + 1] /\ muB [t, cd (dc O ++ brR t [a, b]), L, n, i + 1] < muB [t, O, L, n, i] /\ Nb [t, O, L, n, i] [φ 0 [t, cd (dc O ++ brR t [a, b]), L, n, i + 1]] := fun h1 h2 => by
   have yp : lbB.ent.pre [t, cd (dc O ++ brR t [a, b]), L, n, i + 1] := ⟨p1, fun r hr => by
    have hr : r ∈ dc (cd (dc O ++ brR t [a, b])) := hr
    rw [Ab] at hr
    rcases List.mem_append.1 hr with hr | hr
    ·exact p2 r hr
    ·exact h1 r hr, p3, by show 0 <= i + 1; omega, by show i + 1 <= n; omega, p6, by
     show ((dc (cd (dc O ++ brR t [a, b]))).length : Int) <= 1 + 2 * (i + 1)
     rw [Ab, List.length_append]
     have : (brR t [a, b]).length <= 2 := h2
     omega⟩
   have ym : muB [t, cd (dc O ++ brR t [a, b]), L, n, i + 1] < muB [t, O, L, n, i] := by show (n - (i + 1)).toNat < (n - i).toNat; omega
   have ih := hφ [t, cd (dc O ++ brR t [a, b]), L, n, i + 1] ⟨ht, rfl, rfl, hn, i64w (by omega) (by omega), trivial⟩ yp ym
   obtain ⟨u, hu⟩ : ∃ u, φ 0 [t, cd (dc O ++ brR t [a, b]), L, n, i + 1] = u := ⟨_, rfl⟩
   have ih : dc u = dc (cd (dc O ++ brR t [a, b])) ++ brL t ((dc L).drop (i + 1).toNat) := by rw [<- hu]; exact ih
   refine ⟨yp, ym, ?_⟩
   rw [hu]
   show dc u = dc O ++ brL t ((dc L).drop i.toNat)
   rw [ih, Ab, hdr, List.append_assoc]
   rfl
  by_cases c2 : b < t
  ·have w1 : IntKind.u32.wrap (b + 1) = b + 1 := u32w (by omega) (by have := u32r ht; omega)
   have eO : dc O ++ [[a]] ++ [[b + 1]] = dc O ++ brR t [a, b] := by show _ = dc O ++ ([a] :: (if b < t then [[b + 1]] else [])); rw [if_pos c2, List.append_assoc]; rfl
   have z := nx (fun r hr => by
    rw [if_pos c2] at hr
    simp only [List.mem_cons, List.not_mem_nil, or_false] at hr
    rcases hr with rfl | rfl
    ·exact ⟨ha, trivial⟩
    ·exact ⟨w1, trivial⟩) (by rw [if_pos c2]; exact Nat.le_refl _)
   refine ⟨?_, ?_⟩ <;> simp (disch := omega) only [ewZ, reduceCtorEq, seval, hSS, c, c2, er, ha, hb, w1, eO]
   ·exact ⟨⟨⟨p4, by omega⟩, by simp; omega, by rw [<- eO]; simp; omega⟩, z.1, z.2.1⟩
   ·exact z.2.2
  ·have eO : dc O ++ [[a]] = dc O ++ brR t [a, b] := by show _ = dc O ++ ([a] :: (if b < t then [[b + 1]] else [])); rw [if_neg c2]
   have z := nx (fun r hr => by
    rw [if_neg c2] at hr
    simp only [List.mem_cons, List.not_mem_nil, or_false] at hr
    subst hr
    exact ⟨ha, trivial⟩) (by rw [if_neg c2]; exact Nat.le_succ _)
   refine ⟨?_, ?_⟩ <;> simp (disch := omega) only [ewZ, reduceCtorEq, seval, hSS, c, c2, er, ha, hb, eO]
   ·exact ⟨⟨⟨p4, by omega⟩, by rw [<- eO]; simp; omega⟩, z.1, z.2.1⟩
   ·exact z.2.2
 ·refine ⟨?_, ?_⟩ <;> simp (disch := omega) only [ewZ, reduceCtorEq, seval, hSS, c]
  ·show dc O = dc O ++ brL t ((dc L).drop i.toNat)
   rw [List.drop_eq_nil_of_le (by omega)]; exact (List.append_nil _).symm
theorem cBok : cB.OK Tryd.prog G0 := ⟨rfl, mF ⟨ok84.1, (SL G0 85), trivial⟩, mF ⟨okB.1, trivial⟩⟩
theorem Kz {t : Int} (ht : IntKind.u32.wrap t = t) : ∀ {l : RL}, rowsOK spK l -> ∀ r ∈ brL t l, fits [kU] r
 | [], _, r, hr => by cases hr
 | q :: l, h, r, hr => by
   have hr : r ∈ brR t q ++ brL t l := hr
   rcases List.mem_append.1 hr with hr | hr
   ·obtain ⟨a, r1, rfl, ha, hq⟩ := Aa (h q (List.mem_cons_self ..))
    obtain ⟨b, r2, rfl, hb, hq⟩ := Aa hq
    obtain rfl := Ba hq
    have hr : r ∈ ([a] :: (if b < t then [[b + 1]] else []) : RL) := hr
    rcases List.mem_cons.1 hr with rfl | hr
    ·exact ⟨ha, trivial⟩
    ·by_cases c : b < t
     ·rw [if_pos c] at hr
      obtain rfl := List.mem_singleton.1 hr
      have hbr := u32r (show IntKind.u32.wrap b = b from hb)
      exact ⟨u32w (by omega) (by have := u32r ht; omega), trivial⟩
     ·rw [if_neg c] at hr; cases hr
   ·exact Kz ht (fun r hr => h r (List.mem_cons_of_mem _ hr)) r hr
theorem LQ (t : Int) : ∀ l : RL, (brL t l).length <= 2 * l.length
 | [] => Nat.le_refl _
 | q :: l => by
   have h1 := LQ t l
   have h2 : (brR t q).length <= 2 := by unfold brR; split <;> simp
   show (brR t q ++ brL t l).length <= 2 * (l.length + 1)
   rw [List.length_append]; omega
theorem RO.mem {c : Int} (h : RO kU c) (x : Int) : x ∈ vl c ↔ [x] ∈ dc c := by
 rw [h.rows]
 constructor
 ·intro hx
  have : [x] ∈ (vl c).map fun z => [z] := List.mem_map.2 ⟨x, hx, rfl⟩
  exact this
 ·intro hx
  obtain ⟨y, hy, e⟩ := List.mem_map.1 hx
  simp only [List.cons.injEq, and_true] at e
  exact e ▸ hy
theorem LR (c : Int) (zs : List Int) (h : dc c = zs.map fun z => [z]) : vl c = zs := by
 unfold vl
 rw [h, List.map_map]
 exact (List.map_congr_left fun z _ => rfl).trans (List.map_id _)
theorem ok72 : EPz e72 Pm := by
 refine cBok.entryK false [(84, e84), (85, (A7 85)), (9072, leB.ent)] ?_
 go_invoke
 refine enK rfl ?_
 intro l ρ t ht L hp hSS _
 obtain ⟨p1, p2⟩ := hp
 replace p1 : rowsOK spK (dc L) := p1
 simp only [ewY, seval] at p2
 obtain ⟨n, hn⟩ : ∃ n, ((dc L).length : Int) = n := ⟨_, rfl⟩
 have w1 : IntKind.i64.wrap n = n := i64w (by omega) (by omega)
 have y0 : leB.ent.pre [t, cd [[0]], L, n, 0] := ⟨p1, fun r hr => by
  have hr : r ∈ dc (cd [[0]]) := hr
  rw [Ab] at hr
  obtain rfl := List.mem_singleton.1 hr
  exact ⟨rfl, trivial⟩, hn.symm, Int.le_refl _, by show 0 <= n; omega, by show n <= 100000; omega, by show ((dc (cd [[0]])).length : Int) <= 1 + 2 * 0; rw [Ab]; decide⟩
 have z := okB.2 [t, cd [[0]], L, n, 0] ⟨ht, rfl, rfl, w1, rfl, trivial⟩ y0
 obtain ⟨u, hu⟩ : ∃ u, leB.ent.fn 0 [t, cd [[0]], L, n, 0] = u := ⟨_, rfl⟩
 have z : dc u = dc (cd [[0]]) ++ brL t ((dc L).drop 0) := by rw [<- hu]; exact z
 rw [Ab, List.drop_zero] at z
 have ru : RO kU u := fun r hr => by
  rw [z] at hr
  rcases List.mem_append.1 hr with hr | hr
  ·obtain rfl := List.mem_singleton.1 hr
   exact ⟨rfl, trivial⟩
  ·exact Kz ht p1 r hr
 have lu' : (dc u).length <= 1 + 2 * (dc L).length := by
  have := LQ t (dc L)
  rw [z, List.length_append, List.length_singleton]; omega
 have y1 : e84.pre [u] := ⟨ru, by show ((dc u).length : Int) <= 1000000; omega⟩
 have g := ok84.2 [u] ⟨rfl, trivial⟩ y1
 obtain ⟨s, hs⟩ : ∃ s, e84.fn 0 [u] = s := ⟨_, rfl⟩
 have g : RO kU s /\ dc s = srt u := by rw [<- hs]; exact g
 have vs : vl s = (vl u).mergeSort fun x y => decide (x <= y) := LR s _ g.2
 have ls : (dc s).length = (dc u).length := by rw [<- Au s, vs, List.length_mergeSort, Au]
 have hc : (A7 85).fn 0 [s] = cd (cpt s) := rfl
 have vr : vl (cd (cpt s)) = Lib.compact (vl s) := LR _ _ (Ab _)
 refine ⟨?_, ?_⟩
 ·simp (disch := omega) only [ewZ, reduceCtorEq, seval, hSS, hn, hu, hs, ls]
  exact ⟨y0, y1, trivial⟩
 ·simp (disch := omega) only [ewZ, reduceCtorEq, seval, hSS, hn, hu, hs, hc]
  refine ⟨fun r hr => ?_, ?_, fun x => ?_, ?_⟩
  ·have hr : r ∈ dc (cd (cpt s)) := hr
   rw [Ab] at hr
   obtain ⟨y, hy, rfl⟩ := List.mem_map.1 hr
   exact g.1 [y] ((g.1.mem y).1 ((Eu _ _).1 hy))
  ·show (vl (cd (cpt s))).Pairwise fun a b => a < b
   rw [vr]
   refine Na _ ?_
   rw [vs]
   exact (List.pairwise_mergeSort (fun a b c h1 h2 => by simp only [decide_eq_true_eq] at h1 h2 ⊢; omega) (fun a b => by simp only [Bool.or_eq_true, decide_eq_true_eq]; omega) _).imp fun h => by simpa using h
  ·show x ∈ vl (cd (cpt s)) ↔ [x] ∈ [0] :: brL t (dc L)
   rw [vr, Eu, vs, List.mem_mergeSort, ru.mem, z]
   rfl
  ·show (vl (cd (cpt s))).length <= 1 + 2 * (dc L).length
   have := GV (vl s)
   rw [vr]
   rw [Au] at this
   omega
end
end Go.Proofs.YtgpflpbldeflhaaDoor.Ew.Sr
set_option maxHeartbeats 8000000
namespace Go.Proofs.YtgpflpbldeflhaaDoor.Ew.Sr
open Go Go.RowKit
noncomputable section
def fl (k : Int) : Sh := .lt kJ k
def u8 : Sh := .sc (.i .u8)
def l8 : Sh := .lst 5 (.ofKs [.i .u8]) false
def ixF : RL -> Int -> Int -> Int
 | [], _, _ => -1
 | r :: l, v, k => if r.getD 0 0 = v then k else ixF l v (k + 1)
def preX (xs : List Int) : Prop := rowsOK [.i .u8] (dc (env xs 0)) /\ env xs 2 = ((dc (env xs 0)).length : Int) /\ 0 <= env xs 3 /\ env xs 3 <= env xs 2 /\ env xs 2 <= 1000000
def Ry (xs ys : List Int) : Prop := (env ys 0 = 1 /\ ixF ((dc (env xs 0)).drop (env xs 3).toNat) (env xs 1) (env xs 3) = -1) \/ (env ys 0 = 0 /\ env ys 1 = ixF ((dc (env xs 0)).drop (env xs 3).toNat) (env xs 1) (env xs 3))
def muX (xs : List Int) : Nat := (env xs 2 - env xs 3).toNat
def pX : List Bool := [true,false,true,false]
def lbX : LEnt := ⟨⟨9047, 999999, [l8, u8, .lt kJ 0, i64, i64], [], [0], .tup [.sc .b, i64], z0, preX⟩, [0, 1, 4, 7, 8], [4], [5] ++ (List.range 11).map (· + 8), [.ex 0, .ret], 19, []⟩
def leX : LEnt := lbX.fw (fnM Tryd.prog G0 47 pX lbX Ry)
def pre47 (xs : List Int) : Prop := rowsOK [.i .u8] (dc (env xs 0)) /\ ((dc (env xs 0)).length : Int) <= 1000000
def Pn (xs ys : List Int) : Prop := env ys 0 = ixF (dc (env xs 0)) (env xs 1) 0
def b47 : Ent := ⟨47, 47, [l8, u8], [], [0], i64, z0, pre47⟩
def cX : Ctx := ⟨[], [(47, pX, leX)]⟩
def e47 : Ent := b47.fw (fnG Tryd.prog G0 b47 Pn)
def c47 : Ctx := ⟨[e47], []⟩
def pre71 (xs : List Int) : Prop := ruP xs
def DS (k : Nat) (xs ys : List Int) : Prop := dc (env ys 0) = spF k xs
def b71 (k : Int) (key : Nat) : Ent := ⟨key, 71, [ru, fl k], [], [], lsp, z0, pre71⟩
def b710 : Ent := b71 0 7100
def b711 : Ent := b71 1 7101
def b712 : Ent := b71 2 7102
def b713 : Ent := b71 3 7103
def b714 : Ent := b71 4 7104
def b715 : Ent := b71 5 7105
def b716 : Ent := b71 6 7106
def pst0 := DS 0
def pst1 := DS 1
def pst2 := DS 2
def pst3 := DS 3
def pst4 := DS 4
def pst5 := DS 5
def pst6 := DS 6
def e710 : Ent := b710.fw (fnG Tryd.prog G0 b710 pst0)
def e711 : Ent := b711.fw (fnG Tryd.prog G0 b711 pst1)
def e712 : Ent := b712.fw (fnG Tryd.prog G0 b712 pst2)
def e713 : Ent := b713.fw (fnG Tryd.prog G0 b713 pst3)
def e714 : Ent := b714.fw (fnG Tryd.prog G0 b714 pst4)
def e715 : Ent := b715.fw (fnG Tryd.prog G0 b715 pst5)
def lspo : Sh := .lst 138 spR true
def preF (xs : List Int) : Prop := 0 <= env xs 14 /\ env xs 14 <= 64 /\ ((dc (env xs 13)).length : Int) <= env xs 14
def Nc (xs ys : List Int) : Prop := dc (env ys 0) = dc (env xs 13) ++ flL (env xs 2) (env xs 3) ((List.range 64).drop (env xs 14).toNat)
def muF (xs : List Int) : Nat := (64 - env xs 14).toNat
def lbF : LEnt := ⟨⟨9071, 999999, [.obj 74 (ruK.map .sc), lspo, u32], [], [0], .tup [lspo], z0, preF⟩, [2, 7, 80], [7], [8] ++ (List.range 18).map (· + 80), [.ex 1], 100, []⟩
def pF : List Bool := [true,true,false,true,false,true,true,true,true,true,true,true,true,true,true,true,true,true,false,true,false,true,false]
def leF : LEnt := lbF.fw (fnM Tryd.prog G0 71 pF lbF Nc)
def cF : Ctx := ⟨[], [(71, pF, leF)]⟩
def e716 : Ent := b716.fw (fnG Tryd.prog G0 b716 pst6)
theorem okX : IPz 47 pX leX Ry := by
 refine Ctx.OK.nil.loopK muX false 9047 [] ⟨_, _, _, Tryd.func47, rfl, rfl⟩ ?_
 go_invoke
 refine enK rfl ?_
 intro φ l ρ L x hx n hn i hi hp hφ hSS _
 obtain ⟨p1, p2, p3, p4, p5⟩ := hp
 replace p1 : rowsOK [.i .u8] (dc L) := p1
 simp only [ewY, seval] at p2 p3 p4 p5
 by_cases c : i < n
 ·obtain ⟨r, er, hr, _, hdr⟩ := AK p1 p3 (by omega)
  obtain ⟨a, r1, rfl, ha, hr⟩ := Aa hr
  obtain rfl := Ba hr
  simp only [AH] at ha
  have hd : ixF ((dc L).drop i.toNat) x i = if a = x then i else ixF ((dc L).drop (i + 1).toNat) x (i + 1) := by rw [hdr]; rfl
  by_cases hv : x = a
  ·refine ⟨?_, ?_⟩ <;> simp (disch := omega) only [ewZ, reduceCtorEq, seval, hSS, c, er, ha, hv]
   ·omega
   ·refine Or.inr ⟨rfl, ?_⟩
    show i = ixF ((dc L).drop i.toNat) a i
    rw [<- hv, hd, if_pos hv.symm]
  ·have yp : lbX.ent.pre [L, x, n, i + 1] := ⟨p1, p2, by show 0 <= i + 1; omega, by show i + 1 <= n; omega, p5⟩
   have ym : muX [L, x, n, i + 1] < muX [L, x, n, i] := by show (n - (i + 1)).toNat < (n - i).toNat; omega
   have ih := hφ [L, x, n, i + 1] ⟨rfl, hx, hn, i64w (by omega) (by omega), trivial⟩ yp ym
   refine ⟨?_, ?_⟩ <;> simp (disch := omega) only [ewZ, reduceCtorEq, seval, hSS, c, er, ha, hv]
   ·exact ⟨⟨p3, by omega⟩, yp, ym⟩
   ·simp only [ite_self, bit1']
    rw [if_neg fun e => hv e.symm] at hd
    rcases ih with ⟨q1, q2⟩ | ⟨q1, q2⟩
    ·exact Or.inl ⟨q1, hd.trans q2⟩
    ·exact Or.inr ⟨q1, q2.trans hd.symm⟩
 ·refine ⟨?_, ?_⟩ <;> simp (disch := omega) only [ewZ, reduceCtorEq, seval, hSS, c]
  ·refine Or.inl ⟨rfl, ?_⟩
   show ixF ((dc L).drop i.toNat) x i = -1
   rw [List.drop_eq_nil_of_le (by omega)]; rfl
theorem RA : EPz e710 pst0 := by
 refine Ctx.OK.nil.entryK false [] ?_
 go_invoke
 refine enK rfl ?_
 intro l ρ s0 hs0 s1 hs1 s2 hs2 s3 hs3 s4 hs4 s5 hs5 s6 hs6 s7 hs7 s8 hs8 s9 hs9 sa hsa sb hsb sc hsc hp hSS _
 refine ⟨?_, ?_⟩ <;> simp (disch := omega) only [ewZ, reduceCtorEq, seval, hSS]
 ·exact fun h => h
 ·have hr := u8r hs0
  show dc (if s0 < 2 then cd [[IntKind.u32.wrap s0, IntKind.u32.wrap s0]] else cd [[0, 1]]) = if s0 < 2 then [[s0, s0]] else [[0, 1]]
  rw [u32w (by omega) (by omega)]
  by_cases h : s0 < 2
  ·rw [if_pos h, if_pos h, Ab]
  ·rw [if_neg h, if_neg h, Ab]
theorem RB : EPz e712 pst2 := by
 refine Ctx.OK.nil.entryK false [] ?_
 go_invoke
 refine enK rfl ?_
 intro l ρ s0 hs0 s1 hs1 s2 hs2 s3 hs3 s4 hs4 s5 hs5 s6 hs6 s7 hs7 s8 hs8 s9 hs9 sa hsa sb hsb sc hsc hp hSS _
 refine ⟨?_, ?_⟩ <;> simp (disch := omega) only [ewZ, reduceCtorEq, seval, hSS]
 ·show dc (cd _) = [[s4, s4 + psz s5 - 1]]
  rw [Ab, (pfx (n := s5) hs4 hp.2.1).1]
theorem RC : EPz e714 pst4 := by
 refine Ctx.OK.nil.entryK false [] ?_
 go_invoke
 refine enK rfl ?_
 intro l ρ s0 hs0 s1 hs1 s2 hs2 s3 hs3 s4 hs4 s5 hs5 s6 hs6 s7 hs7 s8 hs8 s9 hs9 sa hsa sb hsb sc hsc hp hSS _
 refine ⟨?_, ?_⟩ <;> simp (disch := omega) only [ewZ, reduceCtorEq, seval, hSS]
 ·have h1 := u16r hs8
  have h2 := u16r hs9
  show dc (cd _) = [[s8, s9]]
  rw [Ab, u32w (by omega) (by omega), u32w (by omega) (by omega)]
theorem RD : EPz e713 pst3 := by
 refine Ctx.OK.nil.entryK false [] ?_
 go_invoke
 refine enK rfl ?_
 intro l ρ s0 hs0 s1 hs1 s2 hs2 s3 hs3 s4 hs4 s5 hs5 s6 hs6 s7 hs7 s8 hs8 s9 hs9 sa hsa sb hsb sc hsc hp hSS _
 refine ⟨?_, ?_⟩ <;> simp (disch := omega) only [ewZ, reduceCtorEq, seval, hSS]
 ·show dc (cd _) = [[s6, s6 + psz s7 - 1]]
  rw [Ab, (pfx (n := s7) hs6 hp.2.2).1]
theorem RE : EPz e715 pst5 := by
 refine Ctx.OK.nil.entryK false [] ?_
 go_invoke
 refine enK rfl ?_
 intro l ρ s0 hs0 s1 hs1 s2 hs2 s3 hs3 s4 hs4 s5 hs5 s6 hs6 s7 hs7 s8 hs8 s9 hs9 sa hsa sb hsb sc hsc hp hSS _
 refine ⟨?_, ?_⟩ <;> simp (disch := omega) only [ewZ, reduceCtorEq, seval, hSS]
 ·have h1 := u16r hsa
  have h2 := u16r hsb
  show dc (cd _) = [[sa, sb]]
  rw [Ab, u32w (by omega) (by omega), u32w (by omega) (by omega)]
theorem cXok : cX.OK Tryd.prog G0 := ⟨rfl, mF trivial, mF ⟨okX.1, trivial⟩⟩
theorem ok47 : EPz e47 Pn := by
 refine cXok.nm.entryK false [(100009047, leX.nm.ent)] ?_
 go_invoke
 refine enK rfl ?_
 intro l ρ L x hx hp v1 hn1 v2 hn2 hSS hd
 simp (disch := omega) only [and_true, Ent.nm_fn, hSS, ewZ, reduceCtorEq, seval] at hd
 obtain ⟨hd1, hd2⟩ := hd
 obtain ⟨p1, p2⟩ := hp
 replace p1 : rowsOK [.i .u8] (dc L) := p1
 replace p2 : ((dc L).length : Int) <= 1000000 := p2
 have wL : IntKind.i64.wrap (((dc L).length : Nat) : Int) = (((dc L).length : Nat) : Int) := i64w (by omega) (by omega)
 simp only [wL] at hd1 hd2
 have yp : leX.ent.pre [L, x, (((dc L).length : Nat) : Int), 0] := ⟨p1, rfl, by show (0 : Int) <= 0; decide, by show (0 : Int) <= (((dc L).length : Nat) : Int); omega, p2⟩
 have q := (PostOK.usf (vs := [v1, v2]) okX.2 ⟨hd1, hd2, trivial⟩) ⟨rfl, hx, wL, rfl, trivial⟩ yp
 replace q : (v1 = 1 /\ ixF ((dc L).drop 0) x 0 = -1) \/ (v1 = 0 /\ v2 = ixF ((dc L).drop 0) x 0) := q
 rw [List.drop_zero] at q
 rcases q with ⟨rfl, q2⟩ | ⟨rfl, q2⟩
 ·refine ⟨?_, ?_⟩
  ·simp (disch := omega) only [ewZ, reduceCtorEq, seval, hSS, wL, yp]
  ·simp (disch := omega) only [ewZ, reduceCtorEq, seval, hSS, wL]
   exact q2.symm
 ·refine ⟨?_, ?_⟩
  ·simp (disch := omega) only [ewZ, reduceCtorEq, seval, hSS, wL, yp]
  ·simp (disch := omega) only [ewZ, reduceCtorEq, seval, hSS, wL]
   exact q2
theorem Il : c47.OK Tryd.prog G0 := ⟨rfl, mF ⟨ok47.1, trivial⟩, mF trivial⟩
theorem RF : EPz e711 pst1 := by
 refine Il.entryK false [(47, e47)] ?_
 go_invoke
 refine enK rfl ?_
 intro l ρ s0 hs0 s1 hs1 s2 hs2 s3 hs3 s4 hs4 s5 hs5 s6 hs6 s7 hs7 s8 hs8 s9 hs9 sa hsa sb hsb sc hsc hp hSS _
 have y0 : e47.pre [cd [[1], [6], [17]], s1] := ⟨fun r hr => by
  have hr : r ∈ dc (cd [[1], [6], [17]]) := hr
  rw [Ab] at hr
  simp only [List.mem_cons, List.not_mem_nil, or_false] at hr
  rcases hr with rfl | rfl | rfl <;> exact ⟨rfl, trivial⟩, by show ((dc (cd [[1], [6], [17]])).length : Int) <= 1000000; rw [Ab]; decide⟩
 have z := ok47.2 [cd [[1], [6], [17]], s1] ⟨rfl, hs1, trivial⟩ y0
 obtain ⟨u, hu⟩ : ∃ u, IntKind.i64.wrap (e47.fn 0 [cd [[1], [6], [17]], s1]) = u := ⟨_, rfl⟩
 have z : u = ixF (dc (cd [[1], [6], [17]])) s1 0 := by rw [<- hu]; exact z
 rw [Ab] at z
 have z : u = if 1 = s1 then 0 else if 6 = s1 then 0 + 1 else if 17 = s1 then 0 + 1 + 1 else -1 := z
 refine ⟨?_, ?_⟩ <;> simp (disch := omega) only [ewZ, reduceCtorEq, seval, hSS, hu]
 ·exact ⟨y0, fun h => h⟩
 ·show dc (if 0 <= u then cd [[u, u]] else cd [[0, 2]]) = if s1 = 1 then [[0, 0]] else if s1 = 6 then [[1, 1]] else if s1 = 17 then [[2, 2]] else [[0, 2]]
  by_cases e1 : s1 = 1
  ·rw [if_pos e1.symm] at z
   rw [z, if_pos e1, if_pos (by decide), Ab]
  ·rw [if_neg fun e => e1 e.symm] at z
   rw [if_neg e1]
   by_cases e2 : s1 = 6
   ·rw [if_pos e2.symm] at z
    rw [z, if_pos e2, if_pos (by decide), Ab]; rfl
   ·rw [if_neg fun e => e2 e.symm] at z
    rw [if_neg e2]
    by_cases e3 : s1 = 17
    ·rw [if_pos e3.symm] at z
     rw [z, if_pos e3, if_pos (by decide), Ab]; rfl
    ·rw [if_neg fun e => e3 e.symm] at z
     rw [z, if_neg e3, if_neg (by decide), Ab]
theorem okF : IPz 71 pF leF Nc := by
 refine Ctx.OK.nil.loopK muF false 9071 [] ⟨_, _, _, Tryd.func71, rfl, rfl⟩ ?_
 go_invoke
 refine enK rfl ?_
 intro φ l ρ s0 hs0 s1 hs1 s2 hs2 s3 hs3 s4 hs4 s5 hs5 s6 hs6 s7 hs7 s8 hs8 s9 hs9 sa hsa sb hsb sc hsc L i hi hp hφ hSS _
 obtain ⟨p1, p2, p3⟩ := hp
 simp only [ewY, seval] at p1 p2 p3
 by_cases c : i < 64
 ·have w1 : IntKind.u8.wrap i = i := u8w (by omega) (by omega)
  have w2 : IntKind.u32.wrap (i + 1) = i + 1 := u32w (by omega) (by omega)
  have hik : ((i.toNat : Nat) : Int) = i := Int.toNat_of_nonneg p1
  have hdr : flL s2 s3 ((List.range 64).drop i.toNat) = (if bitsI .and .u8 i s2 = s3 then [[i, i]] else []) ++ flL s2 s3 ((List.range 64).drop (i + 1).toNat) := by
   rw [List.drop_eq_getElem_cons (by simp; omega), List.getElem_range, show (i + 1).toNat = i.toNat + 1 by omega]
   unfold flL
   rw [List.filter_cons]
   by_cases h : bitsI .and .u8 i s2 = s3
   ·rw [if_pos (by unfold flW; rw [hik]; exact decide_eq_true h), if_pos h, List.map_cons, hik]; rfl
   ·rw [if_neg (by unfold flW; rw [hik, decide_eq_false h]; decide), if_neg h]; rfl
  have nx : ∀ L' : Int, dc L' = dc L ++ (if bitsI .and .u8 i s2 = s3 then [[i, i]] else []) -> lbF.ent.pre [s0, s1, s2, s3, s4, s5, s6, s7, s8, s9, sa, sb, sc, L', i + 1] /\
   muF [s0, s1, s2, s3, s4, s5, s6, s7, s8, s9, sa, sb, sc, L', i + 1] < muF [s0, s1, s2, s3, s4, s5, s6, s7, s8, s9, sa, sb, sc, L, i] /\
   Nc [s0, s1, s2, s3, s4, s5, s6, s7, s8, s9, sa, sb, sc, L, i] [φ 0 [s0, s1, s2, s3, s4, s5, s6, s7, s8, s9, sa, sb, sc, L', i + 1]] := fun L' h => by
   have yp : lbF.ent.pre [s0, s1, s2, s3, s4, s5, s6, s7, s8, s9, sa, sb, sc, L', i + 1] := ⟨by show 0 <= i + 1; omega, by show i + 1 <= 64; omega, by
    show ((dc L').length : Int) <= i + 1
    rw [h, List.length_append]
    have : (if bitsI .and .u8 i s2 = s3 then [[i, i]] else [] : RL).length <= 1 := by split <;> simp
    omega⟩
   have ym : muF [s0, s1, s2, s3, s4, s5, s6, s7, s8, s9, sa, sb, sc, L', i + 1] < muF [s0, s1, s2, s3, s4, s5, s6, s7, s8, s9, sa, sb, sc, L, i] := by show (64 - (i + 1)).toNat < (64 - i).toNat; omega
   have ih := hφ [s0, s1, s2, s3, s4, s5, s6, s7, s8, s9, sa, sb, sc, L', i + 1] ⟨hs0, hs1, hs2, hs3, hs4, hs5, hs6, hs7, hs8, hs9, hsa, hsb, hsc, rfl, w2, trivial⟩ yp ym
   obtain ⟨u, hu⟩ : ∃ u, φ 0 [s0, s1, s2, s3, s4, s5, s6, s7, s8, s9, sa, sb, sc, L', i + 1] = u := ⟨_, rfl⟩
   have ih : dc u = dc L' ++ flL s2 s3 ((List.range 64).drop (i + 1).toNat) := by rw [<- hu]; exact ih
   refine ⟨yp, ym, ?_⟩
   rw [hu]
   show dc u = dc L ++ flL s2 s3 ((List.range 64).drop i.toNat)
   rw [ih, h, hdr, List.append_assoc]
  by_cases c2 : bitsI .and .u8 i s2 = s3
  ·have hl : dc (cd (dc L ++ [[i, i]])) = dc L ++ (if bitsI .and .u8 i s2 = s3 then [[i, i]] else []) := by rw [Ab, if_pos c2]
   refine ⟨?_, ?_⟩ <;> simp (disch := omega) only [ewZ, reduceCtorEq, seval, hSS, c, w1, w2, c2]
   ·exact ⟨by simp; omega, (nx _ hl).1, (nx _ hl).2.1⟩
   ·exact (nx _ hl).2.2
  ·have hl : dc L = dc L ++ (if bitsI .and .u8 i s2 = s3 then [[i, i]] else []) := by rw [if_neg c2, List.append_nil]
   refine ⟨?_, ?_⟩ <;> simp (disch := omega) only [ewZ, reduceCtorEq, seval, hSS, c, w1, w2, c2]
   ·exact ⟨(nx _ hl).1, (nx _ hl).2.1⟩
   ·exact (nx _ hl).2.2
 ·refine ⟨?_, ?_⟩ <;> simp (disch := omega) only [ewZ, reduceCtorEq, seval, hSS, c]
  ·show dc L = dc L ++ flL s2 s3 ((List.range 64).drop i.toNat)
   rw [List.drop_eq_nil_of_le (by simp; omega)]; exact (List.append_nil _).symm
theorem cFok : cF.OK Tryd.prog G0 := ⟨rfl, mF trivial, mF ⟨okF.1, trivial⟩⟩
theorem RG : EPz e716 pst6 := by
 refine cFok.entryK false [(9071, leF.ent)] ?_
 go_invoke
 refine enK rfl ?_
 intro l ρ s0 hs0 s1 hs1 s2 hs2 s3 hs3 s4 hs4 s5 hs5 s6 hs6 s7 hs7 s8 hs8 s9 hs9 sa hsa sb hsb sc hsc hp hSS _
 have y0 : leF.ent.pre [s0, s1, s2, s3, s4, s5, s6, s7, s8, s9, sa, sb, sc, cd [], 0] := ⟨Int.le_refl _, by show (0 : Int) <= 64; decide, by show ((dc (cd [])).length : Int) <= 0; rw [Ab]; decide⟩
 have z := okF.2 [s0, s1, s2, s3, s4, s5, s6, s7, s8, s9, sa, sb, sc, cd [], 0] ⟨hs0, hs1, hs2, hs3, hs4, hs5, hs6, hs7, hs8, hs9, hsa, hsb, hsc, rfl, rfl, trivial⟩ y0
 obtain ⟨u, hu⟩ : ∃ u, leF.ent.fn 0 [s0, s1, s2, s3, s4, s5, s6, s7, s8, s9, sa, sb, sc, cd [], 0] = u := ⟨_, rfl⟩
 have z : dc u = dc (cd []) ++ flL s2 s3 ((List.range 64).drop 0) := by rw [<- hu]; exact z
 rw [Ab, List.nil_append, List.drop_zero] at z
 refine ⟨?_, ?_⟩ <;> simp (disch := omega) only [ewZ, reduceCtorEq, seval, hSS, hu]
 ·exact y0
 ·exact z
end
end Go.Proofs.YtgpflpbldeflhaaDoor.Ew.Sr
set_option maxHeartbeats 8000000
namespace Go.Proofs.YtgpflpbldeflhaaDoor.Ew.Sr
open Go Go.RowKit
noncomputable section
def e7k : Nat -> Ent
 | 0 => e710
 | 1 => e711
 | 2 => e712
 | 3 => e713
 | 4 => e714
 | 5 => e715
 | _ => e716
def pre71g (xs : List Int) : Prop := ruP (xs.take 13) /\ 0 <= env xs 13 /\ env xs 13 <= 6
def SM (xs ys : List Int) : Prop := dc (env ys 0) = spF (env xs 13).toNat (xs.take 13)
def e71 : Ent := ⟨71, 71, [ru, i64], [], [], lsp, fun j xs => (e7k (env xs 13).toNat).fn j (xs.take 13), pre71g⟩
theorem Rb {w w' : World} {M0 Im : Nat -> Prop} {hs : Nat -> Hd} {ty : Nat} {q : Row} {ys zs : List Int} {i j : Nat} (h : env ys i = env zs j)
 (R : RelE F0 (env ys) w M0 Im hs [(0, mkB true, .lst ty q false (LEN (.var .x i)) (.var .x i))] w') : RelE F0 (env zs) w M0 Im hs [(0, mkB true, .lst ty q false (LEN (.var .x j)) (.var .x j))] w' := by
 have d1 : (E.var .x i).den F0 (env ys) = (E.var .x j).den F0 (env zs) := h
 have d2 : (LEN (.var .x i)).den F0 (env ys) = (LEN (.var .x j)).den F0 (env zs) := by rw [BO.len, BO.len, d1]
 obtain ⟨⟨a1, a2, a3⟩, a4⟩ := R.ent _ (List.mem_singleton.2 rfl) (by simp)
 refine ⟨fun x hx ht => ?_, fun x hx y hy _ _ _ _ _ => ?_, R.im, R.fr⟩
 ·obtain rfl := List.mem_singleton.1 hx
  refine ⟨⟨?_, ?_, ?_⟩, fun b hb => by simp [mutB] at hb⟩
  ·rw [<- d1]; exact a1
  ·rw [<- d2, <- d1]; exact a2
  ·rw [<- d1]; exact a3
 ·rw [List.mem_singleton.1 hx, List.mem_singleton.1 hy]
theorem DU {w : World} {M0 Im0 : Nat -> Prop} {hs : Nat -> Hd} {n : Nat} (hn : n = 0) {args args' : Array Value} (ha : args = args') {z z' : List Int} {i j : Nat} (hv : env z i = env z' j)
 (H : Calls Tryd.prog 71 args w fun en w' => ∃ (hs' : Nat -> Hd) (Im' : Nat -> Prop), (∀ j, j < n -> hs' j = hs j) /\ (∀ b, Im0 b -> Im' b) /\ (∀ b, Im' b -> Im0 b \/ M0 b \/ w.heap.size <= b) /\
  en = .returned (SV.conc F0 (env z) hs' (.ls 0 (LEN (.var .x i)))) /\ RelE F0 (env z) w M0 Im' hs' [(0, mkB true, .lst 138 spR false (LEN (.var .x i)) (.var .x i))] w') :
 Calls Tryd.prog 71 args' w fun en w' => ∃ (hs' : Nat -> Hd) (Im' : Nat -> Prop), (∀ j, j < n -> hs' j = hs j) /\ (∀ b, Im0 b -> Im' b) /\ (∀ b, Im' b -> Im0 b \/ M0 b \/ w.heap.size <= b) /\
  en = .returned (SV.conc F0 (env z') hs' (.ls 0 (LEN (.var .x j)))) /\ RelE F0 (env z') w M0 Im' hs' [(0, mkB true, .lst 138 spR false (LEN (.var .x j)) (.var .x j))] w' := by
 subst ha
 refine H.mono fun en w' h => ?_
 obtain ⟨hs', Im', h1, h2, h3, h4, h5⟩ := h
 refine ⟨hs', Im', h1, h2, h3, ?_, Rb hv h5⟩
 have d1 : (E.var .x i).den F0 (env z) = (E.var .x j).den F0 (env z') := hv
 have d2 : (LEN (.var .x i)).den F0 (env z) = (LEN (.var .x j)).den F0 (env z') := by rw [BO.len, BO.len, d1]
 rw [h4]
 simp only [SV.conc, d2]
theorem ok71 : EPz e71 SM := by
 have split14 : ∀ xs, fits e71.pks xs -> ∃ s0 s1 s2 s3 s4 s5 s6 s7 s8 s9 sa sb sc k, xs = [s0, s1, s2, s3, s4, s5, s6, s7, s8, s9, sa, sb, sc, k] /\ fits ruK [s0, s1, s2, s3, s4, s5, s6, s7, s8, s9, sa, sb, sc] := fun xs hf => by
  obtain ⟨s0, r, rfl, h0, hf⟩ := Aa hf
  obtain ⟨s1, r, rfl, h1, hf⟩ := Aa hf
  obtain ⟨s2, r, rfl, h2, hf⟩ := Aa hf
  obtain ⟨s3, r, rfl, h3, hf⟩ := Aa hf
  obtain ⟨s4, r, rfl, h4, hf⟩ := Aa hf
  obtain ⟨s5, r, rfl, h5, hf⟩ := Aa hf
  obtain ⟨s6, r, rfl, h6, hf⟩ := Aa hf
  obtain ⟨s7, r, rfl, h7, hf⟩ := Aa hf
  obtain ⟨s8, r, rfl, h8, hf⟩ := Aa hf
  obtain ⟨s9, r, rfl, h9, hf⟩ := Aa hf
  obtain ⟨sa, r, rfl, ha, hf⟩ := Aa hf
  obtain ⟨sb, r, rfl, hb, hf⟩ := Aa hf
  obtain ⟨sc, r, rfl, hc, hf⟩ := Aa hf
  obtain ⟨k, r, rfl, hk, hf⟩ := Aa hf
  obtain rfl := Ba hf
  exact ⟨s0, s1, s2, s3, s4, s5, s6, s7, s8, s9, sa, sb, sc, k, rfl, h0, h1, h2, h3, h4, h5, h6, h7, h8, h9, ha, hb, hc, trivial⟩
 refine ⟨fun xs hf hp w M0 Im0 hs hM hG hR => ?_, fun xs hf hp => ?_⟩
 ·obtain ⟨s0, s1, s2, s3, s4, s5, s6, s7, s8, s9, sa, sb, sc, k, rfl, hf'⟩ := split14 xs hf
  obtain ⟨p1, p2, p3⟩ := hp
  replace p2 : 0 <= k := p2
  replace p3 : k <= 6 := p3
  have hR' : RelE F0 (env [s0, s1, s2, s3, s4, s5, s6, s7, s8, s9, sa, sb, sc]) w M0 Im0 hs [] w := ⟨fun x hx _ => absurd hx List.not_mem_nil, fun x hx _ _ _ _ _ _ _ => absurd hx List.not_mem_nil, hR.im, hR.fr⟩
  rcases (show k = 0 \/ k = 1 \/ k = 2 \/ k = 3 \/ k = 4 \/ k = 5 \/ k = 6 by omega) with rfl | rfl | rfl | rfl | rfl | rfl | rfl
  ·refine DU (n := 0) (i := 13) (j := 14) rfl ?_ ?_ (RA.1 [s0, s1, s2, s3, s4, s5, s6, s7, s8, s9, sa, sb, sc] hf' p1 w M0 Im0 hs hM hG hR')
   ·rfl
   ·rfl
  ·refine DU (n := 0) (i := 13) (j := 14) rfl ?_ ?_ (RF.1 [s0, s1, s2, s3, s4, s5, s6, s7, s8, s9, sa, sb, sc] hf' p1 w M0 Im0 hs hM hG hR')
   ·rfl
   ·rfl
  ·refine DU (n := 0) (i := 13) (j := 14) rfl ?_ ?_ (RB.1 [s0, s1, s2, s3, s4, s5, s6, s7, s8, s9, sa, sb, sc] hf' p1 w M0 Im0 hs hM hG hR')
   ·rfl
   ·rfl
  ·refine DU (n := 0) (i := 13) (j := 14) rfl ?_ ?_ (RD.1 [s0, s1, s2, s3, s4, s5, s6, s7, s8, s9, sa, sb, sc] hf' p1 w M0 Im0 hs hM hG hR')
   ·rfl
   ·rfl
  ·refine DU (n := 0) (i := 13) (j := 14) rfl ?_ ?_ (RC.1 [s0, s1, s2, s3, s4, s5, s6, s7, s8, s9, sa, sb, sc] hf' p1 w M0 Im0 hs hM hG hR')
   ·rfl
   ·rfl
  ·refine DU (n := 0) (i := 13) (j := 14) rfl ?_ ?_ (RE.1 [s0, s1, s2, s3, s4, s5, s6, s7, s8, s9, sa, sb, sc] hf' p1 w M0 Im0 hs hM hG hR')
   ·rfl
   ·rfl
  ·refine DU (n := 0) (i := 13) (j := 14) rfl ?_ ?_ (RG.1 [s0, s1, s2, s3, s4, s5, s6, s7, s8, s9, sa, sb, sc] hf' p1 w M0 Im0 hs hM hG hR')
   ·rfl
   ·rfl
 ·obtain ⟨s0, s1, s2, s3, s4, s5, s6, s7, s8, s9, sa, sb, sc, k, rfl, hf'⟩ := split14 xs hf
  obtain ⟨p1, p2, p3⟩ := hp
  replace p2 : 0 <= k := p2
  replace p3 : k <= 6 := p3
  rcases (show k = 0 \/ k = 1 \/ k = 2 \/ k = 3 \/ k = 4 \/ k = 5 \/ k = 6 by omega) with rfl | rfl | rfl | rfl | rfl | rfl | rfl
  ·exact RA.2 [s0, s1, s2, s3, s4, s5, s6, s7, s8, s9, sa, sb, sc] hf' p1
  ·exact RF.2 [s0, s1, s2, s3, s4, s5, s6, s7, s8, s9, sa, sb, sc] hf' p1
  ·exact RB.2 [s0, s1, s2, s3, s4, s5, s6, s7, s8, s9, sa, sb, sc] hf' p1
  ·exact RD.2 [s0, s1, s2, s3, s4, s5, s6, s7, s8, s9, sa, sb, sc] hf' p1
  ·exact RC.2 [s0, s1, s2, s3, s4, s5, s6, s7, s8, s9, sa, sb, sc] hf' p1
  ·exact RE.2 [s0, s1, s2, s3, s4, s5, s6, s7, s8, s9, sa, sb, sc] hf' p1
  ·exact RG.2 [s0, s1, s2, s3, s4, s5, s6, s7, s8, s9, sa, sb, sc] hf' p1
def acR : Row := .ls 138 spR .nil
def laco : Sh := .lst 132 acR true
def lru : Sh := .lst 74 ruR false
def acd (c : Int) : List RL := (dc c).map fun r => dc (r.getD 0 0)
def oneR (c : Int) : Prop := ∀ r ∈ dc c, r.length = 1
def preA (xs : List Int) : Prop := 0 <= env xs 0 /\ env xs 0 <= 6 /\ (∀ r ∈ dc (env xs 3), ruP r) /\ env xs 4 = ((dc (env xs 3)).length : Int) /\ 0 <= env xs 5 /\ env xs 5 <= env xs 4 /\ env xs 4 <= 256 /\ oneR (env xs 2) /\ ((dc (env xs 2)).length : Int) = env xs 4 /\ ((dc (env xs 1)).length : Int) <= 64 * env xs 5
def Nd (xs ys : List Int) : Prop := dc (env ys 0) = dc (env xs 1) ++ ((dc (env xs 3)).drop (env xs 5).toNat).flatMap (spF (env xs 0).toNat) /\ oneR (env ys 1) /\ acd (env ys 1) = (acd (env xs 2)).take (env xs 5).toNat ++ ((dc (env xs 3)).drop (env xs 5).toNat).map (spF (env xs 0).toNat)
def muA (xs : List Int) : Nat := (env xs 4 - env xs 5).toNat
def pA : List Bool := [true,true,true,false,true,false]
def cA : Ctx := ⟨[e71], []⟩
def lbA : LEnt := ⟨⟨9042, 999999, [i64, lspo, laco, lru, i64, i64], [], [], .tup [lspo, laco], z0, preA⟩, [1, 5, 6, 19, 20, 21], [5, 6], [7, 8] ++ (List.range 18).map (· + 21), [.ex 0], 91, []⟩
def leA : LEnt := lbA.fw (fnM Tryd.prog G0 42 pA lbA Nd)
theorem Fx {α : Type} : ∀ (l : List α) (i : Nat) (x : α), i < l.length -> (l.set i x).take (i + 1) = l.take i ++ [x]
 | [], i, x, h => by simp at h
 | a :: l, 0, x, h => by simp
 | a :: l, i + 1, x, h => by
   have := Fx l i x (by simpa using h)
   simp only [List.set_cons_succ, List.take_succ_cons, List.cons_append, this]
theorem GG (k : Nat) (r : List Int) : (spF k r).length <= 64 := by
 unfold spF
 split
 ·split <;> simp
 ·repeat' split
  all_goals simp
 ·simp
 ·simp
 ·simp
 ·simp
 ·unfold flL
  rw [List.length_map]
  have := List.length_filter_le (flW (r.getD 2 0) (r.getD 3 0)) (List.range 64)
  rwa [List.length_range] at this
theorem cAok : cA.OK Tryd.prog G0 := ⟨rfl, mF ⟨ok71.1, trivial⟩, mF trivial⟩
theorem okA : IPz 42 pA leA Nd := by
 refine cAok.loopK muA false 9042 [(71, e71)] ⟨_, _, _, Tryd.func42, rfl, rfl⟩ ?_
 go_invoke
 refine enK rfl ?_
 intro φ l ρ k hk O C L n hn i hi hp hφ hSS _
 obtain ⟨p1, p2, p3, p4, p5, p6, p7, p8, p9, pa⟩ := hp
 replace p3 : ∀ r ∈ dc L, ruP r := p3
 replace p8 : oneR C := p8
 simp only [ewY, seval] at p1 p2 p4 p5 p6 p7 p9 pa
 by_cases c : i < n
 ·obtain ⟨r, er, hr, hm, hdr⟩ := AK (ks := ruK) (fun r hr => (p3 r hr).1) p5 (by omega : i < ((dc L).length : Int))
  have hrp := p3 r hm
  obtain ⟨s0, r', rfl, h0, hr⟩ := Aa hr
  obtain ⟨s1, r', rfl, h1, hr⟩ := Aa hr
  obtain ⟨s2, r', rfl, h2, hr⟩ := Aa hr
  obtain ⟨s3, r', rfl, h3, hr⟩ := Aa hr
  obtain ⟨s4, r', rfl, h4, hr⟩ := Aa hr
  obtain ⟨s5, r', rfl, h5, hr⟩ := Aa hr
  obtain ⟨s6, r', rfl, h6, hr⟩ := Aa hr
  obtain ⟨s7, r', rfl, h7, hr⟩ := Aa hr
  obtain ⟨s8, r', rfl, h8, hr⟩ := Aa hr
  obtain ⟨s9, r', rfl, h9, hr⟩ := Aa hr
  obtain ⟨sa, r', rfl, h10, hr⟩ := Aa hr
  obtain ⟨sb, r', rfl, h11, hr⟩ := Aa hr
  obtain ⟨sc, r', rfl, h12, hr⟩ := Aa hr
  obtain rfl := Ba hr
  simp only [AH] at h0 h1 h2 h3 h4 h5 h6 h7 h8 h9 h10 h11
  have y0 : e71.pre [s0, s1, s2, s3, s4, s5, s6, s7, s8, s9, sa, sb, sc, k] := ⟨hrp, p1, p2⟩
  have z := ok71.2 [s0, s1, s2, s3, s4, s5, s6, s7, s8, s9, sa, sb, sc, k] ⟨h0, h1, h2, h3, h4, h5, h6, h7, h8, h9, h10, h11, h12, hk, trivial⟩ y0
  obtain ⟨u, hu⟩ : ∃ u, e71.fn 0 [s0, s1, s2, s3, s4, s5, s6, s7, s8, s9, sa, sb, sc, k] = u := ⟨_, rfl⟩
  have z : dc u = spF k.toNat [s0, s1, s2, s3, s4, s5, s6, s7, s8, s9, sa, sb, sc] := by rw [<- hu]; exact z
  have hiC : i.toNat < (dc C).length := by omega
  have sp : splR ((dc C).getD i.toNat []) 0 [u] = [u] := by
   have h1 : ((dc C).getD i.toNat []).length = 1 := by
    rw [List.getD_eq_getElem?_getD, List.getElem?_eq_getElem hiC, Option.getD_some]
    exact p8 _ (List.getElem_mem hiC)
   unfold splR
   rw [List.take_zero, List.nil_append, List.drop_eq_nil_of_le (by rw [h1]; simp), List.append_nil]
  have gu : (((dc C).set i.toNat [u]).getD i.toNat []).getD 0 0 = u := by
   rw [List.getD_eq_getElem?_getD (l := (dc C).set i.toNat [u]), List.getElem?_set_self (by exact hiC), Option.getD_some]
   rfl
  have hul : (dc u).length <= 64 := by rw [z]; exact GG _ _
  have nx : (lbA.ent.pre [k, cd (dc O ++ dc u), cd ((dc C).set i.toNat [u]), L, n, i + 1]) /\ muA [k, cd (dc O ++ dc u), cd ((dc C).set i.toNat [u]), L, n, i + 1] < muA [k, O, C, L, n, i] /\
   Nd [k, O, C, L, n, i] [φ 0 [k, cd (dc O ++ dc u), cd ((dc C).set i.toNat [u]), L, n, i + 1], φ 1 [k, cd (dc O ++ dc u), cd ((dc C).set i.toNat [u]), L, n, i + 1]] := by
   have yp : lbA.ent.pre [k, cd (dc O ++ dc u), cd ((dc C).set i.toNat [u]), L, n, i + 1] := ⟨p1, p2, p3, p4, by show 0 <= i + 1; omega, by show i + 1 <= n; omega, p7, fun r hr => by
    have hr : r ∈ dc (cd ((dc C).set i.toNat [u])) := hr
    rw [Ab] at hr
    rcases List.mem_or_eq_of_mem_set hr with h | h
    ·exact p8 r h
    ·rw [h]; rfl, by show ((dc (cd ((dc C).set i.toNat [u]))).length : Int) = n; rw [Ab, List.length_set]; exact p9, by
    show ((dc (cd (dc O ++ dc u))).length : Int) <= 64 * (i + 1)
    rw [Ab, List.length_append]; omega⟩
   have ym : muA [k, cd (dc O ++ dc u), cd ((dc C).set i.toNat [u]), L, n, i + 1] < muA [k, O, C, L, n, i] := by show (n - (i + 1)).toNat < (n - i).toNat; omega
   have ih := hφ [k, cd (dc O ++ dc u), cd ((dc C).set i.toNat [u]), L, n, i + 1] ⟨hk, rfl, rfl, rfl, hn, i64w (by omega) (by omega), trivial⟩ yp ym
   obtain ⟨a, ha'⟩ : ∃ a, φ 0 [k, cd (dc O ++ dc u), cd ((dc C).set i.toNat [u]), L, n, i + 1] = a := ⟨_, rfl⟩
   obtain ⟨b, hb'⟩ : ∃ a, φ 1 [k, cd (dc O ++ dc u), cd ((dc C).set i.toNat [u]), L, n, i + 1] = a := ⟨_, rfl⟩
   have ih : dc a = dc (cd (dc O ++ dc u)) ++ ((dc L).drop (i + 1).toNat).flatMap (spF k.toNat) /\ oneR b /\ acd b = (acd (cd ((dc C).set i.toNat [u]))).take (i + 1).toNat ++ ((dc L).drop (i + 1).toNat).map (spF k.toNat) := by rw [<- ha', <- hb']; exact ih
   refine ⟨yp, ym, ?_⟩
   rw [ha', hb']
   refine ⟨?_, ih.2.1, ?_⟩
   ·show dc a = dc O ++ ((dc L).drop i.toNat).flatMap (spF k.toNat)
    rw [ih.1, Ab, hdr, List.flatMap_cons, <- z, List.append_assoc]
   ·show acd b = (acd C).take i.toNat ++ ((dc L).drop i.toNat).map (spF k.toNat)
    have e1 : acd (cd ((dc C).set i.toNat [u])) = (acd C).set i.toNat (dc u) := by
     unfold acd
     rw [Ab, List.map_set]
     rfl
    rw [ih.2.2, e1, show (i + 1).toNat = i.toNat + 1 by omega, Fx _ _ _ (by unfold acd; rw [List.length_map]; exact hiC), hdr, List.map_cons, <- z, List.append_assoc, show (i + 1).toNat = i.toNat + 1 by omega]
    rfl
  refine ⟨?_, ?_⟩ <;> simp (disch := omega) only [ewZ, reduceCtorEq, seval, hSS, c, er, h0, h1, h2, h3, h4, h5, h6, h7, h8, h9, h10, h11, h12, hu, sp, gu]
  ·exact ⟨⟨⟨p5, by omega⟩, ⟨y0, p5, by omega⟩, ⟨p5, by omega⟩, ⟨p5, by omega⟩, by rw [List.length_append]; omega⟩, nx.1, nx.2.1⟩
  ·exact nx.2.2
 ·refine ⟨?_, ?_⟩ <;> simp (disch := omega) only [ewZ, reduceCtorEq, seval, hSS, c]
  ·refine ⟨?_, p8, ?_⟩
   ·show dc O = dc O ++ ((dc L).drop i.toNat).flatMap (spF k.toNat)
    rw [List.drop_eq_nil_of_le (by omega)]; exact (List.append_nil _).symm
   ·show acd C = (acd C).take i.toNat ++ ((dc L).drop i.toNat).map (spF k.toNat)
    rw [List.drop_eq_nil_of_le (by omega), List.take_of_length_le (by unfold acd; rw [List.length_map]; omega)]; exact (List.append_nil _).symm
end
end Go.Proofs.YtgpflpbldeflhaaDoor.Ew.Sr
set_option maxHeartbeats 8000000
namespace Go.Proofs.YtgpflpbldeflhaaDoor.Ew.Sr
open Go Go.RowKit
noncomputable section
def seS : Sh := .obj 57 [u64, u64, u64, u64]
def seO (j : Nat) : Ob := { j := j, ty := 57, cs := [u64, u64, u64, u64] }
def lac : Sh := .lst 132 acR false
def spOK (A : List RL) : Prop := ∀ q ∈ A, rowsOK spK q /\ q.length <= 1000000
def orB (j : Nat) (s : List Int) : List Int := s.set (j / 64) (bitsI .or .u64 (s.getD (j / 64) 0) (2 ^ (j % 64)))
def setF : List RL -> Int -> Nat -> List Int -> List Int
 | [], _, _, s => s
 | q :: A, v, j, s => setF A v (j + 1) (if inS q v = true then orB j s else s)
def preS (xs : List Int) : Prop := spOK (acd (env xs 5)) /\ env xs 6 = ((dc (env xs 5)).length : Int) /\ 0 <= env xs 7 /\ env xs 7 <= env xs 6 /\ env xs 6 <= 256
def Nf (xs ys : List Int) : Prop := ys = setF ((acd (env xs 5)).drop (env xs 7).toNat) (env xs 0) (env xs 7).toNat [env xs 1, env xs 2, env xs 3, env xs 4]
def muS (xs : List Int) : Nat := (env xs 6 - env xs 7).toNat
def cS : Ctx := ⟨[e73], []⟩
def pS : List Bool := [true,true,true,true,true,false,true,false,false,true,true,false,false,true,true,false,true,false]
def lbS : LEnt := ⟨⟨9242, 999999, [bxU, seS, lac, i64, i64], [seO 1], [0, 2], .tup [], z0, preS⟩, [11, 12, 49, 50, 51], [], [13, 14] ++ (List.range 18).map (· + 51), [.ex 4], 91, [49]⟩
def leS : LEnt := lbS.fw (fnM Tryd.prog G0 42 pS lbS Nf)
def clK : List K := [.i .u32, .i .u64, .i .u64, .i .u64, .i .u64]
def clR : Row := .ofKs clK
def lclo : Sh := .lst 59 clR true
def lcl : Sh := .lst 59 clR false
def z4 : List Int := [0, 0, 0, 0]
def lstR (o : RL) : List Int := o.getD (o.length - 1) []
def addC (A : List RL) (o : RL) (v : Int) : RL := if o.length = 0 \/ (lstR o).drop 1 ≠ setF A v 0 z4 then o ++ [v :: setF A v 0 z4] else o
def mrgF (A : List RL) (o : RL) (b : List Int) : RL := b.foldl (addC A) o
def preM (xs : List Int) : Prop := spOK (acd (env xs 0)) /\ ((dc (env xs 0)).length : Int) <= 256 /\ rowsOK clK (dc (env xs 1)) /\ RO kU (env xs 2) /\ env xs 3 = ((dc (env xs 2)).length : Int) /\ 0 <= env xs 4 /\ env xs 4 <= env xs 3 /\ env xs 3 <= 1000000 /\ ((dc (env xs 1)).length : Int) <= env xs 4
def Ng (xs ys : List Int) : Prop := rowsOK clK (dc (env ys 0)) /\ dc (env ys 0) = mrgF (acd (env xs 0)) (dc (env xs 1)) ((vl (env xs 2)).drop (env xs 4).toNat)
def muM (xs : List Int) : Nat := (env xs 3 - env xs 4).toNat
def pM : List Bool := [true,true,true,true,true,false,true,false]
def cM : Ctx := ⟨[], [(42, pS, leS)]⟩
def lbM : LEnt := ⟨⟨9142, 999999, [lac, lclo, .lst 26 uR false, i64, i64], [], [0, 2], .tup [lclo], z0, preM⟩, [6, 9, 43, 44, 45], [9], (List.range 5).map (· + 11) ++ (List.range 45).map (· + 45), [.ex 2], 91, [6, 43]⟩
def leM : LEnt := lbM.fw (fnM Tryd.prog G0 42 pM lbM Ng)
def c42 : Ctx := ⟨[e72], [(42, pA, leA), (42, pM, leM)]⟩
def lstF (k : Nat) : Int := [1, 2, 4294967295, 4294967295, 65535, 65535, 63].getD k 0
def pre42 (xs : List Int) : Prop := (∀ r ∈ dc (env xs 0), ruP r) /\ ((dc (env xs 0)).length : Int) <= 256
def clsP (k : Nat) (L : RL) (R : RL) : Prop := rowsOK clK R /\ ∃ v, brdP (lstF k) (L.flatMap (spF k)) v /\ R = mrgF (L.map (spF k)) [] v
def b42 (k : Int) (key : Nat) : Ent := ⟨key, 42, [lru, fl k], [], [0], lclo, z0, pre42⟩
def b420 : Ent := b42 0 4200
def b421 : Ent := b42 1 4201
def b422 : Ent := b42 2 4202
def b423 : Ent := b42 3 4203
def b424 : Ent := b42 4 4204
def b425 : Ent := b42 5 4205
def b426 : Ent := b42 6 4206
def DV (k : Nat) (xs ys : List Int) : Prop := clsP k (dc (env xs 0)) (dc (env ys 0))
def Po := DV 0
def Pp := DV 1
def Pq := DV 2
def Pr := DV 3
def Ps := DV 4
def Pu := DV 5
def Pv := DV 6
def e420 : Ent := b420.fw (fnG Tryd.prog G0 b420 Po)
def e421 : Ent := b421.fw (fnG Tryd.prog G0 b421 Pp)
def e422 : Ent := b422.fw (fnG Tryd.prog G0 b422 Pq)
def e423 : Ent := b423.fw (fnG Tryd.prog G0 b423 Pr)
def e424 : Ent := b424.fw (fnG Tryd.prog G0 b424 Ps)
def e425 : Ent := b425.fw (fnG Tryd.prog G0 b425 Pu)
def e426 : Ent := b426.fw (fnG Tryd.prog G0 b426 Pv)
theorem cSok : cS.OK Tryd.prog G0 := ⟨rfl, mF ⟨ok73.1, trivial⟩, mF trivial⟩
theorem TB {C i : Int} (h0 : 0 <= i) (h1 : i < ((dc C).length : Int)) : (acd C).drop i.toNat = dc (((dc C).getD i.toNat []).getD 0 0) :: (acd C).drop (i + 1).toNat := by
 have hl : i.toNat < (acd C).length := by unfold acd; rw [List.length_map]; omega
 have e : (acd C)[i.toNat] = dc (((dc C).getD i.toNat []).getD 0 0) := by
  have hl' : i.toNat < (dc C).length := by omega
  have h1 : (acd C)[i.toNat]? = some (dc (((dc C).getD i.toNat []).getD 0 0)) := by
   unfold acd
   rw [List.getElem?_map, List.getD_eq_getElem?_getD (l := dc C), List.getElem?_eq_getElem hl']
   rfl
  rw [List.getElem?_eq_getElem hl] at h1
  exact Option.some.inj h1
 rw [List.drop_eq_getElem_cons hl, show (i + 1).toNat = i.toNat + 1 by omega, e]
theorem okS : IPz 42 pS leS Nf := by
 refine cSok.loopK muS false 9242 [(73, e73)] ⟨_, _, _, Tryd.func42, rfl, rfl⟩ ?_
 go_invoke
 refine enK rfl ?_
 intro φ l ρ x hx q0 hq0 q1 hq1 q2 hq2 q3 hq3 C n hn i hi hp hφ hSS _
 obtain ⟨p1, p2, p3, p4, p5⟩ := hp
 replace p1 : spOK (acd C) := p1
 simp only [ewY, seval] at p2 p3 p4 p5
 by_cases c : i < n
 ·have hdr := TB (C := C) p3 (by omega)
  obtain ⟨u, hu⟩ : ∃ u, ((dc C).getD i.toNat []).getD 0 0 = u := ⟨_, rfl⟩
  rw [hu] at hdr
  have hq := p1 (dc u) (List.mem_of_mem_drop (i := i.toNat) (by rw [hdr]; exact List.mem_cons_self ..))
  have y0 : e73.pre [u, x] := ⟨hq.1, by show ((dc u).length : Int) <= 1000000; have := hq.2; omega⟩
  have z := ok73.2 [u, x] ⟨rfl, hx, trivial⟩ y0
  have z : K.b.norm (e73.fn 0 [u, x]) = b2i (inS (dc u) x) := z
  have zz := z
  have nx : ∀ a0 a1 a2 a3 : Int, [a0, a1, a2, a3] = (if inS (dc u) x = true then orB i.toNat [q0, q1, q2, q3] else [q0, q1, q2, q3]) -> IntKind.u64.wrap a0 = a0 -> IntKind.u64.wrap a1 = a1 -> IntKind.u64.wrap a2 = a2 -> IntKind.u64.wrap a3 = a3 ->
   (lbS.ent.pre [x, a0, a1, a2, a3, C, n, i + 1] /\ muS [x, a0, a1, a2, a3, C, n, i + 1] < muS [x, q0, q1, q2, q3, C, n, i]) /\
   Nf [x, q0, q1, q2, q3, C, n, i] [IntKind.u64.wrap (φ 0 [x, a0, a1, a2, a3, C, n, i + 1]), IntKind.u64.wrap (φ 1 [x, a0, a1, a2, a3, C, n, i + 1]), IntKind.u64.wrap (φ 2 [x, a0, a1, a2, a3, C, n, i + 1]), IntKind.u64.wrap (φ 3 [x, a0, a1, a2, a3, C, n, i + 1])] := fun a0 a1 a2 a3 h w0 w1 w2 w3 => by
   have yp : lbS.ent.pre [x, a0, a1, a2, a3, C, n, i + 1] := ⟨p1, p2, by show 0 <= i + 1; omega, by show i + 1 <= n; omega, p5⟩
   have ym : muS [x, a0, a1, a2, a3, C, n, i + 1] < muS [x, q0, q1, q2, q3, C, n, i] := by show (n - (i + 1)).toNat < (n - i).toNat; omega
   have ih := hφ [x, a0, a1, a2, a3, C, n, i + 1] ⟨hx, w0, w1, w2, w3, rfl, hn, i64w (by omega) (by omega), trivial⟩ yp ym
   have ih : [IntKind.u64.wrap (φ 0 [x, a0, a1, a2, a3, C, n, i + 1]), IntKind.u64.wrap (φ 1 [x, a0, a1, a2, a3, C, n, i + 1]), IntKind.u64.wrap (φ 2 [x, a0, a1, a2, a3, C, n, i + 1]), IntKind.u64.wrap (φ 3 [x, a0, a1, a2, a3, C, n, i + 1])] = setF ((acd C).drop (i + 1).toNat) x (i + 1).toNat [a0, a1, a2, a3] := ih
   refine ⟨⟨yp, ym⟩, ?_⟩
   show [_, _, _, _] = setF ((acd C).drop i.toNat) x i.toNat [q0, q1, q2, q3]
   rw [ih, hdr, show (i + 1).toNat = i.toNat + 1 by omega, h]
   rfl
  by_cases hs : inS (dc u) x = true
  ·obtain ⟨D, hD⟩ : ∃ D, i / 64 = D := ⟨_, rfl⟩
   have e1 : i.tdiv 64 = D := by rw [Int.tdiv_eq_ediv_of_nonneg p3]; exact hD
   have e2 : IntKind.i64.wrap D = D := i64w (by omega) (by omega)
   have e3 : IntKind.u8.wrap D = D := u8w (by omega) (by omega)
   have e4 : D.tmod 4 = D := by rw [Int.tmod_eq_emod_of_nonneg (by omega)]; omega
   have e6 : i.tmod 64 = i % 64 := Int.tmod_eq_emod_of_nonneg p3
   obtain ⟨B, hB⟩ : ∃ B : Int, (2 : Int) ^ (i.toNat % 64) = B := ⟨_, rfl⟩
   have e5 : IntKind.u64.wrap (1 * 2 ^ min (i % 64).toNat IntKind.u64.bits) = B := by
    rw [show min (i % 64).toNat IntKind.u64.bits = i.toNat % 64 by show min (i % 64).toNat 64 = _; omega, Int.one_mul, <- hB]
    have h1 : (2 : Int) ^ (i.toNat % 64) = ((2 ^ (i.toNat % 64) : Nat) : Int) := by rw [Int.natCast_pow]; rfl
    have h2 : 2 ^ (i.toNat % 64) <= 2 ^ 63 := Nat.pow_le_pow_right (by omega) (by omega)
    rw [h1]
    obtain ⟨Q, hQ⟩ : ∃ Q, 2 ^ (i.toNat % 64) = Q := ⟨_, rfl⟩
    rw [hQ] at h2 ⊢
    rw [u64w (by omega) (by omega)]
   have hor : orB i.toNat [q0, q1, q2, q3] = [q0, q1, q2, q3].set D.toNat (bitsI .or .u64 ([q0, q1, q2, q3].getD D.toNat 0) B) := by
    unfold orB
    rw [hB, show i.toNat / 64 = D.toNat by omega]
   have ww : ∀ a b : Int, IntKind.u64.wrap (bitsI .or .u64 a b) = bitsI .or .u64 a b := fun a b => As _ _
   have hm : 0 <= i % 64 := by omega
   rw [if_pos hs, hor] at nx
   rcases (show D = 0 \/ D = 1 \/ D = 2 \/ D = 3 by omega) with rfl | rfl | rfl | rfl
   ·have z := nx (bitsI .or .u64 q0 B) q1 q2 q3 rfl (ww _ _) hq1 hq2 hq3
    refine ⟨?_, ?_⟩ <;> simp (disch := omega) only [ewZ, reduceCtorEq, seval, hSS, c, hu, zz, hs, e1, e2, e3, e4, e5, e6, Int.reduceEq, if_true, if_false]
    ·exact ⟨⟨⟨p3, by omega⟩, y0, hm⟩, z.1⟩
    ·exact z.2
   ·have z := nx q0 (bitsI .or .u64 q1 B) q2 q3 rfl hq0 (ww _ _) hq2 hq3
    refine ⟨?_, ?_⟩ <;> simp (disch := omega) only [ewZ, reduceCtorEq, seval, hSS, c, hu, zz, hs, e1, e2, e3, e4, e5, e6, Int.reduceEq, if_true, if_false]
    ·exact ⟨⟨⟨p3, by omega⟩, y0, hm⟩, z.1⟩
    ·exact z.2
   ·have z := nx q0 q1 (bitsI .or .u64 q2 B) q3 rfl hq0 hq1 (ww _ _) hq3
    refine ⟨?_, ?_⟩ <;> simp (disch := omega) only [ewZ, reduceCtorEq, seval, hSS, c, hu, zz, hs, e1, e2, e3, e4, e5, e6, Int.reduceEq, if_true, if_false]
    ·exact ⟨⟨⟨p3, by omega⟩, y0, hm⟩, z.1⟩
    ·exact z.2
   ·have z := nx q0 q1 q2 (bitsI .or .u64 q3 B) rfl hq0 hq1 hq2 (ww _ _)
    refine ⟨?_, ?_⟩ <;> simp (disch := omega) only [ewZ, reduceCtorEq, seval, hSS, c, hu, zz, hs, e1, e2, e3, e4, e5, e6, Int.reduceEq, if_true, if_false]
    ·exact ⟨⟨⟨p3, by omega⟩, y0, hm⟩, z.1⟩
    ·exact z.2
  ·have z := nx q0 q1 q2 q3 (by rw [if_neg hs]) hq0 hq1 hq2 hq3
   refine ⟨?_, ?_⟩ <;> simp (disch := omega) only [ewZ, reduceCtorEq, seval, hSS, c, hu, zz, hs]
   ·exact ⟨⟨⟨p3, by omega⟩, y0⟩, z.1⟩
   ·exact z.2
 ·refine ⟨?_, ?_⟩ <;> simp (disch := omega) only [ewZ, reduceCtorEq, seval, hSS, c]
  ·show [q0, q1, q2, q3] = setF ((acd C).drop i.toNat) x i.toNat [q0, q1, q2, q3]
   rw [List.drop_eq_nil_of_le (by unfold acd; rw [List.length_map]; omega)]; rfl
theorem cMok : cM.OK Tryd.prog G0 := ⟨rfl, mF trivial, mF ⟨okS.1, trivial⟩⟩
theorem okM : IPz 42 pM leM Ng := by
 refine cMok.loopK muM false 9142 [(9242, leS.ent)] ⟨_, _, _, Tryd.func42, rfl, rfl⟩ ?_
 go_invoke
 refine enK rfl ?_
 intro φ l ρ C O B n hn i hi hp hφ hSS _
 obtain ⟨p1, p2, p3, p4, p5, p6, p7, p8, p9⟩ := hp
 replace p1 : spOK (acd C) := p1
 replace p3 : rowsOK clK (dc O) := p3
 replace p4 : RO kU B := p4
 simp only [ewY, seval] at p2 p5 p6 p7 p8 p9
 by_cases c : i < n
 ·obtain ⟨r, er, hr, _, hdr⟩ := AK (ks := [kU]) (fun r hr => p4 r hr) p6 (by omega : i < ((dc B).length : Int))
  obtain ⟨v, r1, rfl, hv, hr⟩ := Aa hr
  obtain rfl := Ba hr
  replace hv : IntKind.u32.wrap v = v := hv
  have hvd : (vl B).drop i.toNat = v :: (vl B).drop (i + 1).toNat := by
   unfold vl
   rw [<- List.map_drop, hdr, List.map_cons, <- List.map_drop]
   rfl
  obtain ⟨m, hm⟩ : ∃ m, ((dc C).length : Int) = m := ⟨_, rfl⟩
  have wm : IntKind.i64.wrap m = m := i64w (by omega) (by omega)
  have y0 : leS.ent.pre [v, 0, 0, 0, 0, C, m, 0] := ⟨p1, hm.symm, Int.le_refl _, by show 0 <= m; omega, by show m <= 256; omega⟩
  have z := okS.2 [v, 0, 0, 0, 0, C, m, 0] ⟨hv, rfl, rfl, rfl, rfl, rfl, wm, rfl, trivial⟩ y0
  obtain ⟨t0, h0⟩ : ∃ t, IntKind.u64.wrap (leS.ent.fn 0 [v, 0, 0, 0, 0, C, m, 0]) = t := ⟨_, rfl⟩
  obtain ⟨t1, h1⟩ : ∃ t, IntKind.u64.wrap (leS.ent.fn 1 [v, 0, 0, 0, 0, C, m, 0]) = t := ⟨_, rfl⟩
  obtain ⟨t2, h2⟩ : ∃ t, IntKind.u64.wrap (leS.ent.fn 2 [v, 0, 0, 0, 0, C, m, 0]) = t := ⟨_, rfl⟩
  obtain ⟨t3, h3⟩ : ∃ t, IntKind.u64.wrap (leS.ent.fn 3 [v, 0, 0, 0, 0, C, m, 0]) = t := ⟨_, rfl⟩
  have z : [t0, t1, t2, t3] = setF (acd C) v 0 z4 := by rw [<- h0, <- h1, <- h2, <- h3]; exact z
  have g0 : IntKind.u64.wrap t0 = t0 := by rw [<- h0]; exact As _ _
  have g1 : IntKind.u64.wrap t1 = t1 := by rw [<- h1]; exact As _ _
  have g2 : IntKind.u64.wrap t2 = t2 := by rw [<- h2]; exact As _ _
  have g3 : IntKind.u64.wrap t3 = t3 := by rw [<- h3]; exact As _ _
  have nx : ∀ O' : Int, dc O' = addC (acd C) (dc O) v -> (lbM.ent.pre [C, O', B, n, i + 1] /\ muM [C, O', B, n, i + 1] < muM [C, O, B, n, i]) /\ Ng [C, O, B, n, i] [φ 0 [C, O', B, n, i + 1]] := fun O' h => by
   have hor : (rowsOK clK (dc O')) /\ (dc O').length <= (dc O).length + 1 := by
    rw [h]
    unfold addC
    split
    ·refine ⟨fun r hr => ?_, by simp⟩
     rcases List.mem_append.1 hr with hr | hr
     ·exact p3 r hr
     ·obtain rfl := List.mem_singleton.1 hr
      rw [<- z]
      exact ⟨hv, g0, g1, g2, g3, trivial⟩
    ·exact ⟨p3, Nat.le_succ _⟩
   have yp : lbM.ent.pre [C, O', B, n, i + 1] := ⟨p1, p2, hor.1, p4, p5, by show 0 <= i + 1; omega, by show i + 1 <= n; omega, p8, by show ((dc O').length : Int) <= i + 1; have := hor.2; omega⟩
   have ym : muM [C, O', B, n, i + 1] < muM [C, O, B, n, i] := by show (n - (i + 1)).toNat < (n - i).toNat; omega
   have ih := hφ [C, O', B, n, i + 1] ⟨rfl, rfl, rfl, hn, i64w (by omega) (by omega), trivial⟩ yp ym
   obtain ⟨u, hu⟩ : ∃ u, φ 0 [C, O', B, n, i + 1] = u := ⟨_, rfl⟩
   have ih : rowsOK clK (dc u) /\ dc u = mrgF (acd C) (dc O') ((vl B).drop (i + 1).toNat) := by rw [<- hu]; exact ih
   refine ⟨⟨yp, ym⟩, ?_⟩
   rw [hu]
   refine ⟨ih.1, ?_⟩
   show dc u = mrgF (acd C) (dc O) ((vl B).drop i.toNat)
   rw [ih.2, h, hvd]
   rfl
  have wl : IntKind.i64.wrap (((dc O).length : Int) - 1) = ((dc O).length : Int) - 1 := i64w (by omega) (by omega)
  have ap : ((dc O).length = 0 \/ (lstR (dc O)).drop 1 ≠ setF (acd C) v 0 z4) -> dc (cd (dc O ++ [[v, t0, t1, t2, t3]])) = addC (acd C) (dc O) v := fun h => by
   rw [Ab]
   unfold addC
   rw [if_pos h, <- z]
  by_cases c2 : ((dc O).length : Int) = 0
  ·have g := nx _ (ap (Or.inl (by omega)))
   refine ⟨?_, ?_⟩ <;> simp (disch := omega) only [ewZ, reduceCtorEq, seval, hSS, c, er, hv, hm, h0, h1, h2, h3, c2]
   ·exact ⟨⟨⟨p6, by omega⟩, y0, by rw [List.length_append, List.length_singleton]; omega⟩, g.1⟩
   ·exact g.2
  ·obtain ⟨q, eq, hq, _, _⟩ := AK (ks := clK) p3 (by omega : 0 <= ((dc O).length : Int) - 1) (by omega)
   obtain ⟨f0, r1, rfl, a0, hq⟩ := Aa hq
   obtain ⟨f1, r1, rfl, a1, hq⟩ := Aa hq
   obtain ⟨f2, r1, rfl, a2, hq⟩ := Aa hq
   obtain ⟨f3, r1, rfl, a3, hq⟩ := Aa hq
   obtain ⟨f4, r1, rfl, a4, hq⟩ := Aa hq
   obtain rfl := Ba hq
   simp only [AH] at a0 a1 a2 a3 a4
   have hl : lstR (dc O) = [f0, f1, f2, f3, f4] := by unfold lstR; rw [<- eq]; congr 1; omega
   have gp : (f1 = t0 -> f2 = t1 -> f3 = t2 -> ¬f4 = t3) -> dc (cd (dc O ++ [[v, t0, t1, t2, t3]])) = addC (acd C) (dc O) v := fun h => ap (Or.inr (by
    rw [hl, <- z]
    intro e
    simp only [List.drop_succ_cons, List.drop_zero, List.cons.injEq, and_true] at e
    exact h e.1 e.2.1 e.2.2.1 e.2.2.2))
   have gn : ¬(f1 = t0 -> f2 = t1 -> f3 = t2 -> ¬f4 = t3) -> dc O = addC (acd C) (dc O) v := fun h => by
    have h' : f1 = t0 /\ f2 = t1 /\ f3 = t2 /\ f4 = t3 := by simpa [Classical.not_imp] using h
    unfold addC
    rw [if_neg]
    rintro (h1 | h1)
    ·omega
    ·apply h1
     rw [hl, <- z, h'.1, h'.2.1, h'.2.2.1, h'.2.2.2]
     rfl
   refine ⟨?_, ?_⟩ <;> simp (disch := omega) only [ewZ, reduceCtorEq, seval, hSS, c, er, hv, hm, h0, h1, h2, h3, c2, wl, eq, a0, a1, a2, a3, a4]
   ·refine ⟨⟨⟨p6, by omega⟩, y0, ⟨by omega, by omega⟩, fun _ => by rw [List.length_append, List.length_singleton]; omega⟩, ⟨fun h => h, fun h => h⟩, ?_⟩
    by_cases hN : f1 = t0 -> f2 = t1 -> f3 = t2 -> ¬f4 = t3
    ·simp only [if_pos hN]; exact (nx _ (gp hN)).1
    ·simp only [if_neg hN]; exact (nx _ (gn hN)).1
   ·by_cases hN : f1 = t0 -> f2 = t1 -> f3 = t2 -> ¬f4 = t3
    ·simp only [if_pos hN]; exact (nx _ (gp hN)).2
    ·simp only [if_neg hN]; exact (nx _ (gn hN)).2
 ·refine ⟨?_, ?_⟩ <;> simp (disch := omega) only [ewZ, reduceCtorEq, seval, hSS, c]
  ·refine ⟨p3, ?_⟩
   show dc O = mrgF (acd C) (dc O) ((vl B).drop i.toNat)
   rw [List.drop_eq_nil_of_le (by rw [Au]; omega)]; rfl
theorem Fm : c42.OK Tryd.prog G0 := ⟨rfl, mF ⟨ok72.1, trivial⟩, mF ⟨okA.1, okM.1, trivial⟩⟩
theorem KA (k : Nat) {r : List Int} (h : ruP r) : rowsOK spK (spF k r) := by
 obtain ⟨hf, h4, h6⟩ := h
 obtain ⟨s0, r', rfl, a0, hf⟩ := Aa hf
 obtain ⟨s1, r', rfl, a1, hf⟩ := Aa hf
 obtain ⟨s2, r', rfl, a2, hf⟩ := Aa hf
 obtain ⟨s3, r', rfl, a3, hf⟩ := Aa hf
 obtain ⟨s4, r', rfl, a4, hf⟩ := Aa hf
 obtain ⟨s5, r', rfl, a5, hf⟩ := Aa hf
 obtain ⟨s6, r', rfl, a6, hf⟩ := Aa hf
 obtain ⟨s7, r', rfl, a7, hf⟩ := Aa hf
 obtain ⟨s8, r', rfl, a8, hf⟩ := Aa hf
 obtain ⟨s9, r', rfl, a9, hf⟩ := Aa hf
 obtain ⟨sa, r', rfl, aa, hf⟩ := Aa hf
 obtain ⟨sb, r', rfl, ab, hf⟩ := Aa hf
 have two : ∀ x y : Int, 0 <= x -> x <= 4294967295 -> 0 <= y -> y <= 4294967295 -> rowsOK spK [[x, y]] := fun x y h1 h2 h3 h4 r hr => by
  obtain rfl := List.mem_singleton.1 hr
  exact ⟨u32w h1 h2, u32w h3 h4, trivial⟩
 have r0 := u8r (show IntKind.u8.wrap s0 = s0 from a0)
 have r4 := u32r (show IntKind.u32.wrap s4 = s4 from a4)
 have r6 := u32r (show IntKind.u32.wrap s6 = s6 from a6)
 have r8 := u16r (show IntKind.u16.wrap s8 = s8 from a8)
 have r9 := u16r (show IntKind.u16.wrap s9 = s9 from a9)
 have ra := u16r (show IntKind.u16.wrap sa = sa from aa)
 have rb := u16r (show IntKind.u16.wrap sb = sb from ab)
 have g4 := pfx (n := s5) (show IntKind.u32.wrap s4 = s4 from a4) h4
 have g6 := pfx (n := s7) (show IntKind.u32.wrap s6 = s6 from a6) h6
 match k with
 | 0 =>
   show rowsOK spK (if s0 < 2 then [[s0, s0]] else [[0, 1]])
   split
   ·exact two _ _ (by omega) (by omega) (by omega) (by omega)
   ·exact two _ _ (by omega) (by omega) (by omega) (by omega)
 | 1 =>
   show rowsOK spK (if s1 = 1 then [[0, 0]] else if s1 = 6 then [[1, 1]] else if s1 = 17 then [[2, 2]] else [[0, 2]])
   repeat' split
   all_goals exact two _ _ (by omega) (by omega) (by omega) (by omega)
 | 2 => exact two s4 (s4 + psz s5 - 1) (by omega) (by omega) (by omega) (by omega)
 | 3 => exact two s6 (s6 + psz s7 - 1) (by omega) (by omega) (by omega) (by omega)
 | 4 => exact two s8 s9 (by omega) (by omega) (by omega) (by omega)
 | 5 => exact two sa sb (by omega) (by omega) (by omega) (by omega)
 | n + 6 =>
   intro r hr
   have hr : r ∈ flL s2 s3 (List.range 64) := hr
   unfold flL at hr
   obtain ⟨v, hv, rfl⟩ := List.mem_map.1 hr
   have := List.mem_range.1 (List.mem_filter.1 hv).1
   exact ⟨u32w (by omega) (by omega), u32w (by omega) (by omega), trivial⟩
theorem B4 (k : Nat) {L : Int} (hk : k <= 6) (p1 : ∀ r ∈ dc L, ruP r) (p2 : ((dc L).length : Int) <= 256) :
 ∃ a A B n R, leA.ent.fn 0 [(k : Int), cd [], cd (List.replicate (dc L).length [cd []]), L, ((dc L).length : Int), 0] = a /\ leA.ent.fn 1 [(k : Int), cd [], cd (List.replicate (dc L).length [cd []]), L, ((dc L).length : Int), 0] = A /\
   e72.fn 0 [lstF k, a] = B /\ ((dc B).length : Int) = n /\ leM.ent.fn 0 [A, cd [], B, n, 0] = R /\ IntKind.i64.wrap n = n /\
   leA.ent.pre [(k : Int), cd [], cd (List.replicate (dc L).length [cd []]), L, ((dc L).length : Int), 0] /\ e72.pre [lstF k, a] /\ leM.ent.pre [A, cd [], B, n, 0] /\ clsP k (dc L) (dc R) := by
 have w1 : IntKind.i64.wrap ((dc L).length : Int) = ((dc L).length : Int) := i64w (by omega) (by omega)
 have y1 : leA.ent.pre [(k : Int), cd [], cd (List.replicate (dc L).length [cd []]), L, ((dc L).length : Int), 0] := ⟨by show 0 <= (k : Int); omega, by show (k : Int) <= 6; omega, p1, rfl, Int.le_refl _, by show (0 : Int) <= ((dc L).length : Int); omega, p2, fun r hr => by
  have hr : r ∈ dc (cd (List.replicate (dc L).length [cd []])) := hr
  rw [Ab] at hr
  rw [List.eq_of_mem_replicate hr]; rfl, by show ((dc (cd (List.replicate (dc L).length [cd []]))).length : Int) = ((dc L).length : Int); rw [Ab, List.length_replicate], by show ((dc (cd [])).length : Int) <= 64 * 0; rw [Ab]; decide⟩
 have z1 := okA.2 [(k : Int), cd [], cd (List.replicate (dc L).length [cd []]), L, ((dc L).length : Int), 0] ⟨i64w (by omega) (by omega), rfl, rfl, rfl, w1, rfl, trivial⟩ y1
 obtain ⟨a, ha⟩ : ∃ a, leA.ent.fn 0 [(k : Int), cd [], cd (List.replicate (dc L).length [cd []]), L, ((dc L).length : Int), 0] = a := ⟨_, rfl⟩
 obtain ⟨A, hA⟩ : ∃ a, leA.ent.fn 1 [(k : Int), cd [], cd (List.replicate (dc L).length [cd []]), L, ((dc L).length : Int), 0] = a := ⟨_, rfl⟩
 have z1 : dc a = dc (cd []) ++ ((dc L).drop 0).flatMap (spF k) /\ oneR A /\ acd A = (acd (cd (List.replicate (dc L).length [cd []]))).take 0 ++ ((dc L).drop 0).map (spF k) := by rw [<- ha, <- hA]; exact z1
 rw [Ab, List.nil_append, List.drop_zero, List.take_zero, List.nil_append] at z1
 obtain ⟨z1, z2, z3⟩ := z1
 have hAl : (dc A).length = (dc L).length := by
  have : (acd A).length = (dc A).length := List.length_map ..
  rw [<- this, z3, List.length_map]
 have hsp : spOK (acd A) := fun q hq => by
  rw [z3] at hq
  obtain ⟨r, hr, rfl⟩ := List.mem_map.1 hq
  exact ⟨KA k (p1 r hr), by have := GG k r; omega⟩
 have har : rowsOK spK (dc a) := fun q hq => by
  rw [z1] at hq
  obtain ⟨r, hr, hq⟩ := List.mem_flatMap.1 hq
  exact KA k (p1 r hr) q hq
 have hal : (dc a).length <= 64 * 256 := by
  rw [z1]
  have : ∀ l : RL, (l.flatMap (spF k)).length <= 64 * l.length := by
   intro l
   induction l with
   | nil => exact Nat.le_refl _
   | cons r l ih => rw [List.flatMap_cons, List.length_append, List.length_cons]; have := GG k r; omega
  have := this (dc L)
  omega
 have y2 : e72.pre [lstF k, a] := ⟨har, by show ((dc a).length : Int) <= 100000; omega⟩
 have hlk : IntKind.u32.wrap (lstF k) = lstF k := by
  rcases (show k = 0 \/ k = 1 \/ k = 2 \/ k = 3 \/ k = 4 \/ k = 5 \/ k = 6 by omega) with rfl | rfl | rfl | rfl | rfl | rfl | rfl <;> rfl
 have z4 := ok72.2 [lstF k, a] ⟨hlk, rfl, trivial⟩ y2
 obtain ⟨B, hB⟩ : ∃ b, e72.fn 0 [lstF k, a] = b := ⟨_, rfl⟩
 have z4 : RO kU B /\ brdP (lstF k) (dc a) (vl B) := by rw [<- hB]; exact z4
 have hBl : (dc B).length <= 1 + 2 * (64 * 256) := by have := z4.2.2.2; rw [Au] at this; omega
 have w2 : IntKind.i64.wrap ((dc B).length : Int) = ((dc B).length : Int) := i64w (by omega) (by omega)
 have hnil : rowsOK clK (dc (cd [])) := fun r hr => by
  rw [Ab] at hr
  cases hr
 have y3 : leM.ent.pre [A, cd [], B, ((dc B).length : Int), 0] := ⟨hsp, by show ((dc A).length : Int) <= 256; omega, hnil, z4.1, rfl, Int.le_refl _, by show (0 : Int) <= ((dc B).length : Int); omega, by show ((dc B).length : Int) <= 1000000; omega, by show ((dc (cd [])).length : Int) <= 0; rw [Ab]; decide⟩
 have z5 := okM.2 [A, cd [], B, ((dc B).length : Int), 0] ⟨rfl, rfl, rfl, w2, rfl, trivial⟩ y3
 obtain ⟨R, hR⟩ : ∃ a, leM.ent.fn 0 [A, cd [], B, ((dc B).length : Int), 0] = a := ⟨_, rfl⟩
 have z5 : rowsOK clK (dc R) /\ dc R = mrgF (acd A) (dc (cd [])) ((vl B).drop 0) := by rw [<- hR]; exact z5
 rw [Ab, List.drop_zero, z3] at z5
 exact ⟨a, A, B, _, R, ha, hA, hB, rfl, hR, w2, y1, y2, y3, z5.1, vl B, by rw [<- z1]; exact z4.2, z5.2⟩
theorem ok420 : EPz e420 Po := by
 refine Fm.entryK false [(72, e72), (9042, leA.ent), (9142, leM.ent)] ?_
 go_invoke
 refine enK rfl ?_
 intro l ρ L hp hSS _
 obtain ⟨p1, p2⟩ := hp
 replace p2 : ((dc L).length : Int) <= 256 := p2
 obtain ⟨a, A, B, n, R, b1, b2, b3, b4, b5, b6, b7, b8, b9, bc⟩ := B4 0 (by decide) p1 p2
 have w1 : IntKind.i64.wrap ((dc L).length : Int) = ((dc L).length : Int) := i64w (by omega) (by omega)
 have z1 : leA.ent.fn 0 [0, cd [], cd (List.replicate (dc L).length [cd []]), L, ((dc L).length : Int), 0] = a := b1
 have z2 : leA.ent.fn 1 [0, cd [], cd (List.replicate (dc L).length [cd []]), L, ((dc L).length : Int), 0] = A := b2
 have z3 : e72.fn 0 [1, a] = B := b3
 refine ⟨?_, ?_⟩ <;> simp (disch := omega) only [ewZ, reduceCtorEq, seval, hSS, w1, z1, z2, z3, b4, b5, b6, Int.toNat_natCast]
 ·exact ⟨⟨by omega, by omega⟩, b7, b8, b9⟩
 ·exact bc
theorem ok421 : EPz e421 Pp := by
 refine Fm.entryK false [(72, e72), (9042, leA.ent), (9142, leM.ent)] ?_
 go_invoke
 refine enK rfl ?_
 intro l ρ L hp hSS _
 obtain ⟨p1, p2⟩ := hp
 replace p2 : ((dc L).length : Int) <= 256 := p2
 obtain ⟨a, A, B, n, R, b1, b2, b3, b4, b5, b6, b7, b8, b9, bc⟩ := B4 1 (by decide) p1 p2
 have w1 : IntKind.i64.wrap ((dc L).length : Int) = ((dc L).length : Int) := i64w (by omega) (by omega)
 have z1 : leA.ent.fn 0 [1, cd [], cd (List.replicate (dc L).length [cd []]), L, ((dc L).length : Int), 0] = a := b1
 have z2 : leA.ent.fn 1 [1, cd [], cd (List.replicate (dc L).length [cd []]), L, ((dc L).length : Int), 0] = A := b2
 have z3 : e72.fn 0 [2, a] = B := b3
 refine ⟨?_, ?_⟩ <;> simp (disch := omega) only [ewZ, reduceCtorEq, seval, hSS, w1, z1, z2, z3, b4, b5, b6, Int.toNat_natCast]
 ·exact ⟨⟨by omega, by omega⟩, b7, b8, b9⟩
 ·exact bc
theorem ok422 : EPz e422 Pq := by
 refine Fm.entryK false [(72, e72), (9042, leA.ent), (9142, leM.ent)] ?_
 go_invoke
 refine enK rfl ?_
 intro l ρ L hp hSS _
 obtain ⟨p1, p2⟩ := hp
 replace p2 : ((dc L).length : Int) <= 256 := p2
 obtain ⟨a, A, B, n, R, b1, b2, b3, b4, b5, b6, b7, b8, b9, bc⟩ := B4 2 (by decide) p1 p2
 have w1 : IntKind.i64.wrap ((dc L).length : Int) = ((dc L).length : Int) := i64w (by omega) (by omega)
 have z1 : leA.ent.fn 0 [2, cd [], cd (List.replicate (dc L).length [cd []]), L, ((dc L).length : Int), 0] = a := b1
 have z2 : leA.ent.fn 1 [2, cd [], cd (List.replicate (dc L).length [cd []]), L, ((dc L).length : Int), 0] = A := b2
 have z3 : e72.fn 0 [4294967295, a] = B := b3
 refine ⟨?_, ?_⟩ <;> simp (disch := omega) only [ewZ, reduceCtorEq, seval, hSS, w1, z1, z2, z3, b4, b5, b6, Int.toNat_natCast]
 ·exact ⟨⟨by omega, by omega⟩, b7, b8, b9⟩
 ·exact bc
theorem ok423 : EPz e423 Pr := by
 refine Fm.entryK false [(72, e72), (9042, leA.ent), (9142, leM.ent)] ?_
 go_invoke
 refine enK rfl ?_
 intro l ρ L hp hSS _
 obtain ⟨p1, p2⟩ := hp
 replace p2 : ((dc L).length : Int) <= 256 := p2
 obtain ⟨a, A, B, n, R, b1, b2, b3, b4, b5, b6, b7, b8, b9, bc⟩ := B4 3 (by decide) p1 p2
 have w1 : IntKind.i64.wrap ((dc L).length : Int) = ((dc L).length : Int) := i64w (by omega) (by omega)
 have z1 : leA.ent.fn 0 [3, cd [], cd (List.replicate (dc L).length [cd []]), L, ((dc L).length : Int), 0] = a := b1
 have z2 : leA.ent.fn 1 [3, cd [], cd (List.replicate (dc L).length [cd []]), L, ((dc L).length : Int), 0] = A := b2
 have z3 : e72.fn 0 [4294967295, a] = B := b3
 refine ⟨?_, ?_⟩ <;> simp (disch := omega) only [ewZ, reduceCtorEq, seval, hSS, w1, z1, z2, z3, b4, b5, b6, Int.toNat_natCast]
 ·exact ⟨⟨by omega, by omega⟩, b7, b8, b9⟩
 ·exact bc
theorem ok424 : EPz e424 Ps := by
 refine Fm.entryK false [(72, e72), (9042, leA.ent), (9142, leM.ent)] ?_
 go_invoke
 refine enK rfl ?_
 intro l ρ L hp hSS _
 obtain ⟨p1, p2⟩ := hp
 replace p2 : ((dc L).length : Int) <= 256 := p2
 obtain ⟨a, A, B, n, R, b1, b2, b3, b4, b5, b6, b7, b8, b9, bc⟩ := B4 4 (by decide) p1 p2
 have w1 : IntKind.i64.wrap ((dc L).length : Int) = ((dc L).length : Int) := i64w (by omega) (by omega)
 have z1 : leA.ent.fn 0 [4, cd [], cd (List.replicate (dc L).length [cd []]), L, ((dc L).length : Int), 0] = a := b1
 have z2 : leA.ent.fn 1 [4, cd [], cd (List.replicate (dc L).length [cd []]), L, ((dc L).length : Int), 0] = A := b2
 have z3 : e72.fn 0 [65535, a] = B := b3
 refine ⟨?_, ?_⟩ <;> simp (disch := omega) only [ewZ, reduceCtorEq, seval, hSS, w1, z1, z2, z3, b4, b5, b6, Int.toNat_natCast]
 ·exact ⟨⟨by omega, by omega⟩, b7, b8, b9⟩
 ·exact bc
theorem ok425 : EPz e425 Pu := by
 refine Fm.entryK false [(72, e72), (9042, leA.ent), (9142, leM.ent)] ?_
 go_invoke
 refine enK rfl ?_
 intro l ρ L hp hSS _
 obtain ⟨p1, p2⟩ := hp
 replace p2 : ((dc L).length : Int) <= 256 := p2
 obtain ⟨a, A, B, n, R, b1, b2, b3, b4, b5, b6, b7, b8, b9, bc⟩ := B4 5 (by decide) p1 p2
 have w1 : IntKind.i64.wrap ((dc L).length : Int) = ((dc L).length : Int) := i64w (by omega) (by omega)
 have z1 : leA.ent.fn 0 [5, cd [], cd (List.replicate (dc L).length [cd []]), L, ((dc L).length : Int), 0] = a := b1
 have z2 : leA.ent.fn 1 [5, cd [], cd (List.replicate (dc L).length [cd []]), L, ((dc L).length : Int), 0] = A := b2
 have z3 : e72.fn 0 [65535, a] = B := b3
 refine ⟨?_, ?_⟩ <;> simp (disch := omega) only [ewZ, reduceCtorEq, seval, hSS, w1, z1, z2, z3, b4, b5, b6, Int.toNat_natCast]
 ·exact ⟨⟨by omega, by omega⟩, b7, b8, b9⟩
 ·exact bc
theorem ok426 : EPz e426 Pv := by
 refine Fm.entryK false [(72, e72), (9042, leA.ent), (9142, leM.ent)] ?_
 go_invoke
 refine enK rfl ?_
 intro l ρ L hp hSS _
 obtain ⟨p1, p2⟩ := hp
 replace p2 : ((dc L).length : Int) <= 256 := p2
 obtain ⟨a, A, B, n, R, b1, b2, b3, b4, b5, b6, b7, b8, b9, bc⟩ := B4 6 (by decide) p1 p2
 have w1 : IntKind.i64.wrap ((dc L).length : Int) = ((dc L).length : Int) := i64w (by omega) (by omega)
 have z1 : leA.ent.fn 0 [6, cd [], cd (List.replicate (dc L).length [cd []]), L, ((dc L).length : Int), 0] = a := b1
 have z2 : leA.ent.fn 1 [6, cd [], cd (List.replicate (dc L).length [cd []]), L, ((dc L).length : Int), 0] = A := b2
 have z3 : e72.fn 0 [63, a] = B := b3
 refine ⟨?_, ?_⟩ <;> simp (disch := omega) only [ewZ, reduceCtorEq, seval, hSS, w1, z1, z2, z3, b4, b5, b6, Int.toNat_natCast]
 ·exact ⟨⟨by omega, by omega⟩, b7, b8, b9⟩
 ·exact bc
end
end Go.Proofs.YtgpflpbldeflhaaDoor.Ew.Sr
set_option maxHeartbeats 8000000
namespace Go.Proofs.YtgpflpbldeflhaaDoor.Ew.Sr
open Go Go.RowKit
noncomputable section
def u16 : Sh := .sc (.i .u16)
def pre81 (xs : List Int) : Prop := env xs 0 <= 32
def Pw (xs ys : List Int) : Prop := env ys 0 = 4294967296 - psz (env xs 0)
def b81 : Ent := ⟨81, 81, [u8], [], [], u32, z0, pre81⟩
def e81 : Ent := b81.fw (fnG Tryd.prog G0 b81 Pw)
def c81 : Ctx := ⟨[e81], []⟩
def Px (xs ys : List Int) : Prop := (env ys 0 = 1 /\ pfR (env xs 0) (env xs 1)) \/ (env ys 0 = 0 /\ ¬ pfR (env xs 0) (env xs 1))
def b66 : Ent := ⟨66, 66, [.agg [u32, u8]], [], [], .sc .b, z0, T0⟩
def e66 : Ent := b66.fw (fnG Tryd.prog G0 b66 Px)
def Py (xs ys : List Int) : Prop := (env ys 0 = 1 /\ env xs 0 = 0 /\ env xs 1 = 65535) \/ (env ys 0 = 0 /\ ¬ (env xs 0 = 0 /\ env xs 1 = 65535))
def b69 : Ent := ⟨69, 69, [.agg [u16, u16]], [], [], .sc .b, z0, T0⟩
def e69 : Ent := b69.fw (fnG Tryd.prog G0 b69 Py)
def rightP (r : List Int) : Prop :=
 let ports := r.getD 1 0 = 6 \/ r.getD 1 0 = 17
 r.getD 0 0 <= 2 /\ (ports \/ r.getD 1 0 = 0 \/ r.getD 1 0 = 1) /\ (pfR (r.getD 4 0) (r.getD 5 0) /\ pfR (r.getD 6 0) (r.getD 7 0)) /\ (r.getD 8 0 <= r.getD 9 0 /\ r.getD 10 0 <= r.getD 11 0) /\
 (ports \/ ((r.getD 8 0 = 0 /\ r.getD 9 0 = 65535) /\ (r.getD 10 0 = 0 /\ r.getD 11 0 = 65535))) /\
 (bitsI .andNot .u8 (r.getD 2 0) 63 = 0 /\ bitsI .andNot .u8 (r.getD 3 0) (r.getD 2 0) = 0 /\ (r.getD 2 0 = 0 \/ r.getD 1 0 = 6))
def c41 : Ctx := ⟨[e66, e69], []⟩
def EN (xs ys : List Int) : Prop := (env ys 0 = 1 /\ rightP xs) \/ (env ys 0 = 0 /\ ¬ rightP xs)
def b41 : Ent := ⟨41, 41, [ru], [], [], .sc .b, z0, T0⟩
def e41 : Ent := b41.fw (fnG Tryd.prog G0 b41 EN)
theorem Fo {n : Int} (h0 : 0 <= n) (h : n <= 32) : ∃ P : Nat, psz n = (P : Int) /\ P = 2 ^ (32 - n).toNat /\ 1 <= P /\ P <= 4294967296 := by
 have hk2 : (32 - n).toNat <= 32 := by omega
 have p2 : 2 ^ (32 - n).toNat <= 2 ^ 32 := Nat.pow_le_pow_right (by omega) hk2
 exact ⟨2 ^ (32 - n).toNat, by unfold psz; rw [Int.natCast_pow]; rfl, rfl, Nat.one_le_two_pow, p2⟩
theorem ok81 : EPz e81 Pw := by
 refine Ctx.OK.nil.entryK false [] ?_
 go_invoke
 refine enK rfl ?_
 intro l ρ n hn hp hSS _
 have hr := u8r hn
 replace hp : n <= 32 := hp
 obtain ⟨P, h1, h2, h3, h4⟩ := Fo hr.1 hp
 refine ⟨?_, ?_⟩ <;> simp (disch := omega) only [ewZ, reduceCtorEq, seval, hSS]
 ·show IntKind.u32.wrap (4294967295 * 2 ^ min (32 - n).toNat 32) = 4294967296 - psz n
  have e : (2 : Int) ^ (32 - n).toNat = (P : Int) := by rw [h2, Int.natCast_pow]; rfl
  rw [show min (32 - n).toNat 32 = (32 - n).toNat by omega, e, h1, IntKind.wrap_u32]
  omega
theorem SN (a P : Int) (k : Nat) (ha : IntKind.u32.wrap a = a) (hk : k <= 32) (hP : P = ((2 ^ k : Nat) : Int)) : bitsI .andNot .u32 a (4294967296 - P) = a % P := by
 have har := u32r ha
 have p1 : 1 <= 2 ^ k := Nat.one_le_two_pow
 have p2 : 2 ^ k <= 2 ^ 32 := Nat.pow_le_pow_right (by omega) hk
 have e1 : (BitVec.ofInt 32 a).toNat = a.toNat := by rw [BitVec.toNat_ofInt]; omega
 obtain ⟨Q, hQ⟩ : ∃ Q, 2 ^ k = Q := ⟨_, rfl⟩
 rw [hQ] at p1 p2 hP
 have e2 : (BitVec.ofInt 32 (4294967296 - P)).toNat = (4294967296 - Q) % 4294967296 := by rw [BitVec.toNat_ofInt, hP]; omega
 have e3 : (BitVec.ofInt 32 a &&& ~~~ BitVec.ofInt 32 (4294967296 - P)).toNat = a.toNat % Q := by
  rw [BitVec.toNat_and, BitVec.toNat_not, e1, e2, <- hQ, <- Nat.and_two_pow_sub_one_eq_mod, hQ]
  by_cases h : Q = 4294967296
  ·have : 2 ^ 32 - 1 - (4294967296 - Q) % 4294967296 = Q - 1 := by omega
   rw [this]
  ·have : 2 ^ 32 - 1 - (4294967296 - Q) % 4294967296 = Q - 1 := by omega
   rw [this]
 show IntKind.u32.wrap ((BitVec.ofInt 32 a &&& ~~~ BitVec.ofInt 32 (4294967296 - P)).toNat : Int) = a % P
 have h5 : a.toNat % Q <= a.toNat := Nat.mod_le _ _
 rw [e3, u32w (by omega) (by omega), hP, Int.natCast_emod, Int.toNat_of_nonneg har.1]
theorem c81ok : c81.OK Tryd.prog G0 := ⟨rfl, mF ⟨ok81.1, trivial⟩, mF trivial⟩
theorem ok66 : EPz e66 Px := by
 refine c81ok.entryK false [(81, e81)] ?_
 go_invoke
 refine enK rfl ?_
 intro l ρ a ha n hn hp hSS _
 have hr := u8r hn
 by_cases c : n <= 32
 ·have y0 : e81.pre [n] := c
  have z := ok81.2 [n] ⟨hn, trivial⟩ y0
  have z : IntKind.u32.wrap (e81.fn 0 [n]) = 4294967296 - psz n := z
  obtain ⟨P, h1, h2, h3, h4⟩ := Fo hr.1 c
  have h5 := SN a (psz n) (32 - n).toNat ha (by omega) (by rw [h1, h2])
  refine ⟨?_, ?_⟩
  ·simp (disch := omega) only [ewZ, reduceCtorEq, seval, hSS, c]
   exact y0
  ·simp (disch := omega) only [ewZ, reduceCtorEq, seval, hSS, c, z, h5]
   by_cases h : a % psz n = 0
   ·exact Or.inl ⟨by show b2i (decide True && a % psz n == 0) = 1; rw [h]; rfl, hr.1, c, h⟩
   ·exact Or.inr ⟨by show b2i (decide True && a % psz n == 0) = 0; rw [beq_eq_false_iff_ne.2 h]; rfl, fun hh => h hh.2.2⟩
 ·refine ⟨?_, ?_⟩ <;> simp (disch := omega) only [ewZ, reduceCtorEq, seval, hSS, c]
  ·exact Or.inr ⟨rfl, fun hh => c hh.2.1⟩
theorem ok69 : EPz e69 Py := by
 refine Ctx.OK.nil.entryK false [] ?_
 go_invoke
 refine enK rfl ?_
 intro l ρ a ha b hb hp hSS _
 refine ⟨?_, ?_⟩
 ·simp (disch := omega) only [ewZ, reduceCtorEq, seval, hSS]
 ·by_cases h : a = 0 /\ b = 65535
  ·simp (disch := omega) only [ewZ, reduceCtorEq, seval, hSS, h]
   exact Or.inl ⟨rfl, rfl, rfl⟩
  ·simp (disch := omega) only [ewZ, reduceCtorEq, seval, hSS, h]
   exact Or.inr ⟨by show b2i (decide (a = 0) && decide (b = 65535)) = 0; rw [<- Bool.decide_and, decide_eq_false h]; rfl, h⟩
theorem c41ok : c41.OK Tryd.prog G0 := ⟨rfl, mF ⟨ok66.1, ok69.1, trivial⟩, mF trivial⟩
theorem ok41 : EPz e41 EN := by
 refine c41ok.entryK false [(66, e66), (69, e69)] ?_
 go_invoke
 refine enK rfl ?_
 intro l ρ s0 hs0 s1 hs1 s2 hs2 s3 hs3 s4 hs4 s5 hs5 s6 hs6 s7 hs7 s8 hs8 s9 hs9 sa hsa sb hsb sc hsc hp hSS _
 obtain ⟨u1, hu1⟩ : ∃ u, K.b.norm (e66.fn 0 [s4, s5]) = u := ⟨_, rfl⟩
 obtain ⟨u2, hu2⟩ : ∃ u, K.b.norm (e66.fn 0 [s6, s7]) = u := ⟨_, rfl⟩
 obtain ⟨u3, hu3⟩ : ∃ u, K.b.norm (e69.fn 0 [s8, s9]) = u := ⟨_, rfl⟩
 obtain ⟨u4, hu4⟩ : ∃ u, K.b.norm (e69.fn 0 [sa, sb]) = u := ⟨_, rfl⟩
 have z1 : (u1 = 1 /\ pfR s4 s5) \/ (u1 = 0 /\ ¬ pfR s4 s5) := by rw [<- hu1]; exact ok66.2 [s4, s5] ⟨hs4, hs5, trivial⟩ trivial
 have z2 : (u2 = 1 /\ pfR s6 s7) \/ (u2 = 0 /\ ¬ pfR s6 s7) := by rw [<- hu2]; exact ok66.2 [s6, s7] ⟨hs6, hs7, trivial⟩ trivial
 have z3 : (u3 = 1 /\ s8 = 0 /\ s9 = 65535) \/ (u3 = 0 /\ ¬ (s8 = 0 /\ s9 = 65535)) := by rw [<- hu3]; exact ok69.2 [s8, s9] ⟨hs8, hs9, trivial⟩ trivial
 have z4 : (u4 = 1 /\ sa = 0 /\ sb = 65535) \/ (u4 = 0 /\ ¬ (sa = 0 /\ sb = 65535)) := by rw [<- hu4]; exact ok69.2 [sa, sb] ⟨hsa, hsb, trivial⟩ trivial
 refine ⟨?_, ?_⟩ <;> simp (disch := omega) only [ewZ, reduceCtorEq, seval, hSS, hu1, hu2, hu3, hu4]
 ·exact fun _ _ => ⟨⟨trivial, fun _ => trivial⟩, fun _ _ => ⟨fun _ => trivial, fun _ => trivial⟩⟩
 ·have hX : ∀ X : Bool, (X = true ↔ ¬ rightP [s0, s1, s2, s3, s4, s5, s6, s7, s8, s9, sa, sb, sc]) -> EN [s0, s1, s2, s3, s4, s5, s6, s7, s8, s9, sa, sb, sc] [b2i !X] := fun X h => by
   cases X
   ·exact Or.inl ⟨rfl, Classical.byContradiction fun h' => by cases h.2 h'⟩
   ·exact Or.inr ⟨rfl, h.1 rfl⟩
  refine hX _ ?_
  unfold rightP
  rcases z1 with ⟨rfl, z1⟩ | ⟨rfl, z1⟩ <;> rcases z2 with ⟨rfl, z2⟩ | ⟨rfl, z2⟩ <;> rcases z3 with ⟨rfl, z3⟩ | ⟨rfl, z3⟩ <;> rcases z4 with ⟨rfl, z4⟩ | ⟨rfl, z4⟩ <;> simp [z1, z2, i2b] <;> omega
end
end Go.Proofs.YtgpflpbldeflhaaDoor.Ew.Sr
set_option maxHeartbeats 8000000
namespace Go.Proofs.YtgpflpbldeflhaaDoor.Ew.Sr
open Go Go.RowKit
noncomputable section
def allR (L : RL) : Prop := ∀ r ∈ L, rightP r
def c62 : Ctx := ⟨[e41], []⟩
def preJ (xs : List Int) : Prop := rowsOK ruK (dc (env xs 0)) /\ env xs 1 = ((dc (env xs 0)).length : Int) /\ 0 <= env xs 2 /\ env xs 2 <= env xs 1 /\ env xs 1 <= 1000000
def RH (xs ys : List Int) : Prop := (env ys 0 = 1 /\ allR ((dc (env xs 0)).drop (env xs 2).toNat)) \/ (env ys 0 = 0 /\ ¬ allR ((dc (env xs 0)).drop (env xs 2).toNat) /\ 0 <= env ys 1)
def muJ (xs : List Int) : Nat := (env xs 1 - env xs 2).toNat
def lbJ : LEnt := ⟨⟨9062, 999999, [lru, .fnc 40 [], .lt kJ 0, i64, i64], [], [0], .tup [.sc .b, i64], z0, preJ⟩, [0, 1, 4, 7, 8], [4], [5] ++ (List.range 11).map (· + 8), [.ex 0, .ret], 19, []⟩
def leJ : LEnt := lbJ.fw (fnM Tryd.prog G0 62 pIf lbJ RH)
def c39 : Ctx := ⟨[], [(62, pIf, leJ)]⟩
def pre39 (xs : List Int) : Prop := rowsOK ruK (dc (env xs 0)) /\ ((dc (env xs 0)).length : Int) <= 1000000
def Pz (xs ys : List Int) : Prop := (env ys 0 = 1 /\ ¬ allR (dc (env xs 0))) \/ (env ys 0 = 0 /\ allR (dc (env xs 0)))
def b39 : Ent := ⟨39, 39, [lru, .fnc 40 []], [], [0], .sc .b, z0, pre39⟩
def e39 : Ent := b39.fw (fnG Tryd.prog G0 b39 Pz)
def tab : Sh := .agg [i64, lcl, lcl, lcl, lcl, lcl, lcl, lcl]
def tabo : Sh := .agg [i64, lclo, lclo, lclo, lclo, lclo, lclo, lclo]
def c21 : Ctx := ⟨[e39, e420, e421, e422, e423, e424, e425, e426], []⟩
def preGood (xs : List Int) : Prop := rowsOK ruK (dc (env xs 0)) /\ allR (dc (env xs 0)) /\ ((dc (env xs 0)).length : Int) <= 256
def tabP (L : RL) (ys : List Int) : Prop := env ys 0 = (L.length : Int) /\ clsP 0 L (dc (env ys 1)) /\ clsP 1 L (dc (env ys 2)) /\ clsP 2 L (dc (env ys 3)) /\ clsP 3 L (dc (env ys 4)) /\ clsP 4 L (dc (env ys 5)) /\ clsP 5 L (dc (env ys 6)) /\ clsP 6 L (dc (env ys 7))
def PA (xs ys : List Int) : Prop := tabP (dc (env xs 0)) ys
def b21 : Ent := ⟨21, 21, [lru], [], [0], .tup [tabo, .lt kJ 0], z0, preGood⟩
def e21 : Ent := b21.fw (fnG Tryd.prog G0 b21 PA)
theorem c62ok : c62.OK Tryd.prog G0 := ⟨rfl, mF ⟨ok41.1, trivial⟩, mF trivial⟩
theorem okJ : IPz 62 pIf leJ RH := by
 refine c62ok.loopK muJ false 9062 [(41, e41)] ⟨_, _, _, Tryd.func62, rfl, rfl⟩ ?_
 go_invoke
 refine enK rfl ?_
 intro φ l ρ L n hn i hi hp hφ hSS _
 obtain ⟨p1, p2, p3, p4, p5⟩ := hp
 replace p1 : rowsOK ruK (dc L) := p1
 simp only [ewY, seval] at p2 p3 p4 p5
 by_cases c : i < n
 ·obtain ⟨r, er, hr, hm, hdr⟩ := AK p1 p3 (by omega : i < ((dc L).length : Int))
  obtain ⟨s0, r', rfl, h0, hr⟩ := Aa hr
  obtain ⟨s1, r', rfl, h1, hr⟩ := Aa hr
  obtain ⟨s2, r', rfl, h2, hr⟩ := Aa hr
  obtain ⟨s3, r', rfl, h3, hr⟩ := Aa hr
  obtain ⟨s4, r', rfl, h4, hr⟩ := Aa hr
  obtain ⟨s5, r', rfl, h5, hr⟩ := Aa hr
  obtain ⟨s6, r', rfl, h6, hr⟩ := Aa hr
  obtain ⟨s7, r', rfl, h7, hr⟩ := Aa hr
  obtain ⟨s8, r', rfl, h8, hr⟩ := Aa hr
  obtain ⟨s9, r', rfl, h9, hr⟩ := Aa hr
  obtain ⟨sa, r', rfl, h10, hr⟩ := Aa hr
  obtain ⟨sb, r', rfl, h11, hr⟩ := Aa hr
  obtain ⟨sc, r', rfl, h12, hr⟩ := Aa hr
  obtain rfl := Ba hr
  simp only [AH] at h0 h1 h2 h3 h4 h5 h6 h7 h8 h9 h10 h11
  have z := ok41.2 [s0, s1, s2, s3, s4, s5, s6, s7, s8, s9, sa, sb, sc] ⟨h0, h1, h2, h3, h4, h5, h6, h7, h8, h9, h10, h11, h12, trivial⟩ trivial
  obtain ⟨u, hu⟩ : ∃ u, K.b.norm (e41.fn 0 [s0, s1, s2, s3, s4, s5, s6, s7, s8, s9, sa, sb, sc]) = u := ⟨_, rfl⟩
  have z : (u = 1 /\ rightP [s0, s1, s2, s3, s4, s5, s6, s7, s8, s9, sa, sb, sc]) \/ (u = 0 /\ ¬ rightP [s0, s1, s2, s3, s4, s5, s6, s7, s8, s9, sa, sb, sc]) := by rw [<- hu]; exact z
  have y0 : e41.pre [s0, s1, s2, s3, s4, s5, s6, s7, s8, s9, sa, sb, sc] := trivial
  rcases z with ⟨rfl, z⟩ | ⟨rfl, z⟩
  ·have yp : lbJ.ent.pre [L, n, i + 1] := ⟨p1, p2, by show 0 <= i + 1; omega, by show i + 1 <= n; omega, p5⟩
   have ym : muJ [L, n, i + 1] < muJ [L, n, i] := by show (n - (i + 1)).toNat < (n - i).toNat; omega
   have ih := hφ [L, n, i + 1] ⟨rfl, hn, i64w (by omega) (by omega), trivial⟩ yp ym
   obtain ⟨w0, hw0⟩ : ∃ w, K.b.norm (φ 0 [L, n, i + 1]) = w := ⟨_, rfl⟩
   obtain ⟨w1, hw1⟩ : ∃ w, IntKind.i64.wrap (φ 1 [L, n, i + 1]) = w := ⟨_, rfl⟩
   have ih : (w0 = 1 /\ allR ((dc L).drop (i + 1).toNat)) \/ (w0 = 0 /\ ¬ allR ((dc L).drop (i + 1).toNat) /\ 0 <= w1) := by rw [<- hw0, <- hw1]; exact ih
   refine ⟨?_, ?_⟩
   ·simp (disch := omega) only [ewZ, reduceCtorEq, seval, hSS, c, er, h0, h1, h2, h3, h4, h5, h6, h7, h8, h9, h10, h11, h12, hu]
    exact ⟨⟨⟨p3, by omega⟩, ⟨p3, by omega⟩, y0⟩, yp, ym⟩
   ·simp (disch := omega) only [ewZ, reduceCtorEq, seval, hSS, c, er, h0, h1, h2, h3, h4, h5, h6, h7, h8, h9, h10, h11, h12, hu, hw0, hw1]
    simp only [ite_self]
    rcases ih with ⟨rfl, q⟩ | ⟨rfl, q, q'⟩
    ·refine Or.inl ⟨rfl, ?_⟩
     show allR ((dc L).drop i.toNat)
     rw [hdr]
     intro r hr
     rcases List.mem_cons.1 hr with rfl | hr
     ·exact z
     ·exact q r hr
    ·refine Or.inr ⟨rfl, fun h => q fun r hr => ?_, q'⟩
     have h : allR ((dc L).drop i.toNat) := h
     rw [hdr] at h
     exact h r (List.mem_cons_of_mem _ hr)
  ·refine ⟨?_, ?_⟩ <;> simp (disch := omega) only [ewZ, reduceCtorEq, seval, hSS, c, er, h0, h1, h2, h3, h4, h5, h6, h7, h8, h9, h10, h11, h12, hu]
   ·exact ⟨⟨p3, by omega⟩, ⟨p3, by omega⟩, y0⟩
   ·refine Or.inr ⟨rfl, fun h => z ?_, p3⟩
    have h : allR ((dc L).drop i.toNat) := h
    rw [hdr] at h
    exact h _ (List.mem_cons_self ..)
 ·refine ⟨?_, ?_⟩ <;> simp (disch := omega) only [ewZ, reduceCtorEq, seval, hSS, c]
  ·refine Or.inl ⟨rfl, ?_⟩
   show allR ((dc L).drop i.toNat)
   rw [List.drop_eq_nil_of_le (by omega)]
   exact fun r hr => by cases hr
theorem c39ok : c39.OK Tryd.prog G0 := ⟨rfl, mF trivial, mF ⟨okJ.1, trivial⟩⟩
theorem ok39 : EPz e39 Pz := by
 refine c39ok.nm.entryK false [(100009062, leJ.nm.ent)] ?_
 go_invoke
 refine enK rfl ?_
 intro l ρ L hp v1 hn1 v2 hn2 hSS hd
 simp (disch := omega) only [and_true, Ent.nm_fn, hSS, ewZ, reduceCtorEq, seval] at hd
 obtain ⟨hd1, hd2⟩ := hd
 obtain ⟨p1, p2⟩ := hp
 replace p1 : rowsOK ruK (dc L) := p1
 replace p2 : ((dc L).length : Int) <= 1000000 := p2
 have wL : IntKind.i64.wrap (((dc L).length : Nat) : Int) = (((dc L).length : Nat) : Int) := i64w (by omega) (by omega)
 simp only [wL] at hd1 hd2
 have yp : leJ.ent.pre [L, (((dc L).length : Nat) : Int), 0] := ⟨p1, rfl, by show (0 : Int) <= 0; decide, by show (0 : Int) <= (((dc L).length : Nat) : Int); omega, p2⟩
 have q := (PostOK.usf (vs := [v1, v2]) okJ.2 ⟨hd1, hd2, trivial⟩) ⟨rfl, wL, rfl, trivial⟩ yp
 replace q : (v1 = 1 /\ allR ((dc L).drop 0)) \/ (v1 = 0 /\ ¬ allR ((dc L).drop 0) /\ 0 <= v2) := q
 rw [List.drop_zero] at q
 rcases q with ⟨rfl, q2⟩ | ⟨rfl, q2, q3⟩
 ·refine ⟨?_, ?_⟩
  ·simp (disch := omega) only [ewZ, reduceCtorEq, seval, hSS, wL, yp]
  ·simp (disch := omega) only [ewZ, reduceCtorEq, seval, hSS, wL]
   exact Or.inr ⟨rfl, q2⟩
 ·refine ⟨?_, ?_⟩
  ·simp (disch := omega) only [ewZ, reduceCtorEq, seval, hSS, wL, yp]
  ·simp (disch := omega) only [ewZ, reduceCtorEq, seval, hSS, wL]
   exact Or.inl ⟨by show b2i (decide (0 <= v2)) = 1; rw [decide_eq_true q3]; rfl, q2⟩
theorem RI : c21.OK Tryd.prog G0 := ⟨rfl, mF ⟨ok39.1, ok420.1, ok421.1, ok422.1, ok423.1, ok424.1, ok425.1, ok426.1, trivial⟩, mF trivial⟩
theorem ok21 : EPz e21 PA := by
 refine RI.entryK false [(39, e39), (4200, e420), (4201, e421), (4202, e422), (4203, e423), (4204, e424), (4205, e425), (4206, e426)] ?_
 go_invoke
 refine enK rfl ?_
 intro l ρ L hp hSS _
 obtain ⟨p1, p2, p3⟩ := hp
 replace p1 : rowsOK ruK (dc L) := p1
 replace p2 : allR (dc L) := p2
 replace p3 : ((dc L).length : Int) <= 256 := p3
 have wL : IntKind.i64.wrap (((dc L).length : Nat) : Int) = (((dc L).length : Nat) : Int) := i64w (by omega) (by omega)
 have y0 : e39.pre [L] := ⟨p1, by show ((dc L).length : Int) <= 1000000; omega⟩
 have z := ok39.2 [L] ⟨rfl, trivial⟩ y0
 obtain ⟨u, hu⟩ : ∃ u, K.b.norm (e39.fn 0 [L]) = u := ⟨_, rfl⟩
 have z : (u = 1 /\ ¬ allR (dc L)) \/ (u = 0 /\ allR (dc L)) := by rw [<- hu]; exact z
 obtain ⟨rfl, _⟩ : u = 0 /\ allR (dc L) := z.resolve_left fun h => h.2 p2
 have y1 : pre42 [L] := ⟨fun r hr => ⟨p1 r hr, (p2 r hr).2.2.1.1, (p2 r hr).2.2.1.2⟩, p3⟩
 have q0 : clsP 0 (dc L) (dc (e420.fn 0 [L])) := ok420.2 [L] ⟨rfl, trivial⟩ y1
 have q1 : clsP 1 (dc L) (dc (e421.fn 0 [L])) := ok421.2 [L] ⟨rfl, trivial⟩ y1
 have q2 : clsP 2 (dc L) (dc (e422.fn 0 [L])) := ok422.2 [L] ⟨rfl, trivial⟩ y1
 have q3 : clsP 3 (dc L) (dc (e423.fn 0 [L])) := ok423.2 [L] ⟨rfl, trivial⟩ y1
 have q4 : clsP 4 (dc L) (dc (e424.fn 0 [L])) := ok424.2 [L] ⟨rfl, trivial⟩ y1
 have q5 : clsP 5 (dc L) (dc (e425.fn 0 [L])) := ok425.2 [L] ⟨rfl, trivial⟩ y1
 have q6 : clsP 6 (dc L) (dc (e426.fn 0 [L])) := ok426.2 [L] ⟨rfl, trivial⟩ y1
 have cm : ¬ (((dc L).length : Int) > 256) := by omega
 refine ⟨?_, ?_⟩ <;> simp (disch := omega) only [ewZ, reduceCtorEq, seval, hSS, wL, hu, cm]
 ·exact ⟨y0, y1, y1, y1, y1, y1, y1, y1⟩
 ·exact ⟨rfl, q0, q1, q2, q3, q4, q5, q6⟩
end
end Go.Proofs.YtgpflpbldeflhaaDoor.Ew.Sr

/- Layer 18: Backlog: the IDs of the timers that are due, by a loop over an iterator. -/
import Derived.RangeFuncBox
import Derived.RangeFuncLeaves
import Derived.Shelf.Abstract
import Derived.OwnWalkIn
import Derived.TacticsInMore
import Derived.LoopNIn
import Derived.LoopIn
import Derived.Maps.AppendAt
import Derived.Lib.Hide
import Derived.Test.YtfhheeoejncfgaaHo
set_option linter.unusedVariables false
set_option linter.unusedSimpArgs false
namespace Go.Proofs.Ytfhheeoejncfgaa.Ew
open Go Go.RowKit Go.Shelf
attribute [local go_sem] Oper.semAt_some
noncomputable section

/-- The wheel in memory: its block's cells of the timers and of the backlog; the timers' next ones. -/
structure WMem (W : World) (wb tb len cap : Nat) (T : RL) (f la c : Int) : Prop where
  sl : W.cell? ⟨wb, 4, none⟩ = some (.slice (some ⟨tb, 0, none⟩) len cap)
  b0 : W.cell? ⟨wb, 6149, none⟩ = some (.int .i64 f)
  b1 : W.cell? ⟨wb, 6150, none⟩ = some (.int .i64 la)
  b2 : W.cell? ⟨wb, 6151, none⟩ = some (.int .i64 c)
  nx : ∀ i, i < len → W.cell? ⟨tb, i * 5 + 3, none⟩ = some (.int .i64 (gC T i 3))

set_option maxRecDepth 100000 in
set_option maxHeartbeats 1000000 in
theorem none_in (F : Fence) (n : Nat) (h46 : F.fn 46) (hro : F.round = none) (W : World) (wb tb len cap : Nat) (T : RL) (f la c : Int) (hM : WMem W wb tb len cap T f la c) (h0 : 0 < len) :
    CallsIn F n Try.prog 46 #[.pointer (some ⟨wb, 0, none⟩)] W fun e W' => e = .returned (.bool false) ∧ W' = W := by
  have hsl := hM.sl
  have he : (((len : Nat) : Int) == 0) = false := by simp; omega
  refine callsIn_of_wp Try.func46 rfl h46 ?_ hro
  simp only [Try.ntmps46, List.size_toArray, List.length_cons, List.length_nil, Nat.reduceAdd, Nat.reduceSub, Array.replicate_succ, Array.replicate_zero, List.push_toArray, List.append_toArray, List.nil_append, List.cons_append]
  gi_wp2
  go_ret
  exact ⟨rfl, rfl⟩

set_option maxHeartbeats 1000000 in
theorem ids_in (F : Fence) (n : Nat) (h53 : F.fn 53) (hro : F.round = none) (wb : Nat) (f la c : Int) (w : World) :
    CallsIn F n Try.prog 53 #[.pointer (some ⟨wb, 0, none⟩), .agg #[.int .i64 f, .int .i64 la, .int .i64 c]] w fun e w' => e = .returned (.func (.func 72) #[] #[.pointer (some ⟨w.heap.size + 1, 0, none⟩), .pointer (some ⟨w.heap.size, 0, none⟩)]) ∧
      w' = (w.alloc (.cells #[.pointer (some ⟨wb, 0, none⟩)] 22)).alloc (.cells #[.int .i64 f, .int .i64 la, .int .i64 c] 70) := by
  refine callsIn_of_wp Try.func53 rfl h53 ?_ hro
  simp only [Try.ntmps53, List.size_toArray, List.length_cons, List.length_nil, Nat.reduceAdd, Nat.reduceSub, Array.replicate_succ, Array.replicate_zero, List.push_toArray, List.append_toArray, List.nil_append, List.cons_append]
  gi_wp2
  go_ret
  exact ⟨rfl, rfl⟩

/-- Whatever lay below n₁ lies as it lay, but one block. -/
structure KpB (n₁ B : Nat) (W W' : World) : Prop where
  size : W.heap.size ≤ W'.heap.size
  block : ∀ k, k < n₁ → k ≠ B → W'.heap[k]? = W.heap[k]?
theorem KpB.trans {n₁ B : Nat} {a b c : World} (h : KpB n₁ B a b) (k : KpB n₁ B b c) : KpB n₁ B a c := ⟨Nat.le_trans h.size k.size, fun i hi hb => (k.block i hi hb).trans (h.block i hi hb)⟩
theorem KpB.refl (n₁ B : Nat) (W : World) : KpB n₁ B W W := ⟨Nat.le_refl _, fun _ _ _ => rfl⟩
theorem KpB.cell {n₁ B : Nat} {W W' : World} (h : KpB n₁ B W W') {p : Addr} (h1 : p.block < n₁) (h2 : p.block ≠ B) : W'.cell? p = W.cell? p := World.cell?_of_block (h.block _ h1 h2)
theorem WMem.kp {n₁ B : Nat} {W W' : World} {wb tb len cap : Nat} {T : RL} {f la c : Int} (h : WMem W wb tb len cap T f la c) (hk : KpB n₁ B W W') (h1 : wb < n₁ ∧ wb ≠ B) (h2 : tb < n₁ ∧ tb ≠ B) : WMem W' wb tb len cap T f la c :=
  ⟨(hk.cell h1.1 h1.2).trans h.sl, (hk.cell h1.1 h1.2).trans h.b0, (hk.cell h1.1 h1.2).trans h.b1, (hk.cell h1.1 h1.2).trans h.b2, fun i hi => (hk.cell h2.1 h2.2).trans (h.nx i hi)⟩

/-- How many are still to come. -/
def leftQ (q : List Nat) (v : Value) : Nat := match v with
  | .int _ z => (q.dropWhile fun j : Nat => decide ((j : Int) + 1 ≠ z)).length
  | _ => 0
theorem leftQ_nil (q : List Nat) : leftQ q (.int .i64 0) = 0 := by
  show (q.dropWhile fun j : Nat => decide ((j : Int) + 1 ≠ 0)).length = 0
  induction q with
  | nil => rfl
  | cons a r ih =>
    rw [List.dropWhile_cons_of_pos (by simp; omega)]; exact ih
theorem leftQ_cons {pre r : List Nat} {i : Nat} (h : (pre ++ i :: r).Nodup) : leftQ (pre ++ i :: r) (.int .i64 ((i : Int) + 1)) = r.length + 1 := by
  show ((pre ++ i :: r).dropWhile fun j : Nat => decide ((j : Int) + 1 ≠ (i : Int) + 1)).length = _
  have hi : ∀ j ∈ pre, decide ((j : Int) + 1 ≠ (i : Int) + 1) = true := fun j hj => by
    rw [List.nodup_append] at h
    have := h.2.2 j hj i (by simp)
    simp; omega
  rw [List.dropWhile_append_of_pos hi, List.dropWhile_cons_of_neg (by simp)]; rfl

theorem leftQ_lt {q pre rest : List Nat} {i : Nat} (hx : q = pre ++ i :: rest) (h : q.Nodup) : leftQ q (.int .i64 (headP rest)) < leftQ q (.int .i64 ((i : Int) + 1)) := by
  subst hx
  rw [leftQ_cons h]
  cases rest with
  | nil =>
    have e : headP [] = 0 := rfl
    rw [e, leftQ_nil]; exact Nat.succ_pos _
  | cons j r =>
    have e : headP (j :: r) = (j : Int) + 1 := rfl
    have e2 : pre ++ i :: j :: r = (pre ++ [i]) ++ j :: r := by simp
    rw [e, e2, leftQ_cons (by rw [← e2]; exact h)]
    simp
set_option maxRecDepth 100000 in
set_option maxHeartbeats 2000000 in
theorem ids1_in (F : Fence) (n : Nat) (h72 : F.fn 72) (hro : F.round = none) (hn : 1 ≤ n) (l Bl Bw n₁ B : Nat) (wb tb len cap : Nat) (T : RL) (f la c : Int) (q : List Nat) (hq : ∀ A i C, q = A ++ i :: C → i < len ∧ gC T i 3 = headP C) (hnd : q.Nodup) (hlen : len ≤ 4096)
    (h1 : wb < n₁ ∧ wb ≠ B) (h2 : tb < n₁ ∧ tb ≠ B) (h3 : Bw < n₁ ∧ Bw ≠ B) (J Jx : List Int → World → Prop)
    (hY : ∀ pre x W, J pre W → pre.length < q.length → YieldAt F (n - 1) Try.prog l #[.int .i64 x] W fun e W' =>
      (e = .returned (.bool true) ∧ J (pre ++ [x]) W' ∧ KpB n₁ B W W') ∨ (e = .returned (.bool false) ∧ Jx (pre ++ [x]) W'))
    (W : World) (hBl : W.cell? ⟨Bl, 0, none⟩ = some (.int .i64 (headP q))) (hBw : W.cell? ⟨Bw, 0, none⟩ = some (.pointer (some ⟨wb, 0, none⟩))) (hM : WMem W wb tb len cap T f la c) (h0 : J [] W) :
    CallsIn F n Try.prog 72 #[.func (.yield l) #[] #[], .pointer (some ⟨Bl, 0, none⟩), .pointer (some ⟨Bw, 0, none⟩)] W fun e W' => (∃ v, e = .returned v) ∧
      ((∃ ys, ys = q.map (fun i : Nat => (i : Int)) ∧ J ys W') ∨ (∃ pre, pre <+: q.map (fun i : Nat => (i : Int)) ∧ Jx pre W')) := by
  obtain ⟨z0, hz0⟩ : ∃ z, z = headP q := ⟨_, rfl⟩
  rw [← hz0] at hBl
  have hz1 := Go.Lib.hid hz0
  clear hz0
  refine callsIn_of_wp Try.func72 rfl h72 ?_ hro
  simp only [Try.ntmps72, List.size_toArray, List.length_cons, List.length_nil, Nat.reduceAdd, Nat.reduceSub, Array.replicate_succ, Array.replicate_zero, List.push_toArray, List.append_toArray, List.nil_append, List.cons_append]
  gi_wp2
  gi_loopw [4] (fun p wr => ∃ (pre rest : List Nat), p = .int .i64 (headP rest) ∧ q = pre ++ rest ∧ J (pre.map fun i : Nat => (i : Int)) wr ∧ KpB n₁ B W wr)
    (fun p _ => leftQ q p)
  case atStart =>
    exact ⟨[], q, by rw [hz1.out], rfl, h0, KpB.refl _ _ _⟩
  case round =>
    obtain ⟨pre, rest, rfl, hx, hJs, hkp⟩ := hrel
    cases rest with
    | nil =>
      have hz : headP [] = 0 := rfl
      rw [hz]
      gi_wp2
      go_end0
      exact ⟨⟨_, rfl⟩, .inl ⟨pre.map fun i : Nat => (i : Int), by simp [hx], hJs⟩⟩
    | cons i rest =>
      have hz : headP (i :: rest) = (i : Int) + 1 := rfl
      rw [hz]
      obtain ⟨hil, hnx⟩ := hq pre i rest hx
      obtain ⟨fn, tmps, assign, body, hy, hR⟩ := hY _ (i : Int) wr hJs (by rw [hx]; simp)
      have hw1 : IntKind.i64.wrap ((i : Int) + 1 - 1) = (i : Int) := by rw [i64w (by omega) (by omega)]; omega
      have hpos : (0 : Int) < (i : Int) + 1 := by omega
      gi_wp2
      refine hR.mono ?_
      rintro e W3 (⟨rfl, hJ3, hk3⟩ | ⟨rfl, hJx3⟩)
      · have hM3 := hM.kp (hkp.trans hk3) h1 h2
        have hBw3 := ((hkp.trans hk3).cell (p := ⟨Bw, 0, none⟩) h3.1 h3.2).trans hBw
        have hsl3 := hM3.sl
        have hnx3 := hM3.nx i hil
        rw [hnx] at hnx3
        have hi0 : (0 : Int) ≤ (i : Int) := by omega
        gi_wp2
        go_roundw
        case rel => exact ⟨pre ++ [i], rest, rfl, by simp [hx], by simpa using hJ3, hkp.trans hk3⟩
        case measure => exact leftQ_lt hx hnd
      · gi_wp2
        refine bodyPost_ret (results_none rfl _ _ _) rfl ?_
        exact ⟨⟨_, rfl⟩, .inr ⟨_, ⟨rest.map fun i : Nat => (i : Int), by simp [hx]⟩, hJx3⟩⟩

theorem ownsRow_base {W : World} {b b' : Nat} {e : TypeId} {size : Nat} {v : Value} {k : Nat} {xs : List Value} (h : W.ownsRow b e size v k xs) (hb : b' ≤ b) : W.ownsRow b' e size v k xs := by
  refine ⟨h.1, ?_⟩
  rcases h.2 with h | ⟨g, cap, cur, h1, h2, h3⟩
  · exact .inl h
  · exact .inr ⟨g, cap, cur, h1, Nat.le_trans hb h2, h3⟩
theorem infoInt : (Try.prog.info? 3).map (fun i => (i.zero, i.size, i.bytes)) = some (some (.int .i64 0), 1, 8) := by kernel_rfl
/-- A box, and what is appended to the slice that it holds. -/
theorem appendedB {W w1 : World} {n₁ B : Nat} {t e : TypeId} {size : Nat} {v v' : Value} {k m : Nat} {xs ys : List Value} {tmp : Obj} (hv : Boxed W B t v) (hte : t ≠ e) (hrow : W.ownsRow n₁ e size v k xs) (hn : n₁ ≤ W.heap.size)
    (hown' : w1.ownsRow n₁ e size v' m ys) (hgrow : (W.alloc tmp).grownBy w1 v.ownBlock) :
    Boxed w1 B t v ∧ Boxed (w1.setCell ⟨B, 0, none⟩ v') B t v' ∧ (w1.setCell ⟨B, 0, none⟩ v').ownsRow n₁ e size v' m ys ∧ KeepsOthers W (w1.setCell ⟨B, 0, none⟩ v') ∧ KpB n₁ B W (w1.setCell ⟨B, 0, none⟩ v') ∧ (∀ n₀ w, n₀ ≤ n₁ → n₀ ≤ B → Below n₀ w W → Below n₀ w (w1.setCell ⟨B, 0, none⟩ v')) := by
  have hob : ∀ j, v.ownBlock = some j → n₁ ≤ j := fun j hj => (hrow.lt j hj).1
  have hv1 : Boxed w1 B t v := (hv.alloc tmp).kept hgrow (hv.not_row hte hrow)
  refine ⟨hv1, hv1.set v', hown'.kept (grownBy_setCell' w1 B v') (.inr (hv1.not_row hte hown').symm), ?_, ⟨?_, fun k hk hB => ?_⟩, fun n₀ w h1 h2 hb => ?_⟩
  · refine ((KeepsOthers.alloc W tmp).trans (KeepsOthers.of_grownBy hgrow fun j o ej hj => ?_)).trans (KeepsOthers.setCell _ _ _)
    rcases (hrow.alloc tmp).2 with ⟨rfl, _⟩ | ⟨g, cap, cur, rfl, _, hgb, _⟩
    · simp [Value.ownBlock] at ej
    · obtain rfl : g = j := by simpa [Value.ownBlock] using ej
      rw [hgb] at hj; cases hj; rfl
  · have h1 := hgrow.size
    have h2 := (grownBy_setCell' w1 B v').size
    simp only [World.size_alloc] at h1
    omega
  · rw [(grownBy_setCell' w1 B v').block k (by have := hgrow.size; simp only [World.size_alloc] at this; omega) (fun e => hB (by injection e)), hgrow.block k (by simp only [World.size_alloc]; omega) (fun e => by have := hob k e.symm; omega)]
    exact (Below.refl n₁ W |>.alloc hn tmp).block k hk
  · exact ((hb.alloc (by have := hb.size; omega) tmp).grown hgrow (by have := hb.size; simp; omega) fun j ej => Nat.le_trans h1 (hob j ej)).setCell (p := ⟨B, 0, none⟩) h2 v'

theorem ids_stops (F : Fence) (n : Nat) (h72 : F.fn 72) (hro : F.round = none) (hn : 1 ≤ n) (Bl Bw n₁ B : Nat) (wb tb len cap : Nat) (T : RL) (f la c : Int) (q : List Nat) (hq : ∀ A i C, q = A ++ i :: C → i < len ∧ gC T i 3 = headP C) (hnd : q.Nodup) (hlen : len ≤ 4096)
    (h1 : wb < n₁ ∧ wb ≠ B) (h2 : tb < n₁ ∧ tb ≠ B) (h3 : Bw < n₁ ∧ Bw ≠ B) (h4 : Bl < n₁ ∧ Bl ≠ B) (w : World) (hw : w.heap.size = n₁)
    (hBl : w.cell? ⟨Bl, 0, none⟩ = some (.int .i64 (headP q))) (hBw : w.cell? ⟨Bw, 0, none⟩ = some (.pointer (some ⟨wb, 0, none⟩))) (hM : WMem w wb tb len cap T f la c) :
    SeqStopsK F n Try.prog 72 #[.pointer (some ⟨Bl, 0, none⟩), .pointer (some ⟨Bw, 0, none⟩)] (fun x : Int => #[Value.int .i64 x]) (KpB n₁ B) (fun ys => ys = q.map (fun i : Nat => (i : Int))) (fun pre => pre <+: q.map (fun i : Nat => (i : Int))) q.length w := fun l J Jx W hW _ _ hY h0 => by
  have hk : KpB n₁ B w W := ⟨hW.size, fun k hk _ => hW.block k (by omega)⟩
  exact ids1_in F n h72 hro hn l Bl Bw n₁ B wb tb len cap T f la c q hq hnd hlen h1 h2 h3 J Jx hY W ((hk.cell (p := ⟨Bl, 0, none⟩) h4.1 h4.2).trans hBl) ((hk.cell (p := ⟨Bw, 0, none⟩) h3.1 h3.2).trans hBw) (hM.kp hk h1 h2) h0

set_option maxRecDepth 100000 in
set_option maxHeartbeats 2000000 in
theorem backlog_in (F : Fence) (n : Nat) (h31 : F.fn 31) (h46 : F.fn 46) (h53 : F.fn 53) (h72 : F.fn 72) (hro : F.round = none) (hn : 3 ≤ n) (w : World) (wb tb len cap : Nat) (T : RL) (la c : Int) (q : List Nat) (hq : ∀ A i C, q = A ++ i :: C → i < len ∧ gC T i 3 = headP C) (hnd : q.Nodup) (hlen : len ≤ 4096) (hl0 : 0 < len) (hql : q.length ≤ 4096)
    (hM : WMem w wb tb len cap T (headP q) la c) :
    CallsIn F n Try.prog 31 #[.pointer (some ⟨wb, 0, none⟩)] w fun e W' => ∃ v, e = .returned v ∧ W'.ownsRow w.heap.size 3 1 v q.length (q.map fun i : Nat => Value.int .i64 (i : Int)) ∧ Below w.heap.size w W' := by
  have h1 : 1 ≤ n := by omega
  obtain ⟨i0, hi, hz0, hz1, hz2⟩ := info_parts infoInt
  obtain ⟨f, hf⟩ : ∃ f, f = headP q := ⟨_, rfl⟩
  rw [← hf] at hM
  have hff := Go.Lib.hid hf
  clear hf
  have hb0 := hM.b0
  have hb1 := hM.b1
  have hb2 := hM.b2
  have hwb : wb < w.heap.size := World.block_lt_of_cell? w _ hM.sl
  have htb : tb < w.heap.size := World.block_lt_of_cell? w _ (hM.nx 0 hl0)
  refine callsIn_of_wp_marks Try.func31 rfl h31 ?_ hro
  simp only [Try.ntmps31, List.size_toArray, List.length_cons, List.length_nil, Nat.reduceAdd, Nat.reduceSub, Array.replicate_succ, Array.replicate_zero, List.push_toArray, List.append_toArray, List.nil_append, List.cons_append]
  gi_wp2_with (first | (gi_at_call 46; refine (none_in F (n - 1) h46 hro _ wb tb len cap T f la c hM hl0).mono ?_; rintro e w' ⟨rfl, hw'⟩; obtain rfl := hw'.symm) | (gi_at_call 53; refine (ids_in F (n - 1) h53 hro wb f la c _).mono ?_; rintro e w' ⟨rfl, rfl⟩))
  have bO := Boxed.new w 26 (.slice none 0 0)
  have bW := Boxed.new (w.alloc (.cells #[.slice none 0 0] 26)) 22 (.pointer (some ⟨wb, 0, none⟩))
  rw [World.size_alloc] at bW
  have hL := World.alloc_heap_new ((w.alloc (.cells #[.slice none 0 0] 26)).alloc (.cells #[.pointer (some ⟨wb, 0, none⟩)] 22)) (.cells #[.int .i64 f, .int .i64 la, .int .i64 c] 70)
  rw [World.size_alloc, World.size_alloc] at hL
  have hB0 : Below w.heap.size w (((w.alloc (.cells #[.slice none 0 0] 26)).alloc (.cells #[.pointer (some ⟨wb, 0, none⟩)] 22)).alloc (.cells #[.int .i64 f, .int .i64 la, .int .i64 c] 70)) :=
    (((Below.refl _ w).alloc (Nat.le_refl _) _).alloc (by simp) _).alloc (by simp; omega) _
  have hM0 : WMem (((w.alloc (.cells #[.slice none 0 0] 26)).alloc (.cells #[.pointer (some ⟨wb, 0, none⟩)] 22)).alloc (.cells #[.int .i64 f, .int .i64 la, .int .i64 c] 70)) wb tb len cap T f la c :=
    hM.kp (n₁ := w.heap.size) (B := w.heap.size) ⟨hB0.size, fun k hk _ => hB0.block k hk⟩ ⟨hwb, by omega⟩ ⟨htb, by omega⟩
  refine wpIn_rangeFunc_ownF hro h1 (gf := 72) (lb := #[.pointer (some ⟨w.heap.size + 1 + 1, 0, none⟩), .pointer (some ⟨w.heap.size + 1, 0, none⟩)]) rfl h72 (enters_of Try.func72 (by kernel_rfl) rfl)
    (ids_stops F (n - 1) h72 hro (by omega) (w.heap.size + 1 + 1) (w.heap.size + 1) (w.heap.size + 3) w.heap.size wb tb len cap T f la c q hq hnd hlen ⟨by omega, by omega⟩ ⟨by omega, by omega⟩ ⟨by omega, by omega⟩ ⟨by omega, by omega⟩ _ (by simp) (by rw [← hff.out, World.cell?, hL]; rfl) (bW.alloc _).cell hM0)
    (fun h k => h.trans k) (fun W l o o' hl ho _ _ => ⟨(grownBy_putObj' W l o').size, fun k hk _ => (grownBy_putObj' W l o').block k (by have := (Array.getElem?_eq_some_iff.1 ho).1; simp at hl; omega) (fun e => by injection e with e; simp at hl; omega)⟩) (Below.refl _ _) (fun _ => rfl)
    (fun pre W => (∃ v, Boxed W w.heap.size 26 v ∧ W.ownsRow (w.heap.size + 3) 3 1 v pre.length (pre.map (Value.int .i64)) ∧ True) ∧ Below w.heap.size w W ∧ w.heap.size + 3 ≤ W.heap.size)
    (fun _ _ _ => False)
    (OwnFrom.and (Own.from (holdsRow_own (w.heap.size + 3) w.heap.size 26 3 1 (fun pre : List Int => pre.length) (fun pre => pre.map (Value.int .i64)) (fun _ _ => True)) _) (OwnFrom.and (ownFrom_below (Nat.le_refl _) (by simp; omega)) (fun _ _ _ _ hs hg _ => Nat.le_trans hs hg.size)))
    (fun _ _ _ _ _ hs _ _ => hs)
    ⟨⟨_, (bO.alloc _).alloc _, World.ownsRow_nil _ _ _ _, trivial⟩, hB0, by simp⟩
    (fun x => { tmps := #[.pointer (some ⟨wb, 0, none⟩), undef, .slice none 0 0, .pointer (some ⟨w.heap.size, 0, none⟩), .int .i64 x, .pointer (some ⟨wb, 0, none⟩), .bool false, .pointer (some ⟨wb, 0, none⟩), .pointer (some ⟨wb, 0, none⟩), .pointer (some ⟨wb, 0, none⟩), .pointer (some ⟨wb, 6149, none⟩), .agg #[.int .i64 f, .int .i64 la, .int .i64 c], .func (.func 72) #[] #[.pointer (some ⟨w.heap.size + 1 + 1, 0, none⟩), .pointer (some ⟨w.heap.size + 1, 0, none⟩)], .int .i64 x, undef, undef, undef, undef, undef], defers := [] }) ?assign ?body ?done ?stop
  case assign =>
    intro l x W K hK
    gi_wp2
    exact hK
  case body =>
    rintro l pre x W ⟨⟨v, hv, hrow, _⟩, hB, hsz⟩ hlt
    have hc := hv.cell
    gi_wp2_with (gi_at_builtin; refine wpListIn_append_own _ rfl _ _ 26 rfl (w.heap.size + 3) 3 i0 (.int .i64 0) 1 8 Try.underlying26 hi hz0 hz1 hz2 rfl (by decide) _ _ _ rfl (hrow.alloc _) ⟨W.heap.size, 0, none⟩ 1 1 [.int .i64 x] rfl rfl (cell_one_new _ _ _) (by simp [Value.oneCell']) (by unfold maxLen; omega) (by omega) (by simp; omega) ?_; intro v' w1 hown' hgrow _; obtain ⟨g', cap', rfl⟩ := ownsRow_succ hown'; obtain ⟨hv1, hv2, hr2, hk2, hb2, hb3⟩ := appendedB hv (by decide) hrow hsz hown' hgrow; have hc1 := hv1.cell; have hf1 := hv1.frozen)
    exact ⟨hk2, hb2, ⟨_, hv2, by simpa using hr2, trivial⟩, hb3 _ _ (by omega) (Nat.le_refl _) hB, Nat.le_trans hsz hb2.size⟩
  case done =>
    rintro D ys W hD rfl ⟨⟨v, hv, hrow, _⟩, hB, _⟩ hK
    have hc := hv.cell
    gi_wp2
    refine ⟨by simp, .inl ⟨_, _, rfl, run_takeDeferred hK, ?_⟩⟩
    have hr := ownsRow_putObj hrow (.deferred none) hK rfl
    exact ⟨_, results_tmp rfl _ _ _, v, rfl, by simpa [Function.comp_def] using ownsRow_base hr (show w.heap.size ≤ w.heap.size + 3 by omega), hB.trans (belowK_b (w := w) (Nat.le_refl _) W D _ _ (by simp at hD; omega) hK rfl rfl)⟩
  case stop =>
    rintro D c pre W _ _ h _
    exact h.elim
end
end Go.Proofs.Ytfhheeoejncfgaa.Ew

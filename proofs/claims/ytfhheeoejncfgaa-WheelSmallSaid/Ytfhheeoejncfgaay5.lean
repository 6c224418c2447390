/- Texts that the claim needs, set narrow. -/
import Derived.Test.Ytfhheeoejncfgaay4
import Derived.RangeFuncBox
import Derived.RangeFuncLeaves
import Derived.Shelf.Abstract
import Derived.OwnWalkIn
import Derived.TacticsInMore
import Derived.LoopNIn
import Derived.LoopIn
import Derived.Maps.AppendAt
import Derived.Lib.Hide
set_option linter.unusedVariables false
set_option linter.unusedSimpArgs false
namespace Go.Proofs.Ytfhheeoejncfgaa.Ew
open Go Go.RowKit Go.Shelf
attribute [local go_sem] Oper.semAt_some
noncomputable section
structure WMem (W : World) (wb tb len cap : Nat) (T : RL) (f la c : Int) : Prop where
 sl : W.cell? ⟨wb, 4, none⟩ = some (.slice (some ⟨tb, 0, none⟩) len cap)
 b0 : W.cell? ⟨wb, 6149, none⟩ = some (.int .i64 f)
 b1 : W.cell? ⟨wb, 6150, none⟩ = some (.int .i64 la)
 b2 : W.cell? ⟨wb, 6151, none⟩ = some (.int .i64 c)
 nx : ∀ i, i < len -> W.cell? ⟨tb, i * 5 + 3, none⟩ = some (.int .i64 (gC T i 3))
set_option maxRecDepth 100000 in
set_option maxHeartbeats 1000000 in
theorem X0 (F : Fence) (n : Nat) (h46 : F.fn 46) (hro : F.round = none) (W : World) (wb tb len cap : Nat) (T : RL) (f la c : Int) (hM : WMem W wb tb len cap T f la c) (h0 : 0 < len) :
 CallsIn F n Try.prog 46 #[.pointer (some ⟨wb, 0, none⟩)] W fun e W' => e = .returned (.bool false) /\ W' = W := by
 have hsl := hM.sl
 have he : (((len : Nat) : Int) == 0) = false := by simp; omega
 refine callsIn_of_wp Try.func46 rfl h46 ?_ hro
 simp only [Try.ntmps46, List.size_toArray, List.length_cons, List.length_nil, Nat.reduceAdd, Nat.reduceSub, Array.replicate_succ, Array.replicate_zero, List.push_toArray, List.append_toArray, List.nil_append, List.cons_append]
 gi_wp2
 go_ret
 exact ⟨rfl, rfl⟩
set_option maxHeartbeats 1000000 in
theorem Yw (F : Fence) (n : Nat) (h53 : F.fn 53) (hro : F.round = none) (wb : Nat) (f la c : Int) (w : World) :
 CallsIn F n Try.prog 53 #[.pointer (some ⟨wb, 0, none⟩), .agg #[.int .i64 f, .int .i64 la, .int .i64 c]] w fun e w' => e = .returned (.func (.func 72) #[] #[.pointer (some ⟨w.heap.size + 1, 0, none⟩), .pointer (some ⟨w.heap.size, 0, none⟩)]) /\
  w' = (w.alloc (.cells #[.pointer (some ⟨wb, 0, none⟩)] 22)).alloc (.cells #[.int .i64 f, .int .i64 la, .int .i64 c] 70) := by
 refine callsIn_of_wp Try.func53 rfl h53 ?_ hro
 simp only [Try.ntmps53, List.size_toArray, List.length_cons, List.length_nil, Nat.reduceAdd, Nat.reduceSub, Array.replicate_succ, Array.replicate_zero, List.push_toArray, List.append_toArray, List.nil_append, List.cons_append]
 gi_wp2
 go_ret
 exact ⟨rfl, rfl⟩
structure KpB (n₁ B : Nat) (W W' : World) : Prop where
 size : W.heap.size <= W'.heap.size
 block : ∀ k, k < n₁ -> k ≠ B -> W'.heap[k]? = W.heap[k]?
theorem KpB.trans {n₁ B : Nat} {a b c : World} (h : KpB n₁ B a b) (k : KpB n₁ B b c) : KpB n₁ B a c := ⟨Nat.le_trans h.size k.size, fun i hi hb => (k.block i hi hb).trans (h.block i hi hb)⟩
theorem KpB.refl (n₁ B : Nat) (W : World) : KpB n₁ B W W := ⟨Nat.le_refl _, fun _ _ _ => rfl⟩
theorem KpB.cell {n₁ B : Nat} {W W' : World} (h : KpB n₁ B W W') {p : Addr} (h1 : p.block < n₁) (h2 : p.block ≠ B) : W'.cell? p = W.cell? p := World.cell?_of_block (h.block _ h1 h2)
theorem WMem.kp {n₁ B : Nat} {W W' : World} {wb tb len cap : Nat} {T : RL} {f la c : Int} (h : WMem W wb tb len cap T f la c) (hk : KpB n₁ B W W') (h1 : wb < n₁ /\ wb ≠ B) (h2 : tb < n₁ /\ tb ≠ B) : WMem W' wb tb len cap T f la c :=
 ⟨(hk.cell h1.1 h1.2).trans h.sl, (hk.cell h1.1 h1.2).trans h.b0, (hk.cell h1.1 h1.2).trans h.b1, (hk.cell h1.1 h1.2).trans h.b2, fun i hi => (hk.cell h2.1 h2.2).trans (h.nx i hi)⟩
def NY (q : List Nat) (v : Value) : Nat := match v with
 | .int _ z => (q.dropWhile fun j : Nat => decide ((j : Int) + 1 ≠ z)).length
 | _ => 0
theorem Wl (q : List Nat) : NY q (.int .i64 0) = 0 := by
 show (q.dropWhile fun j : Nat => decide ((j : Int) + 1 ≠ 0)).length = 0
 induction q with
 | nil => rfl
 | cons a r ih =>
   rw [List.dropWhile_cons_of_pos (by simp; omega)]; exact ih
theorem NZ {pre r : List Nat} {i : Nat} (h : (pre ++ i :: r).Nodup) : NY (pre ++ i :: r) (.int .i64 ((i : Int) + 1)) = r.length + 1 := by
 show ((pre ++ i :: r).dropWhile fun j : Nat => decide ((j : Int) + 1 ≠ (i : Int) + 1)).length = _
 have hi : ∀ j ∈ pre, decide ((j : Int) + 1 ≠ (i : Int) + 1) = true := fun j hj => by
  rw [List.nodup_append] at h
  have := h.2.2 j hj i (by simp)
  simp; omega
 rw [List.dropWhile_append_of_pos hi, List.dropWhile_cons_of_neg (by simp)]; rfl
theorem WZ {q pre rest : List Nat} {i : Nat} (hx : q = pre ++ i :: rest) (h : q.Nodup) : NY q (.int .i64 (headP rest)) < NY q (.int .i64 ((i : Int) + 1)) := by
 subst hx
 rw [NZ h]
 cases rest with
 | nil =>
   have e : headP [] = 0 := rfl
   rw [e, Wl]; exact Nat.succ_pos _
 | cons j r =>
   have e : headP (j :: r) = (j : Int) + 1 := rfl
   have e2 : pre ++ i :: j :: r = (pre ++ [i]) ++ j :: r := by simp
   rw [e, e2, NZ (by rw [<- e2]; exact h)]
   simp
set_option maxRecDepth 100000 in
set_option maxHeartbeats 2000000 in
theorem X1 (F : Fence) (n : Nat) (h72 : F.fn 72) (hro : F.round = none) (hn : 1 <= n) (l Bl Bw n₁ B : Nat) (wb tb len cap : Nat) (T : RL) (f la c : Int) (q : List Nat) (hq : ∀ A i C, q = A ++ i :: C -> i < len /\ gC T i 3 = headP C) (hnd : q.Nodup) (hlen : len <= 4096)
 (h1 : wb < n₁ /\ wb ≠ B) (h2 : tb < n₁ /\ tb ≠ B) (h3 : Bw < n₁ /\ Bw ≠ B) (J Jx : List Int -> World -> Prop)
 (hY : ∀ pre x W, J pre W -> pre.length < q.length -> YieldAt F (n - 1) Try.prog l #[.int .i64 x] W fun e W' =>
  (e = .returned (.bool true) /\ J (pre ++ [x]) W' /\ KpB n₁ B W W') \/ (e = .returned (.bool false) /\ Jx (pre ++ [x]) W'))
 (W : World) (hBl : W.cell? ⟨Bl, 0, none⟩ = some (.int .i64 (headP q))) (hBw : W.cell? ⟨Bw, 0, none⟩ = some (.pointer (some ⟨wb, 0, none⟩))) (hM : WMem W wb tb len cap T f la c) (h0 : J [] W) :
 CallsIn F n Try.prog 72 #[.func (.yield l) #[] #[], .pointer (some ⟨Bl, 0, none⟩), .pointer (some ⟨Bw, 0, none⟩)] W fun e W' => (∃ v, e = .returned v) /\
  ((∃ ys, ys = q.map (fun i : Nat => (i : Int)) /\ J ys W') \/ (∃ pre, pre <+: q.map (fun i : Nat => (i : Int)) /\ Jx pre W')) := by
 obtain ⟨z0, hz0⟩ : ∃ z, z = headP q := ⟨_, rfl⟩
 rw [<- hz0] at hBl
 have hz1 := Go.Lib.hid hz0
 clear hz0
 refine callsIn_of_wp Try.func72 rfl h72 ?_ hro
 simp only [Try.ntmps72, List.size_toArray, List.length_cons, List.length_nil, Nat.reduceAdd, Nat.reduceSub, Array.replicate_succ, Array.replicate_zero, List.push_toArray, List.append_toArray, List.nil_append, List.cons_append]
 gi_wp2
 gi_loopw [4] (fun p wr => ∃ (pre rest : List Nat), p = .int .i64 (headP rest) /\ q = pre ++ rest /\ J (pre.map fun i : Nat => (i : Int)) wr /\ KpB n₁ B W wr)
  (fun p _ => NY q p)
 case atStart =>
  exact ⟨[], q, by rw [hz1.out], rfl, h0, KpB.refl _ _ _⟩
 case round =>
  obtain ⟨pre, rest, rfl, hx, hJs, hkp⟩ := hrel
  cases rest with
  | nil =>
    have hz : headP [] = 0 := rfl
    rw [hz]
    gi_wp2
    go_end0
    exact ⟨⟨_, rfl⟩, .inl ⟨pre.map fun i : Nat => (i : Int), by simp [hx], hJs⟩⟩
  | cons i rest =>
    have hz : headP (i :: rest) = (i : Int) + 1 := rfl
    rw [hz]
    obtain ⟨hil, hnx⟩ := hq pre i rest hx
    obtain ⟨fn, tmps, assign, body, hy, hR⟩ := hY _ (i : Int) wr hJs (by rw [hx]; simp)
    have hw1 : IntKind.i64.wrap ((i : Int) + 1 - 1) = (i : Int) := by rw [i64w (by omega) (by omega)]; omega
    have hpos : (0 : Int) < (i : Int) + 1 := by omega
    gi_wp2
    refine hR.mono ?_
    rintro e W3 (⟨rfl, hJ3, hk3⟩ | ⟨rfl, hJx3⟩)
    ·have hM3 := hM.kp (hkp.trans hk3) h1 h2
     have hBw3 := ((hkp.trans hk3).cell (p := ⟨Bw, 0, none⟩) h3.1 h3.2).trans hBw
     have hsl3 := hM3.sl
     have hnx3 := hM3.nx i hil
     rw [hnx] at hnx3
     have hi0 : (0 : Int) <= (i : Int) := by omega
     gi_wp2
     go_roundw
     case rel => exact ⟨pre ++ [i], rest, rfl, by simp [hx], by simpa using hJ3, hkp.trans hk3⟩
     case measure => exact WZ hx hnd
    ·gi_wp2
     refine bodyPost_ret (results_none rfl _ _ _) rfl ?_
     exact ⟨⟨_, rfl⟩, .inr ⟨_, ⟨rest.map fun i : Nat => (i : Int), by simp [hx]⟩, hJx3⟩⟩
theorem KP {W : World} {b b' : Nat} {e : TypeId} {size : Nat} {v : Value} {k : Nat} {xs : List Value} (h : W.ownsRow b e size v k xs) (hb : b' <= b) : W.ownsRow b' e size v k xs := by
 refine ⟨h.1, ?_⟩
 rcases h.2 with h | ⟨g, cap, cur, h1, h2, h3⟩
 ·exact .inl h
 ·exact .inr ⟨g, cap, cur, h1, Nat.le_trans hb h2, h3⟩
theorem infoInt : (Try.prog.info? 3).map (fun i => (i.zero, i.size, i.bytes)) = some (some (.int .i64 0), 1, 8) := by kernel_rfl
theorem appendedB {W w1 : World} {n₁ B : Nat} {t e : TypeId} {size : Nat} {v v' : Value} {k m : Nat} {xs ys : List Value} {tmp : Obj} (hv : Boxed W B t v) (hte : t ≠ e) (hrow : W.ownsRow n₁ e size v k xs) (hn : n₁ <= W.heap.size)
 (hown' : w1.ownsRow n₁ e size v' m ys) (hgrow : (W.alloc tmp).grownBy w1 v.ownBlock) :
 Boxed w1 B t v /\ Boxed (w1.setCell ⟨B, 0, none⟩ v') B t v' /\ (w1.setCell ⟨B, 0, none⟩ v').ownsRow n₁ e size v' m ys /\ KeepsOthers W (w1.setCell ⟨B, 0, none⟩ v') /\ KpB n₁ B W (w1.setCell ⟨B, 0, none⟩ v') /\ (∀ n₀ w, n₀ <= n₁ -> n₀ <= B -> Below n₀ w W -> Below n₀ w (w1.setCell ⟨B, 0, none⟩ v')) := by
 have hob : ∀ j, v.ownBlock = some j -> n₁ <= j := fun j hj => (hrow.lt j hj).1
 have hv1 : Boxed w1 B t v := (hv.alloc tmp).kept hgrow (hv.not_row hte hrow)
 refine ⟨hv1, hv1.set v', hown'.kept (grownBy_setCell' w1 B v') (.inr (hv1.not_row hte hown').symm), ?_, ⟨?_, fun k hk hB => ?_⟩, fun n₀ w h1 h2 hb => ?_⟩
 ·refine ((KeepsOthers.alloc W tmp).trans (KeepsOthers.of_grownBy hgrow fun j o ej hj => ?_)).trans (KeepsOthers.setCell _ _ _)
  rcases (hrow.alloc tmp).2 with ⟨rfl, _⟩ | ⟨g, cap, cur, rfl, _, hgb, _⟩
  ·simp [Value.ownBlock] at ej
  ·obtain rfl : g = j := by simpa [Value.ownBlock] using ej
   rw [hgb] at hj; cases hj; rfl
 ·have h1 := hgrow.size
  have h2 := (grownBy_setCell' w1 B v').size
  simp only [World.size_alloc] at h1
  omega
 ·rw [(grownBy_setCell' w1 B v').block k (by have := hgrow.size; simp only [World.size_alloc] at this; omega) (fun e => hB (by injection e)), hgrow.block k (by simp only [World.size_alloc]; omega) (fun e => by have := hob k e.symm; omega)]
  exact (Below.refl n₁ W |>.alloc hn tmp).block k hk
 ·exact ((hb.alloc (by have := hb.size; omega) tmp).grown hgrow (by have := hb.size; simp; omega) fun j ej => Nat.le_trans h1 (hob j ej)).setCell (p := ⟨B, 0, none⟩) h2 v'
theorem Wm (F : Fence) (n : Nat) (h72 : F.fn 72) (hro : F.round = none) (hn : 1 <= n) (Bl Bw n₁ B : Nat) (wb tb len cap : Nat) (T : RL) (f la c : Int) (q : List Nat) (hq : ∀ A i C, q = A ++ i :: C -> i < len /\ gC T i 3 = headP C) (hnd : q.Nodup) (hlen : len <= 4096)
 (h1 : wb < n₁ /\ wb ≠ B) (h2 : tb < n₁ /\ tb ≠ B) (h3 : Bw < n₁ /\ Bw ≠ B) (h4 : Bl < n₁ /\ Bl ≠ B) (w : World) (hw : w.heap.size = n₁)
 (hBl : w.cell? ⟨Bl, 0, none⟩ = some (.int .i64 (headP q))) (hBw : w.cell? ⟨Bw, 0, none⟩ = some (.pointer (some ⟨wb, 0, none⟩))) (hM : WMem w wb tb len cap T f la c) :
 SeqStopsK F n Try.prog 72 #[.pointer (some ⟨Bl, 0, none⟩), .pointer (some ⟨Bw, 0, none⟩)] (fun x : Int => #[Value.int .i64 x]) (KpB n₁ B) (fun ys => ys = q.map (fun i : Nat => (i : Int))) (fun pre => pre <+: q.map (fun i : Nat => (i : Int))) q.length w := fun l J Jx W hW _ _ hY h0 => by
 have hk : KpB n₁ B w W := ⟨hW.size, fun k hk _ => hW.block k (by omega)⟩
 exact X1 F n h72 hro hn l Bl Bw n₁ B wb tb len cap T f la c q hq hnd hlen h1 h2 h3 J Jx hY W ((hk.cell (p := ⟨Bl, 0, none⟩) h4.1 h4.2).trans hBl) ((hk.cell (p := ⟨Bw, 0, none⟩) h3.1 h3.2).trans hBw) (hM.kp hk h1 h2) h0
set_option maxRecDepth 100000 in
set_option maxHeartbeats 2000000 in
theorem UL (F : Fence) (n : Nat) (h31 : F.fn 31) (h46 : F.fn 46) (h53 : F.fn 53) (h72 : F.fn 72) (hro : F.round = none) (hn : 3 <= n) (w : World) (wb tb len cap : Nat) (T : RL) (la c : Int) (q : List Nat) (hq : ∀ A i C, q = A ++ i :: C -> i < len /\ gC T i 3 = headP C) (hnd : q.Nodup) (hlen : len <= 4096) (hl0 : 0 < len) (hql : q.length <= 4096)
 (hM : WMem w wb tb len cap T (headP q) la c) :
 CallsIn F n Try.prog 31 #[.pointer (some ⟨wb, 0, none⟩)] w fun e W' => ∃ v, e = .returned v /\ W'.ownsRow w.heap.size 3 1 v q.length (q.map fun i : Nat => Value.int .i64 (i : Int)) /\ Below w.heap.size w W' := by
 have h1 : 1 <= n := by omega
 obtain ⟨i0, hi, hz0, hz1, hz2⟩ := info_parts infoInt
 obtain ⟨f, hf⟩ : ∃ f, f = headP q := ⟨_, rfl⟩
 rw [<- hf] at hM
 have hff := Go.Lib.hid hf
 clear hf
 have hb0 := hM.b0
 have hb1 := hM.b1
 have hb2 := hM.b2
 have hwb : wb < w.heap.size := World.block_lt_of_cell? w _ hM.sl
 have htb : tb < w.heap.size := World.block_lt_of_cell? w _ (hM.nx 0 hl0)
 refine callsIn_of_wp_marks Try.func31 rfl h31 ?_ hro
 simp only [Try.ntmps31, List.size_toArray, List.length_cons, List.length_nil, Nat.reduceAdd, Nat.reduceSub, Array.replicate_succ, Array.replicate_zero, List.push_toArray, List.append_toArray, List.nil_append, List.cons_append]
 gi_wp2_with (first | (gi_at_call 46; refine (X0 F (n - 1) h46 hro _ wb tb len cap T f la c hM hl0).mono ?_; rintro e w' ⟨rfl, hw'⟩; obtain rfl := hw'.symm) | (gi_at_call 53; refine (Yw F (n - 1) h53 hro wb f la c _).mono ?_; rintro e w' ⟨rfl, rfl⟩))
 have bO := Boxed.new w 26 (.slice none 0 0)
 have bW := Boxed.new (w.alloc (.cells #[.slice none 0 0] 26)) 22 (.pointer (some ⟨wb, 0, none⟩))
 rw [World.size_alloc] at bW
 have hL := World.alloc_heap_new ((w.alloc (.cells #[.slice none 0 0] 26)).alloc (.cells #[.pointer (some ⟨wb, 0, none⟩)] 22)) (.cells #[.int .i64 f, .int .i64 la, .int .i64 c] 70)
 rw [World.size_alloc, World.size_alloc] at hL
 have hB0 : Below w.heap.size w (((w.alloc (.cells #[.slice none 0 0] 26)).alloc (.cells #[.pointer (some ⟨wb, 0, none⟩)] 22)).alloc (.cells #[.int .i64 f, .int .i64 la, .int .i64 c] 70)) :=
  (((Below.refl _ w).alloc (Nat.le_refl _) _).alloc (by simp) _).alloc (by simp; omega) _
 have hM0 : WMem (((w.alloc (.cells #[.slice none 0 0] 26)).alloc (.cells #[.pointer (some ⟨wb, 0, none⟩)] 22)).alloc (.cells #[.int .i64 f, .int .i64 la, .int .i64 c] 70)) wb tb len cap T f la c :=
  hM.kp (n₁ := w.heap.size) (B := w.heap.size) ⟨hB0.size, fun k hk _ => hB0.block k hk⟩ ⟨hwb, by omega⟩ ⟨htb, by omega⟩
 refine wpIn_rangeFunc_ownF hro h1 (gf := 72) (lb := #[.pointer (some ⟨w.heap.size + 1 + 1, 0, none⟩), .pointer (some ⟨w.heap.size + 1, 0, none⟩)]) rfl h72 (enters_of Try.func72 (by kernel_rfl) rfl)
  (Wm F (n - 1) h72 hro (by omega) (w.heap.size + 1 + 1) (w.heap.size + 1) (w.heap.size + 3) w.heap.size wb tb len cap T f la c q hq hnd hlen ⟨by omega, by omega⟩ ⟨by omega, by omega⟩ ⟨by omega, by omega⟩ ⟨by omega, by omega⟩ _ (by simp) (by rw [<- hff.out, World.cell?, hL]; rfl) (bW.alloc _).cell hM0)
  (fun h k => h.trans k) (fun W l o o' hl ho _ _ => ⟨(grownBy_putObj' W l o').size, fun k hk _ => (grownBy_putObj' W l o').block k (by have := (Array.getElem?_eq_some_iff.1 ho).1; simp at hl; omega) (fun e => by injection e with e; simp at hl; omega)⟩) (Below.refl _ _) (fun _ => rfl)
  (fun pre W => (∃ v, Boxed W w.heap.size 26 v /\ W.ownsRow (w.heap.size + 3) 3 1 v pre.length (pre.map (Value.int .i64)) /\ True) /\ Below w.heap.size w W /\ w.heap.size + 3 <= W.heap.size)
  (fun _ _ _ => False)
  (OwnFrom.and (Own.from (holdsRow_own (w.heap.size + 3) w.heap.size 26 3 1 (fun pre : List Int => pre.length) (fun pre => pre.map (Value.int .i64)) (fun _ _ => True)) _) (OwnFrom.and (ownFrom_below (Nat.le_refl _) (by simp; omega)) (fun _ _ _ _ hs hg _ => Nat.le_trans hs hg.size)))
  (fun _ _ _ _ _ hs _ _ => hs)
  ⟨⟨_, (bO.alloc _).alloc _, World.ownsRow_nil _ _ _ _, trivial⟩, hB0, by simp⟩
  (fun x => { tmps := #[.pointer (some ⟨wb, 0, none⟩), undef, .slice none 0 0, .pointer (some ⟨w.heap.size, 0, none⟩), .int .i64 x, .pointer (some ⟨wb, 0, none⟩), .bool false, .pointer (some ⟨wb, 0, none⟩), .pointer (some ⟨wb, 0, none⟩), .pointer (some ⟨wb, 0, none⟩), .pointer (some ⟨wb, 6149, none⟩), .agg #[.int .i64 f, .int .i64 la, .int .i64 c], .func (.func 72) #[] #[.pointer (some ⟨w.heap.size + 1 + 1, 0, none⟩), .pointer (some ⟨w.heap.size + 1, 0, none⟩)], .int .i64 x, undef, undef, undef, undef, undef], defers := [] }) ?assign ?body ?done ?stop
 case assign =>
  intro l x W K hK
  gi_wp2
  exact hK
 case body =>
  rintro l pre x W ⟨⟨v, hv, hrow, _⟩, hB, hsz⟩ hlt
  have hc := hv.cell
  gi_wp2_with (gi_at_builtin; refine wpListIn_append_own _ rfl _ _ 26 rfl (w.heap.size + 3) 3 i0 (.int .i64 0) 1 8 Try.underlying26 hi hz0 hz1 hz2 rfl (by decide) _ _ _ rfl (hrow.alloc _) ⟨W.heap.size, 0, none⟩ 1 1 [.int .i64 x] rfl rfl (cell_one_new _ _ _) (by simp [Value.oneCell']) (by unfold maxLen; omega) (by omega) (by simp; omega) ?_; intro v' w1 hown' hgrow _; obtain ⟨g', cap', rfl⟩ := ownsRow_succ hown'; obtain ⟨hv1, hv2, hr2, hk2, hb2, hb3⟩ := appendedB hv (by decide) hrow hsz hown' hgrow; have hc1 := hv1.cell; have hf1 := hv1.frozen)
  exact ⟨hk2, hb2, ⟨_, hv2, by simpa using hr2, trivial⟩, hb3 _ _ (by omega) (Nat.le_refl _) hB, Nat.le_trans hsz hb2.size⟩
 case done =>
  rintro D ys W hD rfl ⟨⟨v, hv, hrow, _⟩, hB, _⟩ hK
  have hc := hv.cell
  gi_wp2
  refine ⟨by simp, .inl ⟨_, _, rfl, run_takeDeferred hK, ?_⟩⟩
  have hr := ownsRow_putObj hrow (.deferred none) hK rfl
  exact ⟨_, results_tmp rfl _ _ _, v, rfl, by simpa [Function.comp_def] using KP hr (show w.heap.size <= w.heap.size + 3 by omega), hB.trans (belowK_b (w := w) (Nat.le_refl _) W D _ _ (by simp at hD; omega) hK rfl rfl)⟩
 case stop =>
  rintro D c pre W _ _ h _
  exact h.elim
end
end Go.Proofs.Ytfhheeoejncfgaa.Ew
namespace Go.Proofs.Ytfhheeoejncfgaa.Ew
open Go Go.RowKit
noncomputable section
def fn31 (_ : Nat) (xs : List Int) : Int := cd (tkN (env xs 1) 4096 (SW xs, TW xs)).2
def e31 : Ent := ⟨31, 31, [wsh], [], [0, 1], lio, fn31, WX⟩
theorem R2 {ks : List K} : ∀ {r : List Int}, fits ks r -> ∀ (j : Nat) (k : K), ks[j]? = some k -> (numV ks r)[j]? = some (k.val (r.getD j 0)) := by
 induction ks with
 | nil => intro r _ j k h; simp at h
 | cons a ks ih =>
   intro r hf j k h
   obtain ⟨x, r', rfl, _, hr⟩ := Aa hf
   cases j with
   | zero => simp at h; subst h; simp [numV]
   | succ j => simpa [numV] using ih hr j k (by simpa using h)
theorem Wn {w w' : World} {M0 Im0 : Nat -> Prop} {hs : Nat -> Hd} {ty : Nat} {q : Row} {l : Ents} {ρ ρ' : Nat -> Int} (hM : ∀ b, M0 b -> ¬ Im0 b /\ b < w.heap.size) (hR : RelE F0 ρ w M0 Im0 hs l w) (hB : Below w.heap.size w w') {nn : Nat} {hd' : Hd} {le c : E}
 (hb : ∀ x ∈ l, x.2.1.tt F0 ρ = true /\ x.1 ≠ nn /\ (∀ m ∈ allNL x.2.2.cs, m ≠ nn))
 (hk : ∀ x ∈ l, ∀ w, BlkOK F0 ρ Im0 (upd hs nn hd') x.1 w x.2.2 -> BlkOK F0 ρ' Im0 (upd hs nn hd') x.1 w x.2.2)
 (hm : ∀ x ∈ l, mutB F0 ρ' (upd hs nn hd') x.1 x.2.2 = mutB F0 ρ hs x.1 x.2.2)
 (hcs : ∀ x ∈ l, SV.concL F0 ρ (upd hs nn hd') x.2.2.cs = SV.concL F0 ρ hs x.2.2.cs)
 (ho : BlkOK F0 ρ' Im0 (upd hs nn hd') nn w' (.lst ty q true le c)) (hob : ∀ b, mutB F0 ρ' (upd hs nn hd') nn (.lst ty q true le c) = some b -> w.heap.size <= b /\ b < w'.heap.size) :
 RelE F0 ρ' w M0 Im0 (upd hs nn hd') (l ++ [(nn, mkB true, .lst ty q true le c)]) w' := by
 have him := hR.im
 have hlt : ∀ x ∈ l, ∀ b, mutB F0 ρ hs x.1 x.2.2 = some b -> (M0 b \/ w.heap.size <= b) /\ ¬ Im0 b /\ b < w.heap.size := fun x hx b h => (hR.ent x hx (hb x hx).1).2 b h
 refine ⟨fun x hx _ => ?_, fun x hx y hy _ _ b h1 h2 => ?_, fun b h => Nat.lt_of_lt_of_le (him b h) hB.size, ⟨hB.os, hB.tape, hB.output, hB.size, fun k hk _ => hB.block k hk⟩⟩
 ·rcases List.mem_append.1 hx with hx | hx
  ·refine ⟨hk x hx w' ?_, fun b h => ?_⟩
   ·refine BlkOK.fr (hR.ent x hx (hb x hx).1).1 (fun b h => ⟨h, hB.block b (him b h)⟩) (fun b h => hB.block b (hlt x hx b h).2.2) (if_neg (hb x hx).2.1) (hcs x hx)
   ·rw [hm x hx] at h
    obtain ⟨a1, a2, a3⟩ := hlt x hx b h
    exact ⟨a1, a2, Nat.lt_of_lt_of_le a3 hB.size⟩
  ·simp only [List.mem_singleton] at hx
   subst hx
   refine ⟨ho, fun b h => ?_⟩
   obtain ⟨b1, b2⟩ := hob b h
   exact ⟨Or.inr b1, fun hi => by have := him b hi; omega, b2⟩
 ·rcases List.mem_append.1 hx with hx | hx <;> rcases List.mem_append.1 hy with hy | hy
  ·rw [hm x hx] at h1
   rw [hm y hy] at h2
   exact hR.inj x hx y hy (hb x hx).1 (hb y hy).1 b h1 h2
  ·simp only [List.mem_singleton] at hy
   subst hy
   rw [hm x hx] at h1
   have := (hlt x hx b h1).2.2
   have := (hob b h2).1
   omega
  ·simp only [List.mem_singleton] at hx
   subst hx
   rw [hm y hy] at h2
   have := (hlt y hy b h2).2.2
   have := (hob b h1).1
   omega
  ·simp only [List.mem_singleton] at hx hy
   subst hx; subst hy; rfl
set_option maxHeartbeats 1000000 in
theorem ok31 : EntryOK Try.prog G0 e31 := by
 intro xs hf hp w M0 Im0 hs hM hG hR
 obtain ⟨S, now, bu, le, mo, T, rfl⟩ := HA hf
 obtain ⟨⟨Q, ok⟩, _⟩ := hp
 replace ok : WOK now bu le (dc S) (dc T) Q (bu * (255 - now % 256)) := ok
 have hct := ok.ct
 have hsw := ok.lk.sw.1
 obtain ⟨⟨c0, c1, c2⟩, _⟩ := hR.ent _ (List.mem_cons_self ..) (by simp)
 obtain ⟨⟨a1, a2, a3⟩, aM⟩ := hR.ent _ (List.mem_cons_of_mem _ (List.mem_cons_self ..)) (by simp)
 replace a2 : IntKind.i64.wrap (((dc T).length : Nat) : Int) = (((dc T).length : Nat) : Int) := a2
 replace a3 : OwL w Im0 79 (Row.ofKs k5) (hs 1) (dc T) := a3
 replace c2 : w.heap[(hs 0).blk]? = some (.cells ([.int .i64 (IntKind.i64.wrap now), .int .i64 (IntKind.i64.wrap bu), .int .i64 (IntKind.i64.wrap le), .int .i64 (IntKind.i64.wrap mo), (hs 1).sl (IntKind.i64.wrap (((dc T).length : Nat) : Int)).toNat] ++ flatN k3 (dc S)).toArray 74 (0, 0)) := c2
 rw [a2, Int.toNat_natCast] at c2
 obtain ⟨o1, xsT, o2, o3⟩ := a3
 obtain ⟨ol, oh⟩ := o2
 rcases oh with ⟨_, h0⟩ | ⟨g, cap, cur, hsl, _, hg, hnc, hcm, hcs, htk⟩
 ·omega
 rw [hsl] at c2
 have rS := ok.rS
 have hrow : (dc S)[2048]? = some (dc S)[2048] := List.getElem?_eq_getElem (by omega)
 obtain ⟨us, u1, u2⟩ := RowsV.get (Gh (w := w) (Im := Im0) rS) 2048 _ hrow
 obtain ⟨uf, rfl⟩ := AQ.1 u1
 have hfl : ∀ (j : Nat) (k : K), k3[j]? = some k -> w.cell? ⟨(hs 0).blk, 6149 + j, none⟩ = some (k.val (gC (dc S) 2048 j)) := fun j k hj => by
  have h1 := R2 uf j k hj
  have h2 := u2 j _ h1
  rw [Bi c2]
  have e : gC (dc S) 2048 j = (dc S)[2048].getD j 0 := by unfold gC; simp [List.getD, show 2048 < (dc S).length by omega]
  rw [e, <- h2]
  show (([_, _, _, _, _] ++ flatN k3 (dc S)).toArray)[6149 + j]? = _
  rw [List.getElem?_toArray, List.getElem?_append_right (by simp; omega)]
  congr 1
  show 6149 + j - 5 = 2048 * 3 + j
  omega
 have hM0 : WMem w (hs 0).blk g (dc T).length cap (dc T) (headP (Q 2048)) (gC (dc S) 2048 1) (gC (dc S) 2048 2) := by
  refine ⟨?_, ?_, hfl 1 _ rfl, hfl 2 _ rfl, fun i hi => ?_⟩
  ·rw [Bi c2]; rfl
  ·rw [<- (ok.lk.hd 2048 (by decide)).1]; exact hfl 0 _ rfl
  ·have hri : (dc T)[i]? = some (dc T)[i] := List.getElem?_eq_getElem hi
   obtain ⟨us, u1, u2⟩ := RowsV.get o3 i _ hri
   obtain ⟨uf, rfl⟩ := AQ.1 u1
   have h1 := R2 uf 3 _ rfl
   have h2 := u2 3 _ h1
   rw [<- htk, List.getElem?_take] at h2
   rw [Bi hg]
   have e : gC (dc T) i 3 = (dc T)[i].getD 3 0 := by unfold gC; simp [List.getD, hi]
   rw [e]
   split at h2
   ·have h3 : cur.toList[i * 5 + 3]? = some (Value.int .i64 ((dc T)[i].getD 3 0)) := h2
    simpa using h3
   ·cases h2
 have hq : ∀ A i C, Q 2048 = A ++ i :: C -> i < (dc T).length /\ gC (dc T) i 3 = headP C := fun A i C h => ⟨ok.lk.qc 2048 i (by rw [h]; simp), (ok.lk.ch 2048 A i C h).2⟩
 have hnd := ok.lk.nd 2048
 have hql : (Q 2048).length <= (dc T).length := by
  have := List.Nodup.length_le_of_subset hnd (show Q 2048 ⊆ List.range (dc T).length from fun i hi => List.mem_range.2 (ok.lk.qc 2048 i hi))
  rwa [List.length_range] at this
 have H := callsIn_wide.1 (UL Fence.wide 3 trivial trivial trivial trivial rfl (Nat.le_refl _) w (hs 0).blk g (dc T).length cap (dc T) (gC (dc S) 2048 1) (gC (dc S) 2048 2) (Q 2048) hq hnd hct.2.1 hct.1 (by omega) hM0)
 show Calls Try.prog 31 #[.pointer (some ⟨(hs 0).blk, 0, none⟩)] w _
 refine Calls.mono H fun en w' h => ?_
 obtain ⟨v, r1, r2, r3⟩ := h
 have r2' := KP r2 (Nat.zero_le _)
 obtain ⟨hd', rfl⟩ := MR r2'
 obtain ⟨Q', t1, t2, _⟩ := Iz 4096 (dc S, dc T) Q le _ ok
 have hv : dc (fn31 0 [S, now, bu, le, mo, T]) = (Q 2048).map (fun i : Nat => [(i : Int)]) := by
  show dc (cd (tkN now 4096 (dc S, dc T)).2) = _
  rw [Af, t2, List.take_of_length_le (by omega)]
 obtain ⟨V, hV⟩ : ∃ V, V = fn31 0 [S, now, bu, le, mo, T] := ⟨_, rfl⟩
 have hVl : (dc V).length = (Q 2048).length := by rw [hV, hv, List.length_map]
 have hVc : isCd V := by rw [hV]; exact A6 _
 have hwl : IntKind.i64.wrap (((dc V).length : Nat) : Int) = (((dc V).length : Nat) : Int) := i64w (by omega) (by omega)
 have hrv : RowsV w' Im0 (Row.ofKs intK) (dc V) ((Q 2048).map fun i : Nat => Value.int .i64 (i : Int)) := by
  rw [hV, hv]
  have : ∀ l : List Nat, (∀ i ∈ l, i < 4096) -> RowsV w' Im0 (Row.ofKs intK) (l.map fun i : Nat => [(i : Int)]) (l.map fun i : Nat => Value.int .i64 (i : Int)) := by
   intro l
   induction l with
   | nil => intro _; rfl
   | cons a l ih =>
     intro hl
     refine ⟨[.int .i64 (a : Int)], _, rfl, ?_, ih fun i hi => hl i (List.mem_cons_of_mem _ hi)⟩
     have := hl a (List.mem_cons_self ..)
     exact AQ.2 ⟨⟨i64w (by omega) (by omega), trivial⟩, rfl⟩
  exact this _ fun i hi => by have := ok.lk.qc 2048 i hi; omega
 have hos : Am e31.fn [S, now, bu, le, mo, T] 0 e31.oks = [V] := by rw [hV]; rfl
 refine ⟨upd hs 2 hd', Im0, fun j hj => if_neg (by have : j < 2 := hj; omega), fun _ h => h, fun b h => Or.inl h, ?_, ?_⟩
 ·rw [r1, hos]
  show Ending.returned (hd'.sl (Q 2048).length) = Ending.returned ((upd hs 2 hd' 2).sl (IntKind.i64.wrap (((dc V).length : Nat) : Int)).toNat)
  rw [hwl, Ay, Int.toNat_natCast, hVl]
 ·rw [hos]
  refine Wn (l := e31.pgen.2) hM hR r3 (nn := 2) (hd' := hd') ?_ ?_ ?_ ?_ ?_ ?_
  ·intro x hx
   simp only [show e31.pgen.2 = [(0, mkB true, .seg 74 [.sc (.var kJ 1), .sc (.var kJ 2), .sc (.var kJ 3), .sc (.var kJ 4), .ls 1 (.app kJ 0 0 [.var .x 5])] k3 (.var .x 0)), (1, mkB true, .lst 79 (Row.ofKs k5) true (.app kJ 0 0 [.var .x 5]) (.var .x 5))] from rfl, List.mem_cons, List.not_mem_nil, or_false] at hx
   rcases hx with rfl | rfl
   ·refine ⟨by simp, by decide, fun m hm => ?_⟩
    simp [Blk.cs, allNL, allN] at hm; omega
   ·refine ⟨by simp, by decide, fun m hm => ?_⟩
    simp [Blk.cs, allNL] at hm
  ·intro x hx w h
   simp only [show e31.pgen.2 = [(0, mkB true, .seg 74 [.sc (.var kJ 1), .sc (.var kJ 2), .sc (.var kJ 3), .sc (.var kJ 4), .ls 1 (.app kJ 0 0 [.var .x 5])] k3 (.var .x 0)), (1, mkB true, .lst 79 (Row.ofKs k5) true (.app kJ 0 0 [.var .x 5]) (.var .x 5))] from rfl, List.mem_cons, List.not_mem_nil, or_false] at hx
   rcases hx with rfl | rfl
   ·exact h
   ·exact h
  ·intro x hx
   simp only [show e31.pgen.2 = [(0, mkB true, .seg 74 [.sc (.var kJ 1), .sc (.var kJ 2), .sc (.var kJ 3), .sc (.var kJ 4), .ls 1 (.app kJ 0 0 [.var .x 5])] k3 (.var .x 0)), (1, mkB true, .lst 79 (Row.ofKs k5) true (.app kJ 0 0 [.var .x 5]) (.var .x 5))] from rfl, List.mem_cons, List.not_mem_nil, or_false] at hx
   rcases hx with rfl | rfl
   ·rfl
   ·rfl
  ·intro x hx
   simp only [show e31.pgen.2 = [(0, mkB true, .seg 74 [.sc (.var kJ 1), .sc (.var kJ 2), .sc (.var kJ 3), .sc (.var kJ 4), .ls 1 (.app kJ 0 0 [.var .x 5])] k3 (.var .x 0)), (1, mkB true, .lst 79 (Row.ofKs k5) true (.app kJ 0 0 [.var .x 5]) (.var .x 5))] from rfl, List.mem_cons, List.not_mem_nil, or_false] at hx
   rcases hx with rfl | rfl
   ·rfl
   ·rfl
  ·refine ⟨hVc, hwl, ?_⟩
   show OwL w' Im0 3 (Row.ofKs intK) (upd hs 2 hd' 2) (dc V)
   rw [Ay]
   refine ⟨by unfold maxLen; omega, _, ?_, hrv⟩
   rw [hVl]; exact r2'
  ·intro b hb
   have hb' : ((upd hs 2 hd' 2).sl (IntKind.i64.wrap (((dc V).length : Nat) : Int)).toNat).ownBlock = some b := hb
   rw [hwl, Ay, Int.toNat_natCast, hVl] at hb'
   exact r2.lt b hb'
section
variable {S now bu le mo T c : Int} {d : Nat -> Int} {B : List Nat}
theorem WV.riW (h : WV S now bu le mo T c d B) {i : Int} {r : List Int} : Ew.riW (S :: now :: bu :: le :: mo :: T :: i :: r) ↔ (0 <= i /\ i < c) := by
 have := h.cp
 show (0 <= i /\ i < ((dc T).length : Int)) ↔ _
 omega
theorem WV.dead (h : WV S now bu le mo T c d B) {i x y : Int} (hi : 0 <= i /\ i < c) (ho : AZ e29.fn [S, now, bu, le, mo, T, i] 0 [.i .i64, .b] [x, y]) : x = d i.toNat /\ y = b2i (decide (d i.toNat ≠ 0)) := by
 obtain ⟨o0, o1, _⟩ := ho
 have hr : Ew.riW [S, now, bu, le, mo, T, i] := h.riW.2 hi
 have e := h.dl i.toNat (by omega)
 have hdr := h.dr (i := i.toNat) (by omega)
 have htm := h.tm
 have f0 : e29.fn 0 [S, now, bu, le, mo, T, i] = d i.toNat := (if_pos hr).trans e
 have f1 : e29.fn 1 [S, now, bu, le, mo, T, i] = b2i (decide (Ew.riW [S, now, bu, le, mo, T, i]) && decide (gC (dc T) i.toNat 4 ≠ 0)) := rfl
 refine ⟨o0.trans ((congrArg IntKind.i64.wrap f0).trans (i64w (by omega) (by omega))), o1.trans ((congrArg K.b.norm f1).trans ?_)⟩
 rw [DX, decide_eq_true hr, Bool.true_and, e]
theorem WV.plc (h : WV S now bu le mo T c d B) {i x y z : Int} (ho : AZ e30.fn [S, now, bu, le, mo, T, i] 0 [.i .i64, .i .i64, .i .i64] [x, y, z]) : z = if 0 <= i /\ i < c then (if now < d i.toNat then 0 else 6) else 2 := by
 obtain ⟨_, _, o2, _⟩ := ho
 have f2 : e30.fn 2 [S, now, bu, le, mo, T, i] = if Ew.riW [S, now, bu, le, mo, T, i] then (if now < gC (dc T) i.toNat 4 then 0 else 6) else 2 := rfl
 refine o2.trans ((congrArg IntKind.i64.wrap f2).trans ?_)
 by_cases hi : 0 <= i /\ i < c
 ·rw [if_pos (h.riW.2 hi), if_pos hi, h.dl i.toNat (by omega)]
  split <;> rfl
 ·rw [if_neg (fun h' => hi (h.riW.1 h')), if_neg hi]; rfl
theorem WV.nowV (h : WV S now bu le mo T c d B) {v : Int} (ho : v = IntKind.i64.wrap (e18.fn 0 [S, now, bu, le, mo, T])) : v = now := by
 have := h.tm
 exact ho.trans (i64w (by show _ <= now; omega) (by show now <= _; omega))
theorem WV.lenV (h : WV S now bu le mo T c d B) {v : Int} (ho : v = IntKind.i64.wrap (e20.fn 0 [S, now, bu, le, mo, T])) : v = le := by
 have := h.ler
 exact ho.trans (i64w (by show _ <= le; omega) (by show le <= _; omega))
theorem WV.keep (h : WV S now bu le mo T c d B) {S' now' bu' le' mo' T' : Int} (h0 : S' = S) (h1 : now' = IntKind.i64.wrap now) (h2 : bu' = IntKind.i64.wrap bu) (h3 : le' = IntKind.i64.wrap le) (h4 : mo' = IntKind.i64.wrap mo) (h5 : T' = T) : S' = S /\ now' = now /\ bu' = bu /\ le' = le /\ mo' = mo /\ T' = T := by
 have := h.tm; have := h.bg; have := h.ler; have := h.mb
 exact ⟨h0, h1.trans (i64w (by omega) (by omega)), h2.trans (i64w (by omega) (by omega)), h3.trans (i64w (by omega) (by omega)), h4.trans (i64w (by omega) (by omega)), h5⟩
theorem WV.armB {S' now' bu' le' mo' T' e i dd : Int} (h : WV S now bu le mo T c d B) (hb : ¬ ((0 <= i /\ i < c) /\ now < dd /\ dd <= now + 2147483648))
 (ho : AZ e14.fn [S, now, bu, le, mo, T, i, dd] 0 [.x, .i .i64, .i .i64, .i .i64, .i .i64, .x, .i .i64] [S', now', bu', le', mo', T', e]) :
 (S' = S /\ now' = now /\ bu' = bu /\ le' = le /\ mo' = mo /\ T' = T) /\ e = 2 := by
 obtain ⟨o0, o1, o2, o3, o4, o5, o6, _⟩ := ho
 have hn : ¬ okA [S, now, bu, le, mo, T, i, dd] := fun hh => hb ⟨h.riW.1 hh.1, hh.2⟩
 exact ⟨h.keep (o0.trans (if_neg hn)) o1 o2 (o3.trans (congrArg _ (if_neg hn))) o4 (o5.trans (if_neg hn)), o6.trans ((congrArg IntKind.i64.wrap (if_neg hn)).trans rfl)⟩
theorem WV.canB {S' now' bu' le' mo' T' e i : Int} (h : WV S now bu le mo T c d B) (hb : ¬ (0 <= i /\ i < c))
 (ho : AZ e24.fn [S, now, bu, le, mo, T, i] 0 [.x, .i .i64, .i .i64, .i .i64, .i .i64, .x, .i .i64] [S', now', bu', le', mo', T', e]) :
 (S' = S /\ now' = now /\ bu' = bu /\ le' = le /\ mo' = mo /\ T' = T) /\ e = 2 := by
 obtain ⟨o0, o1, o2, o3, o4, o5, o6, _⟩ := ho
 have hr : ¬ Ew.riW [S, now, bu, le, mo, T, i] := fun hh => hb (h.riW.1 hh)
 have hn : ¬ (Ew.riW [S, now, bu, le, mo, T, i] /\ gC (dc T) i.toNat 4 ≠ 0) := fun hh => hr hh.1
 exact ⟨h.keep (o0.trans (if_neg hn)) o1 o2 (o3.trans (congrArg _ (if_neg hn))) o4 (o5.trans (if_neg hn)), o6.trans ((congrArg IntKind.i64.wrap (if_neg hr)).trans rfl)⟩
theorem WV.takeB {S' now' bu' le' mo' T' v e k : Int} (h : WV S now bu le mo T c d B) (hk : k < 0)
 (ho : AZ e17.fn [S, now, bu, le, mo, T, k] 0 [.x, .i .i64, .i .i64, .i .i64, .i .i64, .x, .x, .i .i64] [S', now', bu', le', mo', T', v, e]) :
 (S' = S /\ now' = now /\ bu' = bu /\ le' = le /\ mo' = mo /\ T' = T) /\ e = 2 := by
 obtain ⟨o0, o1, o2, o3, o4, o5, _, o7, _⟩ := ho
 exact ⟨h.keep (o0.trans (if_pos hk)) o1 o2 (o3.trans (congrArg _ (if_pos hk))) o4 (o5.trans (if_pos hk)), o7.trans ((congrArg IntKind.i64.wrap (if_pos hk)).trans rfl)⟩
end
structure RV (S now bu le mo T c : Int) (A B : RL) : Prop where
 v : ∃ d Bk, WV S now bu le mo T c d Bk
 r : RFW now bu le (dc S) (dc T) (bu * (255 - now % 256)) A B
def fndR (A : RL) (i : Int) : Int := ixR (isId i) A 0
def arR (c now i d : Int) : Prop := (0 <= i /\ i < c) /\ now < d /\ d <= now + 2147483648
instance (c now i d : Int) : Decidable (arR c now i d) := by unfold arR; infer_instance
def armA (c now i d : Int) (A : RL) : RL := if arR c now i d then puR now (wiR A i) i d else A
def N0 (c now i d : Int) (B : RL) : RL := if arR c now i d then wiR B i else B
def N1 (c now i d : Int) : Int := if arR c now i d then 0 else 2
def caR (c i : Int) (A B : RL) : Prop := (0 <= i /\ i < c) /\ ¬ (fndR A i < 0 /\ fndR B i < 0)
instance (c i : Int) (A B : RL) : Decidable (caR c i A B) := by unfold caR; infer_instance
def canL (c i : Int) (A B X : RL) : RL := if caR c i A B then wiR X i else X
def QB (c i : Int) (A B : RL) : Int := if 0 <= i /\ i < c then (if fndR A i < 0 /\ fndR B i < 0 then 6 else 0) else 2
def tkA (now bu : Int) (A : RL) : RL := if now = 1099511627776 then A else (mvA (now + 1) bu.toNat (A.filter fun r => !isAt 0 ((now + 1) % 512) r)).1
def tkB (now : Int) (A B : RL) : RL := if now = 1099511627776 then B else B ++ A.filter (isAt 0 ((now + 1) % 512))
def tkM (now bu : Int) (A : RL) : Int := if now = 1099511627776 then 0 else (mvA (now + 1) bu.toNat (A.filter fun r => !isAt 0 ((now + 1) % 512) r)).2
def idsL (B : RL) : RL := B.map fun r => [r.headD 0]
def dlR (A B : RL) (i : Int) : Int := if 0 <= fndR A i then (A.getD (fndR A i).toNat []).getD 1 0 else if 0 <= fndR B i then (B.getD (fndR B i).toNat []).getD 1 0 else 0
def isR (A B : RL) (i : Int) : Prop := 0 <= fndR A i \/ 0 <= fndR B i
instance (A B : RL) (i : Int) : Decidable (isR A B i) := by unfold isR; infer_instance
def plE (c i : Int) (A : RL) : Int := if 0 <= i /\ i < c then (if fndR A i < 0 then 6 else 0) else 2
def plX (c i : Int) (A : RL) (j : Nat) : Int := if (0 <= i /\ i < c) /\ ¬ fndR A i < 0 then (A.getD (fndR A i).toNat []).getD j 0 else 0
section
variable {S now bu le mo T c : Int} {A B : RL}
theorem RV.ws (h : RV S now bu le mo T c A B) : WS S now bu le mo T now bu le mo (dc S, dc T) := by
 obtain ⟨d, Bk, hv⟩ := h.v
 obtain ⟨Q, ok, _⟩ := hv.ok
 have := hv.mb
 exact ⟨rfl, rfl, rfl, rfl, rfl, rfl, ⟨Q, ok⟩, by omega⟩
theorem RV.tm (h : RV S now bu le mo T c A B) : 0 <= now /\ now <= 1099511627776 := by obtain ⟨d, Bk, hv⟩ := h.v; exact hv.tm
theorem RV.bg (h : RV S now bu le mo T c A B) : 1 <= bu /\ bu <= 4096 := by obtain ⟨d, Bk, hv⟩ := h.v; exact hv.bg
theorem RV.ct (h : RV S now bu le mo T c A B) : 0 < c /\ c <= 4096 := by obtain ⟨d, Bk, hv⟩ := h.v; exact hv.ct
theorem RV.cp (h : RV S now bu le mo T c A B) : ((dc T).length : Int) = c := by obtain ⟨d, Bk, hv⟩ := h.v; exact hv.cp
theorem RV.mb (h : RV S now bu le mo T c A B) : 0 <= mo /\ mo <= 1125899906842624 := by obtain ⟨d, Bk, hv⟩ := h.v; exact hv.mb
theorem RV.ler (h : RV S now bu le mo T c A B) : 0 <= le /\ le <= 4096 := by obtain ⟨d, Bk, hv⟩ := h.v; exact hv.ler
theorem RV.wx (h : RV S now bu le mo T c A B) : WX [S, now, bu, le, mo, T] := by obtain ⟨d, Bk, hv⟩ := h.v; exact hv.wx
theorem RV.wx1 (h : RV S now bu le mo T c A B) (i : Int) : WX [S, now, bu, le, mo, T, i] := h.wx
theorem RV.wx2 (h : RV S now bu le mo T c A B) (i j : Int) : WX [S, now, bu, le, mo, T, i, j] := h.wx
theorem RV.lenOK (h : RV S now bu le mo T c A B) (r : List Int) : Ew.lenOK (S :: now :: bu :: le :: mo :: T :: r) := by obtain ⟨d, Bk, hv⟩ := h.v; exact hv.lenOK r
theorem RV.preR (h : RV S now bu le mo T c A B) (i : Int) : Ew.preR [S, now, bu, le, mo, T, i] := by obtain ⟨d, Bk, hv⟩ := h.v; exact hv.preR i
theorem RV.pre16 (h : RV S now bu le mo T c A B) : e16.pre [S, now, bu, le, mo, T] := by obtain ⟨d, Bk, hv⟩ := h.v; exact hv.pre16
theorem RV.rows (h : RV S now bu le mo T c A B) : (∀ r ∈ A, ∃ i : Nat, r = rowT (dc T) i /\ (i : Int) < c /\ now < gC (dc T) i 4) /\ (∀ r ∈ B, ∃ i : Nat, r = rowT (dc T) i /\ (i : Int) < c /\ 0 < gC (dc T) i 4 /\ gC (dc T) i 4 <= now) := by
 have hc := h.cp
 obtain ⟨Q, ok, ⟨la, rfl, nd, h1, h2⟩, rfl⟩ := h.r
 constructor
 ·intro r hr
  obtain ⟨j, hj, rfl⟩ := List.mem_map.1 hr
  obtain ⟨a, b⟩ := h1 j hj
  exact ⟨j, rfl, by omega, b⟩
 ·intro r hr
  obtain ⟨j, hj, rfl⟩ := List.mem_map.1 hr
  have a := ok.lk.qc _ j hj
  obtain ⟨b, c⟩ := ok.out _ j hj
  refine ⟨j, rfl, by omega, b, ?_⟩
  by_cases hc : gC (dc T) j 4 <= now
  ·exact hc
  ·have := ok.loc_lt a (by omega); omega
theorem W0 {l : List Nat} {n : Nat} {p : Nat -> Bool} (h1 : l.Nodup) (h2 : ∀ i, i ∈ l ↔ i < n /\ p i = true) : l.length = cnt n p := by
 unfold cnt
 rw [List.countP_eq_length_filter]
 refine List.Perm.length_eq ((List.perm_ext_iff_of_nodup h1 (List.nodup_range.filter _)).2 fun i => ?_)
 rw [h2, List.mem_filter, List.mem_range]
theorem RV.len (h : RV S now bu le mo T c A B) : le = (A.length : Int) + (B.length : Int) := by
 obtain ⟨Q, ok, ⟨la, rfl, nd, h1, h2⟩, rfl⟩ := h.r
 have hm : ∀ i, i ∈ la ↔ i < (dc T).length /\ now < gC (dc T) i 4 := fun i => by
  constructor
  ·exact h1 i
  ·rintro ⟨a, b⟩
   have hm := ok.inn i a (by have := ok.tm; omega)
   rw [ok.kq a b] at hm
   have h8 := ok.loc_lt a b
   rw [ok.kq a b] at h8
   rw [<- h2 _ h8] at hm
   exact (List.mem_filter.1 hm).1
 have hb : ∀ i, i ∈ Q 2048 ↔ i < (dc T).length /\ 0 < gC (dc T) i 4 /\ gC (dc T) i 4 <= now := fun i => by
  constructor
  ·intro hj
   have a := ok.lk.qc _ i hj
   obtain ⟨b, c⟩ := ok.out _ i hj
   refine ⟨a, b, ?_⟩
   by_cases hc : gC (dc T) i 4 <= now
   ·exact hc
   ·have := ok.loc_lt a (by omega); omega
  ·rintro ⟨a, b, c⟩
   have hm := ok.inn i a b
   unfold locI at hm
   rw [if_pos c] at hm
   exact hm
 have htm := ok.tm
 rw [ok.ln, List.length_map, List.length_map]
 unfold cntD
 rw [<- W0 (l := la ++ Q 2048) (n := (dc T).length)]
 ·rw [List.length_append]; push_cast; rfl
 ·rw [List.nodup_append]
  refine ⟨nd, ok.lk.nd 2048, fun a ha b hb' e => ?_⟩
  subst e
  have := ((hm a).1 ha).2
  have := ((hb a).1 hb').2.2
  omega
 ·intro i
  rw [List.mem_append, hm, hb, decide_eq_true_eq]
  omega
theorem RV.lenA (h : RV S now bu le mo T c A B) : (A.length : Int) <= 4096 /\ (B.length : Int) <= 4096 := by
 have := h.len; have := h.ler; omega
theorem R3 {p : Nat -> Prop} (T : RL) {X : RL} (h : ∀ r ∈ X, ∃ i : Nat, r = rowT T i /\ p i) (i : Int) :
 (fndR X i = -1 /\ ∀ r ∈ X, r.headD 0 ≠ i) \/ (0 <= i /\ 0 <= fndR X i /\ fndR X i < (X.length : Int) /\ X.getD (fndR X i).toNat [] = rowT T i.toNat /\ rowT T i.toNat ∈ X /\ p i.toNat) := by
 rcases Es (isId i) X with hn | ⟨Y, r, Z, rfl, h1, h2⟩
 ·exact Or.inl ⟨Hf hn, fun r hr => by simpa [isId] using hn r hr⟩
 ·right
  obtain ⟨j, rfl, hp⟩ := h r (by simp)
  have e : ((j : Nat) : Int) = i := by
   have : decide ((rowT T j).headD 0 = i) = true := h2
   exact of_decide_eq_true this
  subst e
  have e1 : fndR (Y ++ rowT T j :: Z) (j : Int) = Y.length := by
   unfold fndR; rw [Ff h1 h2]; omega
  rw [e1]
  refine ⟨by omega, by omega, by simp; omega, ?_, by simp, by simpa using hp⟩
  simp [List.getD]
theorem RV.fA (h : RV S now bu le mo T c A B) (i : Int) : (fndR A i = -1 /\ (∀ r ∈ A, r.headD 0 ≠ i) /\ ¬ ((0 <= i /\ i < c) /\ now < gC (dc T) i.toNat 4)) \/
 (0 <= i /\ 0 <= fndR A i /\ fndR A i < (A.length : Int) /\ A.getD (fndR A i).toNat [] = rowT (dc T) i.toNat /\ i < c /\ now < gC (dc T) i.toNat 4) := by
 rcases R3 (dc T) h.rows.1 i with ⟨a, b⟩ | ⟨a, b, c', d, e, f⟩
 ·refine Or.inl ⟨a, b, fun ⟨⟨x, y⟩, z⟩ => ?_⟩
  have hc := h.cp
  obtain ⟨Q, ok, hr⟩ := h.r
  have := (hr.mem ok (i := i.toNat)).1.2 ⟨by omega, z⟩
  refine b _ this ?_
  show ((i.toNat : Nat) : Int) = i
  omega
 ·exact Or.inr ⟨a, b, c', d, by omega, f.2⟩
theorem RV.fB (h : RV S now bu le mo T c A B) (i : Int) : (fndR B i = -1 /\ (∀ r ∈ B, r.headD 0 ≠ i) /\ ¬ ((0 <= i /\ i < c) /\ 0 < gC (dc T) i.toNat 4 /\ gC (dc T) i.toNat 4 <= now)) \/
 (0 <= i /\ 0 <= fndR B i /\ fndR B i < (B.length : Int) /\ B.getD (fndR B i).toNat [] = rowT (dc T) i.toNat /\ i < c /\ 0 < gC (dc T) i.toNat 4 /\ gC (dc T) i.toNat 4 <= now) := by
 rcases R3 (dc T) h.rows.2 i with ⟨a, b⟩ | ⟨a, b, c', d, e, f⟩
 ·refine Or.inl ⟨a, b, fun ⟨⟨x, y⟩, z⟩ => ?_⟩
  have hc := h.cp
  obtain ⟨Q, ok, hr⟩ := h.r
  have := (hr.mem ok (i := i.toNat)).2.2 ⟨by omega, z⟩
  refine b _ this ?_
  show ((i.toNat : Nat) : Int) = i
  omega
 ·exact Or.inr ⟨a, b, c', d, by omega, f.2⟩
theorem RV.dr (h : RV S now bu le mo T c A B) {i : Nat} (hi : (i : Int) < c) : 0 <= gC (dc T) i 4 /\ gC (dc T) i 4 <= now + 2147483648 := by
 have hc := h.cp
 obtain ⟨Q, ok, _⟩ := h.r
 exact ok.dr i (by omega)
theorem RV.arm {S' now' bu' le' mo' T' e i d : Int} (h : RV S now bu le mo T c A B)
 (ho : AZ e14.fn [S, now, bu, le, mo, T, i, d] 0 [.x, .i .i64, .i .i64, .i .i64, .i .i64, .x, .i .i64] [S', now', bu', le', mo', T', e]) :
 RV S' now' bu' le' mo' T' c (armA c now i d A) (N0 c now i d B) /\ now' = now /\ bu' = bu /\ mo' = mo /\ e = N1 c now i d := by
 obtain ⟨d0, Bk, hv⟩ := h.v
 unfold armA N0 N1
 by_cases hk : arR c now i d
 ·simp only [if_pos hk]
  obtain ⟨w1, w2, w3, w4, w5, w6, _⟩ := hv.arm hk.1 hk.2 ho
  have hc := h.cp
  have hi : i.toNat < (dc T).length := by have := hk.1; omega
  obtain ⟨a1, _⟩ := h.r.arm hi hk.2
  obtain ⟨o0, o1, o2, o3, o4, o5, o6, _⟩ := ho
  obtain ⟨s, _⟩ := h.ws.arm (by show 0 <= i /\ i < ((dc T).length : Int); rw [hc]; exact hk.1) hk.2 rfl o0 o1 o2 o3 o4 o5 o6
  obtain ⟨_, _, e3, _, hs, ht, _, _⟩ := s
  refine ⟨⟨⟨_, _, w1⟩, ?_⟩, w2, w3, w4, w5⟩
  rw [hs, ht, w2, w3, e3]
  have e : ((i.toNat : Nat) : Int) = i := by have := hk.1; omega
  rw [e] at a1
  exact a1
 ·simp only [if_neg hk]
  obtain ⟨s, hb⟩ := hv.armB hk ho
  obtain ⟨rfl, rfl, rfl, rfl, rfl, rfl⟩ := s
  exact ⟨h, rfl, rfl, rfl, hb⟩
theorem RV.can {S' now' bu' le' mo' T' e i : Int} (h : RV S now bu le mo T c A B)
 (ho : AZ e24.fn [S, now, bu, le, mo, T, i] 0 [.x, .i .i64, .i .i64, .i .i64, .i .i64, .x, .i .i64] [S', now', bu', le', mo', T', e]) :
 RV S' now' bu' le' mo' T' c (canL c i A B A) (canL c i A B B) /\ now' = now /\ bu' = bu /\ mo' = mo /\ e = QB c i A B := by
 obtain ⟨d0, Bk, hv⟩ := h.v
 unfold canL QB
 have hc := h.cp
 by_cases hk : 0 <= i /\ i < c
 ·rw [if_pos hk]
  obtain ⟨w1, w2, w3, w4, w5, w6, _⟩ := hv.can hk ho
  have hdl := hv.dl i.toNat (by omega)
  have hdr := h.dr (i := i.toNat) (by omega)
  have hi : i.toNat < (dc T).length := by omega
  have htm := h.tm
  have hr : riW [S, now, bu, le, mo, T, i] := hv.riW.2 hk
  obtain ⟨o0, o1, o2, o3, o4, o5, o6, _⟩ := ho
  have hfa := h.fA i
  have hfb := h.fB i
  by_cases hz : gC (dc T) i.toNat 4 = 0
  ·have hn : fndR A i < 0 /\ fndR B i < 0 := by omega
   have hn' : ¬ caR c i A B := fun hh => hh.2 hn
   simp only [if_neg hn', if_pos hn]
   have hz' : ¬ (riW [S, now, bu, le, mo, T, i] /\ gC (dc T) i.toNat 4 ≠ 0) := fun hh => hh.2 hz
   have f0 : S' = S := o0.trans (if_neg hz')
   have f5 : T' = T := o5.trans (if_neg hz')
   rw [if_pos (by omega)] at w5 w6
   rw [w2, w3, w4, w6, f0, f5]
   exact ⟨h, rfl, rfl, rfl, w5⟩
  ·have hn : ¬ (fndR A i < 0 /\ fndR B i < 0) := by omega
   have hn' : caR c i A B := ⟨hk, hn⟩
   simp only [if_pos hn', if_neg hn]
   have hz' : riW [S, now, bu, le, mo, T, i] /\ gC (dc T) i.toNat 4 ≠ 0 := ⟨hr, hz⟩
   have f0 : dc S' = (dpW now (dc S, dc T) i.toNat).1 := by rw [o0.trans (if_pos hz')]; exact Af _
   have f5 : dc T' = (dpW now (dc S, dc T) i.toNat).2 := by rw [o5.trans (if_pos hz')]; exact Af _
   rw [if_neg (by omega)] at w5 w6
   obtain ⟨a1, _⟩ := h.r.drop hi (by omega)
   have e : ((i.toNat : Nat) : Int) = i := by omega
   rw [e] at a1
   refine ⟨⟨⟨_, _, w1⟩, ?_⟩, w2, w3, w4, w5⟩
   rw [f0, f5, w2, w3, w6]
   exact a1
 ·rw [if_neg hk]
  have hn' : ¬ caR c i A B := fun hh => hk hh.1
  simp only [if_neg hn']
  obtain ⟨s, hb⟩ := hv.canB hk ho
  obtain ⟨rfl, rfl, rfl, rfl, rfl, rfl⟩ := s
  exact ⟨h, rfl, rfl, rfl, hb⟩
theorem RV.tick {S' now' bu' le' mo' T' g : Int} (h : RV S now bu le mo T c A B) (hm : mo + bu <= 1125899906842624)
 (ho : AZ e15.fn [S, now, bu, le, mo, T] 0 [.x, .i .i64, .i .i64, .i .i64, .i .i64, .x, .i .i64] [S', now', bu', le', mo', T', g]) :
 RV S' now' bu' le' mo' T' c (tkA now bu A) (tkB now A B) /\ now' = nowT now /\ bu' = bu /\ mo' = mo + tkM now bu A /\ g = tkM now bu A /\ (0 <= g /\ g <= bu) := by
 obtain ⟨d0, Bk, hv⟩ := h.v
 obtain ⟨D, w1, _, w2, w3, w4, w5, w6, w7, _⟩ := hv.tick hm ho
 have htm := h.tm
 have hbg := h.bg
 obtain ⟨o0, o1, o2, o3, o4, o5, o6, _⟩ := ho
 obtain ⟨s, hg⟩ := h.ws.tick (by omega) o0 o1 o2 o3 o4 o5 o6
 obtain ⟨_, _, _, _, hs, ht, _, _⟩ := s
 by_cases hM : now = 1099511627776
 ·have e1 : tickW now bu (dc S, dc T) = ((dc S, dc T), 0) := if_pos hM
  have eA : tkA now bu A = A := if_pos hM
  have eB : tkB now A B = B := if_pos hM
  have eM : tkM now bu A = 0 := if_pos hM
  have eT : nowT now = now := if_pos hM
  rw [e1] at hg hs ht
  refine ⟨⟨⟨_, _, w1⟩, ?_⟩, w2, w3, ?_, by rw [eM]; exact hg, w6, w7⟩
  ·rw [eA, eB, hs, ht, w2, w3, w4, eT]; exact h.r
  ·rw [eM, w5]; omega
 ·obtain ⟨j1, _, _⟩ := h.r.join (by omega)
  obtain ⟨m1, m2⟩ := RFW.moves bu.toNat j1
  have e1 : tickW now bu (dc S, dc T) = mvN (now + 1) bu.toNat (joinW ((now + 1) % 512).toNat (dc S, dc T)) := if_neg hM
  have eA : tkA now bu A = (mvA (now + 1) bu.toNat (A.filter fun r => !isAt 0 ((now + 1) % 512) r)).1 := if_neg hM
  have eB : tkB now A B = B ++ A.filter (isAt 0 ((now + 1) % 512)) := if_neg hM
  have eM : tkM now bu A = (mvA (now + 1) bu.toNat (A.filter fun r => !isAt 0 ((now + 1) % 512) r)).2 := if_neg hM
  have eT : nowT now = now + 1 := if_neg hM
  have hgm : g = tkM now bu A := by rw [eM, hg, e1]; exact m2.symm
  refine ⟨⟨⟨_, _, w1⟩, ?_⟩, w2, w3, by rw [<- hgm]; exact w5, hgm, w6, w7⟩
  rw [hs, ht, w2, w3, w4, eT, eA, eB, e1]
  have e2 : bu * (255 - (now + 1) % 256) = if ((bu.toNat : Nat) : Int) <= bu * (256 - (now + 1) % 256) then bu * (256 - (now + 1) % 256) - ((bu.toNat : Nat) : Int) else 0 := by
   have eb : ((bu.toNat : Nat) : Int) = bu := by omega
   have eq1 : bu * (256 - (now + 1) % 256) = bu * (255 - (now + 1) % 256) + bu := by
    rw [show 256 - (now + 1) % 256 = (255 - (now + 1) % 256) + 1 by omega, Int.mul_add, Int.mul_one]
   have h0 : 0 <= bu * (255 - (now + 1) % 256) := Int.mul_nonneg (by omega) (by omega)
   rw [eb, eq1, if_pos (by omega)]; omega
  rw [e2]
  exact m1
theorem RFW.take {now bu : Int} {A : RL} : ∀ (k : Nat) {S T : RL} {le w : Int} {B : RL}, RFW now bu le S T w A B ->
 RFW now bu (le - ((B.take k).length : Int)) (tkN now k (S, T)).1.1 (tkN now k (S, T)).1.2 w A (B.drop k) /\ (tkN now k (S, T)).2 = idsL (B.take k)
 | 0, S, T, le, w, B, h => by
   rw [List.take_zero, List.drop_zero]
   refine ⟨?_, rfl⟩
   show RFW now bu (le - 0) S T w A B
   rw [show le - 0 = le by omega]; exact h
 | k + 1, S, T, le, w, [], h => by
   have hl := h.lag
   have e : tkN now (k + 1) (S, T) = ((S, T), []) := if_neg (by show ¬ 0 < gC S 2048 2; rw [hl]; simp)
   rw [e]
   refine ⟨?_, rfl⟩
   show RFW now bu (le - 0) S T w A []
   rw [show le - 0 = le by omega]; exact h
 | k + 1, S, T, le, w, r :: B, h => by
   have hl := h.lag
   obtain ⟨i, rfl, p2, p3, p4⟩ := h.pop
   have e : tkN now (k + 1) (S, T) = ((tkN now k (dpW now (S, T) (gC S 2048 0 - 1).toNat)).1, [gC S 2048 0 - 1] :: (tkN now k (dpW now (S, T) (gC S 2048 0 - 1).toNat)).2) := if_pos (by show 0 < gC S 2048 2; rw [hl]; simp)
   have e2 : (gC S 2048 0 - 1).toNat = i := by omega
   obtain ⟨q1, q2⟩ := RFW.take k p4
   rw [e, e2, p2]
   refine ⟨?_, by show [(i : Int)] :: (tkN now k (dpW now (S, T) i)).2 = _; rw [show dpW now (S, T) i = ((dpW now (S, T) i).1, (dpW now (S, T) i).2) from rfl, q2]; rfl⟩
   show RFW now bu (le - (((rowT T i :: B).take (k + 1)).length : Int)) (tkN now k (dpW now (S, T) i)).1.1 (tkN now k (dpW now (S, T) i)).1.2 w A (B.drop k)
   rw [show dpW now (S, T) i = ((dpW now (S, T) i).1, (dpW now (S, T) i).2) from rfl, List.take_succ_cons, List.length_cons, show le - ((((B.take k).length + 1 : Nat)) : Int) = le - 1 - ((B.take k).length : Int) by push_cast; omega]
   exact q1
theorem RV.take {S' now' bu' le' mo' T' v e k : Int} (h : RV S now bu le mo T c A B) (hk : 0 <= k)
 (ho : AZ e17.fn [S, now, bu, le, mo, T, k] 0 [.x, .i .i64, .i .i64, .i .i64, .i .i64, .x, .x, .i .i64] [S', now', bu', le', mo', T', v, e]) :
 RV S' now' bu' le' mo' T' c A (B.drop k.toNat) /\ now' = now /\ bu' = bu /\ mo' = mo /\ e = 0 /\ dc v = idsL (B.take k.toNat) := by
 obtain ⟨d0, Bk, hv⟩ := h.v
 obtain ⟨w1, w2, w3, w4, w5, w6, w7, _⟩ := hv.take hk ho
 obtain ⟨o0, o1, o2, o3, o4, o5, o6, o7, _⟩ := ho
 obtain ⟨s, hg, _⟩ := h.ws.take hk o0 o1 o2 o3 o4 o5 o6 o7
 obtain ⟨_, _, e3, _, hs, ht, _, _⟩ := s
 obtain ⟨t1, t2⟩ := RFW.take k.toNat h.r
 refine ⟨⟨⟨_, _, w1⟩, ?_⟩, w2, w3, w4, w5, hg.trans t2⟩
 rw [hs, ht, w2, w3, e3, t2]
 unfold idsL
 rw [List.length_map]
 exact t1
theorem RV.takeB {S' now' bu' le' mo' T' v e k : Int} (h : RV S now bu le mo T c A B) (hk : k < 0)
 (ho : AZ e17.fn [S, now, bu, le, mo, T, k] 0 [.x, .i .i64, .i .i64, .i .i64, .i .i64, .x, .x, .i .i64] [S', now', bu', le', mo', T', v, e]) :
 RV S' now' bu' le' mo' T' c A B /\ now' = now /\ bu' = bu /\ mo' = mo /\ e = 2 /\ dc v = [] := by
 obtain ⟨d0, Bk, hv⟩ := h.v
 obtain ⟨s, hb⟩ := hv.takeB hk ho
 obtain ⟨_, _, _, _, _, _, o6, _, _⟩ := ho
 obtain ⟨rfl, rfl, rfl, rfl, rfl, rfl⟩ := s
 exact ⟨h, rfl, rfl, rfl, hb, by rw [o6.trans (if_pos hk)]; exact Af _⟩
theorem RV.ids (h : RV S now bu le mo T c A B) : dc (e31.fn 0 [S, now, bu, le, mo, T]) = idsL B := by
 obtain ⟨_, t2⟩ := RFW.take 4096 h.r
 have := h.lenA
 show dc (cd (tkN now 4096 (dc S, dc T)).2) = _
 rw [Af, t2, List.take_of_length_le (by omega)]
theorem RV.nowV (h : RV S now bu le mo T c A B) {v : Int} (ho : v = IntKind.i64.wrap (e18.fn 0 [S, now, bu, le, mo, T])) : v = now := by
 obtain ⟨d, Bk, hv⟩ := h.v; exact hv.nowV ho
theorem RV.lenV (h : RV S now bu le mo T c A B) {v : Int} (ho : v = IntKind.i64.wrap (e20.fn 0 [S, now, bu, le, mo, T])) : v = (A.length : Int) + (B.length : Int) := by
 obtain ⟨d, Bk, hv⟩ := h.v; rw [<- h.len]; exact hv.lenV ho
theorem RV.lagV (h : RV S now bu le mo T c A B) {v : Int} (ho : v = IntKind.i64.wrap (e16.fn 0 [S, now, bu, le, mo, T])) : v = (B.length : Int) := by
 have e : e16.fn 0 [S, now, bu, le, mo, T] = (B.length : Int) := h.r.lag
 have := h.lenA
 rw [e] at ho
 exact ho.trans (i64w (by omega) (by omega))
theorem RV.movV (h : RV S now bu le mo T c A B) {v : Int} (ho : v = IntKind.i64.wrap (e21.fn 0 [S, now, bu, le, mo, T])) : v = mo := by
 have := h.mb
 exact ho.trans (i64w (by show _ <= mo; omega) (by show mo <= _; omega))
theorem RV.dead {i x y : Int} (h : RV S now bu le mo T c A B) (ho : AZ e29.fn [S, now, bu, le, mo, T, i] 0 [.i .i64, .b] [x, y]) : x = dlR A B i /\ y = b2i (decide (isR A B i)) := by
 obtain ⟨o0, o1, _⟩ := ho
 have hfa := h.fA i
 have hfb := h.fB i
 have htm := h.tm
 have hc := h.cp
 obtain ⟨d, Bk, hv⟩ := h.v
 have f0 : e29.fn 0 [S, now, bu, le, mo, T, i] = if riW [S, now, bu, le, mo, T, i] then gC (dc T) i.toNat 4 else 0 := rfl
 have f1 : e29.fn 1 [S, now, bu, le, mo, T, i] = b2i (decide (riW [S, now, bu, le, mo, T, i]) && decide (gC (dc T) i.toNat 4 ≠ 0)) := rfl
 have key : (if riW [S, now, bu, le, mo, T, i] then gC (dc T) i.toNat 4 else 0) = dlR A B i /\ (decide (riW [S, now, bu, le, mo, T, i]) && decide (gC (dc T) i.toNat 4 ≠ 0)) = decide (isR A B i) /\ -9223372036854775808 <= dlR A B i /\ dlR A B i <= 9223372036854775807 := by
  unfold dlR isR
  by_cases hi : 0 <= i /\ i < c
  ·have hr : riW [S, now, bu, le, mo, T, i] := hv.riW.2 hi
   have hdr := h.dr (i := i.toNat) (by omega)
   rw [if_pos hr, decide_eq_true hr, Bool.true_and]
   rcases hfa with ⟨a1, a2, a3⟩ | ⟨a1, a2, a3, a4, a5, a6⟩
   ·rw [if_neg (by omega)]
    rcases hfb with ⟨b1, b2, b3⟩ | ⟨b1, b2, b3, b4, b5, b6, b7⟩
    ·have hz : gC (dc T) i.toNat 4 = 0 := by omega
     rw [if_neg (by omega), hz]
     refine ⟨rfl, ?_, by decide, by decide⟩
     rw [decide_eq_false (show ¬ (0 : Int) ≠ 0 from fun h => h rfl)]; exact (decide_eq_false (by omega)).symm
    ·rw [if_pos (by omega), b4]
     refine ⟨rfl, ?_, by show _ <= gC (dc T) i.toNat 4; omega, by show gC (dc T) i.toNat 4 <= _; omega⟩
     rw [decide_eq_true (show gC (dc T) i.toNat 4 ≠ 0 by omega)]; exact (decide_eq_true (by omega)).symm
   ·rw [if_pos (by omega), a4]
    refine ⟨rfl, ?_, by show _ <= gC (dc T) i.toNat 4; omega, by show gC (dc T) i.toNat 4 <= _; omega⟩
    rw [decide_eq_true (show gC (dc T) i.toNat 4 ≠ 0 by omega)]; exact (decide_eq_true (by omega)).symm
  ·have hr : ¬ riW [S, now, bu, le, mo, T, i] := fun hh => hi (hv.riW.1 hh)
   have a : fndR A i = -1 := by omega
   have b : fndR B i = -1 := by omega
   rw [if_neg hr, if_neg (by omega), if_neg (by omega), decide_eq_false hr, Bool.false_and]
   refine ⟨rfl, ?_, by decide, by decide⟩
   exact (decide_eq_false (by omega)).symm
 obtain ⟨k1, k2, k3, k4⟩ := key
 refine ⟨o0.trans ((congrArg IntKind.i64.wrap (f0.trans k1)).trans (i64w k3 k4)), o1.trans ((congrArg K.b.norm (f1.trans (congrArg b2i k2))).trans (DX _))⟩
theorem RV.plc {i x y z : Int} (h : RV S now bu le mo T c A B) (ho : AZ e30.fn [S, now, bu, le, mo, T, i] 0 [.i .i64, .i .i64, .i .i64] [x, y, z]) : x = plX c i A 2 /\ y = plX c i A 3 /\ z = plE c i A := by
 obtain ⟨d, Bk, hv⟩ := h.v
 have hz := hv.plc ho
 obtain ⟨o0, o1, _, _⟩ := ho
 have hfa := h.fA i
 have htm := h.tm
 have hc := h.cp
 have f0 : e30.fn 0 [S, now, bu, le, mo, T, i] = if riW [S, now, bu, le, mo, T, i] /\ now < gC (dc T) i.toNat 4 then gC (dc T) i.toNat 0 else 0 := rfl
 have f1 : e30.fn 1 [S, now, bu, le, mo, T, i] = if riW [S, now, bu, le, mo, T, i] /\ now < gC (dc T) i.toNat 4 then gC (dc T) i.toNat 1 else 0 := rfl
 unfold plX plE
 by_cases hi : 0 <= i /\ i < c
 ·have hr : riW [S, now, bu, le, mo, T, i] := hv.riW.2 hi
  have hdl := hv.dl i.toNat (by omega)
  rw [if_pos hi, <- hdl] at hz
  rw [if_pos hi]
  rcases hfa with ⟨a1, a2, a3⟩ | ⟨a1, a2, a3, a4, a5, a6⟩
  ·have hn : ¬ now < gC (dc T) i.toNat 4 := fun hh => a3 ⟨hi, hh⟩
   rw [if_neg (fun hh => hn hh.2)] at f0 f1
   rw [if_neg hn] at hz
   have hx : ¬ ((0 <= i /\ i < c) /\ ¬ fndR A i < 0) := fun hh => hh.2 (by omega)
   rw [if_neg hx, if_neg hx, if_pos (by omega)]
   exact ⟨o0.trans ((congrArg IntKind.i64.wrap f0).trans rfl), o1.trans ((congrArg IntKind.i64.wrap f1).trans rfl), hz⟩
  ·rw [if_pos ⟨hr, a6⟩] at f0 f1
   rw [if_pos a6] at hz
   have hx : (0 <= i /\ i < c) /\ ¬ fndR A i < 0 := ⟨hi, by omega⟩
   rw [if_pos hx, if_pos hx, if_neg (by omega), a4]
   have hl : i.toNat < (dc T).length := by omega
   obtain ⟨Q, ok, _⟩ := h.r
   have c0 := rowsC ok.rT (j := 0) hl rfl
   have c1 := rowsC ok.rT (j := 1) hl rfl
   exact ⟨o0.trans ((congrArg IntKind.i64.wrap f0).trans c0), o1.trans ((congrArg IntKind.i64.wrap f1).trans c1), hz⟩
 ·have hr : ¬ riW [S, now, bu, le, mo, T, i] := fun hh => hi (hv.riW.1 hh)
  rw [if_neg (fun hh => hr hh.1)] at f0 f1
  rw [if_neg hi] at hz
  have hx : ¬ ((0 <= i /\ i < c) /\ ¬ fndR A i < 0) := fun hh => hi hh.1
  rw [if_neg hx, if_neg hx, if_neg hi]
  exact ⟨o0.trans ((congrArg IntKind.i64.wrap f0).trans rfl), o1.trans ((congrArg IntKind.i64.wrap f1).trans rfl), hz⟩
theorem RV.new {S' now' bu' le' mo' T' n c b : Int} (h : newW n c b)
 (ho : AZ e13.fn [n, c, b] 0 [.x, .i .i64, .i .i64, .i .i64, .i .i64, .x] [S', now', bu', le', mo', T']) :
 RV S' now' bu' le' mo' T' c [] [] /\ now' = n /\ bu' = b /\ mo' = 0 := by
 obtain ⟨q1, q2, q3, q4, q5, q6⟩ := WV.new h ho
 refine ⟨⟨⟨_, _, q1⟩, ?_⟩, q2, q3, q5⟩
 obtain ⟨o0, _, _, _, _, o5, _⟩ := ho
 have hs : dc S' = S0 := by rw [o0]; exact Af _
 have hh := h
 obtain ⟨_, h2, h3, _⟩ := hh
 rw [hs, q6, q2, q3, q4]
 refine ⟨fun _ => [], WOK.new h (Int.mul_nonneg (by omega) (by omega)), ⟨⟨[], rfl, List.nodup_nil, (fun i hi => by cases hi), fun k _ => rfl⟩, rfl⟩⟩
end
def k4 : List K := [.i .i64, .i .i64, .i .i64, .i .i64]
def lsR : Sh := .lst 146 (Row.ofKs k4) false
def loR : Sh := .lst 146 (Row.ofKs k4) true
def rwS : Sh := .agg [i64, i64, i64, i64, lsR, lsR]
def rwO : Sh := .agg [i64, i64, i64, i64, loR, lsR]
def o90 : Sh := .obj 90 [i64, i64, i64, i64, lsR, lsR]
def capR : Int := 100000
def okR (c : Int) : Prop := rowsOK k4 (dc c) /\ ((dc c).length : Int) <= capR
def p104 : List Bool := [true,false,true,false]
def pre104 (xs : List Int) : Prop := 0 <= env xs 0 /\ env xs 0 <= 4 /\ 0 <= env xs 1
def Pm (xs ys : List Int) : Prop := env ys 0 = blk (env xs 0) (env xs 1)
def b104 : Ent := ⟨104, 104, [i64, i64], [], [], i64, z0, pre104⟩
def preLb (xs : List Int) : Prop := 0 <= env xs 2 /\ env xs 2 <= env xs 0 /\ env xs 0 <= 4 /\ 0 <= env xs 1
def N4 (xs ys : List Int) : Prop := env ys 0 = blk (env xs 0 - env xs 2) (env xs 1)
def muLb (xs : List Int) : Nat := (env xs 0 - env xs 2).toNat
def HB : LEnt := ⟨⟨9104, 999999, [i64, i64, i64], [], [], .tup [i64], z0, preLb⟩, [0, 1, 5], [1], (List.range 8).map (· + 5), [.ex 0], 14, []⟩
def IB : E := (.or (.not (.cmp .lss (vI 2) (vI 0))) (aB 9104 1000000 [(vI 0), (.dv .quo .i64 (vI 1) 256), (.bin .add .i64 (vI 2) (lI 1))]))
def IC : List E := [(.ite (.not (.cmp .lss (vI 2) (vI 0))) (vI 1) (aI 9104 0 [(vI 0), (.dv .quo .i64 (vI 1) 256), (.bin .add .i64 (vI 2) (lI 1))]))]
def le104 : LEnt := HB.fw (fnL HB cI.nm.l IB IC N4 muLb)
theorem X2 : evL Try.prog G0 (Ad cI.nm.fs) (evFn Try.prog G0 (Ad cI.nm.fs) (ltOf cI.nm.ls) 40 10) 40 (subL cI.nm.ls 104 p104) le104 (AC Try.prog 104 p104) = some (IB, IC) := by kernel_rfl
def c104 : Ctx := ⟨[], [(104, p104, le104)]⟩
def LD : Ctx := c104.nm
def R4 : List (Nat × E) := [(640058265600000, (aI 100009104 0 [(vI 0), (vI 1), (lI 0)]))]
def N6 : E := (.and (aB 100009104 1000000 [(vI 0), (vI 1), (lI 0)]) (dE R4 0 1))
def N7 : List E := [(vI 640058265600000)]
def e104 : Ent := b104.fw (fnR LD.l.F b104.np N6 N7 Pm)
theorem Yx : evE Try.prog G0 (Ad LD.fs) (ltOf LD.ls) 40 10 e104 = some (N6, N7) := by kernel_rfl
def p103 : List Bool := [true,true,false,true,false]
def pre103 (xs : List Int) : Prop := okR (env xs 0)
def Pn (xs ys : List Int) : Prop := dc (env ys 0) = wiR (dc (env xs 0)) (env xs 1)
def b103 : Ent := ⟨103, 103, [lsR, i64], [], [0], loR, z0, pre103⟩
def preLw (xs : List Int) : Prop := okR (env xs 0) /\ 0 <= env xs 3 /\ env xs 3 <= ((dc (env xs 0)).length : Int) /\ ((dc (env xs 2)).length : Int) <= env xs 3
def N8 (xs ys : List Int) : Prop := dc (env ys 0) = dc (env xs 2) ++ wiR ((dc (env xs 0)).drop (env xs 3).toNat) (env xs 1)
def muLw (xs : List Int) : Nat := (((dc (env xs 0)).length : Int) - env xs 3).toNat
def Gr : LEnt := ⟨⟨9103, 999999, [lsR, i64, loR, i64], [], [0], .tup [loR], z0, preLw⟩, [0, 1, 5, 6], [5], (List.range 22).map (· + 6), [.ex 0], 28, [0]⟩
def Bo : E := (.not (.cmp .lss (vI 3) (aI 0 0 [(vX 0)])))
def CE : E := (.and (.cmp .geq (vI 3) (lI 0)) (.cmp .lss (vI 3) (aI 0 0 [(vX 0)])))
def B5 : E := (.cmp .neq (aI 0 1 [(vX 0), (vI 3), (.lit .x 0)]) (vI 1))
def Dj : E := (.not B5)
def Dk : E := (aX 0 4 [(vX 2), (aX 0 3 [(aX 0 2 []), (aI 0 1 [(vX 0), (vI 3), (.lit .x 0)]), (aI 0 1 [(vX 0), (vI 3), (.lit .x 1)]), (aI 0 1 [(vX 0), (vI 3), (.lit .x 2)]), (aI 0 1 [(vX 0), (vI 3), (.lit .x 3)])])])
def Dl : E := (.ite B5 Dk (vX 2))
def GH : E := (.and (.and (.or Bo (.and CE (.or Dj (.and CE (.and CE (.cmp .leq (aX 0 0 [Dk]) (.lit .x 4398046511104))))))) (.or Bo (.and (.ite B5 B5 Dj) (aB 9103 1000000 [(vX 0), (vI 1), Dl, (.bin .add .i64 (vI 3) (lI 1))])))) (.or (.not (.or Bo (.cmp .lss (vI 3) (aI 0 0 [(vX 0)])))) (.ite Bo Bo (.cmp .lss (vI 3) (aI 0 0 [(vX 0)])))))
def GI : List E := [(.ite Bo (vX 2) (aX 9103 0 [(vX 0), (vI 1), Dl, (.bin .add .i64 (vI 3) (lI 1))]))]
def le103 : LEnt := Gr.fw (fnL Gr cI.nm.l GH GI N8 muLw)
theorem X3 : evL Try.prog G0 (Ad cI.nm.fs) (evFn Try.prog G0 (Ad cI.nm.fs) (ltOf cI.nm.ls) 40 10) 40 (subL cI.nm.ls 103 p103) le103 (AC Try.prog 103 p103) = some (GH, GI) := by kernel_rfl
def c103 : Ctx := ⟨[], [(103, p103, le103)]⟩
def LE : Ctx := c103.nm
def R5 : List (Nat × E) := [(640058259200064, (aX 100009103 0 [(vX 0), (vI 1), (aX 0 2 []), (lI 0)]))]
def N9 : E := (.and (aB 100009103 1000000 [(vX 0), (vI 1), (aX 0 2 []), (lI 0)]) (dE R5 0 1))
def Oa : List E := [(vX 640058259200064)]
def e103 : Ent := b103.fw (fnR LE.l.F b103.np N9 Oa Pn)
theorem Yy : evE Try.prog G0 (Ad LE.fs) (ltOf LE.ls) 40 10 e103 = some (N9, Oa) := by kernel_rfl
def p100 : List Bool := [true,false,true,false]
def Po (xs ys : List Int) : Prop := env ys 0 = fndR (dc (env xs 0)) (env xs 1)
def b100 : Ent := ⟨100, 100, [lsR, i64], [], [0], i64, z0, pre103⟩
def preLf (xs : List Int) : Prop := okR (env xs 0) /\ 0 <= env xs 2 /\ env xs 2 <= ((dc (env xs 0)).length : Int)
def foundP (p : List Int -> Bool) (l : RL) (i : Int) (ys : List Int) : Prop :=
 (env ys 0 = 1 /\ ixR p (l.drop i.toNat) i = -1) \/ (env ys 0 = 0 /\ env ys 1 = ixR p (l.drop i.toNat) i)
def Oc (xs ys : List Int) : Prop := foundP (isId (env xs 1)) (dc (env xs 0)) (env xs 2) ys
def muLf (xs : List Int) : Nat := (((dc (env xs 0)).length : Int) - env xs 2).toNat
def HC : LEnt := ⟨⟨9100, 999999, [lsR, i64, .lt kJ 0, i64], [], [0], .tup [.sc .b, i64], z0, preLf⟩, [0, 1, 4, 5], [4], (List.range 15).map (· + 5), [.ex 0, .ret], 20, [0]⟩
def CF : E := (.not (.cmp .lss (vI 2) (aI 0 0 [(vX 0)])))
def Dm : E := (.cmp .eql (aI 0 1 [(vX 0), (vI 2), (.lit .x 0)]) (vI 1))
def Dn : E := (.and (.cmp .lss (vI 2) (aI 0 0 [(vX 0)])) (.not Dm))
def Dp : E := (.or CF (.and Dn (aB 9100 0 [(vX 0), (vI 1), (.bin .add .i64 (vI 2) (lI 1))])))
def Dq : E := (aI 9100 1 [(vX 0), (vI 1), (.bin .add .i64 (vI 2) (lI 1))])
def GJ : E := (.and (.or CF (.and (.cmp .geq (vI 2) (lI 0)) (.cmp .lss (vI 2) (aI 0 0 [(vX 0)])))) (.or (.not Dn) (aB 9100 1000000 [(vX 0), (vI 1), (.bin .add .i64 (vI 2) (lI 1))])))
def GK : List E := [(.ite Dp (.lit .b 1) (.lit .b 0)), (.ite Dp (.ite CF (lI 0) Dq) (.ite (.and (.cmp .lss (vI 2) (aI 0 0 [(vX 0)])) Dm) (vI 2) Dq))]
def le100 : LEnt := HC.fw (fnL HC cI.nm.l GJ GK Oc muLf)
theorem X4 : evL Try.prog G0 (Ad cI.nm.fs) (evFn Try.prog G0 (Ad cI.nm.fs) (ltOf cI.nm.ls) 40 10) 40 (subL cI.nm.ls 100 p100) le100 (AC Try.prog 100 p100) = some (GJ, GK) := by kernel_rfl
def c100 : Ctx := ⟨[], [(100, p100, le100)]⟩
def LF : Ctx := c100.nm
def Pp : List E := [(vX 0), (vI 1), (lI 0)]
def R6 : List (Nat × E) := [(640058240000064, (aB 100009100 0 Pp)),
 (640058240000065, (aI 100009100 1 Pp))]
def Od : E := (.and (aB 100009100 1000000 [(vX 0), (vI 1), (lI 0)]) (dE R6 0 2))
def KQ : List E := [(.ite (.not (.var .b 640058240000064)) (vI 640058240000065) (lI (-1)))]
def e100 : Ent := b100.fw (fnR LF.l.F b100.np Od KQ Po)
theorem Yz : evE Try.prog G0 (Ad LF.fs) (ltOf LF.ls) 40 10 e100 = some (Od, KQ) := by kernel_rfl
def pre102 (xs : List Int) : Prop := okR (env xs 4)
def Pq (xs ys : List Int) : Prop := env ys 0 = ixR (isAt (env xs 6) (env xs 7)) (dc (env xs 4)) 0
def b102 : Ent := ⟨102, 102, [rwS, i64, i64], [], [0, 1], i64, z0, pre102⟩
def preLs (xs : List Int) : Prop := okR (env xs 6) /\ 0 <= env xs 8 /\ env xs 8 <= ((dc (env xs 6)).length : Int)
def Oe (xs ys : List Int) : Prop := foundP (isAt (env xs 0) (env xs 1)) (dc (env xs 6)) (env xs 8) ys
def muLs (xs : List Int) : Nat := (((dc (env xs 6)).length : Int) - env xs 8).toNat
def HD : LEnt := ⟨⟨9102, 999999, [i64, i64, o90, .lt kJ 0, i64], [], [0, 1, 2], .tup [.sc .b, i64], z0, preLs⟩, [1, 2, 3, 6, 7], [6], (List.range 27).map (· + 7), [.ex 0, .ret], 34, []⟩
def B6 : E := (.not (.cmp .lss (vI 8) (aI 0 0 [(vX 6)])))
def B7 : E := (.and (.cmp .geq (vI 8) (lI 0)) (.cmp .lss (vI 8) (aI 0 0 [(vX 6)])))
def CG : E := (.cmp .eql (aI 0 1 [(vX 6), (vI 8), (.lit .x 2)]) (vI 0))
def CH : E := (.and CG (.cmp .eql (aI 0 1 [(vX 6), (vI 8), (.lit .x 3)]) (vI 1)))
def CI : E := (.and (.cmp .lss (vI 8) (aI 0 0 [(vX 6)])) (.not CH))
def CJ : E := (.or B6 (.and CI (aB 9102 0 [(vI 0), (vI 1), (vI 2), (vI 3), (vI 4), (vI 5), (vX 6), (vX 7), (.bin .add .i64 (vI 8) (lI 1))])))
def CK : E := (aI 9102 1 [(vI 0), (vI 1), (vI 2), (vI 3), (vI 4), (vI 5), (vX 6), (vX 7), (.bin .add .i64 (vI 8) (lI 1))])
def Fg : E := (.and (.or B6 (.and B7 (.and B7 (.or (.not CG) B7)))) (.or (.not CI) (aB 9102 1000000 [(vI 0), (vI 1), (vI 2), (vI 3), (vI 4), (vI 5), (vX 6), (vX 7), (.bin .add .i64 (vI 8) (lI 1))])))
def GL : List E := [(.ite CJ (.lit .b 1) (.lit .b 0)), (.ite CJ (.ite B6 (lI 0) CK) (.ite (.and (.cmp .lss (vI 8) (aI 0 0 [(vX 6)])) CH) (vI 8) CK))]
def le102 : LEnt := HD.fw (fnL HD cI.nm.l Fg GL Oe muLs)
theorem X5 : evL Try.prog G0 (Ad cI.nm.fs) (evFn Try.prog G0 (Ad cI.nm.fs) (ltOf cI.nm.ls) 40 10) 40 (subL cI.nm.ls 102 p100) le102 (AC Try.prog 102 p100) = some (Fg, GL) := by kernel_rfl
def c102 : Ctx := ⟨[], [(102, p100, le102)]⟩
def LG : Ctx := c102.nm
def Pr : List E := [(vI 6), (vI 7), (vI 0), (vI 1), (vI 2), (vI 3), (vX 4), (vX 5), (lI 0)]
def R7 : List (Nat × E) := [(640058252800640, (aB 100009102 0 Pr)),
 (640058252800641, (aI 100009102 1 Pr))]
def Og : E := (.and (aB 100009102 1000000 [(vI 6), (vI 7), (vI 0), (vI 1), (vI 2), (vI 3), (vX 4), (vX 5), (lI 0)]) (dE R7 0 2))
def KR : List E := [(.ite (.not (.var .b 640058252800640)) (vI 640058252800641) (lI (-1)))]
def e102 : Ent := b102.fw (fnR LG.l.F b102.np Og KR Pq)
theorem YA : evE Try.prog G0 (Ad LG.fs) (ltOf LG.ls) 40 10 e102 = some (Og, KR) := by kernel_rfl
def pre101 (xs : List Int) : Prop := okR (env xs 4) /\ okR (env xs 5)
def Ps (xs ys : List Int) : Prop := (env ys 0 = env xs 0 /\ env ys 1 = env xs 1 /\ env ys 2 = env xs 2 /\ env ys 3 = env xs 3) /\ dc (env ys 4) = wiR (dc (env xs 4)) (env xs 6) /\ dc (env ys 5) = wiR (dc (env xs 5)) (env xs 6)
def b101 : Ent := ⟨101, 101, [rwS, i64], [], [0, 1], rwO, z0, pre101⟩
def c101 : Ctx := ⟨[e103], []⟩
def LH : Ctx := c101.nm
def Mw : List (Nat × E) := [(640000659202688, (aX 100000103 0 [(vX 4), (vI 6)])),
 (640000659204736, (aX 100000103 0 [(vX 5), (vI 6)]))]
def Oh : E := (.and (.and (aB 100000103 1000000 [(vX 4), (vI 6)]) (dE Mw 0 1)) (.and (aB 100000103 1000000 [(vX 5), (vI 6)]) (dE Mw 1 1)))
def Oi : List E := [(vI 0), (vI 1), (vI 2), (vI 3), (vX 640000659202688), (vX 640000659204736)]
def e101 : Ent := b101.fw (fnR LH.l.F b101.np Oh Oi Ps)
theorem YB : evE Try.prog G0 (Ad LH.fs) (ltOf LH.ls) 40 10 e101 = some (Oh, Oi) := by kernel_rfl
theorem X6 {k t : Int} (hk : 0 <= k) : blk k (t / 256) = blk (k + 1) t := by
 unfold blk
 rw [show (k + 1).toNat = k.toNat + 1 by omega, Int.pow_succ, Int.mul_comm, Int.ediv_ediv_of_nonneg (by decide)]
theorem Wo : Aq Try.prog G0 104 p104 le104 /\ PostOK le104.ent N4 := by
 refine cIok.nm.loopH Ai rfl ⟨_, _, _, Try.func104, rfl, rfl⟩ X2 (by kernel_rfl) _ rfl fun xs hf hp φ hφ => ?_
 obtain ⟨l, hl, hS, hF⟩ := Bj HB φ muLb (muLb xs) cI.nm.l (by decide)
 show ∃ ρ : Nat -> Int, _ /\ IB.tt (Tabs.F (enH HB φ muLb (muLb xs) :: cI.nm.l)) ρ = true /\ N4 xs (IC.map (E.den (Tabs.F (enH HB φ muLb (muLb xs) :: cI.nm.l)) ρ))
 rw [hl]
 replace hφ : ∀ ys, fits [kJ, kJ, kJ] ys -> HB.ent.pre ys -> muLb ys < muLb xs -> N4 ys (Am φ ys 0 HB.ent.oks) := hφ
 have F9104 := FC (k := 9104) rfl hS
 replace hf : fits [kJ, kJ, kJ] xs := hf
 obtain ⟨lv, xs0, hx0, hlv, hf0⟩ := Aa hf
 obtain ⟨t, xs1, hx1, ht, hf1⟩ := Aa hf0
 obtain ⟨i, xs2, hx2, hi, hf2⟩ := Aa hf1
 have hxn := Ah hf2
 subst hxn hx2 hx1 hx0
 simp only [Ab] at hlv ht hi
 obtain ⟨ρ, hρ⟩ : ∃ ρ : Nat -> Int, ∀ i_, i_ < 3 -> ρ i_ = env [lv, t, i] i_ := ⟨env [lv, t, i], fun _ _ => rfl⟩
 refine ⟨ρ, hρ, ?_⟩
 have r0 : ρ 0 = lv := hρ 0 (by decide)
 have r1 : ρ 1 = t := hρ 1 (by decide)
 have r2 : ρ 2 = i := hρ 2 (by decide)
 have hSS := Jj (Jj F9104 (Jj r0 hlv)) (Jj (Jj r1 ht) (Jj r2 hi))
 obtain ⟨p1, p2, p3, p4⟩ := hp
 simp only [ewA, ewL, ewE, List.headD, List.tail, seval] at p1 p2 p3 p4
 have ht' := i64r ht
 by_cases hi : i < lv
 ·have e : t.tdiv 256 = t / 256 := Int.tdiv_eq_ediv_of_nonneg p4
  have w1 : IntKind.i64.wrap (t / 256) = t / 256 := i64w (by omega) (by omega)
  have yp : HB.ent.pre [lv, t / 256, i + 1] := ⟨by show 0 <= i + 1; omega, by show i + 1 <= lv; omega, p3, by show 0 <= t / 256; omega⟩
  have ym : muLb [lv, t / 256, i + 1] < muLb [lv, t, i] := by show (lv - (i + 1)).toNat < (lv - i).toNat; omega
  have ih := hφ [lv, t / 256, i + 1] ⟨hlv, w1, i64w (by omega) (by omega), trivial⟩ yp ym
  refine ⟨?_, ?_⟩
  ·simp (disch := omega) only [IB, ewA, ewL, ewE, List.headD, List.tail, ewR, ewB, ewM, ewQ, reduceCtorEq, seval, hSS, hi, e]
   exact ⟨yp, ym⟩
  ·simp (disch := omega) only [IC, ewA, ewL, ewE, List.headD, List.tail, ewR, ewB, ewM, ewQ, reduceCtorEq, seval, hSS, hi, e]
   replace ih : IntKind.i64.wrap (φ 0 [lv, t / 256, i + 1]) = blk (lv - (i + 1)) (t / 256) := ih
   show IntKind.i64.wrap (φ 0 [lv, t / 256, i + 1]) = blk (lv - i) t
   rw [ih, X6 (by omega), show lv - (i + 1) + 1 = lv - i by omega]
 ·refine ⟨?_, ?_⟩
  ·simp (disch := omega) only [IB, ewA, ewL, ewE, List.headD, List.tail, ewR, ewB, ewM, ewQ, reduceCtorEq, seval, hSS, hi]
  ·simp (disch := omega) only [IC, ewA, ewL, ewE, List.headD, List.tail, ewR, ewB, ewM, ewQ, reduceCtorEq, seval, hSS, hi]
   show t = blk (lv - i) t
   rw [show lv - i = 0 by omega, blk0]
theorem YC : c104.OK Try.prog G0 := Ctx.OK.addL (c := ⟨[], []⟩) Ctx.OK.nil Wo.1 rfl
theorem LI : EntryOK Try.prog G0 e104 /\ PostOK e104 Pm := by
 refine YC.nm.entryH Ai Yx (by kernel_rfl) _ rfl fun xs hf hp => ?_
 obtain ⟨l, hl, hF⟩ := An (l0 := LD.l)
 show ∃ ρ : Nat -> Int, _ /\ N6.tt LD.l.F ρ = true /\ Pm xs (N7.map (E.den LD.l.F ρ))
 rw [hl]
 have F9104 := FC (k := 100009104) rfl (hF le104.nm.ent (by rfl) (by decide))
 replace hf : fits [kJ, kJ] xs := hf
 obtain ⟨lv, xs0, hx0, hlv, hf0⟩ := Aa hf
 obtain ⟨t, xs1, hx1, ht, hf1⟩ := Aa hf0
 have hxn := Ah hf1
 subst hxn hx1 hx0
 simp only [Ab] at hlv ht
 obtain ⟨ρ, hρ, hd⟩ := solve (F := l.F) 2 R4 (by kernel_rfl) [lv, t]
 have hDf := AL (by kernel_rfl) hd
 refine ⟨ρ, hρ, ?_⟩
 have r0 : ρ 0 = lv := hρ 0 (by decide)
 have r1 : ρ 1 = t := hρ 1 (by decide)
 obtain ⟨v1, hv1, hd1, hn1⟩ := nmd hd 0 rfl
 simp only [Ab] at hn1
 simp (disch := omega) only [Ab, F9104, Ent.nm_fn, r0, hlv, r1, ht, hv1, hn1, ewA, ewL, ewE, List.headD, List.tail, ewR, ewB, ewM, ewQ, reduceCtorEq, seval] at hd1
 have hSS := Jj (Jj (Jj F9104 r0) (Jj hlv r1)) (Jj (Jj ht hv1) (Jj hn1 hDf))
 obtain ⟨p1, p2, p3⟩ := hp
 simp only [ewA, ewL, ewE, List.headD, List.tail, seval] at p1 p2 p3
 have yp : le104.ent.pre [lv, t, 0] := ⟨by show (0 : Int) <= 0; decide, p1, p2, p3⟩
 have q := (PostOK.use (ks := [kJ, kJ, kJ]) (os := [kJ]) (vs := [v1]) Wo.2 rfl rfl ⟨hd1, trivial⟩) ⟨(by first | rfl | assumption | exact i64w (by omega) (by omega) | exact u8w (by omega) (by omega)), (by first | rfl | assumption | exact i64w (by omega) (by omega) | exact u8w (by omega) (by omega)), rfl, trivial⟩ yp
 refine ⟨?_, ?_⟩
 ·simp (disch := omega) only [N6, ewA, ewL, ewE, List.headD, List.tail, ewR, ewB, ewM, ewQ, reduceCtorEq, seval, hSS]
  exact yp
 ·simp (disch := omega) only [N7, ewA, ewL, ewE, List.headD, List.tail, ewR, ewB, ewM, ewQ, reduceCtorEq, seval, hSS]
  replace q : v1 = blk (lv - 0) t := q
  rw [Int.sub_zero] at q
  exact q
theorem HE {L : Int} {i : Int} (h : okR L) (h0 : 0 <= i) (h1 : i < ((dc L).length : Int)) :
 ∃ a b c d, (dc L).getD i.toNat [] = [a, b, c, d] /\ (dc L).drop i.toNat = [a, b, c, d] :: (dc L).drop (i + 1).toNat /\ IntKind.i64.wrap a = a /\ IntKind.i64.wrap b = b /\ IntKind.i64.wrap c = c /\ IntKind.i64.wrap d = d := by
 obtain ⟨r, er, hr, _, hd⟩ := RG h.1 h0 h1
 obtain ⟨a, r1, rfl, ha, hr⟩ := Aa hr
 obtain ⟨b, r2, rfl, hb, hr⟩ := Aa hr
 obtain ⟨c, r3, rfl, hc, hr⟩ := Aa hr
 obtain ⟨d, r4, rfl, hd', hr⟩ := Aa hr
 obtain rfl := Ah hr
 exact ⟨a, b, c, d, er, hd, ha, hb, hc, hd'⟩
theorem W1 (r : List Int) (l : RL) (id : Int) : wiR (r :: l) id = if r.headD 0 = id then wiR l id else r :: wiR l id := by
 unfold wiR
 by_cases h : r.headD 0 = id
 ·rw [if_pos h, List.filter_cons_of_neg (by simpa using h)]
 ·rw [if_neg h, List.filter_cons_of_pos (by simpa using h)]
theorem X7 (l : RL) (id : Int) : (wiR l id).length <= l.length := List.length_filter_le _ _
theorem Wp : Aq Try.prog G0 103 p103 le103 /\ PostOK le103.ent N8 := by
 refine cIok.nm.loopH Ai rfl ⟨_, _, _, Try.func103, rfl, rfl⟩ X3 (by kernel_rfl) _ rfl fun xs hf hp φ hφ => ?_
 obtain ⟨l, hl, hS, hF⟩ := Bj Gr φ muLw (muLw xs) cI.nm.l (by decide)
 show ∃ ρ : Nat -> Int, _ /\ GH.tt (Tabs.F (enH Gr φ muLw (muLw xs) :: cI.nm.l)) ρ = true /\ N8 xs (GI.map (E.den (Tabs.F (enH Gr φ muLw (muLw xs) :: cI.nm.l)) ρ))
 rw [hl]
 replace hφ : ∀ ys, fits [.x, kJ, .x, kJ] ys -> Gr.ent.pre ys -> muLw ys < muLw xs -> N8 ys (Am φ ys 0 Gr.ent.oks) := hφ
 have F9103 := FC (k := 9103) rfl hS
 replace hf : fits [.x, kJ, .x, kJ] xs := hf
 obtain ⟨L, xs0, hx0, hL, hf0⟩ := Aa hf
 obtain ⟨id, xs1, hx1, hid, hf1⟩ := Aa hf0
 obtain ⟨o, xs2, hx2, ho, hf2⟩ := Aa hf1
 obtain ⟨i, xs3, hx3, hi, hf3⟩ := Aa hf2
 have hxn := Ah hf3
 subst hxn hx3 hx2 hx1 hx0
 simp only [Ab] at hid hi
 obtain ⟨ρ, hρ⟩ : ∃ ρ : Nat -> Int, ∀ i_, i_ < 4 -> ρ i_ = env [L, id, o, i] i_ := ⟨env [L, id, o, i], fun _ _ => rfl⟩
 refine ⟨ρ, hρ, ?_⟩
 have r0 : ρ 0 = L := hρ 0 (by decide)
 have r1 : ρ 1 = id := hρ 1 (by decide)
 have r2 : ρ 2 = o := hρ 2 (by decide)
 have r3 : ρ 3 = i := hρ 3 (by decide)
 have hSS := Jj (Jj F9103 (Jj r0 r1)) (Jj (Jj hid r2) (Jj r3 hi))
 obtain ⟨p1, p2, p3, p4⟩ := hp
 replace p1 : okR L := p1
 simp only [ewA, ewL, ewE, List.headD, List.tail, seval] at p2 p3 p4
 have hcap := p1.2
 unfold capR at hcap
 by_cases hi : i < ((dc L).length : Int)
 ·obtain ⟨a, b, c, d, er, hdr, ha, hb, hc, hd⟩ := HE p1 p2 hi
  have hw := W1 [a, b, c, d] ((dc L).drop (i + 1).toNat) id
  rw [<- hdr] at hw
  have ym : ∀ o', muLw [L, id, o', i + 1] < muLw [L, id, o, i] := fun o' => by show (((dc L).length : Int) - (i + 1)).toNat < (((dc L).length : Int) - i).toNat; omega
  by_cases hn : a = id
  ·have yp : Gr.ent.pre [L, id, o, i + 1] := ⟨p1, by show 0 <= i + 1; omega, by show i + 1 <= ((dc L).length : Int); omega, by show ((dc o).length : Int) <= i + 1; omega⟩
   have ih := hφ [L, id, o, i + 1] ⟨rfl, hid, rfl, i64w (by omega) (by omega), trivial⟩ yp (ym _)
   refine ⟨?_, ?_⟩
   ·simp (disch := omega) only [GH, Bo, CE, B5, Dj, Dk, Dl, ewA, ewL, ewE, List.headD, List.tail, ewR, ewB, ewM, ewQ, reduceCtorEq, seval, hSS, hi, er, ha, hb, hc, hd, hn]
    exact ⟨p2, yp, ym _⟩
   ·simp (disch := omega) only [GI, Bo, CE, B5, Dj, Dk, Dl, ewA, ewL, ewE, List.headD, List.tail, ewR, ewB, ewM, ewQ, reduceCtorEq, seval, hSS, hi, er, ha, hb, hc, hd, hn]
    replace ih : dc (φ 0 [L, id, o, i + 1]) = dc o ++ wiR ((dc L).drop (i + 1).toNat) id := ih
    show dc (φ 0 [L, id, o, i + 1]) = dc o ++ wiR ((dc L).drop i.toNat) id
    rw [ih, hw]; exact congrArg _ (if_pos hn).symm
  ·have hl : ((dc o ++ [[a, b, c, d]]).length : Int) = ((dc o).length : Int) + 1 := by simp
   have yp : Gr.ent.pre [L, id, cd (dc o ++ [[a, b, c, d]]), i + 1] := ⟨p1, by show 0 <= i + 1; omega, by show i + 1 <= ((dc L).length : Int); omega, by show ((dc (cd (dc o ++ [[a, b, c, d]]))).length : Int) <= i + 1; rw [Af]; omega⟩
   have ih := hφ [L, id, cd (dc o ++ [[a, b, c, d]]), i + 1] ⟨rfl, hid, rfl, i64w (by omega) (by omega), trivial⟩ yp (ym _)
   refine ⟨?_, ?_⟩
   ·simp (disch := omega) only [GH, Bo, CE, B5, Dj, Dk, Dl, ewA, ewL, ewE, List.headD, List.tail, ewR, ewB, ewM, ewQ, reduceCtorEq, seval, hSS, hi, er, ha, hb, hc, hd, hn]
    exact ⟨⟨p2, p2, p2, by omega⟩, yp, ym _⟩
   ·simp (disch := omega) only [GI, Bo, CE, B5, Dj, Dk, Dl, ewA, ewL, ewE, List.headD, List.tail, ewR, ewB, ewM, ewQ, reduceCtorEq, seval, hSS, hi, er, ha, hb, hc, hd, hn]
    replace ih : dc (φ 0 [L, id, cd (dc o ++ [[a, b, c, d]]), i + 1]) = dc (cd (dc o ++ [[a, b, c, d]])) ++ wiR ((dc L).drop (i + 1).toNat) id := ih
    show dc (φ 0 [L, id, cd (dc o ++ [[a, b, c, d]]), i + 1]) = dc o ++ wiR ((dc L).drop i.toNat) id
    rw [ih, hw, Af, List.append_assoc]; exact congrArg _ (if_neg hn).symm
 ·refine ⟨?_, ?_⟩
  ·simp (disch := omega) only [GH, Bo, CE, B5, Dj, Dk, Dl, ewA, ewL, ewE, List.headD, List.tail, ewR, ewB, ewM, ewQ, reduceCtorEq, seval, hSS, hi]
  ·simp (disch := omega) only [GI, Bo, CE, B5, Dj, Dk, Dl, ewA, ewL, ewE, List.headD, List.tail, ewR, ewB, ewM, ewQ, reduceCtorEq, seval, hSS, hi]
   show dc o = dc o ++ wiR ((dc L).drop i.toNat) id
   rw [List.drop_of_length_le (by omega)]; exact (List.append_nil _).symm
theorem YD : c103.OK Try.prog G0 := Ctx.OK.addL (c := ⟨[], []⟩) Ctx.OK.nil Wp.1 rfl
theorem JB : EntryOK Try.prog G0 e103 /\ PostOK e103 Pn := by
 refine YD.nm.entryH Ai Yy (by kernel_rfl) _ rfl fun xs hf hp => ?_
 obtain ⟨l, hl, hF⟩ := An (l0 := LE.l)
 show ∃ ρ : Nat -> Int, _ /\ N9.tt LE.l.F ρ = true /\ Pn xs (Oa.map (E.den LE.l.F ρ))
 rw [hl]
 have F9103 := FC (k := 100009103) rfl (hF le103.nm.ent (by rfl) (by decide))
 replace hf : fits [.x, kJ] xs := hf
 obtain ⟨L, xs0, hx0, hL, hf0⟩ := Aa hf
 obtain ⟨id, xs1, hx1, hid, hf1⟩ := Aa hf0
 have hxn := Ah hf1
 subst hxn hx1 hx0
 simp only [Ab] at hid
 obtain ⟨ρ, hρ, hd⟩ := solve (F := l.F) 2 R5 (by kernel_rfl) [L, id]
 have hDf := AL (by kernel_rfl) hd
 refine ⟨ρ, hρ, ?_⟩
 have r0 : ρ 0 = L := hρ 0 (by decide)
 have r1 : ρ 1 = id := hρ 1 (by decide)
 obtain ⟨v1, hv1, hd1, hn1⟩ := nmd hd 0 rfl
 simp (disch := omega) only [Ab, F9103, Ent.nm_fn, r0, r1, hid, hv1, ewA, ewL, ewE, List.headD, List.tail, ewR, ewB, ewM, ewQ, reduceCtorEq, seval] at hd1
 have hSS := Jj (Jj F9103 (Jj r0 r1)) (Jj hid (Jj hv1 hDf))
 replace hp : okR L := hp
 have d0 : dc (cd ([] : RL)) = [] := Af _
 have yp : le103.ent.pre [L, id, cd [], 0] := ⟨hp, by show (0 : Int) <= 0; decide, by show (0 : Int) <= ((dc L).length : Int); omega, by show ((dc (cd [])).length : Int) <= 0; rw [d0]; decide⟩
 have q := (PostOK.use (ks := [.x, kJ, .x, kJ]) (os := [.x]) (vs := [v1]) Wp.2 rfl rfl ⟨hd1, trivial⟩) ⟨rfl, (by first | rfl | assumption | exact i64w (by omega) (by omega) | exact u8w (by omega) (by omega)), rfl, rfl, trivial⟩ yp
 refine ⟨?_, ?_⟩
 ·simp (disch := omega) only [N9, ewA, ewL, ewE, List.headD, List.tail, ewR, ewB, ewM, ewQ, reduceCtorEq, seval, hSS]
  exact yp
 ·simp (disch := omega) only [Oa, ewA, ewL, ewE, List.headD, List.tail, ewR, ewB, ewM, ewQ, reduceCtorEq, seval, hSS]
  replace q : dc v1 = dc (cd []) ++ wiR ((dc L).drop 0) id := q
  rw [d0, List.nil_append, List.drop_zero] at q
  exact q
theorem R8 {p : List Int -> Bool} {r : List Int} {l : RL} {n : Int} (h : p r = true) : ixR p (r :: l) n = n := if_pos h
theorem W2 {p : List Int -> Bool} {r : List Int} {l : RL} {n : Int} (h : p r = false) : ixR p (r :: l) n = ixR p l (n + 1) := if_neg (by rw [h]; decide)
theorem foundP.next {p : List Int -> Bool} {l : RL} {i w0 w1 : Int} {r : List Int} (hd : l.drop i.toNat = r :: l.drop (i + 1).toNat) (hr : p r = false) (h : foundP p l (i + 1) [w0, w1]) : foundP p l i [w0, w1] := by
 unfold foundP at h ⊢
 rw [hd, W2 hr]
 exact h
theorem Wq : Aq Try.prog G0 100 p100 le100 /\ PostOK le100.ent Oc := by
 refine cIok.nm.loopH Ai rfl ⟨_, _, _, Try.func100, rfl, rfl⟩ X4 (by kernel_rfl) _ rfl fun xs hf hp φ hφ => ?_
 obtain ⟨l, hl, hS, hF⟩ := Bj HC φ muLf (muLf xs) cI.nm.l (by decide)
 show ∃ ρ : Nat -> Int, _ /\ GJ.tt (Tabs.F (enH HC φ muLf (muLf xs) :: cI.nm.l)) ρ = true /\ Oc xs (GK.map (E.den (Tabs.F (enH HC φ muLf (muLf xs) :: cI.nm.l)) ρ))
 rw [hl]
 replace hφ : ∀ ys, fits [.x, kJ, kJ] ys -> HC.ent.pre ys -> muLf ys < muLf xs -> Oc ys (Am φ ys 0 HC.ent.oks) := hφ
 have F9100 := FC (k := 9100) rfl hS
 replace hf : fits [.x, kJ, kJ] xs := hf
 obtain ⟨L, xs0, hx0, hL, hf0⟩ := Aa hf
 obtain ⟨id, xs1, hx1, hid, hf1⟩ := Aa hf0
 obtain ⟨i, xs2, hx2, hi, hf2⟩ := Aa hf1
 have hxn := Ah hf2
 subst hxn hx2 hx1 hx0
 simp only [Ab] at hid hi
 obtain ⟨ρ, hρ⟩ : ∃ ρ : Nat -> Int, ∀ i_, i_ < 3 -> ρ i_ = env [L, id, i] i_ := ⟨env [L, id, i], fun _ _ => rfl⟩
 refine ⟨ρ, hρ, ?_⟩
 have r0 : ρ 0 = L := hρ 0 (by decide)
 have r1 : ρ 1 = id := hρ 1 (by decide)
 have r2 : ρ 2 = i := hρ 2 (by decide)
 have hSS := Jj (Jj F9100 (Jj r0 r1)) (Jj hid (Jj r2 hi))
 obtain ⟨p1, p2, p3⟩ := hp
 replace p1 : okR L := p1
 simp only [ewA, ewL, ewE, List.headD, List.tail, seval] at p2 p3
 have hcap := p1.2
 unfold capR at hcap
 by_cases hi : i < ((dc L).length : Int)
 ·obtain ⟨a, b, c, d, er, hdr, ha, hb, hc, hd⟩ := HE p1 p2 hi
  by_cases hn : a = id
  ·refine ⟨?_, ?_⟩
   ·simp (disch := omega) only [GJ, CF, Dm, Dn, Dp, Dq, ewA, ewL, ewE, List.headD, List.tail, ewR, ewB, ewM, ewQ, reduceCtorEq, seval, hSS, hi, er, ha, hb, hc, hd, hn]
    repeat' (first | (with_reducible apply Jj) | (with_reducible intro _))
    all_goals first | with_reducible assumption | trivial | omega | (split <;> omega)
   ·simp (disch := omega) only [GK, CF, Dm, Dn, Dp, Dq, ewA, ewL, ewE, List.headD, List.tail, ewR, ewB, ewM, ewQ, reduceCtorEq, seval, hSS, hi, er, ha, hb, hc, hd, hn]
    refine Or.inr ⟨rfl, ?_⟩
    show i = ixR (isId id) ((dc L).drop i.toNat) i
    rw [hdr, R8 (show isId id [a, b, c, d] = true from decide_eq_true hn)]
  ·have yp : HC.ent.pre [L, id, i + 1] := ⟨p1, by show 0 <= i + 1; omega, by show i + 1 <= ((dc L).length : Int); omega⟩
   have ym : muLf [L, id, i + 1] < muLf [L, id, i] := by show (((dc L).length : Int) - (i + 1)).toNat < (((dc L).length : Int) - i).toNat; omega
   have ih := hφ [L, id, i + 1] ⟨rfl, hid, i64w (by omega) (by omega), trivial⟩ yp ym
   refine ⟨?_, ?_⟩
   ·simp (disch := omega) only [GJ, CF, Dm, Dn, Dp, Dq, ewA, ewL, ewE, List.headD, List.tail, ewR, ewB, ewM, ewQ, reduceCtorEq, seval, hSS, hi, er, ha, hb, hc, hd, hn]
    repeat' (first | (with_reducible apply Jj) | (with_reducible intro _))
    all_goals first | with_reducible assumption | trivial | omega | (split <;> omega)
   ·obtain ⟨w0, hw0⟩ : ∃ w, K.b.norm (φ 0 [L, id, i + 1]) = w := ⟨_, rfl⟩
    obtain ⟨w1, hw1⟩ : ∃ w, IntKind.i64.wrap (φ 1 [L, id, i + 1]) = w := ⟨_, rfl⟩
    simp (disch := omega) only [GK, CF, Dm, Dn, Dp, Dq, ewA, ewL, ewE, List.headD, List.tail, ewR, ewB, ewM, ewQ, reduceCtorEq, seval, hSS, hi, er, ha, hb, hc, hd, hn, hw0, hw1]
    replace ih : foundP (isId id) (dc L) (i + 1) [w0, w1] := by rw [<- hw0, <- hw1]; exact ih
    replace ih := ih.next hdr (show isId id [a, b, c, d] = false from decide_eq_false hn)
    rcases ih with ⟨h1, h2⟩ | ⟨h1, h2⟩
    ·replace h1 : w0 = 1 := h1
     subst h1
     exact Or.inl ⟨rfl, h2⟩
    ·replace h1 : w0 = 0 := h1
     subst h1
     exact Or.inr ⟨rfl, h2⟩
 ·refine ⟨?_, ?_⟩
  ·simp (disch := omega) only [GJ, CF, Dm, Dn, Dp, Dq, ewA, ewL, ewE, List.headD, List.tail, ewR, ewB, ewM, ewQ, reduceCtorEq, seval, hSS, hi]
  ·simp (disch := omega) only [GK, CF, Dm, Dn, Dp, Dq, ewA, ewL, ewE, List.headD, List.tail, ewR, ewB, ewM, ewQ, reduceCtorEq, seval, hSS, hi]
   refine Or.inl ⟨rfl, ?_⟩
   show ixR (isId id) ((dc L).drop i.toNat) i = -1
   rw [List.drop_of_length_le (by omega)]; rfl
theorem YE : c100.OK Try.prog G0 := Ctx.OK.addL (c := ⟨[], []⟩) Ctx.OK.nil Wq.1 rfl
theorem UM : EntryOK Try.prog G0 e100 /\ PostOK e100 Po := by
 refine YE.nm.entryH Ai Yz (by kernel_rfl) _ rfl fun xs hf hp => ?_
 obtain ⟨l, hl, hF⟩ := An (l0 := LF.l)
 show ∃ ρ : Nat -> Int, _ /\ Od.tt LF.l.F ρ = true /\ Po xs (KQ.map (E.den LF.l.F ρ))
 rw [hl]
 have F9100 := FC (k := 100009100) rfl (hF le100.nm.ent (by rfl) (by decide))
 replace hf : fits [.x, kJ] xs := hf
 obtain ⟨L, xs0, hx0, hL, hf0⟩ := Aa hf
 obtain ⟨id, xs1, hx1, hid, hf1⟩ := Aa hf0
 have hxn := Ah hf1
 subst hxn hx1 hx0
 simp only [Ab] at hid
 obtain ⟨ρ, hρ, hd⟩ := solve (F := l.F) 2 R6 (by kernel_rfl) [L, id]
 have hDf := AL (by kernel_rfl) hd
 refine ⟨ρ, hρ, ?_⟩
 have r0 : ρ 0 = L := hρ 0 (by decide)
 have r1 : ρ 1 = id := hρ 1 (by decide)
 obtain ⟨⟨v1, hv1, hd1, hn1⟩, ⟨v2, hv2, hd2, hn2⟩⟩ := Jj (nmd hd 0 rfl) (nmd hd 1 rfl)
 simp only [Ab] at hn2
 simp (disch := omega) only [Ab, Pp, F9100, Ent.nm_fn, r0, r1, hid, hv1, hn1, hv2, hn2, ewA, ewL, ewE, List.headD, List.tail, ewR, ewB, ewM, ewQ, reduceCtorEq, seval] at hd1 hd2
 have hSS := Jj (Jj (Jj F9100 r0) (Jj r1 hid)) (Jj (Jj hv1 hn1) (Jj hv2 (Jj hn2 hDf)))
 replace hp : okR L := hp
 have yp : le100.ent.pre [L, id, 0] := ⟨hp, by show (0 : Int) <= 0; decide, by show (0 : Int) <= ((dc L).length : Int); omega⟩
 have q := (PostOK.use (ks := [.x, kJ, kJ]) (os := [.b, kJ]) (vs := [v1, v2]) Wq.2 rfl rfl ⟨hd1, hd2, trivial⟩) ⟨rfl, (by first | rfl | assumption | exact i64w (by omega) (by omega) | exact u8w (by omega) (by omega)), rfl, trivial⟩ yp
 refine ⟨?_, ?_⟩
 ·simp (disch := omega) only [Od, ewA, ewL, ewE, List.headD, List.tail, ewR, ewB, ewM, ewQ, reduceCtorEq, seval, hSS]
  exact yp
 ·rcases q with ⟨q1, q2⟩ | ⟨q1, q2⟩
  ·replace q1 : v1 = 1 := q1
   simp (disch := omega) only [KQ, ewA, ewL, ewE, List.headD, List.tail, ewR, ewB, ewM, ewQ, reduceCtorEq, seval, hSS, q1]
   exact q2.symm
  ·replace q1 : v1 = 0 := q1
   simp (disch := omega) only [KQ, ewA, ewL, ewE, List.headD, List.tail, ewR, ewB, ewM, ewQ, reduceCtorEq, seval, hSS, q1]
   exact q2
theorem Wr : Aq Try.prog G0 102 p100 le102 /\ PostOK le102.ent Oe := by
 refine cIok.nm.loopH Ai rfl ⟨_, _, _, Try.func102, rfl, rfl⟩ X5 (by kernel_rfl) _ rfl fun xs hf hp φ hφ => ?_
 obtain ⟨l, hl, hS, hF⟩ := Bj HD φ muLs (muLs xs) cI.nm.l (by decide)
 show ∃ ρ : Nat -> Int, _ /\ Fg.tt (Tabs.F (enH HD φ muLs (muLs xs) :: cI.nm.l)) ρ = true /\ Oe xs (GL.map (E.den (Tabs.F (enH HD φ muLs (muLs xs) :: cI.nm.l)) ρ))
 rw [hl]
 replace hφ : ∀ ys, fits [kJ, kJ, kJ, kJ, kJ, kJ, .x, .x, kJ] ys -> HD.ent.pre ys -> muLs ys < muLs xs -> Oe ys (Am φ ys 0 HD.ent.oks) := hφ
 have F9102 := FC (k := 9102) rfl hS
 replace hf : fits [kJ, kJ, kJ, kJ, kJ, kJ, .x, .x, kJ] xs := hf
 obtain ⟨lv, xs0, hx0, hlv, hf0⟩ := Aa hf
 obtain ⟨ix, xs1, hx1, hix, hf1⟩ := Aa hf0
 obtain ⟨nw, xs2, hx2, hnw, hf2⟩ := Aa hf1
 obtain ⟨c0, xs3, hx3, hc0, hf3⟩ := Aa hf2
 obtain ⟨bu, xs4, hx4, hbu, hf4⟩ := Aa hf3
 obtain ⟨mo, xs5, hx5, hmo, hf5⟩ := Aa hf4
 obtain ⟨L, xs6, hx6, hL, hf6⟩ := Aa hf5
 obtain ⟨R, xs7, hx7, hR, hf7⟩ := Aa hf6
 obtain ⟨i, xs8, hx8, hi, hf8⟩ := Aa hf7
 have hxn := Ah hf8
 subst hxn hx8 hx7 hx6 hx5 hx4 hx3 hx2 hx1 hx0
 simp only [Ab] at hlv hix hnw hc0 hbu hmo hi
 obtain ⟨ρ, hρ⟩ : ∃ ρ : Nat -> Int, ∀ i_, i_ < 9 -> ρ i_ = env [lv, ix, nw, c0, bu, mo, L, R, i] i_ := ⟨env [lv, ix, nw, c0, bu, mo, L, R, i], fun _ _ => rfl⟩
 refine ⟨ρ, hρ, ?_⟩
 have r0 : ρ 0 = lv := hρ 0 (by decide)
 have r1 : ρ 1 = ix := hρ 1 (by decide)
 have r2 : ρ 2 = nw := hρ 2 (by decide)
 have r3 : ρ 3 = c0 := hρ 3 (by decide)
 have r4 : ρ 4 = bu := hρ 4 (by decide)
 have r5 : ρ 5 = mo := hρ 5 (by decide)
 have r6 : ρ 6 = L := hρ 6 (by decide)
 have r7 : ρ 7 = R := hρ 7 (by decide)
 have r8 : ρ 8 = i := hρ 8 (by decide)
 have hSS := Jj (Jj (Jj (Jj F9102 r0) (Jj hlv r1)) (Jj (Jj hix r2) (Jj hnw r3))) (Jj (Jj (Jj hc0 r4) (Jj hbu r5)) (Jj (Jj hmo r6) (Jj r7 (Jj r8 hi))))
 obtain ⟨p1, p2, p3⟩ := hp
 replace p1 : okR L := p1
 simp only [ewA, ewL, ewE, List.headD, List.tail, seval] at p2 p3
 have hcap := p1.2
 unfold capR at hcap
 by_cases hi : i < ((dc L).length : Int)
 ·obtain ⟨a, b, c, d, er, hdr, ha, hb, hc, hd⟩ := HE p1 p2 hi
  by_cases hn : c = lv /\ d = ix
  ·obtain ⟨n1, n2⟩ := hn
   refine ⟨?_, ?_⟩
   ·simp (disch := omega) only [Fg, B6, B7, CG, CH, CI, CJ, CK, ewA, ewL, ewE, List.headD, List.tail, ewR, ewB, ewM, ewQ, reduceCtorEq, seval, hSS, hi, er, ha, hb, hc, hd, n1, n2]
    repeat' (first | (with_reducible apply Jj) | (with_reducible intro _))
    all_goals first | with_reducible assumption | trivial | omega | (split <;> omega)
   ·simp (disch := omega) only [GL, B6, B7, CG, CH, CI, CJ, CK, ewA, ewL, ewE, List.headD, List.tail, ewR, ewB, ewM, ewQ, reduceCtorEq, seval, hSS, hi, er, ha, hb, hc, hd, n1, n2]
    refine Or.inr ⟨rfl, ?_⟩
    show i = ixR (isAt lv ix) ((dc L).drop i.toNat) i
    rw [hdr, R8 (show isAt lv ix [a, b, c, d] = true by show (decide (c = lv) && decide (d = ix)) = true; rw [n1, n2]; simp)]
  ·have yp : HD.ent.pre [lv, ix, nw, c0, bu, mo, L, R, i + 1] := ⟨p1, by show 0 <= i + 1; omega, by show i + 1 <= ((dc L).length : Int); omega⟩
   have ym : muLs [lv, ix, nw, c0, bu, mo, L, R, i + 1] < muLs [lv, ix, nw, c0, bu, mo, L, R, i] := by show (((dc L).length : Int) - (i + 1)).toNat < (((dc L).length : Int) - i).toNat; omega
   have ih := hφ [lv, ix, nw, c0, bu, mo, L, R, i + 1] ⟨hlv, hix, hnw, hc0, hbu, hmo, rfl, rfl, i64w (by omega) (by omega), trivial⟩ yp ym
   refine ⟨?_, ?_⟩
   ·by_cases n1 : c = lv
    ·have n2 : ¬ d = ix := fun h => hn ⟨n1, h⟩
     simp (disch := omega) only [Fg, B6, B7, CG, CH, CI, CJ, CK, ewA, ewL, ewE, List.headD, List.tail, ewR, ewB, ewM, ewQ, reduceCtorEq, seval, hSS, hi, er, ha, hb, hc, hd, n1, n2]
     repeat' (first | (with_reducible apply Jj) | (with_reducible intro _))
     all_goals first | with_reducible assumption | trivial | omega | (split <;> omega)
    ·simp (disch := omega) only [Fg, B6, B7, CG, CH, CI, CJ, CK, ewA, ewL, ewE, List.headD, List.tail, ewR, ewB, ewM, ewQ, reduceCtorEq, seval, hSS, hi, er, ha, hb, hc, hd, n1]
     repeat' (first | (with_reducible apply Jj) | (with_reducible intro _))
     all_goals first | with_reducible assumption | trivial | omega | (split <;> omega)
   ·obtain ⟨w0, hw0⟩ : ∃ w, K.b.norm (φ 0 [lv, ix, nw, c0, bu, mo, L, R, i + 1]) = w := ⟨_, rfl⟩
    obtain ⟨w1, hw1⟩ : ∃ w, IntKind.i64.wrap (φ 1 [lv, ix, nw, c0, bu, mo, L, R, i + 1]) = w := ⟨_, rfl⟩
    simp (disch := omega) only [GL, B6, B7, CG, CH, CI, CJ, CK, ewA, ewL, ewE, List.headD, List.tail, ewR, ewB, ewM, ewQ, reduceCtorEq, seval, hSS, hi, er, ha, hb, hc, hd, hn, hw0, hw1]
    replace ih : foundP (isAt lv ix) (dc L) (i + 1) [w0, w1] := by rw [<- hw0, <- hw1]; exact ih
    replace ih := ih.next hdr (show isAt lv ix [a, b, c, d] = false by show (decide (c = lv) && decide (d = ix)) = false; rw [<- Bool.decide_and]; exact decide_eq_false hn)
    simp only [eq_true (show c = lv -> ¬d = ix from fun a b => hn ⟨a, b⟩), true_and]
    rcases ih with ⟨h1, h2⟩ | ⟨h1, h2⟩
    ·replace h1 : w0 = 1 := h1
     subst h1
     exact Or.inl ⟨rfl, h2⟩
    ·replace h1 : w0 = 0 := h1
     subst h1
     exact Or.inr ⟨rfl, h2⟩
 ·refine ⟨?_, ?_⟩
  ·simp (disch := omega) only [Fg, B6, B7, CG, CH, CI, CJ, CK, ewA, ewL, ewE, List.headD, List.tail, ewR, ewB, ewM, ewQ, reduceCtorEq, seval, hSS, hi]
  ·simp (disch := omega) only [GL, B6, B7, CG, CH, CI, CJ, CK, ewA, ewL, ewE, List.headD, List.tail, ewR, ewB, ewM, ewQ, reduceCtorEq, seval, hSS, hi]
   refine Or.inl ⟨rfl, ?_⟩
   show ixR (isAt lv ix) ((dc L).drop i.toNat) i = -1
   rw [List.drop_of_length_le (by omega)]; rfl
theorem YF : c102.OK Try.prog G0 := Ctx.OK.addL (c := ⟨[], []⟩) Ctx.OK.nil Wr.1 rfl
theorem LJ : EntryOK Try.prog G0 e102 /\ PostOK e102 Pq := by
 refine YF.nm.entryH Ai YA (by kernel_rfl) _ rfl fun xs hf hp => ?_
 obtain ⟨l, hl, hF⟩ := An (l0 := LG.l)
 show ∃ ρ : Nat -> Int, _ /\ Og.tt LG.l.F ρ = true /\ Pq xs (KR.map (E.den LG.l.F ρ))
 rw [hl]
 have F9102 := FC (k := 100009102) rfl (hF le102.nm.ent (by rfl) (by decide))
 replace hf : fits [kJ, kJ, kJ, kJ, .x, .x, kJ, kJ] xs := hf
 obtain ⟨nw, xs0, hx0, hnw, hf0⟩ := Aa hf
 obtain ⟨c0, xs1, hx1, hc0, hf1⟩ := Aa hf0
 obtain ⟨bu, xs2, hx2, hbu, hf2⟩ := Aa hf1
 obtain ⟨mo, xs3, hx3, hmo, hf3⟩ := Aa hf2
 obtain ⟨L, xs4, hx4, hL, hf4⟩ := Aa hf3
 obtain ⟨R, xs5, hx5, hR, hf5⟩ := Aa hf4
 obtain ⟨lv, xs6, hx6, hlv, hf6⟩ := Aa hf5
 obtain ⟨ix, xs7, hx7, hix, hf7⟩ := Aa hf6
 have hxn := Ah hf7
 subst hxn hx7 hx6 hx5 hx4 hx3 hx2 hx1 hx0
 simp only [Ab] at hnw hc0 hbu hmo hlv hix
 obtain ⟨ρ, hρ, hd⟩ := solve (F := l.F) 8 R7 (by kernel_rfl) [nw, c0, bu, mo, L, R, lv, ix]
 have hDf := AL (by kernel_rfl) hd
 refine ⟨ρ, hρ, ?_⟩
 have r0 : ρ 0 = nw := hρ 0 (by decide)
 have r1 : ρ 1 = c0 := hρ 1 (by decide)
 have r2 : ρ 2 = bu := hρ 2 (by decide)
 have r3 : ρ 3 = mo := hρ 3 (by decide)
 have r4 : ρ 4 = L := hρ 4 (by decide)
 have r5 : ρ 5 = R := hρ 5 (by decide)
 have r6 : ρ 6 = lv := hρ 6 (by decide)
 have r7 : ρ 7 = ix := hρ 7 (by decide)
 obtain ⟨⟨v1, hv1, hd1, hn1⟩, ⟨v2, hv2, hd2, hn2⟩⟩ := Jj (nmd hd 0 rfl) (nmd hd 1 rfl)
 simp only [Ab] at hn2
 simp (disch := omega) only [Ab, Pr, F9102, Ent.nm_fn, r0, hnw, r1, hc0, r2, hbu, r3, hmo, r4, r5, r6, hlv, r7, hix, hv1, hn1, hv2, hn2, ewA, ewL, ewE, List.headD, List.tail, ewR, ewB, ewM, ewQ, reduceCtorEq, seval] at hd1 hd2
 have hSS := Jj (Jj (Jj (Jj F9102 r0) (Jj hnw (Jj r1 hc0))) (Jj (Jj r2 hbu) (Jj r3 (Jj hmo r4)))) (Jj (Jj (Jj r5 r6) (Jj hlv (Jj r7 hix))) (Jj (Jj hv1 hn1) (Jj hv2 (Jj hn2 hDf))))
 replace hp : okR L := hp
 have yp : le102.ent.pre [lv, ix, nw, c0, bu, mo, L, R, 0] := ⟨hp, by show (0 : Int) <= 0; decide, by show (0 : Int) <= ((dc L).length : Int); omega⟩
 have q := (PostOK.use (ks := [kJ, kJ, kJ, kJ, kJ, kJ, .x, .x, kJ]) (os := [.b, kJ]) (vs := [v1, v2]) Wr.2 rfl rfl ⟨hd1, hd2, trivial⟩) ⟨(by first | rfl | assumption | exact i64w (by omega) (by omega) | exact u8w (by omega) (by omega)), (by first | rfl | assumption | exact i64w (by omega) (by omega) | exact u8w (by omega) (by omega)), (by first | rfl | assumption | exact i64w (by omega) (by omega) | exact u8w (by omega) (by omega)), (by first | rfl | assumption | exact i64w (by omega) (by omega) | exact u8w (by omega) (by omega)), (by first | rfl | assumption | exact i64w (by omega) (by omega) | exact u8w (by omega) (by omega)), (by first | rfl | assumption | exact i64w (by omega) (by omega) | exact u8w (by omega) (by omega)), rfl, rfl, rfl, trivial⟩ yp
 refine ⟨?_, ?_⟩
 ·simp (disch := omega) only [Og, ewA, ewL, ewE, List.headD, List.tail, ewR, ewB, ewM, ewQ, reduceCtorEq, seval, hSS]
  exact yp
 ·rcases q with ⟨q1, q2⟩ | ⟨q1, q2⟩
  ·replace q1 : v1 = 1 := q1
   simp (disch := omega) only [KR, ewA, ewL, ewE, List.headD, List.tail, ewR, ewB, ewM, ewQ, reduceCtorEq, seval, hSS, q1]
   exact q2.symm
  ·replace q1 : v1 = 0 := q1
   simp (disch := omega) only [KR, ewA, ewL, ewE, List.headD, List.tail, ewR, ewB, ewM, ewQ, reduceCtorEq, seval, hSS, q1]
   exact q2
theorem YG : c101.OK Try.prog G0 := Ctx.OK.nil.addF JB.1 rfl
theorem QC : EntryOK Try.prog G0 e101 /\ PostOK e101 Ps := by
 refine YG.nm.entryH Ai YB (by kernel_rfl) _ rfl fun xs hf hp => ?_
 obtain ⟨l, hl, hF⟩ := An (l0 := LH.l)
 show ∃ ρ : Nat -> Int, _ /\ Oh.tt LH.l.F ρ = true /\ Ps xs (Oi.map (E.den LH.l.F ρ))
 rw [hl]
 have F103 := FC (k := 100000103) rfl (hF e103.nm (by rfl) (by decide))
 replace hf : fits [kJ, kJ, kJ, kJ, .x, .x, kJ] xs := hf
 obtain ⟨n, xs0, hx0, hn, hf0⟩ := Aa hf
 obtain ⟨c0, xs1, hx1, hc0, hf1⟩ := Aa hf0
 obtain ⟨bu, xs2, hx2, hbu, hf2⟩ := Aa hf1
 obtain ⟨mo, xs3, hx3, hmo, hf3⟩ := Aa hf2
 obtain ⟨L, xs4, hx4, hL, hf4⟩ := Aa hf3
 obtain ⟨R, xs5, hx5, hR, hf5⟩ := Aa hf4
 obtain ⟨id, xs6, hx6, hid, hf6⟩ := Aa hf5
 have hxn := Ah hf6
 subst hxn hx6 hx5 hx4 hx3 hx2 hx1 hx0
 simp only [Ab] at hn hc0 hbu hmo hid
 obtain ⟨ρ, hρ, hd⟩ := solve (F := l.F) 7 Mw (by kernel_rfl) [n, c0, bu, mo, L, R, id]
 have hDf := AL (by kernel_rfl) hd
 refine ⟨ρ, hρ, ?_⟩
 have r0 : ρ 0 = n := hρ 0 (by decide)
 have r1 : ρ 1 = c0 := hρ 1 (by decide)
 have r2 : ρ 2 = bu := hρ 2 (by decide)
 have r3 : ρ 3 = mo := hρ 3 (by decide)
 have r4 : ρ 4 = L := hρ 4 (by decide)
 have r5 : ρ 5 = R := hρ 5 (by decide)
 have r6 : ρ 6 = id := hρ 6 (by decide)
 obtain ⟨⟨v1, hv1, hd1, hn1⟩, ⟨v2, hv2, hd2, hn2⟩⟩ := Jj (nmd hd 0 rfl) (nmd hd 1 rfl)
 simp (disch := omega) only [Ab, F103, Ent.nm_fn, r0, hn, r1, hc0, r2, hbu, r3, hmo, r4, r5, r6, hid, hv1, hv2, ewA, ewL, ewE, List.headD, List.tail, ewR, ewB, ewM, ewQ, reduceCtorEq, seval] at hd1 hd2
 have hSS := Jj (Jj (Jj (Jj F103 r0) (Jj hn r1)) (Jj (Jj hc0 r2) (Jj hbu r3))) (Jj (Jj (Jj hmo r4) (Jj r5 r6)) (Jj (Jj hid hv1) (Jj hv2 hDf)))
 obtain ⟨p1, p2⟩ := hp
 have y1 : e103.pre [L, id] := p1
 have y2 : e103.pre [R, id] := p2
 have q1 := (PostOK.use (ks := [.x, kJ]) (os := [.x]) (vs := [v1]) JB.2 rfl rfl ⟨hd1, trivial⟩) ⟨rfl, (by first | rfl | assumption | exact i64w (by omega) (by omega) | exact u8w (by omega) (by omega)), trivial⟩ y1
 have q2 := (PostOK.use (ks := [.x, kJ]) (os := [.x]) (vs := [v2]) JB.2 rfl rfl ⟨hd2, trivial⟩) ⟨rfl, (by first | rfl | assumption | exact i64w (by omega) (by omega) | exact u8w (by omega) (by omega)), trivial⟩ y2
 refine ⟨?_, ?_⟩
 ·simp (disch := omega) only [Oh, ewA, ewL, ewE, List.headD, List.tail, ewR, ewB, ewM, ewQ, reduceCtorEq, seval, hSS]
  exact ⟨y1, y2⟩
 ·simp (disch := omega) only [Oi, ewA, ewL, ewE, List.headD, List.tail, ewR, ewB, ewM, ewQ, reduceCtorEq, seval, hSS]
  exact ⟨⟨rfl, rfl, rfl, rfl⟩, q1, q2⟩
def o9o : Sh := .obj 90 [i64, i64, i64, i64, loR, lsR]
def timD (now d : Int) : Prop := 0 <= now /\ now <= 1099511627776 /\ now < d /\ d <= now + 2147483648
def p105 : List Bool := [true,true,false,true,false]
def pre105 (xs : List Int) : Prop := okR (env xs 4) /\ ((dc (env xs 4)).length : Int) < capR /\ timD (env xs 0) (env xs 7)
def Pt (xs ys : List Int) : Prop := (env ys 0 = env xs 0 /\ env ys 1 = env xs 1 /\ env ys 2 = env xs 2 /\ env ys 3 = env xs 3) /\ dc (env ys 4) = puR (env xs 0) (dc (env xs 4)) (env xs 6) (env xs 7) /\ env ys 5 = env xs 5
def b105 : Ent := ⟨105, 105, [rwO, i64, i64], [], [], rwO, z0, pre105⟩
def lvG (now d k l : Int) : Int := if k < 0 then l else if blk 1 d <= blk 1 now + 1 then 0 else if 1 <= k /\ blk 2 d <= blk 2 now + 1 then 1 else if 2 <= k /\ blk 3 d <= blk 3 now + 1 then 2 else l
def preLp (xs : List Int) : Prop := timD (env xs 1) (env xs 0) /\ -1 <= env xs 8 /\ env xs 8 <= 2
def Oj (xs ys : List Int) : Prop := env ys 0 = lvG (env xs 1) (env xs 0) (env xs 8) (env xs 7)
def muLp (xs : List Int) : Nat := (env xs 8 + 1).toNat
def HF : LEnt := ⟨⟨9105, 999999, [i64, o9o, i64, i64], [], [0, 1, 2], .tup [i64], z0, preLp⟩, [2, 3, 7, 8], [7], (List.range 17).map (· + 8), [.ex 0], 39, []⟩
def Xo : Ctx := ⟨[e104], []⟩
def FT : Ctx := Xo.nm
def KS : List (Nat × E) := [(640000665604224, (aI 100000104 0 [(.bin .add .i64 (vI 8) (lI 1)), (vI 0)])),
 (640000665606784, (aI 100000104 0 [(.bin .add .i64 (vI 8) (lI 1)), (vI 1)]))]
def Fh : E := (.ite (.cmp .leq (vI 640000665604224) (.bin .add .i64 (vI 640000665606784) (lI 1))) (vI 8) (vI 7))
def ID : E := (.and (.or (.not (.cmp .geq (vI 8) (lI 0))) (.and (.and (aB 100000104 1000000 [(.bin .add .i64 (vI 8) (lI 1)), (vI 0)]) (dE KS 0 1)) (.and (aB 100000104 1000000 [(.bin .add .i64 (vI 8) (lI 1)), (vI 1)]) (dE KS 1 1)))) (.or (.not (.cmp .geq (vI 8) (lI 0))) (aB 9105 1000000 [(vI 0), (vI 1), (vI 2), (vI 3), (vI 4), (vX 5), (vX 6), Fh, (.bin .sub .i64 (vI 8) (lI 1))])))
def IE : List E := [(.ite (.not (.cmp .geq (vI 8) (lI 0))) (vI 7) (aI 9105 0 [(vI 0), (vI 1), (vI 2), (vI 3), (vI 4), (vX 5), (vX 6), Fh, (.bin .sub .i64 (vI 8) (lI 1))]))]
def le105 : LEnt := HF.fw (fnL HF FT.l ID IE Oj muLp)
theorem X8 : evL Try.prog G0 (Ad FT.fs) (evFn Try.prog G0 (Ad FT.fs) (ltOf FT.ls) 40 10) 40 (subL FT.ls 105 p105) le105 (AC Try.prog 105 p105) = some (ID, IE) := by kernel_rfl
def c105 : Ctx := ⟨[e104], [(105, p105, le105)]⟩
def LK : Ctx := c105.nm
def Mx : List (Nat × E) := [(640058272001152, (aI 100009105 0 [(vI 7), (vI 0), (vI 1), (vI 2), (vI 3), (vX 4), (vX 5), (lI 3), (lI 2)])),
 (640000665604736, (aI 100000104 0 [(vI 640058272001152), (vI 7)]))]
def LL : E := (aX 0 4 [(vX 4), (aX 0 3 [(aX 0 2 []), (vI 6), (vI 7), (vI 640058272001152), (.dv .rem .i64 (vI 640000665604736) 512)])])
def Ok : E := (.and (.and (aB 100009105 1000000 [(vI 7), (vI 0), (vI 1), (vI 2), (vI 3), (vX 4), (vX 5), (lI 3), (lI 2)]) (dE Mx 0 1)) (.and (.and (aB 100000104 1000000 [(vI 640058272001152), (vI 7)]) (dE Mx 1 1)) (.cmp .leq (aX 0 0 [LL]) (.lit .x 4398046511104))))
def Ol : List E := [(vI 0), (vI 1), (vI 2), (vI 3), LL, (vX 5)]
def e105 : Ent := b105.fw (fnR LK.l.F b105.np Ok Ol Pt)
theorem YH : evE Try.prog G0 (Ad LK.fs) (ltOf LK.ls) 40 10 e105 = some (Ok, Ol) := by kernel_rfl
def pre99 (xs : List Int) : Prop := (okR (env xs 4) /\ okR (env xs 5)) /\ ((dc (env xs 4)).length : Int) < capR /\ 0 <= env xs 0 /\ env xs 0 <= 1099511627776
def Om (xs ys : List Int) : Prop := (env ys 0 = env xs 0 /\ env ys 1 = env xs 1 /\ env ys 2 = env xs 2 /\ env ys 3 = env xs 3) /\ dc (env ys 4) = armA (env xs 1) (env xs 0) (env xs 6) (env xs 7) (dc (env xs 4)) /\ dc (env ys 5) = N0 (env xs 1) (env xs 0) (env xs 6) (env xs 7) (dc (env xs 5)) /\ env ys 6 = N1 (env xs 1) (env xs 0) (env xs 6) (env xs 7)
def b99 : Ent := ⟨99, 99, [rwS, i64, i64], [], [0, 1], .tup [rwS, i64], z0, pre99⟩
def c99 : Ctx := ⟨[e101, e105], []⟩
def c99n : Ctx := c99.nm
def Hg : List E := [(vI 0), (vI 1), (vI 2), (vI 3), (vX 4), (vX 5), (vI 6)]
def Hh : List E := [(vI 640000646401152), (vI 640000646401153), (vI 640000646401154), (vI 640000646401155), (vX 640000646401156), (vX 640000646401157), (vI 6), (vI 7)]
def Pu : List (Nat × E) := [(640000646401152, (aI 100000101 0 Hg)),
 (640000646401153, (aI 100000101 1 Hg)),
 (640000646401154, (aI 100000101 2 Hg)),
 (640000646401155, (aI 100000101 3 Hg)),
 (640000646401156, (aX 100000101 4 Hg)),
 (640000646401157, (aX 100000101 5 Hg)),
 (640000672001664, (aI 100000105 0 Hh)),
 (640000672001665, (aI 100000105 1 Hh)),
 (640000672001666, (aI 100000105 2 Hh)),
 (640000672001667, (aI 100000105 3 Hh)),
 (640000672001668, (aX 100000105 4 Hh)),
 (640000672001669, (aX 100000105 5 Hh))]
def BZ : E := (.or (.or (.or (.cmp .lss (vI 6) (lI 0)) (.cmp .geq (vI 6) (vI 1))) (.cmp .leq (vI 7) (vI 0))) (.cmp .gtr (.bin .sub .i64 (vI 7) (vI 0)) (lI 2147483648)))
def Oo : E := (.and (.or BZ (.and (.and (aB 100000101 1000000 [(vI 0), (vI 1), (vI 2), (vI 3), (vX 4), (vX 5), (vI 6)]) (dE Pu 0 6)) (.and (aB 100000105 1000000 [(vI 640000646401152), (vI 640000646401153), (vI 640000646401154), (vI 640000646401155), (vX 640000646401156), (vX 640000646401157), (vI 6), (vI 7)]) (dE Pu 6 6)))) (.or BZ (.not BZ)))
def Oq : List E := [(.ite BZ (vI 0) (vI 640000672001664)), (.ite BZ (vI 1) (vI 640000672001665)), (.ite BZ (vI 2) (vI 640000672001666)), (.ite BZ (vI 3) (vI 640000672001667)), (.ite BZ (vX 4) (vX 640000672001668)), (.ite BZ (vX 5) (vX 640000672001669)), (.ite BZ (lI 2) (lI 0))]
def e99 : Ent := b99.fw (fnR c99n.l.F b99.np Oo Oq Om)
theorem ev_99 : evE Try.prog G0 (Ad c99n.fs) (ltOf c99n.ls) 40 10 e99 = some (Oo, Oq) := by kernel_rfl
def Ot (xs ys : List Int) : Prop := (env ys 0 = env xs 0 /\ env ys 1 = env xs 1 /\ env ys 2 = env xs 2 /\ env ys 3 = env xs 3) /\ dc (env ys 4) = canL (env xs 1) (env xs 6) (dc (env xs 4)) (dc (env xs 5)) (dc (env xs 4)) /\ dc (env ys 5) = canL (env xs 1) (env xs 6) (dc (env xs 4)) (dc (env xs 5)) (dc (env xs 5)) /\ env ys 6 = QB (env xs 1) (env xs 6) (dc (env xs 4)) (dc (env xs 5))
def b74 : Ent := ⟨74, 74, [rwS, i64], [], [0, 1], .tup [rwS, i64], z0, pre101⟩
def c74 : Ctx := ⟨[e100, e101.nm], []⟩
def Hi : List E := [(vI 0), (vI 1), (vI 2), (vI 3), (vX 4), (vX 5), (vI 6)]
def Ti : List (Nat × E) := [(640000646401152, (aI 100000101 0 Hi)),
 (640000646401153, (aI 100000101 1 Hi)),
 (640000646401154, (aI 100000101 2 Hi)),
 (640000646401155, (aI 100000101 3 Hi)),
 (640000646401156, (aX 100000101 4 Hi)),
 (640000646401157, (aX 100000101 5 Hi))]
def CN : E := (.or (.cmp .lss (vI 6) (lI 0)) (.cmp .geq (vI 6) (vI 1)))
def Ou : E := (.cmp .lss (aI 100 0 [(vX 4), (vI 6)]) (lI 0))
def CO : E := (.and Ou (.cmp .lss (aI 100 0 [(vX 5), (vI 6)]) (lI 0)))
def QD : E := (.and (.or CN (.and (.and (aB 100 1000000 [(vX 4), (vI 6)]) (.or (.not Ou) (aB 100 1000000 [(vX 5), (vI 6)]))) (.or CO (.and (aB 100000101 1000000 [(vI 0), (vI 1), (vI 2), (vI 3), (vX 4), (vX 5), (vI 6)]) (dE Ti 0 6))))) (.or CN (.or CO (.and (.not CN) (.not CO)))))
def QE : List E := [(.ite CN (vI 0) (.ite CO (vI 0) (vI 640000646401152))), (.ite CN (vI 1) (.ite CO (vI 1) (vI 640000646401153))), (.ite CN (vI 2) (.ite CO (vI 2) (vI 640000646401154))), (.ite CN (vI 3) (.ite CO (vI 3) (vI 640000646401155))), (.ite CN (vX 4) (.ite CO (vX 4) (vX 640000646401156))), (.ite CN (vX 5) (.ite CO (vX 5) (vX 640000646401157))), (.ite CN (lI 2) (.ite CO (lI 6) (lI 0)))]
def e74 : Ent := b74.fw (fnR c74.l.F b74.np QD QE Ot)
theorem ev_74 : evE Try.prog G0 (Ad c74.fs) (ltOf c74.ls) 40 10 e74 = some (QD, QE) := by kernel_rfl
def p78 : List Bool := [true,true,false,true,false]
def pre78 (xs : List Int) : Prop := okR (env xs 5)
def R9 (xs ys : List Int) : Prop := dc (env ys 0) = idsL (dc (env xs 5))
def b78 : Ent := ⟨78, 78, [rwS], [], [0, 1], lio, z0, pre78⟩
def preLi (xs : List Int) : Prop := okR (env xs 5) /\ 0 <= env xs 7 /\ env xs 7 <= ((dc (env xs 5)).length : Int) /\ ((dc (env xs 6)).length : Int) = env xs 7
def Ov (xs ys : List Int) : Prop := dc (env ys 0) = dc (env xs 6) ++ idsL ((dc (env xs 5)).drop (env xs 7).toNat)
def muLi (xs : List Int) : Nat := (((dc (env xs 5)).length : Int) - env xs 7).toNat
def lb78 : LEnt := ⟨⟨9078, 999999, [o90, lio, i64], [], [0, 1, 2], .tup [lio], z0, preLi⟩, [1, 3, 4], [3], (List.range 18).map (· + 4), [.ex 0], 22, []⟩
def CS : E := (.not (.cmp .lss (vI 7) (aI 0 0 [(vX 5)])))
def GM : E := (.and (.cmp .geq (vI 7) (lI 0)) (.cmp .lss (vI 7) (aI 0 0 [(vX 5)])))
def Fk : E := (aX 0 4 [(vX 6), (aX 0 3 [(aX 0 2 []), (aI 0 1 [(vX 5), (vI 7), (.lit .x 0)])])])
def KT : E := (.and (.and (.or CS (.and GM (.and GM (.cmp .leq (aX 0 0 [Fk]) (.lit .x 17592186044416))))) (.or CS (aB 9078 1000000 [(vI 0), (vI 1), (vI 2), (vI 3), (vX 4), (vX 5), Fk, (.bin .add .i64 (vI 7) (lI 1))]))) (.or (.not (.or CS (.cmp .lss (vI 7) (aI 0 0 [(vX 5)])))) (.ite CS CS (.cmp .lss (vI 7) (aI 0 0 [(vX 5)])))))
def KU : List E := [(.ite CS (vX 6) (aX 9078 0 [(vI 0), (vI 1), (vI 2), (vI 3), (vX 4), (vX 5), Fk, (.bin .add .i64 (vI 7) (lI 1))]))]
def le78 : LEnt := lb78.fw (fnL lb78 cI.nm.l KT KU Ov muLi)
theorem YI : evL Try.prog G0 (Ad cI.nm.fs) (evFn Try.prog G0 (Ad cI.nm.fs) (ltOf cI.nm.ls) 40 10) 40 (subL cI.nm.ls 78 p78) le78 (AC Try.prog 78 p78) = some (KT, KU) := by kernel_rfl
def c78 : Ctx := ⟨[], [(78, p78, le78)]⟩
def c78n : Ctx := c78.nm
def Tj : List (Nat × E) := [(640058099200640, (aX 100009078 0 [(vI 0), (vI 1), (vI 2), (vI 3), (vX 4), (vX 5), (aX 0 2 []), (lI 0)]))]
def QF : E := (.and (aB 100009078 1000000 [(vI 0), (vI 1), (vI 2), (vI 3), (vX 4), (vX 5), (aX 0 2 []), (lI 0)]) (dE Tj 0 1))
def QG : List E := [(vX 640058099200640)]
def e78 : Ent := b78.fw (fnR c78n.l.F b78.np QF QG R9)
theorem ev_78 : evE Try.prog G0 (Ad c78n.fs) (ltOf c78n.ls) 40 10 e78 = some (QF, QG) := by kernel_rfl
def Pv (xs ys : List Int) : Prop := env ys 0 = dlR (dc (env xs 4)) (dc (env xs 5)) (env xs 6) /\ env ys 1 = b2i (decide (isR (dc (env xs 4)) (dc (env xs 5)) (env xs 6)))
def b106 : Ent := ⟨106, 106, [rwS, i64], [], [0, 1], .tup [i64, bS], z0, pre101⟩
def DE : Ctx := ⟨[e100], []⟩
def Fl : E := (.cmp .geq (aI 100 0 [(vX 4), (vI 6)]) (lI 0))
def GN : E := (.cmp .geq (aI 100 0 [(vX 5), (vI 6)]) (lI 0))
def Ow : E := (.and (.and (aB 100 1000000 [(vX 4), (vI 6)]) (.or (.not Fl) (.and Fl (.cmp .lss (aI 100 0 [(vX 4), (vI 6)]) (aI 0 0 [(vX 4)]))))) (.or Fl (.and (aB 100 1000000 [(vX 5), (vI 6)]) (.or (.not GN) (.and GN (.cmp .lss (aI 100 0 [(vX 5), (vI 6)]) (aI 0 0 [(vX 5)])))))))
def Ox : List E := [(.ite Fl (aI 0 1 [(vX 4), (aI 100 0 [(vX 4), (vI 6)]), (.lit .x 1)]) (.ite GN (aI 0 1 [(vX 5), (aI 100 0 [(vX 5), (vI 6)]), (.lit .x 1)]) (lI 0))), (.or Fl GN)]
def e106 : Ent := b106.fw (fnR DE.l.F b106.np Ow Ox Pv)
theorem YJ : evE Try.prog G0 (Ad DE.fs) (ltOf DE.ls) 40 10 e106 = some (Ow, Ox) := by kernel_rfl
def Pw (xs ys : List Int) : Prop := env ys 0 = plX (env xs 1) (env xs 6) (dc (env xs 4)) 2 /\ env ys 1 = plX (env xs 1) (env xs 6) (dc (env xs 4)) 3 /\ env ys 2 = plE (env xs 1) (env xs 6) (dc (env xs 4))
def b107 : Ent := ⟨107, 107, [rwS, i64], [], [0, 1], .tup [i64, i64, i64], z0, pre101⟩
def GO : E := (.or (.cmp .lss (vI 6) (lI 0)) (.cmp .geq (vI 6) (vI 1)))
def GP : E := (.cmp .lss (aI 100 0 [(vX 4), (vI 6)]) (lI 0))
def Oy : E := (.or GO (.and (aB 100 1000000 [(vX 4), (vI 6)]) (.or GP (.and (.cmp .geq (aI 100 0 [(vX 4), (vI 6)]) (lI 0)) (.cmp .lss (aI 100 0 [(vX 4), (vI 6)]) (aI 0 0 [(vX 4)]))))))
def Oz : List E := [(.ite GO (lI 0) (.ite GP (lI 0) (aI 0 1 [(vX 4), (aI 100 0 [(vX 4), (vI 6)]), (.lit .x 2)]))), (.ite GO (lI 0) (.ite GP (lI 0) (aI 0 1 [(vX 4), (aI 100 0 [(vX 4), (vI 6)]), (.lit .x 3)]))), (.ite GO (lI 2) (.ite GP (lI 6) (lI 0)))]
def e107 : Ent := b107.fw (fnR DE.l.F b107.np Oy Oz Pw)
theorem YK : evE Try.prog G0 (Ad DE.fs) (ltOf DE.ls) 40 10 e107 = some (Oy, Oz) := by kernel_rfl
def Sa (xs ys : List Int) : Prop := env ys 0 = env xs 0 /\ env ys 1 = env xs 1 /\ env ys 2 = env xs 2 /\ env ys 3 = 0 /\ dc (env ys 4) = [] /\ dc (env ys 5) = []
def b54 : Ent := ⟨54, 54, [i64, i64, i64], [], [], .tup [rwS, .lt kJ 0], z0, fun xs => newW (env xs 0) (env xs 1) (env xs 2)⟩
def IG : E := (.or (.or (.or (.or (.or (.cmp .lss (vI 0) (lI 0)) (.cmp .gtr (vI 0) (lI 1099511627776))) (.cmp .lss (vI 1) (lI 1))) (.cmp .gtr (vI 1) (lI 4096))) (.cmp .lss (vI 2) (lI 1))) (.cmp .gtr (vI 2) (lI 4096)))
def IH : E := (.cmp .lss (.bin .mul .i64 (lI 256) (vI 2)) (vI 1))
def QH : E := (.cmp .eql (.ite IG (lI 2) (.ite IH (lI 180) (lI 0))) (lI 0))
def QI : List E := [(.ite IG (lI 0) (.ite IH (lI 0) (vI 0))), (.ite IG (lI 0) (.ite IH (lI 0) (vI 1))), (.ite IG (lI 0) (.ite IH (lI 0) (vI 2))), (lI 0), (aX 0 2 []), (aX 0 2 [])]
def e54 : Ent := b54.fw (fnR cI.nm.l.F b54.np QH QI Sa)
theorem ev_54 : evE Try.prog G0 (Ad cI.nm.fs) (ltOf cI.nm.ls) 40 10 e54 = some (QH, QI) := by kernel_rfl
theorem W4 {now d k l : Int} (h : 0 <= k /\ k <= 2) : lvG now d (k - 1) (if blk (k + 1) d <= blk (k + 1) now + 1 then k else l) = lvG now d k l := by
 unfold lvG
 have : k = 0 \/ k = 1 \/ k = 2 := by omega
 rcases this with rfl | rfl | rfl
 ·simp
 ·by_cases h1 : blk 1 d <= blk 1 now + 1 <;> by_cases h2 : blk 2 d <= blk 2 now + 1 <;> simp [h1, h2]
 ·by_cases h1 : blk 1 d <= blk 1 now + 1 <;> by_cases h2 : blk 2 d <= blk 2 now + 1 <;> by_cases h3 : blk 3 d <= blk 3 now + 1 <;> simp [h1, h2, h3]
theorem lvG_F (now d : Int) : lvG now d 2 3 = lvF now d := by unfold lvG lvF; simp
theorem Tk : Xo.OK Try.prog G0 := Ctx.OK.nil.addF LI.1 rfl
theorem Ws : Aq Try.prog G0 105 p105 le105 /\ PostOK le105.ent Oj := by
 refine Tk.nm.loopH Ai rfl ⟨_, _, _, Try.func105, rfl, rfl⟩ X8 (by kernel_rfl) _ rfl fun xs hf hp φ hφ => ?_
 obtain ⟨l, hl, hS, hF⟩ := Bj HF φ muLp (muLp xs) FT.l (by decide)
 show ∃ ρ : Nat -> Int, _ /\ ID.tt (Tabs.F (enH HF φ muLp (muLp xs) :: FT.l)) ρ = true /\ Oj xs (IE.map (E.den (Tabs.F (enH HF φ muLp (muLp xs) :: FT.l)) ρ))
 rw [hl]
 replace hφ : ∀ ys, fits [kJ, kJ, kJ, kJ, kJ, .x, .x, kJ, kJ] ys -> HF.ent.pre ys -> muLp ys < muLp xs -> Oj ys (Am φ ys 0 HF.ent.oks) := hφ
 have F9105 := FC (k := 9105) rfl hS
 have F104 := FC (k := 100000104) rfl (hF e104.nm (by rfl) (by decide) (by decide))
 replace hf : fits [kJ, kJ, kJ, kJ, kJ, .x, .x, kJ, kJ] xs := hf
 obtain ⟨dl, xs0, hx0, hdl, hf0⟩ := Aa hf
 obtain ⟨nw, xs1, hx1, hnw, hf1⟩ := Aa hf0
 obtain ⟨c0, xs2, hx2, hc0, hf2⟩ := Aa hf1
 obtain ⟨bu, xs3, hx3, hbu, hf3⟩ := Aa hf2
 obtain ⟨mo, xs4, hx4, hmo, hf4⟩ := Aa hf3
 obtain ⟨L, xs5, hx5, hL, hf5⟩ := Aa hf4
 obtain ⟨R, xs6, hx6, hR, hf6⟩ := Aa hf5
 obtain ⟨lv, xs7, hx7, hlv, hf7⟩ := Aa hf6
 obtain ⟨k, xs8, hx8, hk, hf8⟩ := Aa hf7
 have hxn := Ah hf8
 subst hxn hx8 hx7 hx6 hx5 hx4 hx3 hx2 hx1 hx0
 simp only [Ab] at hdl hnw hc0 hbu hmo hlv hk
 obtain ⟨ρ, hρ, hd⟩ := solve (F := l.F) 9 KS (by kernel_rfl) [dl, nw, c0, bu, mo, L, R, lv, k]
 have hDf := AL (by kernel_rfl) hd
 refine ⟨ρ, hρ, ?_⟩
 have r0 : ρ 0 = dl := hρ 0 (by decide)
 have r1 : ρ 1 = nw := hρ 1 (by decide)
 have r2 : ρ 2 = c0 := hρ 2 (by decide)
 have r3 : ρ 3 = bu := hρ 3 (by decide)
 have r4 : ρ 4 = mo := hρ 4 (by decide)
 have r5 : ρ 5 = L := hρ 5 (by decide)
 have r6 : ρ 6 = R := hρ 6 (by decide)
 have r7 : ρ 7 = lv := hρ 7 (by decide)
 have r8 : ρ 8 = k := hρ 8 (by decide)
 obtain ⟨⟨v1, hv1, hd1, hn1⟩, ⟨v2, hv2, hd2, hn2⟩⟩ := Jj (nmd hd 0 rfl) (nmd hd 1 rfl)
 simp only [Ab] at hn1 hn2
 simp (disch := omega) only [Ab, F104, Ent.nm_fn, r0, hdl, r1, hnw, r2, hc0, r3, hbu, r4, hmo, r5, r6, r7, hlv, r8, hk, hv1, hn1, hv2, hn2, ewA, ewL, ewE, List.headD, List.tail, ewR, ewB, ewM, ewQ, reduceCtorEq, seval] at hd1 hd2
 have hSS := Jj (Jj (Jj (Jj F9105 F104) (Jj r0 (Jj hdl r1))) (Jj (Jj hnw (Jj r2 hc0)) (Jj r3 (Jj hbu r4)))) (Jj (Jj (Jj hmo (Jj r5 r6)) (Jj r7 (Jj hlv r8))) (Jj (Jj hk (Jj hv1 hn1)) (Jj hv2 (Jj hn2 hDf))))
 obtain ⟨⟨p1, p2, p3, p4⟩, p5, p6⟩ := hp
 simp only [ewA, ewL, ewE, List.headD, List.tail, seval] at p1 p2 p3 p4 p5 p6
 by_cases hkk : 0 <= k
 ·have y1 : e104.pre [k + 1, dl] := ⟨by show 0 <= k + 1; omega, by show k + 1 <= 4; omega, by show 0 <= dl; omega⟩
  have y2 : e104.pre [k + 1, nw] := ⟨by show 0 <= k + 1; omega, by show k + 1 <= 4; omega, p1⟩
  have wk : IntKind.i64.wrap (k + 1) = k + 1 := i64w (by omega) (by omega)
  simp (disch := omega) only [ewA, ewL, ewE, List.headD, List.tail, ewR, ewB, ewM, ewQ, reduceCtorEq, seval] at hd1 hd2
  have q1 : v1 = blk (k + 1) dl := (PostOK.use (ks := [kJ, kJ]) (os := [kJ]) (vs := [v1]) LI.2 rfl rfl ⟨hd1, trivial⟩) ⟨wk, hdl, trivial⟩ y1
  have q2 : v2 = blk (k + 1) nw := (PostOK.use (ks := [kJ, kJ]) (os := [kJ]) (vs := [v2]) LI.2 rfl rfl ⟨hd2, trivial⟩) ⟨wk, hnw, trivial⟩ y2
  have r2 := A1 (k + 1) p1
  obtain ⟨l', hl'⟩ : ∃ l', (if v1 <= v2 + 1 then k else lv) = l' := ⟨_, rfl⟩
  have wl' : IntKind.i64.wrap l' = l' := by rw [<- hl']; split; exact hk; exact hlv
  have yp : HF.ent.pre [dl, nw, c0, bu, mo, L, R, l', k - 1] := ⟨⟨p1, p2, p3, p4⟩, by show -1 <= k - 1; omega, by show k - 1 <= 2; omega⟩
  have ym : muLp [dl, nw, c0, bu, mo, L, R, l', k - 1] < muLp [dl, nw, c0, bu, mo, L, R, lv, k] := by show (k - 1 + 1).toNat < (k + 1).toNat; omega
  have ih := hφ [dl, nw, c0, bu, mo, L, R, l', k - 1] ⟨hdl, hnw, hc0, hbu, hmo, rfl, rfl, wl', i64w (by omega) (by omega), trivial⟩ yp ym
  replace ih : IntKind.i64.wrap (φ 0 [dl, nw, c0, bu, mo, L, R, l', k - 1]) = lvG nw dl (k - 1) l' := ih
  rw [<- hl', q1, q2, W4 ⟨hkk, p6⟩, <- q1, <- q2, hl'] at ih
  refine ⟨?_, ?_⟩
  ·simp (disch := omega) only [ID, Fh, ewA, ewL, ewE, List.headD, List.tail, ewR, ewB, ewM, ewQ, reduceCtorEq, seval, hSS, hkk, hl']
   repeat' (first | (with_reducible apply Jj) | (with_reducible intro _))
   all_goals first | with_reducible assumption | trivial | omega | (split <;> omega)
  ·simp (disch := omega) only [IE, Fh, ewA, ewL, ewE, List.headD, List.tail, ewR, ewB, ewM, ewQ, reduceCtorEq, seval, hSS, hkk, hl']
   exact ih
 ·refine ⟨?_, ?_⟩
  ·simp (disch := omega) only [ID, Fh, ewA, ewL, ewE, List.headD, List.tail, ewR, ewB, ewM, ewQ, reduceCtorEq, seval, hSS, hkk]
  ·simp (disch := omega) only [IE, Fh, ewA, ewL, ewE, List.headD, List.tail, ewR, ewB, ewM, ewQ, reduceCtorEq, seval, hSS, hkk]
   show lv = lvG nw dl k lv
   unfold lvG; rw [if_pos (by omega)]
theorem YL : c105.OK Try.prog G0 := Ctx.OK.addL (c := ⟨[e104], []⟩) Tk Ws.1 rfl
theorem QJ : EntryOK Try.prog G0 e105 /\ PostOK e105 Pt := by
 refine YL.nm.entryH Ai YH (by kernel_rfl) _ rfl fun xs hf hp => ?_
 obtain ⟨l, hl, hF⟩ := An (l0 := LK.l)
 show ∃ ρ : Nat -> Int, _ /\ Ok.tt LK.l.F ρ = true /\ Pt xs (Ol.map (E.den LK.l.F ρ))
 rw [hl]
 have F104 := FC (k := 100000104) rfl (hF e104.nm (by rfl) (by decide))
 have F9105 := FC (k := 100009105) rfl (hF le105.nm.ent (by rfl) (by decide))
 replace hf : fits [kJ, kJ, kJ, kJ, .x, .x, kJ, kJ] xs := hf
 obtain ⟨nw, xs0, hx0, hnw, hf0⟩ := Aa hf
 obtain ⟨c0, xs1, hx1, hc0, hf1⟩ := Aa hf0
 obtain ⟨bu, xs2, hx2, hbu, hf2⟩ := Aa hf1
 obtain ⟨mo, xs3, hx3, hmo, hf3⟩ := Aa hf2
 obtain ⟨L, xs4, hx4, hL, hf4⟩ := Aa hf3
 obtain ⟨R, xs5, hx5, hR, hf5⟩ := Aa hf4
 obtain ⟨id, xs6, hx6, hid, hf6⟩ := Aa hf5
 obtain ⟨dl, xs7, hx7, hdl, hf7⟩ := Aa hf6
 have hxn := Ah hf7
 subst hxn hx7 hx6 hx5 hx4 hx3 hx2 hx1 hx0
 simp only [Ab] at hnw hc0 hbu hmo hid hdl
 obtain ⟨ρ, hρ, hd⟩ := solve (F := l.F) 8 Mx (by kernel_rfl) [nw, c0, bu, mo, L, R, id, dl]
 have hDf := AL (by kernel_rfl) hd
 refine ⟨ρ, hρ, ?_⟩
 have r0 : ρ 0 = nw := hρ 0 (by decide)
 have r1 : ρ 1 = c0 := hρ 1 (by decide)
 have r2 : ρ 2 = bu := hρ 2 (by decide)
 have r3 : ρ 3 = mo := hρ 3 (by decide)
 have r4 : ρ 4 = L := hρ 4 (by decide)
 have r5 : ρ 5 = R := hρ 5 (by decide)
 have r6 : ρ 6 = id := hρ 6 (by decide)
 have r7 : ρ 7 = dl := hρ 7 (by decide)
 obtain ⟨⟨v1, hv1, hd1, hn1⟩, ⟨v2, hv2, hd2, hn2⟩⟩ := Jj (nmd hd 0 rfl) (nmd hd 1 rfl)
 simp only [Ab] at hn1 hn2
 simp (disch := omega) only [Ab, F104, F9105, Ent.nm_fn, r0, hnw, r1, hc0, r2, hbu, r3, hmo, r4, r5, r6, hid, r7, hdl, hv1, hn1, hv2, hn2, ewA, ewL, ewE, List.headD, List.tail, ewR, ewB, ewM, ewQ, reduceCtorEq, seval] at hd1 hd2
 have hSS := Jj (Jj (Jj (Jj F104 F9105) (Jj r0 (Jj hnw r1))) (Jj (Jj hc0 r2) (Jj hbu (Jj r3 hmo)))) (Jj (Jj (Jj r4 r5) (Jj r6 (Jj hid r7))) (Jj (Jj hdl (Jj hv1 hn1)) (Jj hv2 (Jj hn2 hDf))))
 obtain ⟨p1, p2, p3⟩ := hp
 replace p1 : okR L := p1
 replace p3 : timD nw dl := p3
 simp only [ewA, ewL, ewE, List.headD, List.tail, seval] at p2
 have hcap := p1.2
 unfold capR at hcap p2
 have tm := p3
 unfold timD at tm
 have y1 : le105.ent.pre [dl, nw, c0, bu, mo, L, R, 3, 2] := ⟨p3, by show (-1 : Int) <= 2; decide, by show (2 : Int) <= 2; decide⟩
 have q1 : v1 = lvG nw dl 2 3 := (PostOK.use (ks := [kJ, kJ, kJ, kJ, kJ, .x, .x, kJ, kJ]) (os := [kJ]) (vs := [v1]) Ws.2 rfl rfl ⟨hd1, trivial⟩) ⟨(by first | rfl | assumption | exact i64w (by omega) (by omega) | exact u8w (by omega) (by omega)), (by first | rfl | assumption | exact i64w (by omega) (by omega) | exact u8w (by omega) (by omega)), (by first | rfl | assumption | exact i64w (by omega) (by omega) | exact u8w (by omega) (by omega)), (by first | rfl | assumption | exact i64w (by omega) (by omega) | exact u8w (by omega) (by omega)), (by first | rfl | assumption | exact i64w (by omega) (by omega) | exact u8w (by omega) (by omega)), rfl, rfl, rfl, rfl, trivial⟩ y1
 rw [lvG_F] at q1
 have r1 : 0 <= v1 /\ v1 <= 3 := by rw [q1]; unfold lvF; split <;> (try split) <;> (try split) <;> omega
 have y2 : e104.pre [v1, dl] := ⟨r1.1, by show v1 <= 4; omega, by show 0 <= dl; omega⟩
 have q2 : v2 = blk v1 dl := (PostOK.use (ks := [kJ, kJ]) (os := [kJ]) (vs := [v2]) LI.2 rfl rfl ⟨hd2, trivial⟩) ⟨(by first | rfl | assumption | exact i64w (by omega) (by omega) | exact u8w (by omega) (by omega)), (by first | rfl | assumption | exact i64w (by omega) (by omega) | exact u8w (by omega) (by omega)), trivial⟩ y2
 have r2 := A1 v1 (t := dl) (by omega)
 have e : v2.tmod 512 = v2 % 512 := Int.tmod_eq_emod_of_nonneg (by omega)
 have hl : ((dc L ++ [[id, dl, v1, v2 % 512]]).length : Int) = ((dc L).length : Int) + 1 := by simp
 refine ⟨?_, ?_⟩
 ·simp (disch := omega) only [Ok, LL, ewA, ewL, ewE, List.headD, List.tail, ewR, ewB, ewM, ewQ, reduceCtorEq, seval, hSS, e]
  exact ⟨y1, y2, by omega⟩
 ·simp (disch := omega) only [Ol, LL, ewA, ewL, ewE, List.headD, List.tail, ewR, ewB, ewM, ewQ, reduceCtorEq, seval, hSS, e]
  refine ⟨⟨rfl, rfl, rfl, rfl⟩, ?_, rfl⟩
  show dc (cd (dc L ++ [[id, dl, v1, v2 % 512]])) = puR nw (dc L) id dl
  rw [Af, q2, q1]; rfl
theorem Sb {L c id : Int} (h : okR L) (e : dc c = wiR (dc L) id) : okR c /\ (dc c).length <= (dc L).length := by
 have := X7 (dc L) id
 obtain ⟨h1, h2⟩ := h
 refine ⟨⟨?_, ?_⟩, by rw [e]; exact this⟩
 ·rw [e]; exact fun r hr => h1 r (List.mem_filter.1 hr).1
 ·rw [e]; omega
theorem c99ok : c99.OK Try.prog G0 := (Ctx.OK.nil.addF QJ.1 rfl).addF QC.1 rfl
theorem ok99 : EntryOK Try.prog G0 e99 /\ PostOK e99 Om := by
 refine c99ok.nm.entryH Ai ev_99 (by kernel_rfl) _ rfl fun xs hf hp => ?_
 obtain ⟨l, hl, hF⟩ := An (l0 := c99n.l)
 show ∃ ρ : Nat -> Int, _ /\ Oo.tt c99n.l.F ρ = true /\ Om xs (Oq.map (E.den c99n.l.F ρ))
 rw [hl]
 have F101 := FC (k := 100000101) rfl (hF e101.nm (by rfl) (by decide))
 have F105 := FC (k := 100000105) rfl (hF e105.nm (by rfl) (by decide))
 replace hf : fits [kJ, kJ, kJ, kJ, .x, .x, kJ, kJ] xs := hf
 obtain ⟨nw, xs0, hx0, hnw, hf0⟩ := Aa hf
 obtain ⟨c0, xs1, hx1, hc0, hf1⟩ := Aa hf0
 obtain ⟨bu, xs2, hx2, hbu, hf2⟩ := Aa hf1
 obtain ⟨mo, xs3, hx3, hmo, hf3⟩ := Aa hf2
 obtain ⟨L, xs4, hx4, hL, hf4⟩ := Aa hf3
 obtain ⟨R, xs5, hx5, hR, hf5⟩ := Aa hf4
 obtain ⟨id, xs6, hx6, hid, hf6⟩ := Aa hf5
 obtain ⟨dl, xs7, hx7, hdl, hf7⟩ := Aa hf6
 have hxn := Ah hf7
 subst hxn hx7 hx6 hx5 hx4 hx3 hx2 hx1 hx0
 simp only [Ab] at hnw hc0 hbu hmo hid hdl
 obtain ⟨ρ, hρ, hd⟩ := solve (F := l.F) 8 Pu (by kernel_rfl) [nw, c0, bu, mo, L, R, id, dl]
 have hDf := AL (by kernel_rfl) hd
 refine ⟨ρ, hρ, ?_⟩
 have r0 : ρ 0 = nw := hρ 0 (by decide)
 have r1 : ρ 1 = c0 := hρ 1 (by decide)
 have r2 : ρ 2 = bu := hρ 2 (by decide)
 have r3 : ρ 3 = mo := hρ 3 (by decide)
 have r4 : ρ 4 = L := hρ 4 (by decide)
 have r5 : ρ 5 = R := hρ 5 (by decide)
 have r6 : ρ 6 = id := hρ 6 (by decide)
 have r7 : ρ 7 = dl := hρ 7 (by decide)
 obtain ⟨⟨v1, hv1, hd1, hn1⟩, ⟨v2, hv2, hd2, hn2⟩⟩ := Jj (nmd hd 0 rfl) (nmd hd 1 rfl)
 obtain ⟨⟨v3, hv3, hd3, hn3⟩, ⟨v4, hv4, hd4, hn4⟩⟩ := Jj (nmd hd 2 rfl) (nmd hd 3 rfl)
 obtain ⟨⟨v5, hv5, hd5, hn5⟩, ⟨v6, hv6, hd6, hn6⟩⟩ := Jj (nmd hd 4 rfl) (nmd hd 5 rfl)
 obtain ⟨⟨v7, hv7, hd7, hn7⟩, ⟨v8, hv8, hd8, hn8⟩⟩ := Jj (nmd hd 6 rfl) (nmd hd 7 rfl)
 obtain ⟨⟨v9, hv9, hd9, hn9⟩, ⟨v10, hv10, hd10, hn10⟩⟩ := Jj (nmd hd 8 rfl) (nmd hd 9 rfl)
 obtain ⟨⟨v11, hv11, hd11, hn11⟩, ⟨v12, hv12, hd12, hn12⟩⟩ := Jj (nmd hd 10 rfl) (nmd hd 11 rfl)
 simp only [Ab] at hn1 hn2 hn3 hn4 hn7 hn8 hn9 hn10
 simp (disch := omega) only [Ab, Hg, Hh, F101, F105, Ent.nm_fn, r0, hnw, r1, hc0, r2, hbu, r3, hmo, r4, r5, r6, hid, r7, hdl, hv1, hn1, hv2, hn2, hv3, hn3, hv4, hn4, hv5, hv6, hv7, hn7, hv8, hn8, hv9, hn9, hv10, hn10, hv11, hv12, ewA, ewL, ewE, List.headD, List.tail, ewR, ewB, ewM, ewQ, reduceCtorEq, seval] at hd1 hd2 hd3 hd4 hd5 hd6 hd7 hd8 hd9 hd10 hd11 hd12
 have hSS := Jj (Jj (Jj (Jj (Jj F101 F105) (Jj r0 hnw)) (Jj (Jj r1 hc0) (Jj r2 (Jj hbu r3)))) (Jj (Jj (Jj hmo r4) (Jj r5 r6)) (Jj (Jj hid r7) (Jj hdl (Jj hv1 hn1))))) (Jj (Jj (Jj (Jj hv2 hn2) (Jj hv3 hn3)) (Jj (Jj hv4 hn4) (Jj hv5 (Jj hv6 hv7)))) (Jj (Jj (Jj hn7 hv8) (Jj hn8 (Jj hv9 hn9))) (Jj (Jj hv10 hn10) (Jj hv11 (Jj hv12 hDf)))))
 obtain ⟨p1, p2, p3, p4⟩ := hp
 simp only [ewA, ewL, ewE, List.headD, List.tail, seval] at p2 p3 p4
 have rd := i64r hdl
 by_cases ha : arR c0 nw id dl
 ·have ha' := ha
  obtain ⟨⟨a1, a2⟩, a3, a4⟩ := ha'
  have y1 : e101.pre [nw, c0, bu, mo, L, R, id] := p1
  obtain ⟨⟨r1, r2, r3, r4⟩, r5, r6⟩ := (PostOK.use (ks := [kJ, kJ, kJ, kJ, .x, .x, kJ]) (os := [kJ, kJ, kJ, kJ, .x, .x]) (vs := [v1, v2, v3, v4, v5, v6]) QC.2 rfl rfl ⟨hd1, hd2, hd3, hd4, hd5, hd6, trivial⟩) ⟨(by first | rfl | assumption | exact i64w (by omega) (by omega) | exact u8w (by omega) (by omega)), (by first | rfl | assumption | exact i64w (by omega) (by omega) | exact u8w (by omega) (by omega)), (by first | rfl | assumption | exact i64w (by omega) (by omega) | exact u8w (by omega) (by omega)), (by first | rfl | assumption | exact i64w (by omega) (by omega) | exact u8w (by omega) (by omega)), rfl, rfl, (by first | rfl | assumption | exact i64w (by omega) (by omega) | exact u8w (by omega) (by omega)), trivial⟩ y1
  replace r1 : v1 = nw := r1
  replace r2 : v2 = c0 := r2
  replace r3 : v3 = bu := r3
  replace r4 : v4 = mo := r4
  replace r5 : dc v5 = wiR (dc L) id := r5
  replace r6 : dc v6 = wiR (dc R) id := r6
  obtain ⟨s1, s2⟩ := Sb (show okR L from p1.1) r5
  have y2 : e105.pre [v1, v2, v3, v4, v5, v6, id, dl] := ⟨s1, by show ((dc v5).length : Int) < capR; omega, by show timD v1 dl; rw [r1]; exact ⟨p3, p4, a3, a4⟩⟩
  obtain ⟨⟨t1, t2, t3, t4⟩, t5, t6⟩ := (PostOK.use (ks := [kJ, kJ, kJ, kJ, .x, .x, kJ, kJ]) (os := [kJ, kJ, kJ, kJ, .x, .x]) (vs := [v7, v8, v9, v10, v11, v12]) QJ.2 rfl rfl ⟨hd7, hd8, hd9, hd10, hd11, hd12, trivial⟩) ⟨(by first | rfl | assumption | exact i64w (by omega) (by omega) | exact u8w (by omega) (by omega)), (by first | rfl | assumption | exact i64w (by omega) (by omega) | exact u8w (by omega) (by omega)), (by first | rfl | assumption | exact i64w (by omega) (by omega) | exact u8w (by omega) (by omega)), (by first | rfl | assumption | exact i64w (by omega) (by omega) | exact u8w (by omega) (by omega)), rfl, rfl, (by first | rfl | assumption | exact i64w (by omega) (by omega) | exact u8w (by omega) (by omega)), (by first | rfl | assumption | exact i64w (by omega) (by omega) | exact u8w (by omega) (by omega)), trivial⟩ y2
  replace t5 : dc v11 = puR v1 (dc v5) id dl := t5
  replace t6 : v12 = v6 := t6
  have hC : ¬ ((0 <= id /\ id < c0) /\ nw < dl -> 2147483648 < dl - nw) := fun h => by have := h ⟨⟨a1, a2⟩, a3⟩; omega
  refine ⟨?_, ?_⟩
  ·simp (disch := omega) only [Oo, BZ, ewA, ewL, ewE, List.headD, List.tail, ewR, ewB, ewM, ewQ, reduceCtorEq, seval, hSS]
   exact ⟨fun _ => ⟨y1, y2⟩, fun h => h⟩
  ·simp (disch := omega) only [Oq, BZ, ewA, ewL, ewE, List.headD, List.tail, ewR, ewB, ewM, ewQ, reduceCtorEq, seval, hSS]
   simp only [if_neg hC]
   refine ⟨⟨t1.trans r1, t2.trans r2, t3.trans r3, t4.trans r4⟩, ?_, ?_, ?_⟩
   ·show dc v11 = armA c0 nw id dl (dc L)
    rw [t5, r1, r5]; exact (if_pos ha).symm
   ·show dc v12 = N0 c0 nw id dl (dc R)
    rw [t6, r6]; exact (if_pos ha).symm
   ·show (0 : Int) = N1 c0 nw id dl
    exact (if_pos ha).symm
 ·have hC : (0 <= id /\ id < c0) /\ nw < dl -> 2147483648 < IntKind.i64.wrap (dl - nw) := fun ⟨⟨a, b⟩, c⟩ => by
   rw [i64w (by omega) (by omega)]
   by_cases hq : dl <= nw + 2147483648
   ·exact absurd ⟨⟨a, b⟩, c, hq⟩ ha
   ·omega
  refine ⟨?_, ?_⟩
  ·simp (disch := omega) only [Oo, BZ, ewA, ewL, ewE, List.headD, List.tail, ewR, ewB, ewM, ewQ, reduceCtorEq, seval, hSS]
   exact ⟨fun h => by have := hC h.1; omega, fun h => h⟩
  ·simp (disch := omega) only [Oq, BZ, ewA, ewL, ewE, List.headD, List.tail, ewR, ewB, ewM, ewQ, reduceCtorEq, seval, hSS]
   simp only [if_pos hC]
   exact ⟨⟨rfl, rfl, rfl, rfl⟩, (if_neg ha).symm, (if_neg ha).symm, (if_neg ha).symm⟩
theorem GQ (A : RL) (i : Int) : fndR A i = -1 \/ (0 <= fndR A i /\ fndR A i < (A.length : Int)) := by
 rcases Es (isId i) A with h | ⟨X, r, Y, rfl, h1, h2⟩
 ·exact Or.inl (Hf h)
 ·refine Or.inr ?_
  unfold fndR
  rw [Ff h1 h2]
  simp; omega
theorem KV {L id : Int} (hid : IntKind.i64.wrap id = id) (h : okR L) : IntKind.i64.wrap (e100.fn 0 [L, id]) = fndR (dc L) id := UM.2 [L, id] ⟨rfl, hid, trivial⟩ h
theorem lenW {L : Int} (h : okR L) : IntKind.i64.wrap (((dc L).length : Nat) : Int) = ((dc L).length : Int) := by
 have := h.2
 unfold capR at this
 exact i64w (by omega) (by omega)
theorem cellW {L i : Int} (h : okR L) (h0 : 0 <= i) (h1 : i < ((dc L).length : Int)) {j : Nat} (hj : j < 4) : IntKind.i64.wrap (((dc L).getD i.toNat []).getD j 0) = ((dc L).getD i.toNat []).getD j 0 := by
 obtain ⟨a, b, c, d, er, _, ha, hb, hc, hd⟩ := HE h h0 h1
 rw [er]
 have : j = 0 \/ j = 1 \/ j = 2 \/ j = 3 := by omega
 rcases this with rfl | rfl | rfl | rfl
 ·exact ha
 ·exact hb
 ·exact hc
 ·exact hd
theorem Tp : DE.OK Try.prog G0 := Ctx.OK.nil.addF UM.1 rfl
theorem c74ok : c74.OK Try.prog G0 := (Ctx.OK.nil.addF QC.1.nm rfl).addF UM.1 rfl
theorem ok74 : EntryOK Try.prog G0 e74 /\ PostOK e74 Ot := by
 refine c74ok.entryH Ai ev_74 (by kernel_rfl) _ rfl fun xs hf hp => ?_
 obtain ⟨l, hl, hF⟩ := An (l0 := c74.l)
 show ∃ ρ : Nat -> Int, _ /\ QD.tt c74.l.F ρ = true /\ Ot xs (QE.map (E.den c74.l.F ρ))
 rw [hl]
 have F100 := FC (k := 100) rfl (hF e100 (by rfl) (by decide))
 have F101 := FC (k := 100000101) rfl (hF e101.nm (by rfl) (by decide))
 replace hf : fits [kJ, kJ, kJ, kJ, .x, .x, kJ] xs := hf
 obtain ⟨nw, xs0, hx0, hnw, hf0⟩ := Aa hf
 obtain ⟨c0, xs1, hx1, hc0, hf1⟩ := Aa hf0
 obtain ⟨bu, xs2, hx2, hbu, hf2⟩ := Aa hf1
 obtain ⟨mo, xs3, hx3, hmo, hf3⟩ := Aa hf2
 obtain ⟨L, xs4, hx4, hL, hf4⟩ := Aa hf3
 obtain ⟨R, xs5, hx5, hR, hf5⟩ := Aa hf4
 obtain ⟨id, xs6, hx6, hid, hf6⟩ := Aa hf5
 have hxn := Ah hf6
 subst hxn hx6 hx5 hx4 hx3 hx2 hx1 hx0
 simp only [Ab] at hnw hc0 hbu hmo hid
 obtain ⟨ρ, hρ, hd⟩ := solve (F := l.F) 7 Ti (by kernel_rfl) [nw, c0, bu, mo, L, R, id]
 have hDf := AL (by kernel_rfl) hd
 refine ⟨ρ, hρ, ?_⟩
 have r0 : ρ 0 = nw := hρ 0 (by decide)
 have r1 : ρ 1 = c0 := hρ 1 (by decide)
 have r2 : ρ 2 = bu := hρ 2 (by decide)
 have r3 : ρ 3 = mo := hρ 3 (by decide)
 have r4 : ρ 4 = L := hρ 4 (by decide)
 have r5 : ρ 5 = R := hρ 5 (by decide)
 have r6 : ρ 6 = id := hρ 6 (by decide)
 obtain ⟨⟨v1, hv1, hd1, hn1⟩, ⟨v2, hv2, hd2, hn2⟩⟩ := Jj (nmd hd 0 rfl) (nmd hd 1 rfl)
 obtain ⟨⟨v3, hv3, hd3, hn3⟩, ⟨v4, hv4, hd4, hn4⟩⟩ := Jj (nmd hd 2 rfl) (nmd hd 3 rfl)
 obtain ⟨⟨v5, hv5, hd5, hn5⟩, ⟨v6, hv6, hd6, hn6⟩⟩ := Jj (nmd hd 4 rfl) (nmd hd 5 rfl)
 simp only [Ab] at hn1 hn2 hn3 hn4
 simp (disch := omega) only [Ab, Hi, F101, Ent.nm_fn, r0, hnw, r1, hc0, r2, hbu, r3, hmo, r4, r5, r6, hid, hv1, hn1, hv2, hn2, hv3, hn3, hv4, hn4, hv5, hv6, ewA, ewL, ewE, List.headD, List.tail, ewR, ewB, ewM, ewQ, reduceCtorEq, seval] at hd1 hd2 hd3 hd4 hd5 hd6
 have hSS := Jj (Jj (Jj (Jj F100 (Jj F101 r0)) (Jj hnw (Jj r1 hc0))) (Jj (Jj r2 (Jj hbu r3)) (Jj hmo (Jj r4 r5)))) (Jj (Jj (Jj r6 (Jj hid hv1)) (Jj hn1 (Jj hv2 hn2))) (Jj (Jj hv3 (Jj hn3 hv4)) (Jj (Jj hn4 hv5) (Jj hv6 hDf))))
 obtain ⟨p1, p2⟩ := hp
 replace p1 : okR L := p1
 replace p2 : okR R := p2
 have f1 := KV hid p1
 have f2 := KV hid p2
 have y1 : e100.pre [L, id] := p1
 have y2 : e100.pre [R, id] := p2
 have y3 : e101.pre [nw, c0, bu, mo, L, R, id] := ⟨p1, p2⟩
 obtain ⟨⟨r1, r2, r3, r4⟩, r5, r6⟩ := (PostOK.use (ks := [kJ, kJ, kJ, kJ, .x, .x, kJ]) (os := [kJ, kJ, kJ, kJ, .x, .x]) (vs := [v1, v2, v3, v4, v5, v6]) QC.2 rfl rfl ⟨hd1, hd2, hd3, hd4, hd5, hd6, trivial⟩) ⟨(by first | rfl | assumption | exact i64w (by omega) (by omega) | exact u8w (by omega) (by omega)), (by first | rfl | assumption | exact i64w (by omega) (by omega) | exact u8w (by omega) (by omega)), (by first | rfl | assumption | exact i64w (by omega) (by omega) | exact u8w (by omega) (by omega)), (by first | rfl | assumption | exact i64w (by omega) (by omega) | exact u8w (by omega) (by omega)), rfl, rfl, (by first | rfl | assumption | exact i64w (by omega) (by omega) | exact u8w (by omega) (by omega)), trivial⟩ y3
 refine ⟨?_, ?_⟩
 ·simp (disch := omega) only [QD, CN, Ou, CO, ewA, ewL, ewE, List.headD, List.tail, ewR, ewB, ewM, ewQ, reduceCtorEq, seval, hSS, f1, f2]
  exact ⟨fun _ => ⟨⟨y1, fun _ => y2⟩, fun _ => y3⟩, fun a b => ⟨a, b⟩⟩
 ·simp (disch := omega) only [QE, CN, Ou, CO, ewA, ewL, ewE, List.headD, List.tail, ewR, ewB, ewM, ewQ, reduceCtorEq, seval, hSS, f1, f2]
  by_cases hk : 0 <= id /\ id < c0
  ·have hk' : ¬ (0 <= id -> c0 <= id) := by omega
   by_cases hn : fndR (dc L) id < 0 /\ fndR (dc R) id < 0
   ·simp only [if_neg hk', if_pos hn]
    have hc : ¬ caR c0 id (dc L) (dc R) := fun h => h.2 hn
    exact ⟨⟨rfl, rfl, rfl, rfl⟩, (if_neg hc).symm, (if_neg hc).symm, ((if_pos hk).trans (if_pos hn)).symm⟩
   ·simp only [if_neg hk', if_neg hn]
    have hc : caR c0 id (dc L) (dc R) := ⟨hk, hn⟩
    exact ⟨⟨r1, r2, r3, r4⟩, r5.trans (if_pos hc).symm, r6.trans (if_pos hc).symm, ((if_pos hk).trans (if_neg hn)).symm⟩
  ·have hk' : 0 <= id -> c0 <= id := by omega
   simp only [if_pos hk']
   have hc : ¬ caR c0 id (dc L) (dc R) := fun h => hk h.1
   exact ⟨⟨rfl, rfl, rfl, rfl⟩, (if_neg hc).symm, (if_neg hc).symm, (if_neg hk).symm⟩
theorem Xp : EntryOK Try.prog G0 e106 /\ PostOK e106 Pv := by
 refine Tp.entryH Ai YJ (by kernel_rfl) _ rfl fun xs hf hp => ?_
 obtain ⟨l, hl, hF⟩ := An (l0 := DE.l)
 show ∃ ρ : Nat -> Int, _ /\ Ow.tt DE.l.F ρ = true /\ Pv xs (Ox.map (E.den DE.l.F ρ))
 rw [hl]
 have F100 := FC (k := 100) rfl (hF e100 (by rfl) (by decide))
 replace hf : fits [kJ, kJ, kJ, kJ, .x, .x, kJ] xs := hf
 obtain ⟨nw, xs0, hx0, hnw, hf0⟩ := Aa hf
 obtain ⟨c0, xs1, hx1, hc0, hf1⟩ := Aa hf0
 obtain ⟨bu, xs2, hx2, hbu, hf2⟩ := Aa hf1
 obtain ⟨mo, xs3, hx3, hmo, hf3⟩ := Aa hf2
 obtain ⟨L, xs4, hx4, hL, hf4⟩ := Aa hf3
 obtain ⟨R, xs5, hx5, hR, hf5⟩ := Aa hf4
 obtain ⟨id, xs6, hx6, hid, hf6⟩ := Aa hf5
 have hxn := Ah hf6
 subst hxn hx6 hx5 hx4 hx3 hx2 hx1 hx0
 simp only [Ab] at hnw hc0 hbu hmo hid
 obtain ⟨ρ, hρ⟩ : ∃ ρ : Nat -> Int, ∀ i_, i_ < 7 -> ρ i_ = env [nw, c0, bu, mo, L, R, id] i_ := ⟨env [nw, c0, bu, mo, L, R, id], fun _ _ => rfl⟩
 refine ⟨ρ, hρ, ?_⟩
 have r0 : ρ 0 = nw := hρ 0 (by decide)
 have r1 : ρ 1 = c0 := hρ 1 (by decide)
 have r2 : ρ 2 = bu := hρ 2 (by decide)
 have r3 : ρ 3 = mo := hρ 3 (by decide)
 have r4 : ρ 4 = L := hρ 4 (by decide)
 have r5 : ρ 5 = R := hρ 5 (by decide)
 have r6 : ρ 6 = id := hρ 6 (by decide)
 have hSS := Jj (Jj (Jj F100 (Jj r0 hnw)) (Jj r1 (Jj hc0 r2))) (Jj (Jj hbu (Jj r3 hmo)) (Jj (Jj r4 r5) (Jj r6 hid)))
 obtain ⟨p1, p2⟩ := hp
 replace p1 : okR L := p1
 replace p2 : okR R := p2
 have f1 := KV hid p1
 have f2 := KV hid p2
 have y1 : e100.pre [L, id] := p1
 have y2 : e100.pre [R, id] := p2
 refine ⟨?_, ?_⟩
 ·simp (disch := omega) only [Ow, Fl, GN, ewA, ewL, ewE, List.headD, List.tail, ewR, ewB, ewM, ewQ, reduceCtorEq, seval, hSS, f1, f2]
  rw [lenW p1, lenW p2]
  have g1 := GQ (dc L) id
  have g2 := GQ (dc R) id
  exact ⟨⟨y1, fun h => ⟨h, by omega⟩⟩, fun _ => ⟨y2, fun h => ⟨h, by omega⟩⟩⟩
 ·simp (disch := omega) only [Ox, Fl, GN, ewA, ewL, ewE, List.headD, List.tail, ewR, ewB, ewM, ewQ, reduceCtorEq, seval, hSS, f1, f2]
  have g1 := GQ (dc L) id
  have g2 := GQ (dc R) id
  refine ⟨?_, ?_⟩
  ·show (if 0 <= fndR (dc L) id then _ else _) = dlR (dc L) (dc R) id
   unfold dlR
   split
   ·rename_i h; exact cellW p1 h (by omega) (by decide)
   ·split
    ·rename_i h; exact cellW p2 h (by omega) (by decide)
    ·rfl
  ·show b2i (decide (0 <= fndR (dc L) id) || decide (0 <= fndR (dc R) id)) = b2i (decide (isR (dc L) (dc R) id))
   congr 1
   rw [Bool.eq_iff_iff, Bool.or_eq_true, decide_eq_true_eq, decide_eq_true_eq, decide_eq_true_eq]
   exact Iff.rfl
theorem Xq : EntryOK Try.prog G0 e107 /\ PostOK e107 Pw := by
 refine Tp.entryH Ai YK (by kernel_rfl) _ rfl fun xs hf hp => ?_
 obtain ⟨l, hl, hF⟩ := An (l0 := DE.l)
 show ∃ ρ : Nat -> Int, _ /\ Oy.tt DE.l.F ρ = true /\ Pw xs (Oz.map (E.den DE.l.F ρ))
 rw [hl]
 have F100 := FC (k := 100) rfl (hF e100 (by rfl) (by decide))
 replace hf : fits [kJ, kJ, kJ, kJ, .x, .x, kJ] xs := hf
 obtain ⟨nw, xs0, hx0, hnw, hf0⟩ := Aa hf
 obtain ⟨c0, xs1, hx1, hc0, hf1⟩ := Aa hf0
 obtain ⟨bu, xs2, hx2, hbu, hf2⟩ := Aa hf1
 obtain ⟨mo, xs3, hx3, hmo, hf3⟩ := Aa hf2
 obtain ⟨L, xs4, hx4, hL, hf4⟩ := Aa hf3
 obtain ⟨R, xs5, hx5, hR, hf5⟩ := Aa hf4
 obtain ⟨id, xs6, hx6, hid, hf6⟩ := Aa hf5
 have hxn := Ah hf6
 subst hxn hx6 hx5 hx4 hx3 hx2 hx1 hx0
 simp only [Ab] at hnw hc0 hbu hmo hid
 obtain ⟨ρ, hρ⟩ : ∃ ρ : Nat -> Int, ∀ i_, i_ < 7 -> ρ i_ = env [nw, c0, bu, mo, L, R, id] i_ := ⟨env [nw, c0, bu, mo, L, R, id], fun _ _ => rfl⟩
 refine ⟨ρ, hρ, ?_⟩
 have r0 : ρ 0 = nw := hρ 0 (by decide)
 have r1 : ρ 1 = c0 := hρ 1 (by decide)
 have r2 : ρ 2 = bu := hρ 2 (by decide)
 have r3 : ρ 3 = mo := hρ 3 (by decide)
 have r4 : ρ 4 = L := hρ 4 (by decide)
 have r5 : ρ 5 = R := hρ 5 (by decide)
 have r6 : ρ 6 = id := hρ 6 (by decide)
 have hSS := Jj (Jj (Jj F100 (Jj r0 hnw)) (Jj r1 (Jj hc0 r2))) (Jj (Jj hbu (Jj r3 hmo)) (Jj (Jj r4 r5) (Jj r6 hid)))
 obtain ⟨p1, p2⟩ := hp
 replace p1 : okR L := p1
 have f1 := KV hid p1
 have y1 : e100.pre [L, id] := p1
 refine ⟨?_, ?_⟩
 ·simp (disch := omega) only [Oy, GO, GP, ewA, ewL, ewE, List.headD, List.tail, ewR, ewB, ewM, ewQ, reduceCtorEq, seval, hSS, f1]
  rw [lenW p1]
  have g1 := GQ (dc L) id
  exact fun _ => ⟨y1, fun h => ⟨h, by omega⟩⟩
 ·simp (disch := omega) only [Oz, GO, GP, ewA, ewL, ewE, List.headD, List.tail, ewR, ewB, ewM, ewQ, reduceCtorEq, seval, hSS, f1]
  have g1 := GQ (dc L) id
  by_cases hk : 0 <= id /\ id < c0
  ·have hk' : ¬ (0 <= id -> c0 <= id) := by omega
   by_cases hn : fndR (dc L) id < 0
   ·simp only [if_neg hk', if_pos hn]
    have hc : ¬ ((0 <= id /\ id < c0) /\ ¬ fndR (dc L) id < 0) := fun h => h.2 hn
    exact ⟨(if_neg hc).symm, (if_neg hc).symm, ((if_pos hk).trans (if_pos hn)).symm⟩
   ·simp only [if_neg hk', if_neg hn]
    have hc : (0 <= id /\ id < c0) /\ ¬ fndR (dc L) id < 0 := ⟨hk, hn⟩
    exact ⟨(cellW p1 (by omega) (by omega) (by decide)).trans (if_pos hc).symm, (cellW p1 (by omega) (by omega) (by decide)).trans (if_pos hc).symm, ((if_pos hk).trans (if_neg hn)).symm⟩
  ·have hk' : 0 <= id -> c0 <= id := by omega
   simp only [if_pos hk']
   have hc : ¬ ((0 <= id /\ id < c0) /\ ¬ fndR (dc L) id < 0) := fun h => hk h.1
   exact ⟨(if_neg hc).symm, (if_neg hc).symm, (if_neg hk).symm⟩
theorem ok54 : EntryOK Try.prog G0 e54 /\ PostOK e54 Sa := by
 refine cIok.nm.entryH Ai ev_54 (by kernel_rfl) _ rfl fun xs hf hp => ?_
 obtain ⟨l, hl, hF⟩ := An (l0 := cI.nm.l)
 show ∃ ρ : Nat -> Int, _ /\ QH.tt cI.nm.l.F ρ = true /\ Sa xs (QI.map (E.den cI.nm.l.F ρ))
 rw [hl]
 replace hf : fits [kJ, kJ, kJ] xs := hf
 obtain ⟨n, xs0, hx0, hn, hf0⟩ := Aa hf
 obtain ⟨c, xs1, hx1, hc, hf1⟩ := Aa hf0
 obtain ⟨b, xs2, hx2, hb, hf2⟩ := Aa hf1
 have hxn := Ah hf2
 subst hxn hx2 hx1 hx0
 simp only [Ab] at hn hc hb
 obtain ⟨ρ, hρ⟩ : ∃ ρ : Nat -> Int, ∀ i_, i_ < 3 -> ρ i_ = env [n, c, b] i_ := ⟨env [n, c, b], fun _ _ => rfl⟩
 refine ⟨ρ, hρ, ?_⟩
 have r0 : ρ 0 = n := hρ 0 (by decide)
 have r1 : ρ 1 = c := hρ 1 (by decide)
 have r2 : ρ 2 = b := hρ 2 (by decide)
 have hSS := Jj (Jj r0 (Jj hn r1)) (Jj hc (Jj r2 hb))
 replace hp : newW n c b := hp
 have hp' := hp
 obtain ⟨p1, p2, p3, p4⟩ := hp'
 refine ⟨?_, ?_⟩
 ·simp (disch := omega) only [QH, IG, IH, ewA, ewL, ewE, List.headD, List.tail, ewR, ewB, ewM, ewQ, reduceCtorEq, seval, hSS]
  rw [if_neg (by omega), if_neg (by omega)]
 ·simp (disch := omega) only [QI, IG, IH, ewA, ewL, ewE, List.headD, List.tail, ewR, ewB, ewM, ewQ, reduceCtorEq, seval, hSS]
  rw [if_neg (by omega), if_neg (by omega), if_neg (by omega), if_neg (by omega), if_neg (by omega), if_neg (by omega)]
  exact ⟨rfl, rfl, rfl, rfl, Af _, Af _⟩
theorem Xr : Aq Try.prog G0 78 p78 le78 /\ PostOK le78.ent Ov := by
 refine cIok.nm.loopH Ai rfl ⟨_, _, _, Try.func78, rfl, rfl⟩ YI (by kernel_rfl) _ rfl fun xs hf hp φ hφ => ?_
 obtain ⟨l, hl, hS, hF⟩ := Bj lb78 φ muLi (muLi xs) cI.nm.l (by decide)
 show ∃ ρ : Nat -> Int, _ /\ KT.tt (Tabs.F (enH lb78 φ muLi (muLi xs) :: cI.nm.l)) ρ = true /\ Ov xs (KU.map (E.den (Tabs.F (enH lb78 φ muLi (muLi xs) :: cI.nm.l)) ρ))
 rw [hl]
 replace hφ : ∀ ys, fits [kJ, kJ, kJ, kJ, .x, .x, .x, kJ] ys -> lb78.ent.pre ys -> muLi ys < muLi xs -> Ov ys (Am φ ys 0 lb78.ent.oks) := hφ
 have F9078 := FC (k := 9078) rfl hS
 replace hf : fits [kJ, kJ, kJ, kJ, .x, .x, .x, kJ] xs := hf
 obtain ⟨nw, xs0, hx0, hnw, hf0⟩ := Aa hf
 obtain ⟨c0, xs1, hx1, hc0, hf1⟩ := Aa hf0
 obtain ⟨bu, xs2, hx2, hbu, hf2⟩ := Aa hf1
 obtain ⟨mo, xs3, hx3, hmo, hf3⟩ := Aa hf2
 obtain ⟨L, xs4, hx4, hL, hf4⟩ := Aa hf3
 obtain ⟨R, xs5, hx5, hR, hf5⟩ := Aa hf4
 obtain ⟨o, xs6, hx6, ho, hf6⟩ := Aa hf5
 obtain ⟨i, xs7, hx7, hi, hf7⟩ := Aa hf6
 have hxn := Ah hf7
 subst hxn hx7 hx6 hx5 hx4 hx3 hx2 hx1 hx0
 simp only [Ab] at hnw hc0 hbu hmo hi
 obtain ⟨ρ, hρ⟩ : ∃ ρ : Nat -> Int, ∀ i_, i_ < 8 -> ρ i_ = env [nw, c0, bu, mo, L, R, o, i] i_ := ⟨env [nw, c0, bu, mo, L, R, o, i], fun _ _ => rfl⟩
 refine ⟨ρ, hρ, ?_⟩
 have r0 : ρ 0 = nw := hρ 0 (by decide)
 have r1 : ρ 1 = c0 := hρ 1 (by decide)
 have r2 : ρ 2 = bu := hρ 2 (by decide)
 have r3 : ρ 3 = mo := hρ 3 (by decide)
 have r4 : ρ 4 = L := hρ 4 (by decide)
 have r5 : ρ 5 = R := hρ 5 (by decide)
 have r6 : ρ 6 = o := hρ 6 (by decide)
 have r7 : ρ 7 = i := hρ 7 (by decide)
 have hSS := Jj (Jj (Jj F9078 (Jj r0 hnw)) (Jj (Jj r1 hc0) (Jj r2 hbu))) (Jj (Jj r3 (Jj hmo r4)) (Jj (Jj r5 r6) (Jj r7 hi)))
 obtain ⟨p1, p2, p3, p4⟩ := hp
 replace p1 : okR R := p1
 simp only [ewA, ewL, ewE, List.headD, List.tail, seval] at p2 p3 p4
 have hcap := p1.2
 unfold capR at hcap
 by_cases hi : i < ((dc R).length : Int)
 ·obtain ⟨a, b, c, d, er, hdr, ha, hb, hc, hd⟩ := HE p1 p2 hi
  have hl : ((dc o ++ [[a]]).length : Int) = ((dc o).length : Int) + 1 := by simp
  have yp : lb78.ent.pre [nw, c0, bu, mo, L, R, cd (dc o ++ [[a]]), i + 1] := ⟨p1, by show 0 <= i + 1; omega, by show i + 1 <= ((dc R).length : Int); omega, by show ((dc (cd (dc o ++ [[a]]))).length : Int) = i + 1; rw [Af]; omega⟩
  have ym : muLi [nw, c0, bu, mo, L, R, cd (dc o ++ [[a]]), i + 1] < muLi [nw, c0, bu, mo, L, R, o, i] := by show (((dc R).length : Int) - (i + 1)).toNat < (((dc R).length : Int) - i).toNat; omega
  have ih := hφ [nw, c0, bu, mo, L, R, cd (dc o ++ [[a]]), i + 1] ⟨hnw, hc0, hbu, hmo, rfl, rfl, rfl, i64w (by omega) (by omega), trivial⟩ yp ym
  refine ⟨?_, ?_⟩
  ·simp (disch := omega) only [KT, CS, GM, Fk, ewA, ewL, ewE, List.headD, List.tail, ewR, ewB, ewM, ewQ, reduceCtorEq, seval, hSS, hi, er, ha]
   exact ⟨⟨p2, p2, by omega⟩, yp, ym⟩
  ·simp (disch := omega) only [KU, CS, GM, Fk, ewA, ewL, ewE, List.headD, List.tail, ewR, ewB, ewM, ewQ, reduceCtorEq, seval, hSS, hi, er, ha]
   replace ih : dc (φ 0 [nw, c0, bu, mo, L, R, cd (dc o ++ [[a]]), i + 1]) = dc (cd (dc o ++ [[a]])) ++ idsL ((dc R).drop (i + 1).toNat) := ih
   show dc (φ 0 [nw, c0, bu, mo, L, R, cd (dc o ++ [[a]]), i + 1]) = dc o ++ idsL ((dc R).drop i.toNat)
   rw [ih, hdr, Af, List.append_assoc]; rfl
 ·refine ⟨?_, ?_⟩
  ·simp (disch := omega) only [KT, CS, GM, Fk, ewA, ewL, ewE, List.headD, List.tail, ewR, ewB, ewM, ewQ, reduceCtorEq, seval, hSS, hi]
  ·simp (disch := omega) only [KU, CS, GM, Fk, ewA, ewL, ewE, List.headD, List.tail, ewR, ewB, ewM, ewQ, reduceCtorEq, seval, hSS, hi]
   show dc o = dc o ++ idsL ((dc R).drop i.toNat)
   rw [List.drop_of_length_le (by omega)]; exact (List.append_nil _).symm
theorem c78ok : c78.OK Try.prog G0 := Ctx.OK.addL (c := ⟨[], []⟩) Ctx.OK.nil Xr.1 rfl
theorem ok78 : EntryOK Try.prog G0 e78 /\ PostOK e78 R9 := by
 refine c78ok.nm.entryH Ai ev_78 (by kernel_rfl) _ rfl fun xs hf hp => ?_
 obtain ⟨l, hl, hF⟩ := An (l0 := c78n.l)
 show ∃ ρ : Nat -> Int, _ /\ QF.tt c78n.l.F ρ = true /\ R9 xs (QG.map (E.den c78n.l.F ρ))
 rw [hl]
 have F9078 := FC (k := 100009078) rfl (hF le78.nm.ent (by rfl) (by decide))
 replace hf : fits [kJ, kJ, kJ, kJ, .x, .x] xs := hf
 obtain ⟨nw, xs0, hx0, hnw, hf0⟩ := Aa hf
 obtain ⟨c0, xs1, hx1, hc0, hf1⟩ := Aa hf0
 obtain ⟨bu, xs2, hx2, hbu, hf2⟩ := Aa hf1
 obtain ⟨mo, xs3, hx3, hmo, hf3⟩ := Aa hf2
 obtain ⟨L, xs4, hx4, hL, hf4⟩ := Aa hf3
 obtain ⟨R, xs5, hx5, hR, hf5⟩ := Aa hf4
 have hxn := Ah hf5
 subst hxn hx5 hx4 hx3 hx2 hx1 hx0
 simp only [Ab] at hnw hc0 hbu hmo
 obtain ⟨ρ, hρ, hd⟩ := solve (F := l.F) 6 Tj (by kernel_rfl) [nw, c0, bu, mo, L, R]
 have hDf := AL (by kernel_rfl) hd
 refine ⟨ρ, hρ, ?_⟩
 have r0 : ρ 0 = nw := hρ 0 (by decide)
 have r1 : ρ 1 = c0 := hρ 1 (by decide)
 have r2 : ρ 2 = bu := hρ 2 (by decide)
 have r3 : ρ 3 = mo := hρ 3 (by decide)
 have r4 : ρ 4 = L := hρ 4 (by decide)
 have r5 : ρ 5 = R := hρ 5 (by decide)
 obtain ⟨v1, hv1, hd1, hn1⟩ := nmd hd 0 rfl
 simp (disch := omega) only [Ab, F9078, Ent.nm_fn, r0, hnw, r1, hc0, r2, hbu, r3, hmo, r4, r5, hv1, ewA, ewL, ewE, List.headD, List.tail, ewR, ewB, ewM, ewQ, reduceCtorEq, seval] at hd1
 have hSS := Jj (Jj (Jj F9078 (Jj r0 hnw)) (Jj r1 (Jj hc0 r2))) (Jj (Jj hbu (Jj r3 hmo)) (Jj (Jj r4 r5) (Jj hv1 hDf)))
 replace hp : okR R := hp
 have d0 : dc (cd ([] : RL)) = [] := Af _
 have yp : le78.ent.pre [nw, c0, bu, mo, L, R, cd [], 0] := ⟨hp, by show (0 : Int) <= 0; decide, by show (0 : Int) <= ((dc R).length : Int); omega, by show ((dc (cd [])).length : Int) = 0; rw [d0]; rfl⟩
 have q := (PostOK.use (ks := [kJ, kJ, kJ, kJ, .x, .x, .x, kJ]) (os := [.x]) (vs := [v1]) Xr.2 rfl rfl ⟨hd1, trivial⟩) ⟨(by first | rfl | assumption | exact i64w (by omega) (by omega) | exact u8w (by omega) (by omega)), (by first | rfl | assumption | exact i64w (by omega) (by omega) | exact u8w (by omega) (by omega)), (by first | rfl | assumption | exact i64w (by omega) (by omega) | exact u8w (by omega) (by omega)), (by first | rfl | assumption | exact i64w (by omega) (by omega) | exact u8w (by omega) (by omega)), rfl, rfl, rfl, rfl, trivial⟩ yp
 refine ⟨?_, ?_⟩
 ·simp (disch := omega) only [QF, ewA, ewL, ewE, List.headD, List.tail, ewR, ewB, ewM, ewQ, reduceCtorEq, seval, hSS]
  exact yp
 ·simp (disch := omega) only [QG, ewA, ewL, ewE, List.headD, List.tail, ewR, ewB, ewM, ewQ, reduceCtorEq, seval, hSS]
  replace q : dc v1 = dc (cd []) ++ idsL ((dc R).drop 0) := q
  rw [d0, List.nil_append, List.drop_zero] at q
  exact q
def ob90 : Ob := { j := 0, ty := 90, cs := [i64, i64, i64, i64, lsR, lsR] }
def UN (xs ys : List Int) : Prop := env ys 0 = env xs 0 /\ env ys 1 = env xs 1 /\ env ys 2 = env xs 2 /\ env ys 3 = env xs 3
def disR (A : RL) : Prop := A.Pairwise fun a b => a.headD 0 ≠ b.headD 0
def pTa : List Bool := [true,true,true,false,true,false]
def preTa (xs : List Int) : Prop := okR (env xs 4) /\ okR (env xs 5) /\ ((dc (env xs 4)).length : Int) + ((dc (env xs 5)).length : Int) <= capR /\ disR (dc (env xs 4)) /\ 0 <= env xs 0 /\ env xs 6 = ixR (isAt 0 (env xs 0 % 512)) (dc (env xs 4)) 0
def OA (xs ys : List Int) : Prop := UN xs ys /\ dc (env ys 4) = (dc (env xs 4)).filter (fun r => !isAt 0 (env xs 0 % 512) r) /\ dc (env ys 5) = dc (env xs 5) ++ (dc (env xs 4)).filter (isAt 0 (env xs 0 % 512))
def muTa (xs : List Int) : Nat := (dc (env xs 4)).length
def lbTa : LEnt := ⟨⟨9075, 999999, [o90, i64], [ob90], [], .tup [], z0, preTa⟩, [1, 4], [], [4, 5] ++ (List.range 26).map (· + 24), [.ex 0], 98, []⟩
def c75a : Ctx := ⟨[e102, e103], []⟩
def HG : Ctx := c75a.nm
def My : List (Nat × E) := [(640000659211584, (aX 100000103 0 [(vX 4), (aI 0 1 [(vX 4), (vI 6), (.lit .x 0)])])),
 (640000652812096, (aI 100000102 0 [(vI 0), (vI 1), (vI 2), (vI 3), (vX 640000659211584), (aX 0 4 [(aX 0 4 [(aX 0 2 []), (vX 5)]), (aX 0 3 [(aX 0 2 []), (aI 0 1 [(vX 4), (vI 6), (.lit .x 0)]), (aI 0 1 [(vX 4), (vI 6), (.lit .x 1)]), (aI 0 1 [(vX 4), (vI 6), (.lit .x 2)]), (aI 0 1 [(vX 4), (vI 6), (.lit .x 3)])])]), (lI 0), (.dv .rem .i64 (vI 0) 512)]))]
def BE : E := (aX 0 4 [(aX 0 4 [(aX 0 2 []), (vX 5)]), (aX 0 3 [(aX 0 2 []), (aI 0 1 [(vX 4), (vI 6), (.lit .x 0)]), (aI 0 1 [(vX 4), (vI 6), (.lit .x 1)]), (aI 0 1 [(vX 4), (vI 6), (.lit .x 2)]), (aI 0 1 [(vX 4), (vI 6), (.lit .x 3)])])])
def GR : E := (.or (.not (.cmp .geq (vI 6) (lI 0))) (.cmp .geq (vI 6) (lI 0)))
def KW : E := (.and (.and (.or (.not (.cmp .geq (vI 6) (lI 0))) (.and (.and (.and (.cmp .geq (vI 6) (lI 0)) (.cmp .lss (vI 6) (aI 0 0 [(vX 4)]))) (.and (.and (.cmp .leq (aX 0 0 [(aX 0 4 [(aX 0 2 []), (vX 5)])]) (.lit .x 4398046511104)) (.cmp .leq (aX 0 0 [BE]) (.lit .x 4398046511104))) (.and (aB 100000103 1000000 [(vX 4), (aI 0 1 [(vX 4), (vI 6), (.lit .x 0)])]) (dE My 0 1)))) (.and (aB 100000102 1000000 [(vI 0), (vI 1), (vI 2), (vI 3), (vX 640000659211584), BE, (lI 0), (.dv .rem .i64 (vI 0) 512)]) (dE My 1 1)))) (.or (.not (.cmp .geq (vI 6) (lI 0))) (aB 9075 1000000 [(vI 0), (vI 1), (vI 2), (vI 3), (vX 640000659211584), BE, (vI 640000652812096)]))) (.or (.not GR) GR))
def KX : List E := [(.ite (.not (.cmp .geq (vI 6) (lI 0))) (vI 0) (aI 9075 0 [(vI 0), (vI 1), (vI 2), (vI 3), (vX 640000659211584), BE, (vI 640000652812096)])), (.ite (.not (.cmp .geq (vI 6) (lI 0))) (vI 1) (aI 9075 1 [(vI 0), (vI 1), (vI 2), (vI 3), (vX 640000659211584), BE, (vI 640000652812096)])), (.ite (.not (.cmp .geq (vI 6) (lI 0))) (vI 2) (aI 9075 2 [(vI 0), (vI 1), (vI 2), (vI 3), (vX 640000659211584), BE, (vI 640000652812096)])), (.ite (.not (.cmp .geq (vI 6) (lI 0))) (vI 3) (aI 9075 3 [(vI 0), (vI 1), (vI 2), (vI 3), (vX 640000659211584), BE, (vI 640000652812096)])), (.ite (.not (.cmp .geq (vI 6) (lI 0))) (vX 4) (aX 9075 4 [(vI 0), (vI 1), (vI 2), (vI 3), (vX 640000659211584), BE, (vI 640000652812096)])), (.ite (.not (.cmp .geq (vI 6) (lI 0))) (vX 5) (aX 9075 5 [(vI 0), (vI 1), (vI 2), (vI 3), (vX 640000659211584), BE, (vI 640000652812096)]))]
def leTa : LEnt := lbTa.fw (fnL lbTa HG.l KW KX OA muTa)
theorem YM : evL Try.prog G0 (Ad HG.fs) (evFn Try.prog G0 (Ad HG.fs) (ltOf HG.ls) 40 10) 40 (subL HG.ls 75 pTa) leTa (AC Try.prog 75 pTa) = some (KW, KX) := by kernel_rfl
def pTc : List Bool := [true,true,true,true,true,false,false,false,true,false,true,false,true,false]
def ixW (n : Int) (A : RL) (lv : Int) : Int := ixR (isAt lv ((blk lv n + 1) % 512)) A 0
def atG (n : Int) (A : RL) (lv a : Int) : Int := if lv < 1 then a else if 0 <= ixW n A 1 then ixW n A 1 else if 2 <= lv /\ 0 <= ixW n A 2 then ixW n A 2 else if 3 <= lv /\ 0 <= ixW n A 3 then ixW n A 3 else a
def preTc (xs : List Int) : Prop := okR (env xs 4) /\ 0 <= env xs 0 /\ env xs 0 <= 1099511627776 /\ 0 <= env xs 7 /\ env xs 7 <= 3
def OB (xs ys : List Int) : Prop := env ys 0 = atG (env xs 0) (dc (env xs 4)) (env xs 7) (env xs 6)
def muTc (xs : List Int) : Nat := (env xs 7).toNat
def lbTc : LEnt := ⟨⟨9275, 999999, [o90, i64, i64], [], [0, 1, 2], .tup [i64], z0, preTc⟩, [1, 7, 8], [7], [8, 9] ++ (List.range 16).map (· + 54), [.ex 4], 98, []⟩
def c75c : Ctx := ⟨[e102, e104], []⟩
def HH : Ctx := c75c.nm
def Mz : List (Nat × E) := [(640000665609024, (aI 100000104 0 [(vI 7), (vI 0)])),
 (640000652810560, (aI 100000102 0 [(vI 0), (vI 1), (vI 2), (vI 3), (vX 4), (vX 5), (vI 7), (.dv .rem .i64 (.bin .add .i64 (vI 640000665609024) (lI 1)) 512)]))]
def GS : E := (.ite (.cmp .geq (vI 640000652810560) (lI 0)) (vI 640000652810560) (vI 6))
def KY : E := (.and (.or (.not (.cmp .geq (vI 7) (lI 1))) (.and (.and (aB 100000104 1000000 [(vI 7), (vI 0)]) (dE Mz 0 1)) (.and (aB 100000102 1000000 [(vI 0), (vI 1), (vI 2), (vI 3), (vX 4), (vX 5), (vI 7), (.dv .rem .i64 (.bin .add .i64 (vI 640000665609024) (lI 1)) 512)]) (dE Mz 1 1)))) (.or (.not (.cmp .geq (vI 7) (lI 1))) (aB 9275 1000000 [(vI 0), (vI 1), (vI 2), (vI 3), (vX 4), (vX 5), GS, (.bin .sub .i64 (vI 7) (lI 1))])))
def KZ : List E := [(.ite (.not (.cmp .geq (vI 7) (lI 1))) (vI 6) (aI 9275 0 [(vI 0), (vI 1), (vI 2), (vI 3), (vX 4), (vX 5), GS, (.bin .sub .i64 (vI 7) (lI 1))]))]
def leTc : LEnt := lbTc.fw (fnL lbTc HH.l KY KZ OB muTc)
theorem YN : evL Try.prog G0 (Ad HH.fs) (evFn Try.prog G0 (Ad HH.fs) (ltOf HH.ls) 40 10) 40 (subL HH.ls 75 pTc) leTc (AC Try.prog 75 pTc) = some (KY, KZ) := by kernel_rfl
def pTb : List Bool := [true,true,true,true,true,false,false]
def preTb (xs : List Int) : Prop := (∃ S T le w, RFW (env xs 0) (env xs 2) le S T w (dc (env xs 4)) (dc (env xs 5))) /\ okR (env xs 4) /\ (0 <= env xs 6 /\ env xs 6 <= env xs 2 /\ env xs 2 <= 4096) /\ 0 <= env xs 0 /\ env xs 0 <= 1099511627776
def OC (xs ys : List Int) : Prop := UN xs ys /\ dc (env ys 4) = (mvA (env xs 0) (env xs 2 - env xs 6).toNat (dc (env xs 4))).1 /\ dc (env ys 5) = dc (env xs 5) /\ env ys 6 = env xs 6 + (mvA (env xs 0) (env xs 2 - env xs 6).toNat (dc (env xs 4))).2
def muTb (xs : List Int) : Nat := (env xs 2 - env xs 6).toNat
def lbTb : LEnt := ⟨⟨9175, 999999, [o90, i64], [ob90], [], .tup [i64], z0, preTb⟩, [1, 6], [6], [7, 8, 9, 10] ++ (List.range 41).map (· + 50), [.ex 2], 98, []⟩
def c75b : Ctx := ⟨[e103, e105], [(75, pTc, leTc)]⟩
def HI : Ctx := c75b.nm
def Fm : List E := [(vI 0), (vI 1), (vI 2), (vI 3), (vX 640000659206976), (vX 5), (aI 0 1 [(vX 4), (vI 640059360006464), (.lit .x 0)]), (aI 0 1 [(vX 4), (vI 640059360006464), (.lit .x 1)])]
def JC : List (Nat × E) := [(640059360006464, (aI 100009275 0 [(vI 0), (vI 1), (vI 2), (vI 3), (vX 4), (vX 5), (lI (-1)), (lI 3)])),
 (640000659206976, (aX 100000103 0 [(vX 4), (aI 0 1 [(vX 4), (vI 640059360006464), (.lit .x 0)])])),
 (640000672007488, (aI 100000105 0 Fm)),
 (640000672007489, (aI 100000105 1 Fm)),
 (640000672007490, (aI 100000105 2 Fm)),
 (640000672007491, (aI 100000105 3 Fm)),
 (640000672007492, (aX 100000105 4 Fm)),
 (640000672007493, (aX 100000105 5 Fm))]
def Et : E := (aI 0 1 [(vX 4), (vI 640059360006464), (.lit .x 0)])
def Eu : E := (.and (.cmp .lss (vI 6) (vI 2)) (.not (.cmp .lss (vI 640059360006464) (lI 0))))
def A8 : E := (.or (.not (.cmp .lss (vI 6) (vI 2))) (.and (.cmp .lss (vI 6) (vI 2)) (.cmp .lss (vI 640059360006464) (lI 0))))
def II : E := (.and (.and (.or (.not (.cmp .lss (vI 6) (vI 2))) (.and (.and (aB 100009275 1000000 [(vI 0), (vI 1), (vI 2), (vI 3), (vX 4), (vX 5), (lI (-1)), (lI 3)]) (dE JC 0 1)) (.or (.cmp .lss (vI 640059360006464) (lI 0)) (.and (.and (.cmp .geq (vI 640059360006464) (lI 0)) (.cmp .lss (vI 640059360006464) (aI 0 0 [(vX 4)]))) (.and (.and (aB 100000103 1000000 [(vX 4), Et]) (dE JC 1 1)) (.and (aB 100000105 1000000 [(vI 0), (vI 1), (vI 2), (vI 3), (vX 640000659206976), (vX 5), Et, (aI 0 1 [(vX 4), (vI 640059360006464), (.lit .x 1)])]) (dE JC 2 6))))))) (.or (.not Eu) (aB 9175 1000000 [(vI 640000672007488), (vI 640000672007489), (vI 640000672007490), (vI 640000672007491), (vX 640000672007492), (vX 640000672007493), (.bin .add .i64 (vI 6) (lI 1))]))) (.or (.not (.or A8 Eu)) (.or A8 (.not A8))))
def IJ : List E := [(.ite A8 (vI 0) (aI 9175 0 [(vI 640000672007488), (vI 640000672007489), (vI 640000672007490), (vI 640000672007491), (vX 640000672007492), (vX 640000672007493), (.bin .add .i64 (vI 6) (lI 1))])), (.ite A8 (vI 1) (aI 9175 1 [(vI 640000672007488), (vI 640000672007489), (vI 640000672007490), (vI 640000672007491), (vX 640000672007492), (vX 640000672007493), (.bin .add .i64 (vI 6) (lI 1))])), (.ite A8 (vI 2) (aI 9175 2 [(vI 640000672007488), (vI 640000672007489), (vI 640000672007490), (vI 640000672007491), (vX 640000672007492), (vX 640000672007493), (.bin .add .i64 (vI 6) (lI 1))])), (.ite A8 (vI 3) (aI 9175 3 [(vI 640000672007488), (vI 640000672007489), (vI 640000672007490), (vI 640000672007491), (vX 640000672007492), (vX 640000672007493), (.bin .add .i64 (vI 6) (lI 1))])), (.ite A8 (vX 4) (aX 9175 4 [(vI 640000672007488), (vI 640000672007489), (vI 640000672007490), (vI 640000672007491), (vX 640000672007492), (vX 640000672007493), (.bin .add .i64 (vI 6) (lI 1))])), (.ite A8 (vX 5) (aX 9175 5 [(vI 640000672007488), (vI 640000672007489), (vI 640000672007490), (vI 640000672007491), (vX 640000672007492), (vX 640000672007493), (.bin .add .i64 (vI 6) (lI 1))])), (.ite A8 (vI 6) (aI 9175 6 [(vI 640000672007488), (vI 640000672007489), (vI 640000672007490), (vI 640000672007491), (vX 640000672007492), (vX 640000672007493), (.bin .add .i64 (vI 6) (lI 1))]))]
def leTb : LEnt := lbTb.fw (fnL lbTb HI.l II IJ OC muTb)
theorem YO : evL Try.prog G0 (Ad HI.fs) (evFn Try.prog G0 (Ad HI.fs) (ltOf HI.ls) 40 10) 40 (subL HI.ls 75 pTb) leTb (AC Try.prog 75 pTb) = some (II, IJ) := by kernel_rfl
def pre75 (xs : List Int) : Prop := (∃ S le T, RV S (env xs 0) (env xs 2) le (env xs 3) T (env xs 1) (dc (env xs 4)) (dc (env xs 5))) /\ okR (env xs 4) /\ okR (env xs 5) /\ env xs 3 + env xs 2 <= 1125899906842624
def OD (xs ys : List Int) : Prop := (env ys 0 = nowT (env xs 0) /\ env ys 1 = env xs 1 /\ env ys 2 = env xs 2 /\ env ys 3 = env xs 3 + tkM (env xs 0) (env xs 2) (dc (env xs 4))) /\ dc (env ys 4) = tkA (env xs 0) (env xs 2) (dc (env xs 4)) /\ dc (env ys 5) = tkB (env xs 0) (dc (env xs 4)) (dc (env xs 5)) /\ env ys 6 = tkM (env xs 0) (env xs 2) (dc (env xs 4))
def b75 : Ent := ⟨75, 75, [rwS], [], [0, 1], .tup [rwS, i64], z0, pre75⟩
def c75 : Ctx := ⟨[e102], [(75, pTa, leTa), (75, pTb, leTb)]⟩
def c75n : Ctx := c75.nm
def Hj : List E := [(.bin .add .i64 (vI 0) (lI 1)), (vI 1), (vI 2), (vI 3), (vX 4), (vX 5), (vI 640000652801152)]
def FU : List E := [(vI 640058080001152), (vI 640058080001153), (vI 640058080001154), (vI 640058080001155), (vX 640058080001156), (vX 640058080001157), (lI 0)]
def LM : List (Nat × E) := [(640000652801152, (aI 100000102 0 [(.bin .add .i64 (vI 0) (lI 1)), (vI 1), (vI 2), (vI 3), (vX 4), (vX 5), (lI 0), (.dv .rem .i64 (.bin .add .i64 (vI 0) (lI 1)) 512)])),
 (640058080001152, (aI 100009075 0 Hj)),
 (640058080001153, (aI 100009075 1 Hj)),
 (640058080001154, (aI 100009075 2 Hj)),
 (640058080001155, (aI 100009075 3 Hj)),
 (640058080001156, (aX 100009075 4 Hj)),
 (640058080001157, (aX 100009075 5 Hj)),
 (640058720001280, (aI 100009175 0 FU)),
 (640058720001281, (aI 100009175 1 FU)),
 (640058720001282, (aI 100009175 2 FU)),
 (640058720001283, (aI 100009175 3 FU)),
 (640058720001284, (aX 100009175 4 FU)),
 (640058720001285, (aX 100009175 5 FU)),
 (640058720001286, (aI 100009175 6 FU))]
def OE : E := (.and (.or (.cmp .eql (vI 0) (lI 1099511627776)) (.and (.and (.and (aB 100000102 1000000 [(.bin .add .i64 (vI 0) (lI 1)), (vI 1), (vI 2), (vI 3), (vX 4), (vX 5), (lI 0), (.dv .rem .i64 (.bin .add .i64 (vI 0) (lI 1)) 512)]) (dE LM 0 1)) (.and (aB 100009075 1000000 [(.bin .add .i64 (vI 0) (lI 1)), (vI 1), (vI 2), (vI 3), (vX 4), (vX 5), (vI 640000652801152)]) (dE LM 1 6))) (.and (aB 100009175 1000000 [(vI 640058080001152), (vI 640058080001153), (vI 640058080001154), (vI 640058080001155), (vX 640058080001156), (vX 640058080001157), (lI 0)]) (dE LM 7 7)))) (.or (.cmp .eql (vI 0) (lI 1099511627776)) (.not (.cmp .eql (vI 0) (lI 1099511627776)))))
def OG : List E := [(.ite (.cmp .eql (vI 0) (lI 1099511627776)) (vI 0) (vI 640058720001280)), (.ite (.cmp .eql (vI 0) (lI 1099511627776)) (vI 1) (vI 640058720001281)), (.ite (.cmp .eql (vI 0) (lI 1099511627776)) (vI 2) (vI 640058720001282)), (.ite (.cmp .eql (vI 0) (lI 1099511627776)) (vI 3) (.bin .add .i64 (vI 640058720001283) (vI 640058720001286))), (.ite (.cmp .eql (vI 0) (lI 1099511627776)) (vX 4) (vX 640058720001284)), (.ite (.cmp .eql (vI 0) (lI 1099511627776)) (vX 5) (vX 640058720001285)), (.ite (.cmp .eql (vI 0) (lI 1099511627776)) (lI 0) (vI 640058720001286))]
def e75 : Ent := b75.fw (fnR c75n.l.F b75.np OE OG OD)
theorem ev_75 : evE Try.prog G0 (Ad c75n.fs) (ltOf c75n.ls) 40 10 e75 = some (OE, OG) := by kernel_rfl
def p76 : List Bool := [true,true,true,false,false]
def pre76 (xs : List Int) : Prop := okR (env xs 5)
def preTe (xs : List Int) : Prop := okR (env xs 6) /\ 0 <= env xs 0 /\ ((dc (env xs 7)).length : Int) + ((dc (env xs 6)).length : Int) <= capR /\ ((dc (env xs 7)).length : Int) <= env xs 0
def LN (xs : List Int) : Nat := (env xs 0 - ((dc (env xs 7)).length : Int)).toNat
def OH (xs ys : List Int) : Prop := (env ys 0 = env xs 1 /\ env ys 1 = env xs 2 /\ env ys 2 = env xs 3 /\ env ys 3 = env xs 4) /\ env ys 4 = env xs 5 /\ dc (env ys 5) = (dc (env xs 6)).drop (LN xs) /\ dc (env ys 6) = dc (env xs 7) ++ idsL ((dc (env xs 6)).take (LN xs))
def muTe (xs : List Int) : Nat := (dc (env xs 6)).length
def lb76 : LEnt := ⟨⟨9076, 999999, [i64, o90, lio], [ob90], [], .tup [lio], z0, preTe⟩, [1, 2, 7], [7], (List.range 22).map (· + 11), [.ex 0], 35, []⟩
def Fn : E := (.and (.cmp .lss (aI 0 0 [(vX 7)]) (vI 0)) (.cmp .gtr (aI 0 0 [(vX 6)]) (lI 0)))
def A9 : E := (.not Fn)
def BF : E := (aX 0 4 [(vX 7), (aX 0 3 [(aX 0 2 []), (aI 0 1 [(vX 6), (lI 0), (.lit .x 0)])])])
def BS : E := (aX 0 5 [(vX 6), (lI 1), (aI 0 0 [(vX 6)])])
def Fo : E := (.or A9 Fn)
def K0 : E := (.and (.and (.or A9 (.and (.and (.cmp .lss (lI 0) (aI 0 0 [(vX 6)])) (.and (.cmp .lss (lI 0) (aI 0 0 [(vX 6)])) (.cmp .leq (aX 0 0 [BF]) (.lit .x 17592186044416)))) (.cmp .leq (lI 1) (aI 0 0 [(vX 6)])))) (.or A9 (aB 9076 1000000 [(vI 0), (vI 1), (vI 2), (vI 3), (vI 4), (vX 5), BS, BF]))) (.or (.not Fo) (.and Fo (.and Fo (.ite A9 A9 Fn)))))
def K1 : List E := [(.ite A9 (vI 1) (aI 9076 0 [(vI 0), (vI 1), (vI 2), (vI 3), (vI 4), (vX 5), BS, BF])), (.ite A9 (vI 2) (aI 9076 1 [(vI 0), (vI 1), (vI 2), (vI 3), (vI 4), (vX 5), BS, BF])), (.ite A9 (vI 3) (aI 9076 2 [(vI 0), (vI 1), (vI 2), (vI 3), (vI 4), (vX 5), BS, BF])), (.ite A9 (vI 4) (aI 9076 3 [(vI 0), (vI 1), (vI 2), (vI 3), (vI 4), (vX 5), BS, BF])), (.ite A9 (vX 5) (aX 9076 4 [(vI 0), (vI 1), (vI 2), (vI 3), (vI 4), (vX 5), BS, BF])), (.ite A9 (vX 6) (aX 9076 5 [(vI 0), (vI 1), (vI 2), (vI 3), (vI 4), (vX 5), BS, BF])), (.ite A9 (vX 7) (aX 9076 6 [(vI 0), (vI 1), (vI 2), (vI 3), (vI 4), (vX 5), BS, BF]))]
def le76 : LEnt := lb76.fw (fnL lb76 cI.nm.l K0 K1 OH muTe)
theorem YP : evL Try.prog G0 (Ad cI.nm.fs) (evFn Try.prog G0 (Ad cI.nm.fs) (ltOf cI.nm.ls) 40 10) 40 (subL cI.nm.ls 76 p76) le76 (AC Try.prog 76 p76) = some (K0, K1) := by kernel_rfl
def OI (xs ys : List Int) : Prop := UN xs ys /\ env ys 4 = env xs 4 /\ dc (env ys 5) = (dc (env xs 5)).drop (env xs 6).toNat /\ dc (env ys 6) = idsL ((dc (env xs 5)).take (env xs 6).toNat) /\ env ys 7 = if env xs 6 < 0 then 2 else 0
def b76 : Ent := ⟨76, 76, [rwS, i64], [], [0, 1], .tup [rwS, lio, i64], z0, pre76⟩
def c76 : Ctx := ⟨[], [(76, p76, le76)]⟩
def c76n : Ctx := c76.nm
def FV : List E := [(vI 6), (vI 0), (vI 1), (vI 2), (vI 3), (vX 4), (vX 5), (aX 0 2 [])]
def Tq : List (Nat × E) := [(640058086401152, (aI 100009076 0 FV)),
 (640058086401153, (aI 100009076 1 FV)),
 (640058086401154, (aI 100009076 2 FV)),
 (640058086401155, (aI 100009076 3 FV)),
 (640058086401156, (aX 100009076 4 FV)),
 (640058086401157, (aX 100009076 5 FV)),
 (640058086401158, (aX 100009076 6 FV))]
def OJ : E := (.and (.or (.cmp .lss (vI 6) (lI 0)) (.and (aB 100009076 1000000 [(vI 6), (vI 0), (vI 1), (vI 2), (vI 3), (vX 4), (vX 5), (aX 0 2 [])]) (dE Tq 0 7))) (.or (.cmp .lss (vI 6) (lI 0)) (.not (.cmp .lss (vI 6) (lI 0)))))
def OL : List E := [(.ite (.cmp .lss (vI 6) (lI 0)) (vI 0) (vI 640058086401152)), (.ite (.cmp .lss (vI 6) (lI 0)) (vI 1) (vI 640058086401153)), (.ite (.cmp .lss (vI 6) (lI 0)) (vI 2) (vI 640058086401154)), (.ite (.cmp .lss (vI 6) (lI 0)) (vI 3) (vI 640058086401155)), (.ite (.cmp .lss (vI 6) (lI 0)) (vX 4) (vX 640058086401156)), (.ite (.cmp .lss (vI 6) (lI 0)) (vX 5) (vX 640058086401157)), (.ite (.cmp .lss (vI 6) (lI 0)) (aX 0 2 []) (vX 640058086401158)), (.ite (.cmp .lss (vI 6) (lI 0)) (lI 2) (lI 0))]
def e76 : Ent := b76.fw (fnR c76n.l.F b76.np OJ OL OI)
theorem ev_76 : evE Try.prog G0 (Ad c76n.fs) (ltOf c76n.ls) 40 10 e76 = some (OJ, OL) := by kernel_rfl
theorem X9 {p : List Int -> Bool} {A : RL} (hd : disR A) (h : 0 <= ixR p A 0) :
 ixR p A 0 < (A.length : Int) /\ (wiR A ((A.getD (ixR p A 0).toNat []).headD 0)).length + 1 = A.length /\ A.filter p = A.getD (ixR p A 0).toNat [] :: (wiR A ((A.getD (ixR p A 0).toNat []).headD 0)).filter p /\
  A.filter (fun r => !p r) = (wiR A ((A.getD (ixR p A 0).toNat []).headD 0)).filter (fun r => !p r) /\ disR (wiR A ((A.getD (ixR p A 0).toNat []).headD 0)) := by
 rcases Es p A with hn | ⟨X, r, Y, rfl, h1, h2⟩
 ·rw [Hf hn] at h; omega
 ·have e0 : ixR p (X ++ r :: Y) 0 = X.length := by rw [Ff h1 h2]; omega
  rw [e0, Int.toNat_natCast]
  have e1 : (X ++ r :: Y).getD X.length [] = r := by simp [List.getD]
  rw [e1]
  unfold disR at hd ⊢
  rw [List.pairwise_append, List.pairwise_cons] at hd
  obtain ⟨d1, ⟨d2, d3⟩, d4⟩ := hd
  have e2 : wiR (X ++ r :: Y) (r.headD 0) = X ++ Y := by
   unfold wiR
   rw [List.filter_append, List.filter_cons_of_neg (by simp)]
   congr 1
   ·exact List.filter_eq_self.2 fun x hx => decide_eq_true (d4 x hx r (List.mem_cons_self ..))
   ·exact List.filter_eq_self.2 fun x hx => decide_eq_true fun e => d2 x hx e.symm
  rw [e2]
  refine ⟨by simp; omega, by simp; omega, ?_, ?_, ?_⟩
  ·rw [List.filter_append, List.filter_append, List.filter_cons_of_pos h2, List.filter_eq_nil_iff.2 (fun x hx => by rw [h1 x hx]; decide)]; rfl
  ·rw [List.filter_append, List.filter_append, List.filter_cons_of_neg (by simp [h2])]
  ·rw [List.pairwise_append]
   exact ⟨d1, d3, fun x hx y hy => d4 x hx y (List.mem_cons_of_mem _ hy)⟩
theorem Ya {p : List Int -> Bool} {A : RL} (h : ¬ 0 <= ixR p A 0) : A.filter p = [] /\ A.filter (fun r => !p r) = A := by
 rcases Es p A with hn | ⟨X, r, Y, rfl, h1, h2⟩
 ·exact ⟨List.filter_eq_nil_iff.2 fun x hx => by rw [hn x hx]; decide, List.filter_eq_self.2 fun x hx => by rw [hn x hx]; rfl⟩
 ·rw [Ff h1 h2] at h; omega
theorem OM {c : Int} {l : RL} (e : dc c = l) (h1 : rowsOK k4 l) (h2 : (l.length : Int) <= capR) : okR c := by unfold okR; rw [e]; exact ⟨h1, h2⟩
theorem YQ : c75a.OK Try.prog G0 := (Ctx.OK.nil.addF JB.1 rfl).addF LJ.1 rfl
theorem okTa : Aq Try.prog G0 75 pTa leTa /\ PostOK leTa.ent OA := by
 refine YQ.nm.loopH Ai rfl ⟨_, _, _, Try.func75, rfl, rfl⟩ YM (by kernel_rfl) _ rfl fun xs hf hp φ hφ => ?_
 obtain ⟨l, hl, hS, hF⟩ := Bj lbTa φ muTa (muTa xs) HG.l (by decide)
 show ∃ ρ : Nat -> Int, _ /\ KW.tt (Tabs.F (enH lbTa φ muTa (muTa xs) :: HG.l)) ρ = true /\ OA xs (KX.map (E.den (Tabs.F (enH lbTa φ muTa (muTa xs) :: HG.l)) ρ))
 rw [hl]
 replace hφ : ∀ ys, fits [kJ, kJ, kJ, kJ, .x, .x, kJ] ys -> lbTa.ent.pre ys -> muTa ys < muTa xs -> OA ys (Am φ ys 0 lbTa.ent.oks) := hφ
 have F9075 := FC (k := 9075) rfl hS
 have F102 := FC (k := 100000102) rfl (hF e102.nm (by rfl) (by decide) (by decide))
 have F103 := FC (k := 100000103) rfl (hF e103.nm (by rfl) (by decide) (by decide))
 replace hf : fits [kJ, kJ, kJ, kJ, .x, .x, kJ] xs := hf
 obtain ⟨nw, xs0, hx0, hnw, hf0⟩ := Aa hf
 obtain ⟨c0, xs1, hx1, hc0, hf1⟩ := Aa hf0
 obtain ⟨bu, xs2, hx2, hbu, hf2⟩ := Aa hf1
 obtain ⟨mo, xs3, hx3, hmo, hf3⟩ := Aa hf2
 obtain ⟨L, xs4, hx4, hL, hf4⟩ := Aa hf3
 obtain ⟨R, xs5, hx5, hR, hf5⟩ := Aa hf4
 obtain ⟨a, xs6, hx6, ha, hf6⟩ := Aa hf5
 have hxn := Ah hf6
 subst hxn hx6 hx5 hx4 hx3 hx2 hx1 hx0
 simp only [Ab] at hnw hc0 hbu hmo ha
 obtain ⟨ρ, hρ, hd⟩ := solve (F := l.F) 7 My (by kernel_rfl) [nw, c0, bu, mo, L, R, a]
 have hDf := AL (by kernel_rfl) hd
 refine ⟨ρ, hρ, ?_⟩
 have r0 : ρ 0 = nw := hρ 0 (by decide)
 have r1 : ρ 1 = c0 := hρ 1 (by decide)
 have r2 : ρ 2 = bu := hρ 2 (by decide)
 have r3 : ρ 3 = mo := hρ 3 (by decide)
 have r4 : ρ 4 = L := hρ 4 (by decide)
 have r5 : ρ 5 = R := hρ 5 (by decide)
 have r6 : ρ 6 = a := hρ 6 (by decide)
 obtain ⟨⟨v1, hv1, hd1, hn1⟩, ⟨v2, hv2, hd2, hn2⟩⟩ := Jj (nmd hd 0 rfl) (nmd hd 1 rfl)
 simp only [Ab] at hn2
 simp (disch := omega) only [Ab, F102, F103, Ent.nm_fn, r0, hnw, r1, hc0, r2, hbu, r3, hmo, r4, r5, r6, ha, hv1, hv2, hn2, ewA, ewL, ewE, List.headD, List.tail, ewR, ewB, ewM, ewQ, reduceCtorEq, seval] at hd1 hd2
 have hSS := Jj (Jj (Jj (Jj F9075 F102) (Jj F103 r0)) (Jj (Jj hnw r1) (Jj hc0 (Jj r2 hbu)))) (Jj (Jj (Jj r3 hmo) (Jj r4 (Jj r5 r6))) (Jj (Jj ha hv1) (Jj hv2 (Jj hn2 hDf))))
 obtain ⟨p1, p2, p3, p4, p5, p6⟩ := hp
 replace p1 : okR L := p1
 replace p2 : okR R := p2
 replace p4 : disR (dc L) := p4
 replace p6 : a = ixR (isAt 0 (nw % 512)) (dc L) 0 := p6
 simp only [ewA, ewL, ewE, List.headD, List.tail, seval] at p3 p5
 unfold capR at p3
 have tm : nw.tmod 512 = nw % 512 := Int.tmod_eq_emod_of_nonneg p5
 have wm : IntKind.i64.wrap (nw % 512) = nw % 512 := i64w (by omega) (by omega)
 by_cases hn : 0 <= a
 ·have ha' := hn
  rw [p6] at ha'
  obtain ⟨s1, s2, s3, s4, s5⟩ := X9 p4 ha'
  rw [<- p6] at s1 s2 s3 s4 s5
  obtain ⟨x, y, z, w, er, _, hx, hy, hz, hw⟩ := HE p1 hn s1
  rw [er] at s2 s3 s4 s5
  replace s2 : (wiR (dc L) x).length + 1 = (dc L).length := s2
  replace s3 : (dc L).filter (isAt 0 (nw % 512)) = [x, y, z, w] :: (wiR (dc L) x).filter (isAt 0 (nw % 512)) := s3
  replace s4 : (dc L).filter (fun r => !isAt 0 (nw % 512) r) = (wiR (dc L) x).filter (fun r => !isAt 0 (nw % 512) r) := s4
  replace s5 : disR (wiR (dc L) x) := s5
  have y1 : e103.pre [L, x] := p1
  simp (disch := omega) only [ewA, ewL, ewE, List.headD, List.tail, ewR, ewB, ewM, ewQ, reduceCtorEq, seval, er, hx, hy, hz, hw, tm, wm] at hd1 hd2
  obtain ⟨B', hB'⟩ : ∃ B', B' = cd (dc R ++ [[x, y, z, w]]) := ⟨_, rfl⟩
  rw [<- hB'] at hd2
  have dB : dc B' = dc R ++ [[x, y, z, w]] := by rw [hB']; exact Af _
  have q1 : dc v1 = wiR (dc L) x := (PostOK.use (ks := [.x, kJ]) (os := [.x]) (vs := [v1]) JB.2 rfl rfl ⟨hd1, trivial⟩) ⟨rfl, hx, trivial⟩ y1
  obtain ⟨o1, o2⟩ := Sb p1 q1
  have lB : ((dc R ++ [[x, y, z, w]]).length : Int) = ((dc R).length : Int) + 1 := by simp
  have l1 : (dc v1).length + 1 = (dc L).length := by rw [q1]; exact s2
  have oB : okR B' := OM dB (fun r hr => by
   rcases List.mem_append.1 hr with hr | hr
   ·exact p2.1 r hr
   ·simp only [List.mem_singleton] at hr
    subst hr
    exact ⟨hx, hy, hz, hw, trivial⟩) (by rw [lB]; unfold capR; omega)
  have y2 : e102.pre [nw, c0, bu, mo, v1, B', 0, nw % 512] := o1
  have q2 : v2 = ixR (isAt 0 (nw % 512)) (dc v1) 0 := (PostOK.use (ks := [kJ, kJ, kJ, kJ, .x, .x, kJ, kJ]) (os := [kJ]) (vs := [v2]) LJ.2 rfl rfl ⟨hd2, trivial⟩) ⟨hnw, hc0, hbu, hmo, rfl, rfl, rfl, wm, trivial⟩ y2
  have yp : lbTa.ent.pre [nw, c0, bu, mo, v1, B', v2] := ⟨o1, oB, by show ((dc v1).length : Int) + ((dc B').length : Int) <= capR; rw [dB, lB]; unfold capR; omega, by show disR (dc v1); rw [q1]; exact s5, p5, q2⟩
  have ym : muTa [nw, c0, bu, mo, v1, B', v2] < muTa [nw, c0, bu, mo, L, R, a] := by show (dc v1).length < (dc L).length; omega
  obtain ⟨⟨i1, i2, i3, i4⟩, i5, i6⟩ := hφ [nw, c0, bu, mo, v1, B', v2] ⟨hnw, hc0, hbu, hmo, rfl, rfl, hn2, trivial⟩ yp ym
  refine ⟨?_, ?_⟩
  ·simp (disch := omega) only [KW, BE, GR, ewA, ewL, ewE, List.headD, List.tail, ewR, ewB, ewM, ewQ, reduceCtorEq, seval, hSS, hn, er, hx, hy, hz, hw, tm, wm, <- hB']
   exact ⟨⟨⟨s1, ⟨by omega, by rw [dB]; omega⟩, y1⟩, y2⟩, yp, ym⟩
  ·simp (disch := omega) only [KX, BE, GR, ewA, ewL, ewE, List.headD, List.tail, ewR, ewB, ewM, ewQ, reduceCtorEq, seval, hSS, hn, er, hx, hy, hz, hw, tm, wm, <- hB']
   refine ⟨⟨i1, i2, i3, i4⟩, ?_, ?_⟩
   ·refine Eq.trans i5 ?_
    show (dc v1).filter (fun r => !isAt 0 (nw % 512) r) = (dc L).filter (fun r => !isAt 0 (nw % 512) r)
    rw [q1, s4]
   ·refine Eq.trans i6 ?_
    show dc B' ++ (dc v1).filter (isAt 0 (nw % 512)) = dc R ++ (dc L).filter (isAt 0 (nw % 512))
    rw [q1, s3, dB, List.append_assoc]; rfl
 ·refine ⟨?_, ?_⟩
  ·simp (disch := omega) only [KW, BE, GR, ewA, ewL, ewE, List.headD, List.tail, ewR, ewB, ewM, ewQ, reduceCtorEq, seval, hSS, hn]
  ·simp (disch := omega) only [KX, BE, GR, ewA, ewL, ewE, List.headD, List.tail, ewR, ewB, ewM, ewQ, reduceCtorEq, seval, hSS, hn]
   obtain ⟨n1, n2⟩ := Ya (p := isAt 0 (nw % 512)) (A := dc L) (by rw [<- p6]; exact hn)
   refine ⟨⟨rfl, rfl, rfl, rfl⟩, n2.symm, ?_⟩
   show dc R = dc R ++ (dc L).filter (isAt 0 (nw % 512))
   rw [n1]; exact (List.append_nil _).symm
theorem W5 {n : Int} {A : RL} {lv a : Int} (h : 1 <= lv /\ lv <= 3) : atG n A (lv - 1) (if 0 <= ixW n A lv then ixW n A lv else a) = atG n A lv a := by
 unfold atG
 have : lv = 1 \/ lv = 2 \/ lv = 3 := by omega
 rcases this with rfl | rfl | rfl
 ·simp
 ·by_cases h1 : 0 <= ixW n A 1 <;> by_cases h2 : 0 <= ixW n A 2 <;> simp [h1, h2]
 ·by_cases h1 : 0 <= ixW n A 1 <;> by_cases h2 : 0 <= ixW n A 2 <;> by_cases h3 : 0 <= ixW n A 3 <;> simp [h1, h2, h3]
theorem atG_R (n : Int) (A : RL) : atG n A 3 (-1) = atR n A := by unfold atG atR ixW; simp
theorem YR : c75c.OK Try.prog G0 := (Ctx.OK.nil.addF LI.1 rfl).addF LJ.1 rfl
theorem okTc : Aq Try.prog G0 75 pTc leTc /\ PostOK leTc.ent OB := by
 refine YR.nm.loopH Ai rfl ⟨_, _, _, Try.func75, rfl, rfl⟩ YN (by kernel_rfl) _ rfl fun xs hf hp φ hφ => ?_
 obtain ⟨l, hl, hS, hF⟩ := Bj lbTc φ muTc (muTc xs) HH.l (by decide)
 show ∃ ρ : Nat -> Int, _ /\ KY.tt (Tabs.F (enH lbTc φ muTc (muTc xs) :: HH.l)) ρ = true /\ OB xs (KZ.map (E.den (Tabs.F (enH lbTc φ muTc (muTc xs) :: HH.l)) ρ))
 rw [hl]
 replace hφ : ∀ ys, fits [kJ, kJ, kJ, kJ, .x, .x, kJ, kJ] ys -> lbTc.ent.pre ys -> muTc ys < muTc xs -> OB ys (Am φ ys 0 lbTc.ent.oks) := hφ
 have F9275 := FC (k := 9275) rfl hS
 have F102 := FC (k := 100000102) rfl (hF e102.nm (by rfl) (by decide) (by decide))
 have F104 := FC (k := 100000104) rfl (hF e104.nm (by rfl) (by decide) (by decide))
 replace hf : fits [kJ, kJ, kJ, kJ, .x, .x, kJ, kJ] xs := hf
 obtain ⟨nw, xs0, hx0, hnw, hf0⟩ := Aa hf
 obtain ⟨c0, xs1, hx1, hc0, hf1⟩ := Aa hf0
 obtain ⟨bu, xs2, hx2, hbu, hf2⟩ := Aa hf1
 obtain ⟨mo, xs3, hx3, hmo, hf3⟩ := Aa hf2
 obtain ⟨L, xs4, hx4, hL, hf4⟩ := Aa hf3
 obtain ⟨R, xs5, hx5, hR, hf5⟩ := Aa hf4
 obtain ⟨a, xs6, hx6, ha, hf6⟩ := Aa hf5
 obtain ⟨lv, xs7, hx7, hlv, hf7⟩ := Aa hf6
 have hxn := Ah hf7
 subst hxn hx7 hx6 hx5 hx4 hx3 hx2 hx1 hx0
 simp only [Ab] at hnw hc0 hbu hmo ha hlv
 obtain ⟨ρ, hρ, hd⟩ := solve (F := l.F) 8 Mz (by kernel_rfl) [nw, c0, bu, mo, L, R, a, lv]
 have hDf := AL (by kernel_rfl) hd
 refine ⟨ρ, hρ, ?_⟩
 have r0 : ρ 0 = nw := hρ 0 (by decide)
 have r1 : ρ 1 = c0 := hρ 1 (by decide)
 have r2 : ρ 2 = bu := hρ 2 (by decide)
 have r3 : ρ 3 = mo := hρ 3 (by decide)
 have r4 : ρ 4 = L := hρ 4 (by decide)
 have r5 : ρ 5 = R := hρ 5 (by decide)
 have r6 : ρ 6 = a := hρ 6 (by decide)
 have r7 : ρ 7 = lv := hρ 7 (by decide)
 obtain ⟨⟨v1, hv1, hd1, hn1⟩, ⟨v2, hv2, hd2, hn2⟩⟩ := Jj (nmd hd 0 rfl) (nmd hd 1 rfl)
 simp only [Ab] at hn1 hn2
 simp (disch := omega) only [Ab, F102, F104, Ent.nm_fn, r0, hnw, r1, hc0, r2, hbu, r3, hmo, r4, r5, r6, ha, r7, hlv, hv1, hn1, hv2, hn2, ewA, ewL, ewE, List.headD, List.tail, ewR, ewB, ewM, ewQ, reduceCtorEq, seval] at hd1 hd2
 have hSS := Jj (Jj (Jj (Jj F9275 F102) (Jj F104 (Jj r0 hnw))) (Jj (Jj r1 (Jj hc0 r2)) (Jj hbu (Jj r3 hmo)))) (Jj (Jj (Jj r4 r5) (Jj r6 (Jj ha r7))) (Jj (Jj hlv (Jj hv1 hn1)) (Jj hv2 (Jj hn2 hDf))))
 obtain ⟨p1, p2, p3, p4, p5⟩ := hp
 replace p1 : okR L := p1
 simp only [ewA, ewL, ewE, List.headD, List.tail, seval] at p2 p3 p4 p5
 by_cases hl1 : 1 <= lv
 ·have y1 : e104.pre [lv, nw] := ⟨p4, by show lv <= 4; omega, p2⟩
  have q1 : v1 = blk lv nw := (PostOK.use (ks := [kJ, kJ]) (os := [kJ]) (vs := [v1]) LI.2 rfl rfl ⟨hd1, trivial⟩) ⟨(by first | rfl | assumption | exact i64w (by omega) (by omega) | exact u8w (by omega) (by omega)), (by first | rfl | assumption | exact i64w (by omega) (by omega) | exact u8w (by omega) (by omega)), trivial⟩ y1
  have r1 := A1 lv p2
  have tm : (v1 + 1).tmod 512 = (v1 + 1) % 512 := Int.tmod_eq_emod_of_nonneg (by omega)
  have wm : IntKind.i64.wrap ((v1 + 1) % 512) = (v1 + 1) % 512 := i64w (by omega) (by omega)
  simp (disch := omega) only [ewA, ewL, ewE, List.headD, List.tail, ewR, ewB, ewM, ewQ, reduceCtorEq, seval, tm, wm] at hd2
  have y2 : e102.pre [nw, c0, bu, mo, L, R, lv, (v1 + 1) % 512] := p1
  have q2 : v2 = ixR (isAt lv ((v1 + 1) % 512)) (dc L) 0 := (PostOK.use (ks := [kJ, kJ, kJ, kJ, .x, .x, kJ, kJ]) (os := [kJ]) (vs := [v2]) LJ.2 rfl rfl ⟨hd2, trivial⟩) ⟨hnw, hc0, hbu, hmo, rfl, rfl, hlv, wm, trivial⟩ y2
  replace q2 : v2 = ixW nw (dc L) lv := by rw [q2, q1]; rfl
  obtain ⟨a', ha'⟩ : ∃ a', (if 0 <= v2 then v2 else a) = a' := ⟨_, rfl⟩
  have wa' : IntKind.i64.wrap a' = a' := by rw [<- ha']; split; exact hn2; exact ha
  have yp : lbTc.ent.pre [nw, c0, bu, mo, L, R, a', lv - 1] := ⟨p1, p2, p3, by show 0 <= lv - 1; omega, by show lv - 1 <= 3; omega⟩
  have ym : muTc [nw, c0, bu, mo, L, R, a', lv - 1] < muTc [nw, c0, bu, mo, L, R, a, lv] := by show (lv - 1).toNat < lv.toNat; omega
  have ih := hφ [nw, c0, bu, mo, L, R, a', lv - 1] ⟨hnw, hc0, hbu, hmo, rfl, rfl, wa', i64w (by omega) (by omega), trivial⟩ yp ym
  replace ih : IntKind.i64.wrap (φ 0 [nw, c0, bu, mo, L, R, a', lv - 1]) = atG nw (dc L) (lv - 1) a' := ih
  rw [<- ha', q2, W5 ⟨hl1, p5⟩, <- q2, ha'] at ih
  refine ⟨?_, ?_⟩
  ·simp (disch := omega) only [KY, GS, ewA, ewL, ewE, List.headD, List.tail, ewR, ewB, ewM, ewQ, reduceCtorEq, seval, hSS, hl1, tm, wm, ha']
   repeat' (first | (with_reducible apply Jj) | (with_reducible intro _))
   all_goals first | with_reducible assumption | trivial | omega | (split <;> omega)
  ·simp (disch := omega) only [KZ, GS, ewA, ewL, ewE, List.headD, List.tail, ewR, ewB, ewM, ewQ, reduceCtorEq, seval, hSS, hl1, tm, wm, ha']
   exact ih
 ·refine ⟨?_, ?_⟩
  ·simp (disch := omega) only [KY, GS, ewA, ewL, ewE, List.headD, List.tail, ewR, ewB, ewM, ewQ, reduceCtorEq, seval, hSS, hl1]
  ·simp (disch := omega) only [KZ, GS, ewA, ewL, ewE, List.headD, List.tail, ewR, ewB, ewM, ewQ, reduceCtorEq, seval, hSS, hl1]
   show a = atG nw (dc L) lv a
   unfold atG; rw [if_pos (by omega)]
theorem YS : c75b.OK Try.prog G0 := Ctx.OK.addL (c := ⟨[e103, e105], []⟩) ((Ctx.OK.nil.addF QJ.1 rfl).addF JB.1 rfl) okTc.1 rfl
theorem okTb : Aq Try.prog G0 75 pTb leTb /\ PostOK leTb.ent OC := by
 refine YS.nm.loopH Ai rfl ⟨_, _, _, Try.func75, rfl, rfl⟩ YO (by kernel_rfl) _ rfl fun xs hf hp φ hφ => ?_
 obtain ⟨l, hl, hS, hF⟩ := Bj lbTb φ muTb (muTb xs) HI.l (by decide)
 show ∃ ρ : Nat -> Int, _ /\ II.tt (Tabs.F (enH lbTb φ muTb (muTb xs) :: HI.l)) ρ = true /\ OC xs (IJ.map (E.den (Tabs.F (enH lbTb φ muTb (muTb xs) :: HI.l)) ρ))
 rw [hl]
 replace hφ : ∀ ys, fits [kJ, kJ, kJ, kJ, .x, .x, kJ] ys -> lbTb.ent.pre ys -> muTb ys < muTb xs -> OC ys (Am φ ys 0 lbTb.ent.oks) := hφ
 have F9175 := FC (k := 9175) rfl hS
 have F103 := FC (k := 100000103) rfl (hF e103.nm (by rfl) (by decide) (by decide))
 have F105 := FC (k := 100000105) rfl (hF e105.nm (by rfl) (by decide) (by decide))
 have F9275 := FC (k := 100009275) rfl (hF leTc.nm.ent (by rfl) (by decide) (by decide))
 replace hf : fits [kJ, kJ, kJ, kJ, .x, .x, kJ] xs := hf
 obtain ⟨nw, xs0, hx0, hnw, hf0⟩ := Aa hf
 obtain ⟨c0, xs1, hx1, hc0, hf1⟩ := Aa hf0
 obtain ⟨bu, xs2, hx2, hbu, hf2⟩ := Aa hf1
 obtain ⟨mo, xs3, hx3, hmo, hf3⟩ := Aa hf2
 obtain ⟨L, xs4, hx4, hL, hf4⟩ := Aa hf3
 obtain ⟨R, xs5, hx5, hR, hf5⟩ := Aa hf4
 obtain ⟨m, xs6, hx6, hm, hf6⟩ := Aa hf5
 have hxn := Ah hf6
 subst hxn hx6 hx5 hx4 hx3 hx2 hx1 hx0
 simp only [Ab] at hnw hc0 hbu hmo hm
 obtain ⟨ρ, hρ, hd⟩ := solve (F := l.F) 7 JC (by kernel_rfl) [nw, c0, bu, mo, L, R, m]
 have hDf := AL (by kernel_rfl) hd
 refine ⟨ρ, hρ, ?_⟩
 have r0 : ρ 0 = nw := hρ 0 (by decide)
 have r1 : ρ 1 = c0 := hρ 1 (by decide)
 have r2 : ρ 2 = bu := hρ 2 (by decide)
 have r3 : ρ 3 = mo := hρ 3 (by decide)
 have r4 : ρ 4 = L := hρ 4 (by decide)
 have r5 : ρ 5 = R := hρ 5 (by decide)
 have r6 : ρ 6 = m := hρ 6 (by decide)
 obtain ⟨⟨v1, hv1, hd1, hn1⟩, ⟨v2, hv2, hd2, hn2⟩⟩ := Jj (nmd hd 0 rfl) (nmd hd 1 rfl)
 obtain ⟨⟨v3, hv3, hd3, hn3⟩, ⟨v4, hv4, hd4, hn4⟩⟩ := Jj (nmd hd 2 rfl) (nmd hd 3 rfl)
 obtain ⟨⟨v5, hv5, hd5, hn5⟩, ⟨v6, hv6, hd6, hn6⟩⟩ := Jj (nmd hd 4 rfl) (nmd hd 5 rfl)
 obtain ⟨⟨v7, hv7, hd7, hn7⟩, ⟨v8, hv8, hd8, hn8⟩⟩ := Jj (nmd hd 6 rfl) (nmd hd 7 rfl)
 simp only [Ab] at hn1 hn3 hn4 hn5 hn6
 simp (disch := omega) only [Ab, Fm, F103, F105, F9275, Ent.nm_fn, r0, hnw, r1, hc0, r2, hbu, r3, hmo, r4, r5, r6, hm, hv1, hn1, hv2, hv3, hn3, hv4, hn4, hv5, hn5, hv6, hn6, hv7, hv8, ewA, ewL, ewE, List.headD, List.tail, ewR, ewB, ewM, ewQ, reduceCtorEq, seval] at hd1 hd2 hd3 hd4 hd5 hd6 hd7 hd8
 have hSS := Jj (Jj (Jj (Jj F9175 (Jj F103 F105)) (Jj (Jj F9275 r0) (Jj hnw r1))) (Jj (Jj (Jj hc0 r2) (Jj hbu r3)) (Jj (Jj hmo r4) (Jj r5 r6)))) (Jj (Jj (Jj hm (Jj hv1 hn1)) (Jj (Jj hv2 hv3) (Jj hn3 hv4))) (Jj (Jj (Jj hn4 hv5) (Jj hn5 hv6)) (Jj (Jj hn6 hv7) (Jj hv8 hDf))))
 obtain ⟨⟨S, T, le, wt, p1⟩, p2, ⟨p3, p4, p5⟩, p6, p7⟩ := hp
 replace p1 : RFW nw bu le S T wt (dc L) (dc R) := p1
 replace p2 : okR L := p2
 simp only [ewA, ewL, ewE, List.headD, List.tail, seval] at p3 p4 p5 p6 p7
 have hcap := p2.2
 unfold capR at hcap
 by_cases hm1 : m < bu
 ·have y1 : leTc.ent.pre [nw, c0, bu, mo, L, R, -1, 3] := ⟨p2, p6, p7, by show (0 : Int) <= 3; decide, by show (3 : Int) <= 3; decide⟩
  have q1 : v1 = atG nw (dc L) 3 (-1) := (PostOK.use (ks := [kJ, kJ, kJ, kJ, .x, .x, kJ, kJ]) (os := [kJ]) (vs := [v1]) okTc.2 rfl rfl ⟨hd1, trivial⟩) ⟨(by first | rfl | assumption | exact i64w (by omega) (by omega) | exact u8w (by omega) (by omega)), (by first | rfl | assumption | exact i64w (by omega) (by omega) | exact u8w (by omega) (by omega)), (by first | rfl | assumption | exact i64w (by omega) (by omega) | exact u8w (by omega) (by omega)), (by first | rfl | assumption | exact i64w (by omega) (by omega) | exact u8w (by omega) (by omega)), rfl, rfl, rfl, rfl, trivial⟩ y1
  rw [atG_R] at q1
  obtain ⟨k, hk⟩ : ∃ k : Nat, (bu - m).toNat = k + 1 := ⟨(bu - m).toNat - 1, by omega⟩
  rcases p1.wait with ⟨a1, a2⟩ | ⟨i, a1, a2, a3, b1, b2, b3⟩
  ·have hv : v1 < 0 := by rw [q1, a2]; decide
   have em : mvA nw (bu - m).toNat (dc L) = (dc L, 0) := by rw [hk, mvA, if_pos (by rw [a2]; decide)]
   refine ⟨?_, ?_⟩
   ·simp (disch := omega) only [II, Et, Eu, A8, ewA, ewL, ewE, List.headD, List.tail, ewR, ewB, ewM, ewQ, reduceCtorEq, seval, hSS, hm1, hv]
    exact y1
   ·simp (disch := omega) only [IJ, Et, Eu, A8, ewA, ewL, ewE, List.headD, List.tail, ewR, ewB, ewM, ewQ, reduceCtorEq, seval, hSS, hm1, hv]
    refine ⟨⟨rfl, rfl, rfl, rfl⟩, ?_, rfl, ?_⟩
    ·show dc L = (mvA nw (bu - m).toNat (dc L)).1
     rw [em]
    ·show m = m + (mvA nw (bu - m).toNat (dc L)).2
     rw [em]; exact (Int.add_zero _).symm
  ·have hv : ¬ v1 < 0 := by rw [q1]; omega
   rw [<- q1] at b1 b2 b3
   obtain ⟨x, y, z, w, er, _, hx, hy, hz, hw⟩ := HE p2 b1 b2
   have e3 := b3
   rw [er] at e3
   have ex : x = (i : Int) := by injection e3
   have ey : y = gC T i 4 := by injection e3 with _ e4; injection e4
   simp (disch := omega) only [ewA, ewL, ewE, List.headD, List.tail, ewR, ewB, ewM, ewQ, reduceCtorEq, seval, er, hx, hy, hz, hw] at hd2 hd3 hd4 hd5 hd6 hd7 hd8
   have y2 : e103.pre [L, x] := p2
   have q2 : dc v2 = wiR (dc L) x := (PostOK.use (ks := [.x, kJ]) (os := [.x]) (vs := [v2]) JB.2 rfl rfl ⟨hd2, trivial⟩) ⟨rfl, hx, trivial⟩ y2
   obtain ⟨o1, o2⟩ := Sb p2 q2
   obtain ⟨w1, w2, w3⟩ := Db.1 a3
   have hdr : gC T i 4 <= nw + 2147483648 := by obtain ⟨Q, ok, _⟩ := p1; exact (ok.dr i a2).2
   have hl2 : (dc v2).length + 1 <= (dc L).length := by
    rw [q2]
    have hmem : [x, y, z, w] ∈ dc L := by
     rw [<- er]
     have hlt : v1.toNat < (dc L).length := by omega
     rw [show (dc L).getD v1.toNat [] = (dc L)[v1.toNat] by simp [List.getD, hlt]]
     exact List.getElem_mem hlt
    exact List.length_filter_lt_length_iff_exists.2 ⟨_, hmem, by simp⟩
   have y3 : e105.pre [nw, c0, bu, mo, v2, R, x, y] := ⟨o1, by show ((dc v2).length : Int) < capR; unfold capR; omega, by show timD nw y; rw [ey]; exact ⟨p6, p7, w1, hdr⟩⟩
   obtain ⟨⟨t1, t2, t3, t4⟩, t5, t6⟩ := (PostOK.use (ks := [kJ, kJ, kJ, kJ, .x, .x, kJ, kJ]) (os := [kJ, kJ, kJ, kJ, .x, .x]) (vs := [v3, v4, v5, v6, v7, v8]) QJ.2 rfl rfl ⟨hd3, hd4, hd5, hd6, hd7, hd8, trivial⟩) ⟨hnw, hc0, hbu, hmo, rfl, rfl, hx, hy, trivial⟩ y3
   replace t1 : v3 = nw := t1
   replace t2 : v4 = c0 := t2
   replace t3 : v5 = bu := t3
   replace t4 : v6 = mo := t4
   replace t5 : dc v7 = puR nw (dc v2) x y := t5
   replace t6 : v8 = R := t6
   obtain ⟨mv, _⟩ := p1.move a1 a2 a3
   have e7 : dc v7 = puR nw (wiR (dc L) i) i (gC T i 4) := by rw [t5, q2, ex, ey]
   have l7 : (dc v7).length = (dc v2).length + 1 := by rw [t5]; unfold puR; simp
   have o7 : okR v7 := by
    refine OM t5 ?_ (by rw [<- t5]; unfold capR; omega)
    intro r hr
    rcases List.mem_append.1 hr with hr | hr
    ·exact o1.1 r hr
    ·simp only [List.mem_singleton] at hr
     subst hr
     have hb := A1 (lvF nw y) (t := y) (by omega)
     have hlv : 0 <= lvF nw y /\ lvF nw y <= 3 := by unfold lvF; split <;> (try split) <;> (try split) <;> omega
     exact ⟨hx, hy, i64w (by omega) (by omega), i64w (by omega) (by omega), trivial⟩
   have yp : lbTb.ent.pre [v3, v4, v5, v6, v7, v8, m + 1] := by
    refine ⟨⟨(mvW nw (S, T)).1, (mvW nw (S, T)).2, le, wt - 1, ?_⟩, o7, ⟨by show 0 <= m + 1; omega, by show m + 1 <= v5; omega, by show v5 <= 4096; omega⟩, by show 0 <= v3; omega, by show v3 <= 1099511627776; omega⟩
    show RFW v3 v5 le _ _ (wt - 1) (dc v7) (dc v8)
    rw [t1, t3, e7, t6]; exact mv
   have ym : muTb [v3, v4, v5, v6, v7, v8, m + 1] < muTb [nw, c0, bu, mo, L, R, m] := by show (v5 - (m + 1)).toNat < (bu - m).toNat; omega
   obtain ⟨⟨i1, i2, i3, i4⟩, i5, i6, i7⟩ := hφ [v3, v4, v5, v6, v7, v8, m + 1] ⟨hn3, hn4, hn5, hn6, rfl, rfl, i64w (by omega) (by omega), trivial⟩ yp ym
   have em : mvA nw (bu - m).toNat (dc L) = ((mvA nw (bu - (m + 1)).toNat (dc v7)).1, (mvA nw (bu - (m + 1)).toNat (dc v7)).2 + 1) := by
    rw [hk, mvA, if_neg (by rw [<- q1]; exact hv), <- q1, b3, e7, show (bu - (m + 1)).toNat = k by omega]; rfl
   refine ⟨?_, ?_⟩
   ·simp (disch := omega) only [II, Et, Eu, A8, ewA, ewL, ewE, List.headD, List.tail, ewR, ewB, ewM, ewQ, reduceCtorEq, seval, hSS, hm1, hv, er, hx, hy]
    exact ⟨⟨y1, ⟨b1, b2⟩, y2, y3⟩, yp, ym⟩
   ·simp (disch := omega) only [IJ, Et, Eu, A8, ewA, ewL, ewE, List.headD, List.tail, ewR, ewB, ewM, ewQ, reduceCtorEq, seval, hSS, hm1, hv, er, hx, hy]
    refine ⟨⟨i1.trans t1, i2.trans t2, i3.trans t3, i4.trans t4⟩, ?_, ?_, ?_⟩
    ·refine i5.trans ?_
     show (mvA v3 (v5 - (m + 1)).toNat (dc v7)).1 = (mvA nw (bu - m).toNat (dc L)).1
     rw [em, t1, t3]
    ·refine i6.trans ?_
     show dc v8 = dc R
     rw [t6]
    ·refine i7.trans ?_
     show m + 1 + (mvA v3 (v5 - (m + 1)).toNat (dc v7)).2 = m + (mvA nw (bu - m).toNat (dc L)).2
     rw [em, t1, t3]
     show m + 1 + _ = m + (_ + 1)
     omega
 ·have em : mvA nw (bu - m).toNat (dc L) = (dc L, 0) := by rw [show (bu - m).toNat = 0 by omega]; rfl
  refine ⟨?_, ?_⟩
  ·simp (disch := omega) only [II, Et, Eu, A8, ewA, ewL, ewE, List.headD, List.tail, ewR, ewB, ewM, ewQ, reduceCtorEq, seval, hSS, hm1]
  ·simp (disch := omega) only [IJ, Et, Eu, A8, ewA, ewL, ewE, List.headD, List.tail, ewR, ewB, ewM, ewQ, reduceCtorEq, seval, hSS, hm1]
   refine ⟨⟨rfl, rfl, rfl, rfl⟩, ?_, rfl, ?_⟩
   ·show dc L = (mvA nw (bu - m).toNat (dc L)).1
    rw [em]
   ·show m = m + (mvA nw (bu - m).toNat (dc L)).2
    rw [em]; exact (Int.add_zero _).symm
theorem Ts (now : Int) : ∀ (n : Nat) (A : RL), 0 <= (mvA now n A).2 /\ (mvA now n A).2 <= n
 | 0, A => ⟨Int.le_refl _, Int.le_refl _⟩
 | n + 1, A => by
   rw [mvA]
   split
   ·exact ⟨Int.le_refl _, by show (0 : Int) <= _; omega⟩
   ·have := Ts now n (puR now (wiR A ((A.getD (atR now A).toNat []).headD 0)) ((A.getD (atR now A).toNat []).headD 0) ((A.getD (atR now A).toNat []).getD 1 0))
    constructor
    ·show 0 <= _ + 1; omega
    ·show _ + 1 <= _; omega
theorem RV.dis {S now bu le mo T c : Int} {A B : RL} (h : RV S now bu le mo T c A B) : disR A := by
 obtain ⟨Q, ok, ⟨la, rfl, nd, h1, h2⟩, rfl⟩ := h.r
 unfold disR
 rw [List.pairwise_map]
 exact nd.imp fun hab e => hab (by
  have : ((_ : Nat) : Int) = ((_ : Nat) : Int) := e
  omega)
theorem c75ok : c75.OK Try.prog G0 := by
 have h := Ctx.OK.addL (c := ⟨[e102], []⟩) (Ctx.OK.nil.addF LJ.1 rfl) okTb.1 rfl
 exact h.addL okTa.1 rfl
theorem ok75 : EntryOK Try.prog G0 e75 /\ PostOK e75 OD := by
 refine c75ok.nm.entryH Ai ev_75 (by kernel_rfl) _ rfl fun xs hf hp => ?_
 obtain ⟨l, hl, hF⟩ := An (l0 := c75n.l)
 show ∃ ρ : Nat -> Int, _ /\ OE.tt c75n.l.F ρ = true /\ OD xs (OG.map (E.den c75n.l.F ρ))
 rw [hl]
 have F102 := FC (k := 100000102) rfl (hF e102.nm (by rfl) (by decide))
 have F9075 := FC (k := 100009075) rfl (hF leTa.nm.ent (by rfl) (by decide))
 have F9175 := FC (k := 100009175) rfl (hF leTb.nm.ent (by rfl) (by decide))
 replace hf : fits [kJ, kJ, kJ, kJ, .x, .x] xs := hf
 obtain ⟨nw, xs0, hx0, hnw, hf0⟩ := Aa hf
 obtain ⟨c0, xs1, hx1, hc0, hf1⟩ := Aa hf0
 obtain ⟨bu, xs2, hx2, hbu, hf2⟩ := Aa hf1
 obtain ⟨mo, xs3, hx3, hmo, hf3⟩ := Aa hf2
 obtain ⟨L, xs4, hx4, hL, hf4⟩ := Aa hf3
 obtain ⟨R, xs5, hx5, hR, hf5⟩ := Aa hf4
 have hxn := Ah hf5
 subst hxn hx5 hx4 hx3 hx2 hx1 hx0
 simp only [Ab] at hnw hc0 hbu hmo
 obtain ⟨ρ, hρ, hd⟩ := solve (F := l.F) 6 LM (by kernel_rfl) [nw, c0, bu, mo, L, R]
 have hDf := AL (by kernel_rfl) hd
 refine ⟨ρ, hρ, ?_⟩
 have r0 : ρ 0 = nw := hρ 0 (by decide)
 have r1 : ρ 1 = c0 := hρ 1 (by decide)
 have r2 : ρ 2 = bu := hρ 2 (by decide)
 have r3 : ρ 3 = mo := hρ 3 (by decide)
 have r4 : ρ 4 = L := hρ 4 (by decide)
 have r5 : ρ 5 = R := hρ 5 (by decide)
 obtain ⟨⟨v1, hv1, hd1, hn1⟩, ⟨v2, hv2, hd2, hn2⟩⟩ := Jj (nmd hd 0 rfl) (nmd hd 1 rfl)
 obtain ⟨⟨v3, hv3, hd3, hn3⟩, ⟨v4, hv4, hd4, hn4⟩⟩ := Jj (nmd hd 2 rfl) (nmd hd 3 rfl)
 obtain ⟨⟨v5, hv5, hd5, hn5⟩, ⟨v6, hv6, hd6, hn6⟩⟩ := Jj (nmd hd 4 rfl) (nmd hd 5 rfl)
 obtain ⟨⟨v7, hv7, hd7, hn7⟩, ⟨v8, hv8, hd8, hn8⟩⟩ := Jj (nmd hd 6 rfl) (nmd hd 7 rfl)
 obtain ⟨⟨v9, hv9, hd9, hn9⟩, ⟨v10, hv10, hd10, hn10⟩⟩ := Jj (nmd hd 8 rfl) (nmd hd 9 rfl)
 obtain ⟨⟨v11, hv11, hd11, hn11⟩, ⟨v12, hv12, hd12, hn12⟩⟩ := Jj (nmd hd 10 rfl) (nmd hd 11 rfl)
 obtain ⟨⟨v13, hv13, hd13, hn13⟩, ⟨v14, hv14, hd14, hn14⟩⟩ := Jj (nmd hd 12 rfl) (nmd hd 13 rfl)
 simp only [Ab] at hn1 hn2 hn3 hn4 hn5 hn8 hn9 hn10 hn11 hn14
 simp (disch := omega) only [Ab, Hj, FU, F102, F9075, F9175, Ent.nm_fn, r0, hnw, r1, hc0, r2, hbu, r3, hmo, r4, r5, hv1, hn1, hv2, hn2, hv3, hn3, hv4, hn4, hv5, hn5, hv6, hv7, hv8, hn8, hv9, hn9, hv10, hn10, hv11, hn11, hv12, hv13, hv14, hn14, ewA, ewL, ewE, List.headD, List.tail, ewR, ewB, ewM, ewQ, reduceCtorEq, seval] at hd1 hd2 hd3 hd4 hd5 hd6 hd7 hd8 hd9 hd10 hd11 hd12 hd13 hd14
 have hSS := Jj (Jj (Jj (Jj (Jj F102 F9075) (Jj F9175 r0)) (Jj (Jj hnw r1) (Jj hc0 (Jj r2 hbu)))) (Jj (Jj (Jj r3 hmo) (Jj r4 (Jj r5 hv1))) (Jj (Jj hn1 hv2) (Jj hn2 (Jj hv3 hn3))))) (Jj (Jj (Jj (Jj hv4 hn4) (Jj hv5 hn5)) (Jj (Jj hv6 hv7) (Jj hv8 (Jj hn8 hv9)))) (Jj (Jj (Jj hn9 hv10) (Jj hn10 (Jj hv11 hn11))) (Jj (Jj hv12 hv13) (Jj hv14 (Jj hn14 hDf)))))
 obtain ⟨⟨S, le, T, p1⟩, p2, p3, p4⟩ := hp
 replace p1 : RV S nw bu le mo T c0 (dc L) (dc R) := p1
 replace p2 : okR L := p2
 replace p3 : okR R := p3
 simp only [ewA, ewL, ewE, List.headD, List.tail, seval] at p4
 have htm := p1.tm
 have hbg := p1.bg
 have hmb := p1.mb
 have hla := p1.lenA
 have hln := p1.len
 have hler := p1.ler
 by_cases hM : nw = 1099511627776
 ·refine ⟨?_, ?_⟩
  ·simp (disch := omega) only [OE, ewA, ewL, ewE, List.headD, List.tail, ewR, ewB, ewM, ewQ, reduceCtorEq, seval, hSS, hM]
  ·simp (disch := omega) only [OG, ewA, ewL, ewE, List.headD, List.tail, ewR, ewB, ewM, ewQ, reduceCtorEq, seval, hSS, hM]
   refine ⟨⟨(if_pos rfl).symm, rfl, rfl, ?_⟩, (if_pos rfl).symm, (if_pos rfl).symm, (if_pos rfl).symm⟩
   show mo = mo + tkM 1099511627776 bu (dc L)
   rw [show tkM 1099511627776 bu (dc L) = 0 from if_pos rfl, Int.add_zero]
 ·have tm : (nw + 1).tmod 512 = (nw + 1) % 512 := Int.tmod_eq_emod_of_nonneg (by omega)
  have wm : IntKind.i64.wrap ((nw + 1) % 512) = (nw + 1) % 512 := i64w (by omega) (by omega)
  simp (disch := omega) only [ewA, ewL, ewE, List.headD, List.tail, ewR, ewB, ewM, ewQ, reduceCtorEq, seval, tm, wm] at hd1 hd2 hd3 hd4 hd5 hd6 hd7
  have w1 : IntKind.i64.wrap (nw + 1) = nw + 1 := i64w (by omega) (by omega)
  have y1 : e102.pre [nw + 1, c0, bu, mo, L, R, 0, (nw + 1) % 512] := p2
  have q1 : v1 = ixR (isAt 0 ((nw + 1) % 512)) (dc L) 0 := (PostOK.use (ks := [kJ, kJ, kJ, kJ, .x, .x, kJ, kJ]) (os := [kJ]) (vs := [v1]) LJ.2 rfl rfl ⟨hd1, trivial⟩) ⟨w1, hc0, hbu, hmo, rfl, rfl, rfl, wm, trivial⟩ y1
  have y2 : leTa.ent.pre [nw + 1, c0, bu, mo, L, R, v1] := ⟨p2, p3, by show ((dc L).length : Int) + ((dc R).length : Int) <= capR; unfold capR; omega, p1.dis, by show 0 <= nw + 1; omega, q1⟩
  obtain ⟨⟨a1, a2, a3, a4⟩, a5, a6⟩ := (PostOK.use (ks := [kJ, kJ, kJ, kJ, .x, .x, kJ]) (os := [kJ, kJ, kJ, kJ, .x, .x]) (vs := [v2, v3, v4, v5, v6, v7]) okTa.2 rfl rfl ⟨hd2, hd3, hd4, hd5, hd6, hd7, trivial⟩) ⟨w1, hc0, hbu, hmo, rfl, rfl, hn1, trivial⟩ y2
  replace a1 : v2 = nw + 1 := a1
  replace a2 : v3 = c0 := a2
  replace a3 : v4 = bu := a3
  replace a4 : v5 = mo := a4
  replace a5 : dc v6 = (dc L).filter (fun r => !isAt 0 ((nw + 1) % 512) r) := a5
  replace a6 : dc v7 = dc R ++ (dc L).filter (isAt 0 ((nw + 1) % 512)) := a6
  obtain ⟨j1, _, _⟩ := p1.r.join (by omega)
  have o6 : okR v6 := OM a5 (fun r hr => p2.1 r (List.mem_filter.1 hr).1) (by have := List.length_filter_le (fun r => !isAt 0 ((nw + 1) % 512) r) (dc L); unfold capR; omega)
  have y3 : leTb.ent.pre [v2, v3, v4, v5, v6, v7, 0] := by
   refine ⟨⟨(joinW ((nw + 1) % 512).toNat (dc S, dc T)).1, (joinW ((nw + 1) % 512).toNat (dc S, dc T)).2, le, bu * (256 - (nw + 1) % 256), ?_⟩, o6, ⟨by show (0 : Int) <= 0; decide, by show 0 <= v4; omega, by show v4 <= 4096; omega⟩, by show 0 <= v2; omega, by show v2 <= 1099511627776; omega⟩
   show RFW v2 v4 le _ _ _ (dc v6) (dc v7)
   rw [a1, a3, a5, a6]; exact j1
  obtain ⟨⟨b1, b2, b3, b4⟩, b5, b6, b7⟩ := (PostOK.use (ks := [kJ, kJ, kJ, kJ, .x, .x, kJ]) (os := [kJ, kJ, kJ, kJ, .x, .x, kJ]) (vs := [v8, v9, v10, v11, v12, v13, v14]) okTb.2 rfl rfl ⟨hd8, hd9, hd10, hd11, hd12, hd13, hd14, trivial⟩) ⟨hn2, hn3, hn4, hn5, rfl, rfl, rfl, trivial⟩ y3
  replace b5 : dc v12 = (mvA v2 (v4 - 0).toNat (dc v6)).1 := b5
  replace b7 : v14 = 0 + (mvA v2 (v4 - 0).toNat (dc v6)).2 := b7
  rw [a1, a3, a5, Int.sub_zero] at b5 b7
  rw [Int.zero_add] at b7
  have eM : tkM nw bu (dc L) = v14 := by rw [b7]; exact if_neg hM
  have r14 : 0 <= v14 /\ v14 <= bu := by
   have := Ts (nw + 1) bu.toNat ((dc L).filter fun r => !isAt 0 ((nw + 1) % 512) r)
   rw [b7]; omega
  refine ⟨?_, ?_⟩
  ·simp (disch := omega) only [OE, ewA, ewL, ewE, List.headD, List.tail, ewR, ewB, ewM, ewQ, reduceCtorEq, seval, hSS, hM, tm, wm]
   exact ⟨⟨y1, y2⟩, y3⟩
  ·simp (disch := omega) only [OG, ewA, ewL, ewE, List.headD, List.tail, ewR, ewB, ewM, ewQ, reduceCtorEq, seval, hSS, hM, tm, wm]
   replace b4 : v11 = v5 := b4
   refine ⟨⟨?_, b2.trans a2, b3.trans a3, ?_⟩, ?_, ?_, ?_⟩
   ·refine (b1.trans a1).trans ?_
    show nw + 1 = nowT nw
    exact (if_neg hM).symm
   ·show IntKind.i64.wrap (v11 + v14) = mo + tkM nw bu (dc L)
    rw [eM, b4, a4]; exact i64w (by omega) (by omega)
   ·show dc v12 = tkA nw bu (dc L)
    rw [b5]; exact (if_neg hM).symm
   ·refine Eq.trans b6 ?_
    show dc v7 = tkB nw (dc L) (dc R)
    rw [a6]; exact (if_neg hM).symm
   ·exact eM.symm
theorem Xs : Aq Try.prog G0 76 p76 le76 /\ PostOK le76.ent OH := by
 refine cIok.nm.loopH Ai rfl ⟨_, _, _, Try.func76, rfl, rfl⟩ YP (by kernel_rfl) _ rfl fun xs hf hp φ hφ => ?_
 obtain ⟨l, hl, hS, hF⟩ := Bj lb76 φ muTe (muTe xs) cI.nm.l (by decide)
 show ∃ ρ : Nat -> Int, _ /\ K0.tt (Tabs.F (enH lb76 φ muTe (muTe xs) :: cI.nm.l)) ρ = true /\ OH xs (K1.map (E.den (Tabs.F (enH lb76 φ muTe (muTe xs) :: cI.nm.l)) ρ))
 rw [hl]
 replace hφ : ∀ ys, fits [kJ, kJ, kJ, kJ, kJ, .x, .x, .x] ys -> lb76.ent.pre ys -> muTe ys < muTe xs -> OH ys (Am φ ys 0 lb76.ent.oks) := hφ
 have F9076 := FC (k := 9076) rfl hS
 replace hf : fits [kJ, kJ, kJ, kJ, kJ, .x, .x, .x] xs := hf
 obtain ⟨k, xs0, hx0, hk, hf0⟩ := Aa hf
 obtain ⟨nw, xs1, hx1, hnw, hf1⟩ := Aa hf0
 obtain ⟨c0, xs2, hx2, hc0, hf2⟩ := Aa hf1
 obtain ⟨bu, xs3, hx3, hbu, hf3⟩ := Aa hf2
 obtain ⟨mo, xs4, hx4, hmo, hf4⟩ := Aa hf3
 obtain ⟨L, xs5, hx5, hL, hf5⟩ := Aa hf4
 obtain ⟨R, xs6, hx6, hR, hf6⟩ := Aa hf5
 obtain ⟨o, xs7, hx7, ho, hf7⟩ := Aa hf6
 have hxn := Ah hf7
 subst hxn hx7 hx6 hx5 hx4 hx3 hx2 hx1 hx0
 simp only [Ab] at hk hnw hc0 hbu hmo
 obtain ⟨ρ, hρ⟩ : ∃ ρ : Nat -> Int, ∀ i_, i_ < 8 -> ρ i_ = env [k, nw, c0, bu, mo, L, R, o] i_ := ⟨env [k, nw, c0, bu, mo, L, R, o], fun _ _ => rfl⟩
 refine ⟨ρ, hρ, ?_⟩
 have r0 : ρ 0 = k := hρ 0 (by decide)
 have r1 : ρ 1 = nw := hρ 1 (by decide)
 have r2 : ρ 2 = c0 := hρ 2 (by decide)
 have r3 : ρ 3 = bu := hρ 3 (by decide)
 have r4 : ρ 4 = mo := hρ 4 (by decide)
 have r5 : ρ 5 = L := hρ 5 (by decide)
 have r6 : ρ 6 = R := hρ 6 (by decide)
 have r7 : ρ 7 = o := hρ 7 (by decide)
 have hSS := Jj (Jj (Jj F9076 (Jj r0 hk)) (Jj (Jj r1 hnw) (Jj r2 hc0))) (Jj (Jj r3 (Jj hbu r4)) (Jj (Jj hmo r5) (Jj r6 r7)))
 obtain ⟨p1, p2, p3, p4⟩ := hp
 replace p1 : okR R := p1
 simp only [ewA, ewL, ewE, List.headD, List.tail, seval] at p2 p3 p4
 have rk := i64r hk
 unfold capR at p3
 have lo : IntKind.i64.wrap (((dc o).length : Nat) : Int) = ((dc o).length : Int) := i64w (by omega) (by omega)
 have lr := lenW p1
 by_cases hc : ((dc o).length : Int) < k /\ 0 < ((dc R).length : Int)
 ·obtain ⟨h1, h2⟩ := hc
  obtain ⟨x, y, z, w, er, hdr, hx, hy, hz, hw⟩ := HE p1 (i := 0) (by decide) h2
  have hR : dc R = [x, y, z, w] :: (dc R).drop 1 := hdr
  have er0 : (dc R).getD 0 [] = [x, y, z, w] := er
  have h2' : 0 < (dc R).length := by omega
  obtain ⟨o', ho'⟩ : ∃ o', o' = cd (dc o ++ [[x]]) := ⟨_, rfl⟩
  obtain ⟨R', hR'⟩ : ∃ R', R' = cd ((dc R).drop 1) := ⟨_, rfl⟩
  have do' : dc o' = dc o ++ [[x]] := by rw [ho']; exact Af _
  have dR' : dc R' = (dc R).drop 1 := by rw [hR']; exact Af _
  have lo' : ((dc o ++ [[x]]).length : Int) = ((dc o).length : Int) + 1 := by simp
  have lR' : (dc R').length + 1 = (dc R).length := by rw [dR', List.length_drop]; omega
  have oR' : okR R' := OM dR' (fun r hr => p1.1 r (List.mem_of_mem_drop hr)) (by rw [<- dR']; unfold capR; omega)
  have yp : lb76.ent.pre [k, nw, c0, bu, mo, L, R', o'] := ⟨oR', p2, by show ((dc o').length : Int) + ((dc R').length : Int) <= capR; rw [do', lo']; unfold capR; omega, by show ((dc o').length : Int) <= k; rw [do', lo']; omega⟩
  have ym : muTe [k, nw, c0, bu, mo, L, R', o'] < muTe [k, nw, c0, bu, mo, L, R, o] := by show (dc R').length < (dc R).length; omega
  have ih := hφ [k, nw, c0, bu, mo, L, R', o'] ⟨hk, hnw, hc0, hbu, hmo, rfl, rfl, rfl, trivial⟩ yp ym
  refine ⟨?_, ?_⟩
  ·simp (disch := omega) only [K0, Fn, A9, BF, BS, Fo, ewA, ewL, ewE, List.headD, List.tail, ewR, ewB, ewM, ewQ, reduceCtorEq, seval, hSS, h1, h2, h2', er0, hx, lo, lr]
   rw [<- hR', <- ho']
   exact ⟨⟨by omega, by omega⟩, yp, ym⟩
  ·simp (disch := omega) only [K1, Fn, A9, BF, BS, Fo, ewA, ewL, ewE, List.headD, List.tail, ewR, ewB, ewM, ewQ, reduceCtorEq, seval, hSS, h1, h2, h2', er0, hx, lo, lr]
   rw [<- hR', <- ho']
   obtain ⟨⟨i1, i2, i3, i4⟩, i5, i6, i7⟩ := ih
   obtain ⟨t, ht⟩ : ∃ t : Nat, (k - ((dc o).length : Int)).toNat = t + 1 := ⟨(k - ((dc o).length : Int)).toNat - 1, by omega⟩
   have e1 : LN [k, nw, c0, bu, mo, L, R, o] = t + 1 := ht
   have e2 : LN [k, nw, c0, bu, mo, L, R', o'] = t := by show (k - ((dc o').length : Int)).toNat = t; rw [do', lo']; omega
   rw [e2] at i6 i7
   refine ⟨⟨i1, i2, i3, i4⟩, i5, ?_, ?_⟩
   ·refine Eq.trans i6 ?_
    show (dc R').drop t = (dc R).drop _
    rw [e1, hR, dR']; rfl
   ·refine Eq.trans i7 ?_
    show dc o' ++ idsL ((dc R').take t) = dc o ++ idsL ((dc R).take _)
    rw [e1, do', dR', List.append_assoc]
    congr 1
    rw [hR]; rfl
 ·refine ⟨?_, ?_⟩
  ·simp (disch := omega) only [K0, Fn, A9, BF, BS, Fo, ewA, ewL, ewE, List.headD, List.tail, ewR, ewB, ewM, ewQ, reduceCtorEq, seval, hSS, hc, lo, lr]
   exact fun h => h
  ·simp (disch := omega) only [K1, Fn, A9, BF, BS, Fo, ewA, ewL, ewE, List.headD, List.tail, ewR, ewB, ewM, ewQ, reduceCtorEq, seval, hSS, hc, lo, lr]
   have hC : ((dc o).length : Int) < k -> ((dc R).length : Int) <= 0 := by omega
   simp only [if_pos hC]
   have hz : dc R = [] \/ LN [k, nw, c0, bu, mo, L, R, o] = 0 := by
    by_cases h : ((dc o).length : Int) < k
    ·exact Or.inl (List.length_eq_zero_iff.1 (by omega))
    ·right; show (k - ((dc o).length : Int)).toNat = 0; omega
   refine ⟨⟨rfl, rfl, rfl, rfl⟩, rfl, ?_, ?_⟩
   ·show dc R = (dc R).drop _
    rcases hz with h | h
    ·rw [h]; simp
    ·rw [h]; rfl
   ·show dc o = dc o ++ idsL ((dc R).take _)
    rcases hz with h | h
    ·rw [h]; simp [idsL]
    ·rw [h]; simp [idsL]
theorem c76ok : c76.OK Try.prog G0 := Ctx.OK.addL (c := ⟨[], []⟩) Ctx.OK.nil Xs.1 rfl
theorem ok76 : EntryOK Try.prog G0 e76 /\ PostOK e76 OI := by
 refine c76ok.nm.entryH Ai ev_76 (by kernel_rfl) _ rfl fun xs hf hp => ?_
 obtain ⟨l, hl, hF⟩ := An (l0 := c76n.l)
 show ∃ ρ : Nat -> Int, _ /\ OJ.tt c76n.l.F ρ = true /\ OI xs (OL.map (E.den c76n.l.F ρ))
 rw [hl]
 have F9076 := FC (k := 100009076) rfl (hF le76.nm.ent (by rfl) (by decide))
 replace hf : fits [kJ, kJ, kJ, kJ, .x, .x, kJ] xs := hf
 obtain ⟨nw, xs0, hx0, hnw, hf0⟩ := Aa hf
 obtain ⟨c0, xs1, hx1, hc0, hf1⟩ := Aa hf0
 obtain ⟨bu, xs2, hx2, hbu, hf2⟩ := Aa hf1
 obtain ⟨mo, xs3, hx3, hmo, hf3⟩ := Aa hf2
 obtain ⟨L, xs4, hx4, hL, hf4⟩ := Aa hf3
 obtain ⟨R, xs5, hx5, hR, hf5⟩ := Aa hf4
 obtain ⟨k, xs6, hx6, hk, hf6⟩ := Aa hf5
 have hxn := Ah hf6
 subst hxn hx6 hx5 hx4 hx3 hx2 hx1 hx0
 simp only [Ab] at hnw hc0 hbu hmo hk
 obtain ⟨ρ, hρ, hd⟩ := solve (F := l.F) 7 Tq (by kernel_rfl) [nw, c0, bu, mo, L, R, k]
 have hDf := AL (by kernel_rfl) hd
 refine ⟨ρ, hρ, ?_⟩
 have r0 : ρ 0 = nw := hρ 0 (by decide)
 have r1 : ρ 1 = c0 := hρ 1 (by decide)
 have r2 : ρ 2 = bu := hρ 2 (by decide)
 have r3 : ρ 3 = mo := hρ 3 (by decide)
 have r4 : ρ 4 = L := hρ 4 (by decide)
 have r5 : ρ 5 = R := hρ 5 (by decide)
 have r6 : ρ 6 = k := hρ 6 (by decide)
 obtain ⟨⟨v1, hv1, hd1, hn1⟩, ⟨v2, hv2, hd2, hn2⟩⟩ := Jj (nmd hd 0 rfl) (nmd hd 1 rfl)
 obtain ⟨⟨v3, hv3, hd3, hn3⟩, ⟨v4, hv4, hd4, hn4⟩⟩ := Jj (nmd hd 2 rfl) (nmd hd 3 rfl)
 obtain ⟨⟨v5, hv5, hd5, hn5⟩, ⟨v6, hv6, hd6, hn6⟩⟩ := Jj (nmd hd 4 rfl) (nmd hd 5 rfl)
 obtain ⟨v7, hv7, hd7, hn7⟩ := nmd hd 6 rfl
 simp only [Ab] at hn1 hn2 hn3 hn4
 simp (disch := omega) only [Ab, FV, F9076, Ent.nm_fn, r0, hnw, r1, hc0, r2, hbu, r3, hmo, r4, r5, r6, hk, hv1, hn1, hv2, hn2, hv3, hn3, hv4, hn4, hv5, hv6, hv7, ewA, ewL, ewE, List.headD, List.tail, ewR, ewB, ewM, ewQ, reduceCtorEq, seval] at hd1 hd2 hd3 hd4 hd5 hd6 hd7
 have hSS := Jj (Jj (Jj (Jj F9076 (Jj r0 hnw)) (Jj r1 (Jj hc0 r2))) (Jj (Jj hbu (Jj r3 hmo)) (Jj r4 (Jj r5 r6)))) (Jj (Jj (Jj hk (Jj hv1 hn1)) (Jj hv2 (Jj hn2 hv3))) (Jj (Jj hn3 (Jj hv4 hn4)) (Jj (Jj hv5 hv6) (Jj hv7 hDf))))
 replace hp : okR R := hp
 have d0 : dc (cd ([] : RL)) = [] := Af _
 have hcap := hp.2
 by_cases hk0 : k < 0
 ·refine ⟨?_, ?_⟩
  ·simp (disch := omega) only [OJ, ewA, ewL, ewE, List.headD, List.tail, ewR, ewB, ewM, ewQ, reduceCtorEq, seval, hSS, hk0]
  ·simp (disch := omega) only [OL, ewA, ewL, ewE, List.headD, List.tail, ewR, ewB, ewM, ewQ, reduceCtorEq, seval, hSS, hk0]
   refine ⟨⟨rfl, rfl, rfl, rfl⟩, rfl, ?_, ?_, (if_pos hk0).symm⟩
   ·show dc R = (dc R).drop k.toNat
    rw [show k.toNat = 0 by omega]; rfl
   ·show dc (cd []) = idsL ((dc R).take k.toNat)
    rw [show k.toNat = 0 by omega, d0]; rfl
 ·have yp : le76.ent.pre [k, nw, c0, bu, mo, L, R, cd []] := ⟨hp, by show 0 <= k; omega, by show ((dc (cd [])).length : Int) + ((dc R).length : Int) <= capR; rw [d0]; show 0 + _ <= _; omega, by show ((dc (cd [])).length : Int) <= k; rw [d0]; show (0 : Int) <= k; omega⟩
  obtain ⟨i1, i5, i6, i7⟩ := (PostOK.use (ks := [kJ, kJ, kJ, kJ, kJ, .x, .x, .x]) (os := [kJ, kJ, kJ, kJ, .x, .x, .x]) (vs := [v1, v2, v3, v4, v5, v6, v7]) Xs.2 rfl rfl ⟨hd1, hd2, hd3, hd4, hd5, hd6, hd7, trivial⟩) ⟨(by first | rfl | assumption | exact i64w (by omega) (by omega) | exact u8w (by omega) (by omega)), (by first | rfl | assumption | exact i64w (by omega) (by omega) | exact u8w (by omega) (by omega)), (by first | rfl | assumption | exact i64w (by omega) (by omega) | exact u8w (by omega) (by omega)), (by first | rfl | assumption | exact i64w (by omega) (by omega) | exact u8w (by omega) (by omega)), (by first | rfl | assumption | exact i64w (by omega) (by omega) | exact u8w (by omega) (by omega)), rfl, rfl, rfl, trivial⟩ yp
  have e1 : LN [k, nw, c0, bu, mo, L, R, cd []] = k.toNat := by show (k - ((dc (cd [])).length : Int)).toNat = _; rw [d0]; show (k - 0).toNat = _; rw [Int.sub_zero]
  rw [e1] at i6 i7
  refine ⟨?_, ?_⟩
  ·simp (disch := omega) only [OJ, ewA, ewL, ewE, List.headD, List.tail, ewR, ewB, ewM, ewQ, reduceCtorEq, seval, hSS, hk0]
   exact yp
  ·simp (disch := omega) only [OL, ewA, ewL, ewE, List.headD, List.tail, ewR, ewB, ewM, ewQ, reduceCtorEq, seval, hSS, hk0]
   refine ⟨i1, i5, i6, ?_, (if_neg hk0).symm⟩
   refine Eq.trans i7 ?_
   show dc (cd []) ++ _ = _
   rw [d0]; rfl
def boS : Sh := .obj 95 [wsh, i64, i64, i64, i64, lsR, lsR]
def wob1 : Ob := { j := 1, ty := 74, tl := some k3, cs := [.sc .x, i64, i64, i64, i64, ltm] }
def boO : Ob := { j := 0, ty := 95, cs := [.ref 1, i64, i64, i64, i64, lsR, lsR] }
def BV (S now bu le mo T rn rc rb rm A B : Int) : Prop := RV S now bu le mo T rc (dc A) (dc B) /\ rn = now /\ rb = bu /\ rm = mo
def preBV (xs : List Int) : Prop := BV (env xs 0) (env xs 1) (env xs 2) (env xs 3) (env xs 4) (env xs 5) (env xs 6) (env xs 7) (env xs 8) (env xs 9) (env xs 10) (env xs 11)
def b79 : Ent := ⟨79, 79, [boS, i64], [], [0, 1, 2, 3, 4], .lt .b 1, z0, preBV⟩
def c79 : Ctx := ⟨[e29, e106, e30, e107], []⟩
def c79n : Ctx := c79.nm
def IK : List E := [(vX 0), (vI 1), (vI 2), (vI 3), (vI 4), (vX 5), (vI 12)]
def IL : List E := [(vI 6), (vI 7), (vI 8), (vI 9), (vX 10), (vX 11), (vI 12)]
def IM : List (Nat × E) := [(640000185600320, (aI 100000029 0 IK)),
 (640000185600321, (aB 100000029 1 IK)),
 (640000678400320, (aI 100000106 0 IL)),
 (640000678400321, (aB 100000106 1 IL)),
 (640000192000320, (aI 100000030 0 IK)),
 (640000192000321, (aI 100000030 1 IK)),
 (640000192000322, (aI 100000030 2 IK)),
 (640000684800320, (aI 100000107 0 IL)),
 (640000684800321, (aI 100000107 1 IL)),
 (640000684800322, (aI 100000107 2 IL))]
def QK : E := (.and (.and (.and (aB 100000029 1000000 [(vX 0), (vI 1), (vI 2), (vI 3), (vI 4), (vX 5), (vI 12)]) (dE IM 0 2)) (.and (.and (aB 100000106 1000000 [(vI 6), (vI 7), (vI 8), (vI 9), (vX 10), (vX 11), (vI 12)]) (dE IM 2 2)) (.and (.and (aB 100000030 1000000 [(vX 0), (vI 1), (vI 2), (vI 3), (vI 4), (vX 5), (vI 12)]) (dE IM 4 3)) (.and (aB 100000107 1000000 [(vI 6), (vI 7), (vI 8), (vI 9), (vX 10), (vX 11), (vI 12)]) (dE IM 7 3))))) (.and (.and (.and (.and (.cmp .eql (vI 640000185600320) (vI 640000678400320)) (.cmp .eql (.var .b 640000185600321) (.var .b 640000678400321))) (.cmp .eql (vI 640000192000320) (vI 640000684800320))) (.cmp .eql (vI 640000192000321) (vI 640000684800321))) (.cmp .eql (vI 640000192000322) (vI 640000684800322))))
def UO : List E := []
def e79 : Ent := b79.fw (fnR c79n.l.F b79.np QK UO Aj)
theorem ev_79 : evE Try.prog G0 (Ad c79n.fs) (ltOf c79n.ls) 40 10 e79 = some (QK, UO) := by kernel_rfl
def p56 : List Bool := [true,true,true,true,true,false,true,false]
def preL56 (xs : List Int) : Prop := preBV xs /\ 1 <= env xs 12 /\ env xs 12 <= 1000 /\ 0 <= env xs 13 /\ env xs 13 <= 5096
def ES (xs : List Int) : Nat := (env xs 7 - env xs 13).toNat
def lb56 : LEnt := ⟨⟨9056, 999999, [boS, i64, i64], [], [0, 1, 2, 3, 4], .tup [], z0, preL56⟩, [0, 6, 7], [], [7] ++ (List.range 14).map (· + 100), [.ex 0], 114, []⟩
def c56a : Ctx := ⟨[e79], []⟩
def HJ : Ctx := c56a.nm
def K2 : E := (.and (.or (.not (.cmp .lss (vI 13) (vI 7))) (aB 100000079 1000000 [(vX 0), (vI 1), (vI 2), (vI 3), (vI 4), (vX 5), (vI 6), (vI 7), (vI 8), (vI 9), (vX 10), (vX 11), (vI 13)])) (.or (.not (.cmp .lss (vI 13) (vI 7))) (aB 9056 1000000 [(vX 0), (vI 1), (vI 2), (vI 3), (vI 4), (vX 5), (vI 6), (vI 7), (vI 8), (vI 9), (vX 10), (vX 11), (vI 12), (.bin .add .i64 (vI 13) (vI 12))])))
def Sc : List E := []
def le56 : LEnt := lb56.fw (fnL lb56 HJ.l K2 Sc Aj ES)
theorem YT : evL Try.prog G0 (Ad HJ.fs) (evFn Try.prog G0 (Ad HJ.fs) (ltOf HJ.ls) 40 10) 40 (subL HJ.ls 56 p56) le56 (AC Try.prog 56 p56) = some (K2, Sc) := by kernel_rfl
def b56 : Ent := ⟨56, 56, [boS, i64], [], [0, 1, 2, 3, 4], .lt .b 1, z0, preBV⟩
def c56 : Ctx := ⟨[e31, e18, e20, e16, e21, e78, e19, e79, e25], [(56, p56, le56)]⟩
def c56n : Ctx := c56.nm
def IP : List E := [(vX 0), (vI 1), (vI 2), (vI 3), (vI 4), (vX 5)]
def DF : List (Nat × E) := [(640000198400320, (aX 100000031 0 IP)),
 (640000115202880, (aI 100000018 0 IP)),
 (640000128009024, (aI 100000020 0 IP)),
 (640000102419776, (aI 100000016 0 IP)),
 (640000134426944, (aI 100000021 0 IP)),
 (640000499234112, (aX 100000078 0 [(vI 6), (vI 7), (vI 8), (vI 9), (vX 10), (vX 11)])),
 (640000121634624, (aB 100000019 0 [(vX 640000198400320), (vX 640000499234112)])),
 (640000160039232, (aI 100000025 0 [(vI 12), (.bin .add .i64 (lI 1) (.bin .mul .i64 (.dv .quo .i64 (vI 7) 64) (lI 6)))]))]
def Sd : E := (.or (.cmp .neq (vI 640000115202880) (vI 6)) (.cmp .neq (vI 640000128009024) (.bin .add .i64 (aI 0 0 [(vX 10)]) (aI 0 0 [(vX 11)]))))
def Se : E := (.or Sd (.cmp .neq (vI 640000102419776) (aI 0 0 [(vX 11)])))
def K3 : E := (.or Se (.cmp .neq (vI 640000134426944) (vI 9)))
def OO : E := (.or K3 (.not (.var .b 640000121634624)))
def Sf : E := (.bin .add .i64 (lI 1) (.bin .mul .i64 (.dv .quo .i64 (vI 7) 64) (lI 6)))
def QL : E := (.and (.and (.and (aB 100000031 1000000 [(vX 0), (vI 1), (vI 2), (vI 3), (vI 4), (vX 5)]) (dE DF 0 1)) (.and (.and (.and (aB 100000018 1000000 [(vX 0), (vI 1), (vI 2), (vI 3), (vI 4), (vX 5)]) (dE DF 1 1)) (.and (.or (.cmp .neq (vI 640000115202880) (vI 6)) (.and (aB 100000020 1000000 [(vX 0), (vI 1), (vI 2), (vI 3), (vI 4), (vX 5)]) (dE DF 2 1))) (.and (.or Sd (.and (aB 100000016 1000000 [(vX 0), (vI 1), (vI 2), (vI 3), (vI 4), (vX 5)]) (dE DF 3 1))) (.and (.or Se (.and (aB 100000021 1000000 [(vX 0), (vI 1), (vI 2), (vI 3), (vI 4), (vX 5)]) (dE DF 4 1))) (.and (.or K3 (.and (aB 100000078 1000000 [(vI 6), (vI 7), (vI 8), (vI 9), (vX 10), (vX 11)]) (dE DF 5 1))) (.and (.or K3 (.and (.and (.not K3) (aB 100000019 1000000 [(vX 640000198400320), (vX 640000499234112)])) (dE DF 6 1))) (.or OO (aB 100000079 1000000 [(vX 0), (vI 1), (vI 2), (vI 3), (vI 4), (vX 5), (vI 6), (vI 7), (vI 8), (vI 9), (vX 10), (vX 11), (vI 12)])))))))) (.or OO (.and (.and (aB 100000025 1000000 [(vI 12), Sf]) (dE DF 7 1)) (aB 100009056 1000000 [(vX 0), (vI 1), (vI 2), (vI 3), (vI 4), (vX 5), (vI 6), (vI 7), (vI 8), (vI 9), (vX 10), (vX 11), Sf, (vI 640000160039232)]))))) (.not OO))
def UP : List E := []
def e56 : Ent := b56.fw (fnR c56n.l.F b56.np QL UP Aj)
theorem ev_56 : evE Try.prog G0 (Ad c56n.fs) (ltOf c56n.ls) 40 10 e56 = some (QL, UP) := by kernel_rfl
section
variable {S now bu le mo T c A B : Int}
theorem RV.okAB (h : RV S now bu le mo T c (dc A) (dc B)) : okR A /\ okR B := by
 have hl := h.lenA
 have hc := h.cp
 have hct := h.ct
 have key : ∀ i : Nat, (i : Int) < c -> fits k4 (rowT (dc T) i) := fun i hi => by
  obtain ⟨Q, ok, _⟩ := h.r
  have hil : i < (dc T).length := by omega
  exact ⟨i64w (by show _ <= (i : Int); omega) (by show (i : Int) <= _; omega), rowsC ok.rT (j := 4) hil rfl, rowsC ok.rT (j := 0) hil rfl, rowsC ok.rT (j := 1) hil rfl, trivial⟩
 refine ⟨⟨fun r hr => ?_, by unfold capR; omega⟩, ⟨fun r hr => ?_, by unfold capR; omega⟩⟩
 ·obtain ⟨i, rfl, hi, _⟩ := h.rows.1 r hr
  exact key i hi
 ·obtain ⟨i, rfl, hi, _⟩ := h.rows.2 r hr
  exact key i hi
end
theorem c79ok : c79.OK Try.prog G0 := (((Ctx.OK.nil.addF Xq.1 rfl).addF ok30 rfl).addF Xp.1 rfl).addF ok29 rfl
set_option maxHeartbeats 1000000 in
theorem ok79 : EntryOK Try.prog G0 e79 /\ PostOK e79 Aj := by
 refine c79ok.nm.entryH Ai ev_79 (by kernel_rfl) _ rfl fun xs hf hp => ?_
 obtain ⟨l, hl, hF⟩ := An (l0 := c79n.l)
 show ∃ ρ : Nat -> Int, _ /\ QK.tt c79n.l.F ρ = true /\ Aj xs (UO.map (E.den c79n.l.F ρ))
 rw [hl]
 have F29 := FC (k := 100000029) rfl (hF e29.nm (by rfl) (by decide))
 have F30 := FC (k := 100000030) rfl (hF e30.nm (by rfl) (by decide))
 have F106 := FC (k := 100000106) rfl (hF e106.nm (by rfl) (by decide))
 have F107 := FC (k := 100000107) rfl (hF e107.nm (by rfl) (by decide))
 replace hf : fits [.x, kJ, kJ, kJ, kJ, .x, kJ, kJ, kJ, kJ, .x, .x, kJ] xs := hf
 obtain ⟨S, xs0, hx0, hS, hf0⟩ := Aa hf
 obtain ⟨now, xs1, hx1, hnow, hf1⟩ := Aa hf0
 obtain ⟨bu, xs2, hx2, hbu, hf2⟩ := Aa hf1
 obtain ⟨le, xs3, hx3, hle, hf3⟩ := Aa hf2
 obtain ⟨mo, xs4, hx4, hmo, hf4⟩ := Aa hf3
 obtain ⟨T, xs5, hx5, hT, hf5⟩ := Aa hf4
 obtain ⟨rn, xs6, hx6, hrn, hf6⟩ := Aa hf5
 obtain ⟨rc, xs7, hx7, hrc, hf7⟩ := Aa hf6
 obtain ⟨rb, xs8, hx8, hrb, hf8⟩ := Aa hf7
 obtain ⟨rm, xs9, hx9, hrm, hf9⟩ := Aa hf8
 obtain ⟨A, xs10, hx10, hA, hf10⟩ := Aa hf9
 obtain ⟨B, xs11, hx11, hB, hf11⟩ := Aa hf10
 obtain ⟨id, xs12, hx12, hid, hf12⟩ := Aa hf11
 have hxn := Ah hf12
 subst hxn hx12 hx11 hx10 hx9 hx8 hx7 hx6 hx5 hx4 hx3 hx2 hx1 hx0
 simp only [Ab] at hnow hbu hle hmo hrn hrc hrb hrm hid
 obtain ⟨ρ, hρ, hd⟩ := solve (F := l.F) 13 IM (by kernel_rfl) [S, now, bu, le, mo, T, rn, rc, rb, rm, A, B, id]
 have hDf := AL (by kernel_rfl) hd
 refine ⟨ρ, hρ, ?_⟩
 have r0 : ρ 0 = S := hρ 0 (by decide)
 have r1 : ρ 1 = now := hρ 1 (by decide)
 have r2 : ρ 2 = bu := hρ 2 (by decide)
 have r3 : ρ 3 = le := hρ 3 (by decide)
 have r4 : ρ 4 = mo := hρ 4 (by decide)
 have r5 : ρ 5 = T := hρ 5 (by decide)
 have r6 : ρ 6 = rn := hρ 6 (by decide)
 have r7 : ρ 7 = rc := hρ 7 (by decide)
 have r8 : ρ 8 = rb := hρ 8 (by decide)
 have r9 : ρ 9 = rm := hρ 9 (by decide)
 have r10 : ρ 10 = A := hρ 10 (by decide)
 have r11 : ρ 11 = B := hρ 11 (by decide)
 have r12 : ρ 12 = id := hρ 12 (by decide)
 obtain ⟨⟨v1, hv1, hd1, hn1⟩, ⟨v2, hv2, hd2, hn2⟩⟩ := Jj (nmd hd 0 rfl) (nmd hd 1 rfl)
 obtain ⟨⟨v3, hv3, hd3, hn3⟩, ⟨v4, hv4, hd4, hn4⟩⟩ := Jj (nmd hd 2 rfl) (nmd hd 3 rfl)
 obtain ⟨⟨v5, hv5, hd5, hn5⟩, ⟨v6, hv6, hd6, hn6⟩⟩ := Jj (nmd hd 4 rfl) (nmd hd 5 rfl)
 obtain ⟨⟨v7, hv7, hd7, hn7⟩, ⟨v8, hv8, hd8, hn8⟩⟩ := Jj (nmd hd 6 rfl) (nmd hd 7 rfl)
 obtain ⟨⟨v9, hv9, hd9, hn9⟩, ⟨v10, hv10, hd10, hn10⟩⟩ := Jj (nmd hd 8 rfl) (nmd hd 9 rfl)
 simp only [Ab] at hn1 hn3 hn5 hn6 hn7 hn8 hn9 hn10
 simp (disch := omega) only [Ab, IK, IL, F106, F107, F29, F30, Ent.nm_fn, r0, r1, hnow, r2, hbu, r3, hle, r4, hmo, r5, r6, hrn, r7, hrc, r8, hrb, r9, hrm, r10, r11, r12, hid, hv1, hn1, hv2, hn2, hv3, hn3, hv4, hn4, hv5, hn5, hv6, hn6, hv7, hn7, hv8, hn8, hv9, hn9, hv10, hn10, ewA, ewL, ewE, List.headD, List.tail, ewR, ewB, ewM, ewQ, reduceCtorEq, seval] at hd1 hd2 hd3 hd4 hd5 hd6 hd7 hd8 hd9 hd10
 have hSS := Jj (Jj (Jj (Jj (Jj F29 F30) (Jj F106 (Jj F107 r0))) (Jj (Jj r1 (Jj hnow r2)) (Jj hbu (Jj r3 hle)))) (Jj (Jj (Jj r4 (Jj hmo r5)) (Jj r6 (Jj hrn r7))) (Jj (Jj hrc (Jj r8 hrb)) (Jj r9 (Jj hrm r10))))) (Jj (Jj (Jj (Jj r11 (Jj r12 hid)) (Jj hv1 (Jj hn1 hv2))) (Jj (Jj hn2 (Jj hv3 hn3)) (Jj hv4 (Jj hn4 hv5)))) (Jj (Jj (Jj hn5 (Jj hv6 hn6)) (Jj hv7 (Jj hn7 hv8))) (Jj (Jj hn8 (Jj hv9 hn9)) (Jj hv10 (Jj hn10 hDf)))))
 obtain ⟨hr, e1, e2, e3⟩ := hp
 replace hr : RV S now bu le mo T rc (dc A) (dc B) := hr
 have hok := hr.okAB
 have y29 : e29.pre [S, now, bu, le, mo, T, id] := hr.preR id
 have y30 : e30.pre [S, now, bu, le, mo, T, id] := hr.preR id
 have y106 : e106.pre [rn, rc, rb, rm, A, B, id] := hok
 have y107 : e107.pre [rn, rc, rb, rm, A, B, id] := hok
 obtain ⟨a1, a2⟩ := hr.dead ⟨hd1, hd2, trivial⟩
 obtain ⟨b1, b2⟩ := (PostOK.use (ks := [kJ, kJ, kJ, kJ, .x, .x, kJ]) (os := [kJ, .b]) (vs := [v3, v4]) Xp.2 rfl rfl ⟨hd3, hd4, trivial⟩) ⟨(by first | rfl | assumption | exact i64w (by omega) (by omega) | exact u8w (by omega) (by omega)), (by first | rfl | assumption | exact i64w (by omega) (by omega) | exact u8w (by omega) (by omega)), (by first | rfl | assumption | exact i64w (by omega) (by omega) | exact u8w (by omega) (by omega)), (by first | rfl | assumption | exact i64w (by omega) (by omega) | exact u8w (by omega) (by omega)), rfl, rfl, (by first | rfl | assumption | exact i64w (by omega) (by omega) | exact u8w (by omega) (by omega)), trivial⟩ y106
 obtain ⟨c1, c2, c3⟩ := hr.plc ⟨hd5, hd6, hd7, trivial⟩
 obtain ⟨g1, g2, g3⟩ := (PostOK.use (ks := [kJ, kJ, kJ, kJ, .x, .x, kJ]) (os := [kJ, kJ, kJ]) (vs := [v8, v9, v10]) Xq.2 rfl rfl ⟨hd8, hd9, hd10, trivial⟩) ⟨(by first | rfl | assumption | exact i64w (by omega) (by omega) | exact u8w (by omega) (by omega)), (by first | rfl | assumption | exact i64w (by omega) (by omega) | exact u8w (by omega) (by omega)), (by first | rfl | assumption | exact i64w (by omega) (by omega) | exact u8w (by omega) (by omega)), (by first | rfl | assumption | exact i64w (by omega) (by omega) | exact u8w (by omega) (by omega)), rfl, rfl, (by first | rfl | assumption | exact i64w (by omega) (by omega) | exact u8w (by omega) (by omega)), trivial⟩ y107
 have t1 : v1 = v3 := a1.trans b1.symm
 have t2 : v2 = v4 := a2.trans b2.symm
 have t3 : v5 = v8 := c1.trans g1.symm
 have t4 : v6 = v9 := c2.trans g2.symm
 have t5 : v7 = v10 := c3.trans g3.symm
 refine ⟨?_, trivial⟩
 simp (disch := omega) only [QK, ewA, ewL, ewE, List.headD, List.tail, ewR, ewB, ewM, ewQ, reduceCtorEq, seval, hSS, t1, t2, t3, t4, t5]
 exact ⟨y29, y106, y30, y107⟩
theorem YU : c56a.OK Try.prog G0 := Ctx.OK.nil.addF ok79.1 rfl
theorem ok56L : Aq Try.prog G0 56 p56 le56 /\ PostOK le56.ent Aj := by
 refine YU.nm.loopH Ai rfl ⟨_, _, _, Try.func56, rfl, rfl⟩ YT (by kernel_rfl) _ rfl fun xs hf hp φ hφ => ?_
 obtain ⟨l, hl, hS, hF⟩ := Bj lb56 φ ES (ES xs) HJ.l (by decide)
 show ∃ ρ : Nat -> Int, _ /\ K2.tt (Tabs.F (enH lb56 φ ES (ES xs) :: HJ.l)) ρ = true /\ Aj xs (Sc.map (E.den (Tabs.F (enH lb56 φ ES (ES xs) :: HJ.l)) ρ))
 rw [hl]
 replace hφ : ∀ ys, fits [.x, kJ, kJ, kJ, kJ, .x, kJ, kJ, kJ, kJ, .x, .x, kJ, kJ] ys -> lb56.ent.pre ys -> ES ys < ES xs -> Aj ys (Am φ ys 0 lb56.ent.oks) := hφ
 have F9056 := FC (k := 9056) rfl hS
 have F79 := FC (k := 100000079) rfl (hF e79.nm (by rfl) (by decide) (by decide))
 replace hf : fits [.x, kJ, kJ, kJ, kJ, .x, kJ, kJ, kJ, kJ, .x, .x, kJ, kJ] xs := hf
 obtain ⟨S, xs0, hx0, hS, hf0⟩ := Aa hf
 obtain ⟨now, xs1, hx1, hnow, hf1⟩ := Aa hf0
 obtain ⟨bu, xs2, hx2, hbu, hf2⟩ := Aa hf1
 obtain ⟨le, xs3, hx3, hle, hf3⟩ := Aa hf2
 obtain ⟨mo, xs4, hx4, hmo, hf4⟩ := Aa hf3
 obtain ⟨T, xs5, hx5, hT, hf5⟩ := Aa hf4
 obtain ⟨rn, xs6, hx6, hrn, hf6⟩ := Aa hf5
 obtain ⟨rc, xs7, hx7, hrc, hf7⟩ := Aa hf6
 obtain ⟨rb, xs8, hx8, hrb, hf8⟩ := Aa hf7
 obtain ⟨rm, xs9, hx9, hrm, hf9⟩ := Aa hf8
 obtain ⟨A, xs10, hx10, hA, hf10⟩ := Aa hf9
 obtain ⟨B, xs11, hx11, hB, hf11⟩ := Aa hf10
 obtain ⟨st, xs12, hx12, hst, hf12⟩ := Aa hf11
 obtain ⟨k, xs13, hx13, hk, hf13⟩ := Aa hf12
 have hxn := Ah hf13
 subst hxn hx13 hx12 hx11 hx10 hx9 hx8 hx7 hx6 hx5 hx4 hx3 hx2 hx1 hx0
 simp only [Ab] at hnow hbu hle hmo hrn hrc hrb hrm hst hk
 obtain ⟨ρ, hρ⟩ : ∃ ρ : Nat -> Int, ∀ i_, i_ < 14 -> ρ i_ = env [S, now, bu, le, mo, T, rn, rc, rb, rm, A, B, st, k] i_ := ⟨env [S, now, bu, le, mo, T, rn, rc, rb, rm, A, B, st, k], fun _ _ => rfl⟩
 refine ⟨ρ, hρ, ?_⟩
 have r0 : ρ 0 = S := hρ 0 (by decide)
 have r1 : ρ 1 = now := hρ 1 (by decide)
 have r2 : ρ 2 = bu := hρ 2 (by decide)
 have r3 : ρ 3 = le := hρ 3 (by decide)
 have r4 : ρ 4 = mo := hρ 4 (by decide)
 have r5 : ρ 5 = T := hρ 5 (by decide)
 have r6 : ρ 6 = rn := hρ 6 (by decide)
 have r7 : ρ 7 = rc := hρ 7 (by decide)
 have r8 : ρ 8 = rb := hρ 8 (by decide)
 have r9 : ρ 9 = rm := hρ 9 (by decide)
 have r10 : ρ 10 = A := hρ 10 (by decide)
 have r11 : ρ 11 = B := hρ 11 (by decide)
 have r12 : ρ 12 = st := hρ 12 (by decide)
 have r13 : ρ 13 = k := hρ 13 (by decide)
 have hSS := Jj (Jj (Jj (Jj F9056 (Jj F79 r0)) (Jj r1 (Jj hnow r2))) (Jj (Jj hbu (Jj r3 hle)) (Jj (Jj r4 hmo) (Jj r5 r6)))) (Jj (Jj (Jj hrn (Jj r7 hrc)) (Jj r8 (Jj hrb r9))) (Jj (Jj hrm (Jj r10 r11)) (Jj (Jj r12 hst) (Jj r13 hk))))
 obtain ⟨p1, p2, p3, p4, p5⟩ := hp
 have hr : RV S now bu le mo T rc (dc A) (dc B) := p1.1
 have hct := hr.ct
 simp only [ewA, ewL, ewE, List.headD, List.tail, seval] at p2 p3 p4 p5
 by_cases hk1 : k < rc
 ·have y79 : e79.pre [S, now, bu, le, mo, T, rn, rc, rb, rm, A, B, k] := p1
  have yp : lb56.ent.pre [S, now, bu, le, mo, T, rn, rc, rb, rm, A, B, st, k + st] := ⟨p1, p2, p3, by show 0 <= k + st; omega, by show k + st <= 5096; omega⟩
  have ym : ES [S, now, bu, le, mo, T, rn, rc, rb, rm, A, B, st, k + st] < ES [S, now, bu, le, mo, T, rn, rc, rb, rm, A, B, st, k] := by show (rc - (k + st)).toNat < (rc - k).toNat; omega
  refine ⟨?_, trivial⟩
  simp (disch := omega) only [K2, ewA, ewL, ewE, List.headD, List.tail, ewR, ewB, ewM, ewQ, reduceCtorEq, seval, hSS, hk1]
  repeat' (first | (with_reducible apply Jj) | (with_reducible intro _))
  all_goals first | with_reducible assumption | trivial | omega | (split <;> omega)
 ·refine ⟨?_, trivial⟩
  simp (disch := omega) only [K2, ewA, ewL, ewE, List.headD, List.tail, ewR, ewB, ewM, ewQ, reduceCtorEq, seval, hSS, hk1]
theorem c56ok : c56.OK Try.prog G0 := by
 have h : Ctx.OK Try.prog G0 ⟨[e31, e18, e20, e16, e21, e78, e19, e79, e25], []⟩ :=
  ((((((((Ctx.OK.nil.addF ok25 rfl).addF ok79.1 rfl).addF ok19 rfl).addF ok78.1 rfl).addF ok21 rfl).addF ok16 rfl).addF ok20 rfl).addF ok18 rfl).addF ok31 rfl
 exact h.addL ok56L.1 rfl
set_option maxHeartbeats 1000000 in
theorem ok56 : EntryOK Try.prog G0 e56 /\ PostOK e56 Aj := by
 refine c56ok.nm.entryH Ai ev_56 (by kernel_rfl) _ rfl fun xs hf hp => ?_
 obtain ⟨l, hl, hF⟩ := An (l0 := c56n.l)
 show ∃ ρ : Nat -> Int, _ /\ QL.tt c56n.l.F ρ = true /\ Aj xs (UP.map (E.den c56n.l.F ρ))
 rw [hl]
 have F16 := FC (k := 100000016) rfl (hF e16.nm (by rfl) (by decide))
 have F18 := FC (k := 100000018) rfl (hF e18.nm (by rfl) (by decide))
 have F19 := FC (k := 100000019) rfl (hF e19.nm (by rfl) (by decide))
 have F20 := FC (k := 100000020) rfl (hF e20.nm (by rfl) (by decide))
 have F21 := FC (k := 100000021) rfl (hF e21.nm (by rfl) (by decide))
 have F25 := FC (k := 100000025) rfl (hF e25.nm (by rfl) (by decide))
 have F31 := FC (k := 100000031) rfl (hF e31.nm (by rfl) (by decide))
 have F78 := FC (k := 100000078) rfl (hF e78.nm (by rfl) (by decide))
 have F79 := FC (k := 100000079) rfl (hF e79.nm (by rfl) (by decide))
 have F9056 := FC (k := 100009056) rfl (hF le56.nm.ent (by rfl) (by decide))
 replace hf : fits [.x, kJ, kJ, kJ, kJ, .x, kJ, kJ, kJ, kJ, .x, .x, kJ] xs := hf
 obtain ⟨S, xs0, hx0, hS, hf0⟩ := Aa hf
 obtain ⟨now, xs1, hx1, hnow, hf1⟩ := Aa hf0
 obtain ⟨bu, xs2, hx2, hbu, hf2⟩ := Aa hf1
 obtain ⟨le, xs3, hx3, hle, hf3⟩ := Aa hf2
 obtain ⟨mo, xs4, hx4, hmo, hf4⟩ := Aa hf3
 obtain ⟨T, xs5, hx5, hT, hf5⟩ := Aa hf4
 obtain ⟨rn, xs6, hx6, hrn, hf6⟩ := Aa hf5
 obtain ⟨rc, xs7, hx7, hrc, hf7⟩ := Aa hf6
 obtain ⟨rb, xs8, hx8, hrb, hf8⟩ := Aa hf7
 obtain ⟨rm, xs9, hx9, hrm, hf9⟩ := Aa hf8
 obtain ⟨A, xs10, hx10, hA, hf10⟩ := Aa hf9
 obtain ⟨B, xs11, hx11, hB, hf11⟩ := Aa hf10
 obtain ⟨id, xs12, hx12, hid, hf12⟩ := Aa hf11
 have hxn := Ah hf12
 subst hxn hx12 hx11 hx10 hx9 hx8 hx7 hx6 hx5 hx4 hx3 hx2 hx1 hx0
 simp only [Ab] at hnow hbu hle hmo hrn hrc hrb hrm hid
 obtain ⟨ρ, hρ, hd⟩ := solve (F := l.F) 13 DF (by kernel_rfl) [S, now, bu, le, mo, T, rn, rc, rb, rm, A, B, id]
 have hDf := AL (by kernel_rfl) hd
 refine ⟨ρ, hρ, ?_⟩
 have r0 : ρ 0 = S := hρ 0 (by decide)
 have r1 : ρ 1 = now := hρ 1 (by decide)
 have r2 : ρ 2 = bu := hρ 2 (by decide)
 have r3 : ρ 3 = le := hρ 3 (by decide)
 have r4 : ρ 4 = mo := hρ 4 (by decide)
 have r5 : ρ 5 = T := hρ 5 (by decide)
 have r6 : ρ 6 = rn := hρ 6 (by decide)
 have r7 : ρ 7 = rc := hρ 7 (by decide)
 have r8 : ρ 8 = rb := hρ 8 (by decide)
 have r9 : ρ 9 = rm := hρ 9 (by decide)
 have r10 : ρ 10 = A := hρ 10 (by decide)
 have r11 : ρ 11 = B := hρ 11 (by decide)
 have r12 : ρ 12 = id := hρ 12 (by decide)
 obtain ⟨⟨v1, hv1, hd1, hn1⟩, ⟨v2, hv2, hd2, hn2⟩⟩ := Jj (nmd hd 0 rfl) (nmd hd 1 rfl)
 obtain ⟨⟨v3, hv3, hd3, hn3⟩, ⟨v4, hv4, hd4, hn4⟩⟩ := Jj (nmd hd 2 rfl) (nmd hd 3 rfl)
 obtain ⟨⟨v5, hv5, hd5, hn5⟩, ⟨v6, hv6, hd6, hn6⟩⟩ := Jj (nmd hd 4 rfl) (nmd hd 5 rfl)
 obtain ⟨⟨v7, hv7, hd7, hn7⟩, ⟨v8, hv8, hd8, hn8⟩⟩ := Jj (nmd hd 6 rfl) (nmd hd 7 rfl)
 simp only [Ab] at hn2 hn3 hn4 hn5 hn8
 simp (disch := omega) only [Ab, IP, F16, F18, F19, F20, F21, F25, F31, F78, Ent.nm_fn, r0, r1, hnow, r2, hbu, r3, hle, r4, hmo, r5, r6, hrn, r7, hrc, r8, hrb, r9, hrm, r10, r11, r12, hid, hv1, hv2, hn2, hv3, hn3, hv4, hn4, hv5, hn5, hv6, hv7, hn7, hv8, hn8, ewA, ewL, ewE, List.headD, List.tail, ewR, ewB, ewM, ewQ, reduceCtorEq, seval] at hd1 hd2 hd3 hd4 hd5 hd6 hd7 hd8
 have hSS := Jj (Jj (Jj (Jj (Jj F16 F18) (Jj F19 (Jj F20 F21))) (Jj (Jj F25 (Jj F31 F78)) (Jj F79 (Jj F9056 r0)))) (Jj (Jj (Jj r1 (Jj hnow r2)) (Jj hbu (Jj r3 hle))) (Jj (Jj r4 (Jj hmo r5)) (Jj r6 (Jj hrn r7))))) (Jj (Jj (Jj (Jj hrc (Jj r8 hrb)) (Jj r9 (Jj hrm r10))) (Jj (Jj r11 (Jj r12 hid)) (Jj hv1 (Jj hv2 hn2)))) (Jj (Jj (Jj hv3 (Jj hn3 hv4)) (Jj hn4 (Jj hv5 hn5))) (Jj (Jj hv6 (Jj hv7 hn7)) (Jj hv8 (Jj hn8 hDf)))))
 have hp0 : preBV [S, now, bu, le, mo, T, rn, rc, rb, rm, A, B] := hp
 obtain ⟨hr, e1, e2, e3⟩ := hp
 replace hr : RV S now bu le mo T rc (dc A) (dc B) := hr
 replace e1 : rn = now := e1
 replace e3 : rm = mo := e3
 have hok := hr.okAB
 have hct := hr.ct
 have hla := hr.lenA
 have z2 := hr.nowV hd2
 have z3 := hr.lenV hd3
 have z4 := hr.lagV hd4
 have z5 := hr.movV hd5
 have y31 : e31.pre [S, now, bu, le, mo, T] := hr.wx
 have y18 : e18.pre [S, now, bu, le, mo, T] := hr.lenOK []
 have y20 : e20.pre [S, now, bu, le, mo, T] := hr.lenOK []
 have y21 : e21.pre [S, now, bu, le, mo, T] := hr.lenOK []
 have y16 : e16.pre [S, now, bu, le, mo, T] := hr.pre16
 have y78 : e78.pre [rn, rc, rb, rm, A, B] := hok.2
 have z1 : dc v1 = idsL (dc B) := by rw [hd1]; exact hr.ids
 have z6 : dc v6 = idsL (dc B) := (PostOK.use (ks := [kJ, kJ, kJ, kJ, .x, .x]) (os := [.x]) (vs := [v6]) ok78.2 rfl rfl ⟨hd6, trivial⟩) ⟨(by first | rfl | assumption | exact i64w (by omega) (by omega) | exact u8w (by omega) (by omega)), (by first | rfl | assumption | exact i64w (by omega) (by omega) | exact u8w (by omega) (by omega)), (by first | rfl | assumption | exact i64w (by omega) (by omega) | exact u8w (by omega) (by omega)), (by first | rfl | assumption | exact i64w (by omega) (by omega) | exact u8w (by omega) (by omega)), rfl, rfl, trivial⟩ y78
 have lA := lenW hok.1
 have lB := lenW hok.2
 have hlI : (idsL (dc B)).length = (dc B).length := by unfold idsL; rw [List.length_map]
 have hrI : rowsOK intK (idsL (dc B)) := fun r hr' => by
  obtain ⟨q, hq, rfl⟩ := List.mem_map.1 hr'
  obtain ⟨i, rfl, hi, _⟩ := hr.rows.2 q hq
  exact ⟨i64w (by show _ <= (i : Int); omega) (by show (i : Int) <= _; omega), trivial⟩
 have y19 : e19.pre [v1, v6] := by
  refine ⟨?_, ?_, ?_, ?_⟩
  ·show ((dc v1).length : Int) < cap8; rw [z1, hlI]; unfold cap8; omega
  ·show ((dc v6).length : Int) < cap8; rw [z6, hlI]; unfold cap8; omega
  ·show rowsOK intK (dc v1); rw [z1]; exact hrI
  ·show rowsOK intK (dc v6); rw [z6]; exact hrI
 have z7 : v7 = 1 := by
  rw [hd7]
  show K.b.norm (b2i (dc v1 == dc v6)) = 1
  rw [z1, z6, beq_self_eq_true]; rfl
 have tq : rc.tdiv 64 = rc / 64 := Int.tdiv_eq_ediv_of_nonneg (by omega)
 have y79 : e79.pre [S, now, bu, le, mo, T, rn, rc, rb, rm, A, B, id] := hp0
 simp (disch := omega) only [ewA, ewL, ewE, List.headD, List.tail, ewR, ewB, ewM, ewQ, reduceCtorEq, seval, tq] at hd8
 obtain ⟨st, hst, hs1⟩ : ∃ st, 1 + rc / 64 * 6 = st /\ 1 <= st /\ st <= 1000 := ⟨_, rfl, by omega⟩
 rw [hst] at hd8
 have y25 : e25.pre [id, st] := ⟨by show 0 < st; omega, by show st <= _; omega⟩
 have z8 : v8 = id % st := by rw [hd8]; show IntKind.i64.wrap (id % st) = _; have := Int.emod_nonneg id (show st ≠ 0 by omega); have := Int.emod_lt_of_pos id (show 0 < st by omega); exact i64w (by omega) (by omega)
 have r8 : 0 <= v8 /\ v8 < st := by rw [z8]; exact ⟨Int.emod_nonneg id (by omega), Int.emod_lt_of_pos id (by omega)⟩
 have yL : le56.ent.pre [S, now, bu, le, mo, T, rn, rc, rb, rm, A, B, st, v8] := ⟨hp0, hs1.1, hs1.2, r8.1, by show v8 <= 5096; omega⟩
 have c2 : v2 = rn := z2.trans e1.symm
 have c5 : v5 = rm := z5.trans e3.symm
 refine ⟨?_, trivial⟩
 simp (disch := omega) only [QL, Sd, Se, K3, OO, Sf, ewA, ewL, ewE, List.headD, List.tail, ewR, ewB, ewM, ewQ, reduceCtorEq, seval, hSS, c2, z3, z4, c5, z7, lA, lB, tq, hst]
 exact ⟨y31, ⟨y18, y20, y16, y21, y78, y19, y79⟩, y25, yL⟩
end
end Go.Proofs.Ytfhheeoejncfgaa.Ew

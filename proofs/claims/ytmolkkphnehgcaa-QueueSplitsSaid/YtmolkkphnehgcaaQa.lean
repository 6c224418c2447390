/- slices.Delete at the queue's timers: the walk of its text. -/
import Derived.Test.YtmolkkphnehgcaaChecked
import Derived.Test.YtmolkkphnehgcaaW9
import Derived.WalkKit
import Derived.Deep.RegionLaw
import Derived.Lib.SliceRun
import Derived.Lib.Hide
set_option linter.unusedVariables false
set_option linter.unusedSimpArgs false
namespace Go.Proofs.Ytmolkkphnehgcaa.Ew
open Go Go.RowKit Go.Lib

theorem setCells_row (g : Nat) (t : TypeId) : ∀ (vs : List Value) (o : Nat) (cur : Array Value) (w : World), w.heap[g]? = some (.cells cur t (0, 0)) → o + vs.length ≤ cur.size →
    w.setCells g o vs = w.setRow g (cur.toList.take o ++ vs ++ cur.toList.drop (o + vs.length)).toArray
  | [], o, cur, w, hg, _ => by
    simp only [World.setCells, List.append_nil, List.length_nil, Nat.add_zero, List.take_append_drop, Array.toArray_toList]
    exact (setRow_self w g cur t (0, 0) hg).symm
  | v :: r, o, cur, w, hg, hl => by
    have hi : o < cur.size := by simp at hl; omega
    have h1 : w.setCell ⟨g, o, none⟩ v = w.setRow g (cur.setIfInBounds o v) := setCell_eq_setRow w g o cur t (0, 0) v hg
    simp only [World.setCells, h1]
    rw [setCells_row g t r (o + 1) (cur.setIfInBounds o v) _ (setRow_heap w g cur _ t _ hg) (by simp at hl ⊢; omega), setRow_setRow]
    congr 2
    apply List.ext_getElem?
    intro j
    simp only [Array.toList_setIfInBounds, List.getElem?_append, List.getElem?_take, List.getElem?_set, List.length_take, List.length_set, Array.length_toList, List.length_append, List.length_cons, List.getElem?_drop, List.getElem?_cons]
    have hm1 : min (o + 1) cur.size = o + 1 := by omega
    have hm2 : min o cur.size = o := by omega
    simp only [hm1, hm2]
    by_cases a : j < o
    · simp [a, show j < o + 1 by omega, show ¬ o = j by omega, show j < o + 1 + r.length by omega, show j < o + (r.length + 1) by omega]
    · by_cases b : j = o
      · subst b; simp [hi]; intro h; omega
      · by_cases c : j < o + (r.length + 1)
        · simp [a, show ¬ j < o + 1 by omega, c, show j < o + 1 + r.length by omega, show ¬ j - o = 0 by omega, show j - (o + 1) = j - o - 1 by omega]
        · simp [a, show ¬ j < o + 1 by omega, c, show ¬ j < o + 1 + r.length by omega, show ¬ o = o + 1 + r.length + (j - (o + 1 + r.length)) by omega]
          congr 1; omega

/-- What stands in a row of own cells after a Delete. -/
def delCells (xs : List Value) (i j : Nat) : List Value := xs.take i ++ xs.drop j

set_option maxHeartbeats 4000000 in
set_option maxRecDepth 1000000 in
theorem delete_same (v : Value) (i : Nat) (w : World) (g n cap : Nat) (hv : v = .slice (some ⟨g, 0, none⟩) n cap) (hi : i ≤ n) (hn : n ≤ cap) (hc : cap ≤ maxLen) :
    Calls Try.prog 34 #[.slice (some ⟨g, 0, none⟩) n cap, .int .i64 i, .int .i64 i] w fun e w' => e = .returned (.slice (some ⟨g, 0, none⟩) n cap) ∧ w' = w := by
  unfold maxLen at hc
  go_enter Try.func34, Try.ntmps34
  go_wp2
  all_goals (go_ret; exact ⟨rfl, rfl⟩)

theorem addr_add (b o k : Nat) : (⟨b, o, none⟩ : Addr).add k = ⟨b, o + k, none⟩ := Addr.add_none b o k
theorem info34 : ∃ inf z, Try.prog.info? 34 = some inf ∧ inf.zero = some z ∧ inf.size = 2 ∧ z.cells = #[.int .i64 0, .int .i64 0] := by
  have h : (Try.prog.info? 34).map (fun i => (i.zero, i.size)) = some (some (.agg #[.int .i64 0, .int .i64 0]), 2) := by kernel_rfl
  obtain ⟨inf, h1, h2⟩ := Option.map_eq_some_iff.1 h
  simp only [Prod.mk.injEq] at h2
  exact ⟨inf, _, h1, h2.1, h2.2, rfl⟩
theorem heap_drew (w : World) : w.drew.heap = w.heap := rfl

set_option maxHeartbeats 4000000 in
set_option maxRecDepth 1000000 in
theorem delete_walk (i j : Nat) (w : World) (g n cap : Nat) (cur : Array Value) (hij : i < j) (hj : j ≤ n) (hn : n ≤ cap) (hc : cap ≤ maxLen) (hg : w.heap[g]? = some (.cells cur 34 (0, 0))) (hcur : cur.size = cap * 2) (hone : ∀ v ∈ cur.toList.take (n * 2), v.oneCell' = true) :
    Calls Try.prog 34 #[.slice (some ⟨g, 0, none⟩) n cap, .int .i64 i, .int .i64 j] w fun e w' => e = .returned (.slice (some ⟨g, 0, none⟩) (i + (n - j)) cap) ∧ ∃ cur' : Array Value, cur'.size = cur.size ∧ cur'.toList.take ((i + (n - j)) * 2) = delCells (cur.toList.take (n * 2)) (i * 2) (j * 2) ∧ w' = w.drew.setRow g cur' := by
  unfold maxLen at hc
  obtain ⟨news, hnews⟩ : ∃ news, news = (cur.toList.take (n * 2)).drop (j * 2) := ⟨_, rfl⟩
  have hlen : news.length = (n - j) * 2 := by rw [hnews]; simp; omega
  have hcell : ∀ k u, cur.toList[k]? = some u → w.cell? ⟨g, k, none⟩ = some u := fun k u h => by rw [cell_of_heap hg]; simpa using h
  have hget : ∀ t u, news[t]? = some u → cur.toList[j * 2 + t]? = some u := fun t u h => by
    rw [hnews, List.getElem?_drop, List.getElem?_take] at h
    split at h
    · exact h
    · cases h
  obtain ⟨A, hA, hsrc⟩ : ∃ A : Addr, (if cap = j then some (⟨g, 0, none⟩ : Addr) else some ⟨g, j * 2, none⟩) = some A ∧ Hid (∀ t u, news[t]? = some u → w.drew.cell? (A.add t) = some u) := by
    by_cases h : cap = j
    · refine ⟨⟨g, 0, none⟩, by simp [h], fun t u hu => ?_⟩
      have h0 : news.length = 0 := by rw [hlen]; omega
      rw [List.length_eq_zero_iff.1 h0] at hu
      simp at hu
    · refine ⟨⟨g, j * 2, none⟩, by simp [h], fun t u hu => ?_⟩
      rw [addr_add]
      exact hcell _ _ (hget t u hu)
  have s1 : Hid (news.length = (n - j) * 2) := hlen
  have s2 : Hid (∀ u ∈ news, u.oneCell' = true) := fun u hu => hone u (by rw [hnews] at hu; exact List.mem_of_mem_drop hu)
  have s3 : Hid (∀ t, t < news.length → (w.drew.cell? ⟨g, 0 + i * 2 + t, none⟩).isSome = true ∧ w.drew.frozen? ⟨g, 0 + i * 2 + t, none⟩ = false) := fun t ht => by
    rw [hlen] at ht
    have hlt : 0 + i * 2 + t < cur.size := by omega
    have hg' : w.drew.heap[g]? = some (.cells cur 34 (0, 0)) := hg
    refine ⟨by rw [cell_of_heap hg']; simp; omega, by simp [World.frozen?, hg']⟩
  obtain ⟨W1, hW1⟩ : ∃ W1, W1 = w.drew.setCells g (0 + i * 2) news := ⟨_, rfl⟩
  obtain ⟨cur1, hcur1⟩ : ∃ cur1 : Array Value, cur1 = (cur.toList.take (i * 2) ++ news ++ cur.toList.drop (i * 2 + news.length)).toArray := ⟨_, rfl⟩
  have hW1' : W1 = w.drew.setRow g cur1 := by
    rw [hW1, hcur1, Nat.zero_add]
    exact setCells_row g 34 news (i * 2) cur w.drew hg (by rw [hlen]; omega)
  have hsz1 : cur1.size = cur.size := by rw [hcur1]; simp [hlen]; omega
  have hg1 : W1.heap[g]? = some (.cells cur1 34 (0, 0)) := by rw [hW1']; exact setRow_heap w.drew g cur _ 34 _ hg
  obtain ⟨inf, z, hz1, hz2, hz3, hz4⟩ := info34
  have hu : Try.prog.underlying 27 = some (.slice 34) := by kernel_rfl
  have hzv : ∀ w, (zeroValue 34).run Try.prog w = .ok z w := fun w => by simp [zeroValue, typeInfo, hz1, hz2]
  obtain ⟨X, hX⟩ : ∃ X : Array Value, X = (cur1.toList.take ((i + (n - j)) * 2) ++ (Builtin.zeroCells z.cells (n - (i + (n - j)))).toList ++ cur1.toList.drop ((i + (n - j)) * 2 + (Builtin.zeroCells z.cells (n - (i + (n - j)))).toList.length)).toArray := ⟨_, rfl⟩
  have hzl : (Builtin.zeroCells z.cells (n - (i + (n - j)))).toList.length = (n - (i + (n - j))) * 2 := by rw [hz4]; simp [Builtin.zeroCells]
  have hcl : ∀ ty, (Builtin.clear_ #[27] ty #[.slice (some ⟨g, (i + (n - j)) * 2, none⟩) (n - (i + (n - j))) (cap - (i + (n - j)))]).run Try.prog W1 = .ok (.tuple #[]) (W1.setRow g X) := fun ty => by
    have hst := run_storeCells_at (P := Try.prog) g ((i + (n - j)) * 2) 34 (Builtin.zeroCells z.cells (n - (i + (n - j)))).toList 0 cur1 W1 hg1 (by rw [hzl, hsz1]; omega) (fun v hv => by
      rw [hz4] at hv
      simp only [Builtin.zeroCells, Array.toList_map, List.mem_map] at hv
      obtain ⟨k, _, rfl⟩ := hv
      have : k % 2 = 0 ∨ k % 2 = 1 := by omega
      rcases this with h | h <;> simp [h, Value.oneCell'])
    simp only [Nat.add_zero] at hst
    rw [← hX] at hst
    obtain ⟨m, hm⟩ : ∃ m, n - (i + (n - j)) = m + 1 := ⟨n - (i + (n - j)) - 1, by omega⟩
    rw [hm] at hst ⊢
    simp [Builtin.clear_, run_underlying hu, hzv, Result.andThen, hst]
  have hW : Hid (W1 = w.drew.setCells g (0 + i * 2) news) := hW1
  have XW : Hid (W1 = w.drew.setRow g cur1) := hW1'
  have hic : i ≤ cap := by omega
  have hjc : j ≤ cap := by omega
  have fin : Hid (∃ cur' : Array Value, cur'.size = cur.size ∧ cur'.toList.take ((i + (n - j)) * 2) = delCells (cur.toList.take (n * 2)) (i * 2) (j * 2) ∧ W1.setRow g X = w.drew.setRow g cur') := by
    refine ⟨X, ?_, ?_, ?_⟩
    · rw [hX, List.size_toArray, List.length_append, List.length_append, hzl, List.length_take, List.length_drop, Array.length_toList, hsz1]; omega
    · rw [hX, List.toList_toArray, List.append_assoc, List.take_append_of_le_length (by simp [hsz1]; omega), List.take_take, Nat.min_self, hcur1, List.toList_toArray]
      unfold delCells
      rw [← hnews, List.take_append_of_le_length (by simp [hlen]; omega), List.take_of_length_le (by simp [hlen]; omega), List.take_take, Nat.min_eq_left (by omega)]
    · rw [hW1', setRow_setRow]
  clear hW1 hW1' hget hnews hlen hcell hg1 hX hcur1 hsz1 hzl hzv hz4 hz2 hone hg hcur
  go_enter Try.func34, Try.ntmps34
  go_wp2_with fail
  go_region_law (refine step_append_room rfl (.tmp 22) (.tmp 25) 27 rfl 34 inf 2 hu hz1 hz3 g 0 i cap (by simp [Act.eval, Act.put]) A (n - j) (cap - j) news (by simp [Act.eval, Act.put]) s1.out hsrc.out s2.out (by omega) s3.out ?_; rw [← hW.out])
  go_wp2
  go_ret
  exact ⟨rfl, fin.out⟩
end Go.Proofs.Ytmolkkphnehgcaa.Ew

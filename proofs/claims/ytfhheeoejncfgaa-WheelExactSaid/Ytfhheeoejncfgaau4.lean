/- Texts that the claim needs, set narrow. -/
import Derived.Test.Ytfhheeoejncfgaau3
import Derived.Test.YtfhheeoejncfgaaChecked
import Derived.Deep.RegionLaw
import Derived.Lib.SliceRun
import Derived.Lib.Hide
import Derived.Shelf.Spec.SlicesInsertGrow
set_option linter.unusedVariables false
set_option linter.unusedSimpArgs false
namespace Go.Proofs.Ytfhheeoejncfgaa.Ew.Q
open Go Go.RowKit Go.Lib
theorem setCells_row (g : Nat) (t : TypeId) : ∀ (vs : List Value) (o : Nat) (cur : Array Value) (w : World), w.heap[g]? = some (.cells cur t (0, 0)) -> o + vs.length <= cur.size ->
 w.setCells g o vs = w.setRow g (cur.toList.take o ++ vs ++ cur.toList.drop (o + vs.length)).toArray
 | [], o, cur, w, hg, _ => by
   simp only [World.setCells, List.append_nil, List.length_nil, Nat.add_zero, List.take_append_drop, Array.toArray_toList]
   exact (setRow_self w g cur t (0, 0) hg).symm
 | v :: r, o, cur, w, hg, hl => by
   have hi : o < cur.size := by simp at hl; omega
   have h1 : w.setCell ⟨g, o, none⟩ v = w.setRow g (cur.setIfInBounds o v) := setCell_eq_setRow w g o cur t (0, 0) v hg
   simp only [World.setCells, h1]
   rw [setCells_row g t r (o + 1) (cur.setIfInBounds o v) _ (setRow_heap w g cur _ t _ hg) (by simp at hl ⊢; omega), setRow_setRow]
   congr 2
   apply List.ext_getElem?
   intro j
   simp only [Array.toList_setIfInBounds, List.getElem?_append, List.getElem?_take, List.getElem?_set, List.length_take, List.length_set, Array.length_toList, List.length_append, List.length_cons, List.getElem?_drop, List.getElem?_cons]
   have hm1 : min (o + 1) cur.size = o + 1 := by omega
   have hm2 : min o cur.size = o := by omega
   simp only [hm1, hm2]
   by_cases a : j < o
   ·simp [a, show j < o + 1 by omega, show ¬ o = j by omega, show j < o + 1 + r.length by omega, show j < o + (r.length + 1) by omega]
   ·by_cases b : j = o
    ·subst b; simp [hi]; intro h; omega
    ·by_cases c : j < o + (r.length + 1)
     ·simp [a, show ¬ j < o + 1 by omega, c, show j < o + 1 + r.length by omega, show ¬ j - o = 0 by omega, show j - (o + 1) = j - o - 1 by omega]
     ·simp [a, show ¬ j < o + 1 by omega, c, show ¬ j < o + 1 + r.length by omega, show ¬ o = o + 1 + r.length + (j - (o + 1 + r.length)) by omega]
      congr 1; omega
def delCells (xs : List Value) (i j : Nat) : List Value := xs.take i ++ xs.drop j
set_option maxHeartbeats 4000000 in
set_option maxRecDepth 1000000 in
theorem delete_same (v : Value) (i : Nat) (w : World) (g n cap : Nat) (hv : v = .slice (some ⟨g, 0, none⟩) n cap) (hi : i <= n) (hn : n <= cap) (hc : cap <= maxLen) :
 Calls Try.prog 91 #[.slice (some ⟨g, 0, none⟩) n cap, .int .i64 i, .int .i64 i] w fun e w' => e = .returned (.slice (some ⟨g, 0, none⟩) n cap) /\ w' = w := by
 unfold maxLen at hc
 go_enter Try.func91, Try.ntmps91
 go_wp2
 all_goals (go_ret; exact ⟨rfl, rfl⟩)
theorem addr_add (b o k : Nat) : (⟨b, o, none⟩ : Addr).add k = ⟨b, o + k, none⟩ := Addr.add_none b o k
theorem info34 : ∃ inf z, Try.prog.info? 110 = some inf /\ inf.zero = some z /\ inf.size = 2 /\ z.cells = #[.int .i64 0, .int .i64 0] := by
 have h : (Try.prog.info? 110).map (fun i => (i.zero, i.size)) = some (some (.agg #[.int .i64 0, .int .i64 0]), 2) := by kernel_rfl
 obtain ⟨inf, h1, h2⟩ := Option.map_eq_some_iff.1 h
 simp only [Prod.mk.injEq] at h2
 exact ⟨inf, _, h1, h2.1, h2.2, rfl⟩
set_option maxHeartbeats 4000000 in
set_option maxRecDepth 1000000 in
theorem delete_walk (i j : Nat) (w : World) (g n cap : Nat) (cur : Array Value) (hij : i < j) (hj : j <= n) (hn : n <= cap) (hc : cap <= maxLen) (hg : w.heap[g]? = some (.cells cur 110 (0, 0))) (hcur : cur.size = cap * 2) (hone : ∀ v ∈ cur.toList.take (n * 2), v.oneCell' = true) :
 Calls Try.prog 91 #[.slice (some ⟨g, 0, none⟩) n cap, .int .i64 i, .int .i64 j] w fun e w' => e = .returned (.slice (some ⟨g, 0, none⟩) (i + (n - j)) cap) /\ ∃ cur' : Array Value, cur'.size = cur.size /\ cur'.toList.take ((i + (n - j)) * 2) = delCells (cur.toList.take (n * 2)) (i * 2) (j * 2) /\ w' = w.drew.setRow g cur' := by
 unfold maxLen at hc
 obtain ⟨news, hnews⟩ : ∃ news, news = (cur.toList.take (n * 2)).drop (j * 2) := ⟨_, rfl⟩
 have hlen : news.length = (n - j) * 2 := by rw [hnews]; simp; omega
 have hcell : ∀ k u, cur.toList[k]? = some u -> w.cell? ⟨g, k, none⟩ = some u := fun k u h => by rw [cell_of_heap hg]; simpa using h
 have hget : ∀ t u, news[t]? = some u -> cur.toList[j * 2 + t]? = some u := fun t u h => by
  rw [hnews, List.getElem?_drop, List.getElem?_take] at h
  split at h
  ·exact h
  ·cases h
 obtain ⟨A, hA, hsrc⟩ : ∃ A : Addr, (if cap = j then some (⟨g, 0, none⟩ : Addr) else some ⟨g, j * 2, none⟩) = some A /\ Hid (∀ t u, news[t]? = some u -> w.drew.cell? (A.add t) = some u) := by
  by_cases h : cap = j
  ·refine ⟨⟨g, 0, none⟩, by simp [h], fun t u hu => ?_⟩
   have h0 : news.length = 0 := by rw [hlen]; omega
   rw [List.length_eq_zero_iff.1 h0] at hu
   simp at hu
  ·refine ⟨⟨g, j * 2, none⟩, by simp [h], fun t u hu => ?_⟩
   rw [addr_add]
   exact hcell _ _ (hget t u hu)
 have s1 : Hid (news.length = (n - j) * 2) := hlen
 have s2 : Hid (∀ u ∈ news, u.oneCell' = true) := fun u hu => hone u (by rw [hnews] at hu; exact List.mem_of_mem_drop hu)
 have s3 : Hid (∀ t, t < news.length -> (w.drew.cell? ⟨g, 0 + i * 2 + t, none⟩).isSome = true /\ w.drew.frozen? ⟨g, 0 + i * 2 + t, none⟩ = false) := fun t ht => by
  rw [hlen] at ht
  have hlt : 0 + i * 2 + t < cur.size := by omega
  have hg' : w.drew.heap[g]? = some (.cells cur 110 (0, 0)) := hg
  refine ⟨by rw [cell_of_heap hg']; simp; omega, by simp [World.frozen?, hg']⟩
 obtain ⟨W1, hW1⟩ : ∃ W1, W1 = w.drew.setCells g (0 + i * 2) news := ⟨_, rfl⟩
 obtain ⟨cur1, hcur1⟩ : ∃ cur1 : Array Value, cur1 = (cur.toList.take (i * 2) ++ news ++ cur.toList.drop (i * 2 + news.length)).toArray := ⟨_, rfl⟩
 have hW1' : W1 = w.drew.setRow g cur1 := by
  rw [hW1, hcur1, Nat.zero_add]
  exact setCells_row g 110 news (i * 2) cur w.drew hg (by rw [hlen]; omega)
 have hsz1 : cur1.size = cur.size := by rw [hcur1]; simp [hlen]; omega
 have hg1 : W1.heap[g]? = some (.cells cur1 110 (0, 0)) := by rw [hW1']; exact setRow_heap w.drew g cur _ 110 _ hg
 obtain ⟨inf, z, hz1, hz2, hz3, hz4⟩ := info34
 have hu : Try.prog.underlying 103 = some (.slice 110) := by kernel_rfl
 have hzv : ∀ w, (zeroValue 110).run Try.prog w = .ok z w := fun w => by simp [zeroValue, typeInfo, hz1, hz2]
 obtain ⟨X, hX⟩ : ∃ X : Array Value, X = (cur1.toList.take ((i + (n - j)) * 2) ++ (Builtin.zeroCells z.cells (n - (i + (n - j)))).toList ++ cur1.toList.drop ((i + (n - j)) * 2 + (Builtin.zeroCells z.cells (n - (i + (n - j)))).toList.length)).toArray := ⟨_, rfl⟩
 have hzl : (Builtin.zeroCells z.cells (n - (i + (n - j)))).toList.length = (n - (i + (n - j))) * 2 := by rw [hz4]; simp [Builtin.zeroCells]
 have hcl : ∀ ty, (Builtin.clear_ #[103] ty #[.slice (some ⟨g, (i + (n - j)) * 2, none⟩) (n - (i + (n - j))) (cap - (i + (n - j)))]).run Try.prog W1 = .ok (.tuple #[]) (W1.setRow g X) := fun ty => by
  have hst := run_storeCells_at (P := Try.prog) g ((i + (n - j)) * 2) 110 (Builtin.zeroCells z.cells (n - (i + (n - j)))).toList 0 cur1 W1 hg1 (by rw [hzl, hsz1]; omega) (fun v hv => by
   rw [hz4] at hv
   simp only [Builtin.zeroCells, Array.toList_map, List.mem_map] at hv
   obtain ⟨k, _, rfl⟩ := hv
   have : k % 2 = 0 \/ k % 2 = 1 := by omega
   rcases this with h | h <;> simp [h, Value.oneCell'])
  simp only [Nat.add_zero] at hst
  rw [<- hX] at hst
  obtain ⟨m, hm⟩ : ∃ m, n - (i + (n - j)) = m + 1 := ⟨n - (i + (n - j)) - 1, by omega⟩
  rw [hm] at hst ⊢
  simp [Builtin.clear_, run_underlying hu, hzv, Result.andThen, hst]
 have hW : Hid (W1 = w.drew.setCells g (0 + i * 2) news) := hW1
 have XW : Hid (W1 = w.drew.setRow g cur1) := hW1'
 have hic : i <= cap := by omega
 have hjc : j <= cap := by omega
 have fin : Hid (∃ cur' : Array Value, cur'.size = cur.size /\ cur'.toList.take ((i + (n - j)) * 2) = delCells (cur.toList.take (n * 2)) (i * 2) (j * 2) /\ W1.setRow g X = w.drew.setRow g cur') := by
  refine ⟨X, ?_, ?_, ?_⟩
  ·rw [hX, List.size_toArray, List.length_append, List.length_append, hzl, List.length_take, List.length_drop, Array.length_toList, hsz1]; omega
  ·rw [hX, List.toList_toArray, List.append_assoc, List.take_append_of_le_length (by simp [hsz1]; omega), List.take_take, Nat.min_self, hcur1, List.toList_toArray]
   unfold delCells
   rw [<- hnews, List.take_append_of_le_length (by simp [hlen]; omega), List.take_of_length_le (by simp [hlen]; omega), List.take_take, Nat.min_eq_left (by omega)]
  ·rw [hW1', setRow_setRow]
 clear hW1 hW1' hget hnews hlen hcell hg1 hX hcur1 hsz1 hzl hzv hz4 hz2 hone hg hcur
 go_enter Try.func91, Try.ntmps91
 go_wp2_with fail
 go_region_law (refine step_append_room rfl (.tmp 22) (.tmp 25) 103 rfl 110 inf 2 hu hz1 hz3 g 0 i cap (by simp [Act.eval, Act.put]) A (n - j) (cap - j) news (by simp [Act.eval, Act.put]) s1.out hsrc.out s2.out (by omega) s3.out ?_; rw [<- hW.out])
 go_wp2
 go_ret
 exact ⟨rfl, fin.out⟩
theorem run_copy_row2 {P : Program} (w : World) (dT sT ty elem : TypeId) (inf : TypeInfo) (sz g o dLen dCap : Nat) (cur : Array Value) (a : Addr) (sLen sCap m : Nat) (cs : List Value)
 (hu : P.underlying dT = some (.slice elem)) (hi : P.info? elem = some inf) (hs : inf.size = sz) (hm : m = Nat.min sLen dLen) (hn : cs.length = m * sz)
 (hsrc : ∀ j v, cs[j]? = some v -> w.cell? (a.add j) = some v) (hg : w.heap[g]? = some (.cells cur elem (0, 0))) (hfit : o + cs.length <= cur.size) (h1 : ∀ v ∈ cs, v.oneCell' = true) :
 (Builtin.copy_ #[dT, sT] ty #[.slice (some ⟨g, o, none⟩) dLen dCap, .slice (some a) sLen sCap]).run P w = .ok (goInt m) (w.setRow g (cur.toList.take o ++ cs ++ cur.toList.drop (o + cs.length)).toArray) := by
 have hl := run_firstCells_some (P := P) w sz m a sLen sCap cs hn hsrc
 have hst := run_storeCells_at P g o elem cs 0 cur w hg (by simpa using hfit) h1
 simp only [Nat.add_zero] at hst
 simp [Builtin.copy_, run_underlying hu, Builtin.lenOf, sizeOf, typeInfo, hi, hs, <- hm, hl, hst]
theorem run_overlaps39 (w : World) (g b m vc lb cb o : Nat) (vcur cur : Array Value) (hne : g ≠ b) (hv : w.heap[g]? = some (.cells vcur 110 (0, 0))) (hg : w.heap[b]? = some (.cells cur 110 (0, 0))) (hc : cur.size ≠ 0) :
 (callFunc 93 #[.slice (some ⟨g, 0, none⟩) m vc, .slice (some ⟨b, o, none⟩) lb cb]).run Try.prog w = .ok (.value (.bool false)) w := by
 have hz : ∀ w, (Go.sizeOf 110).run Try.prog w = .ok 2 w := fun w => by
  obtain ⟨inf, z, h1, h2, h3, h4⟩ := info34
  simp [Go.sizeOf, typeInfo, h1, h3]
 rw [run_callFunc_extern Try.func93 (by kernel_rfl) (by kernel_rfl) (by kernel_rfl) (e := Extern.SlicesOverlaps.overlaps #[103, 103] #[4]) (by kernel_rfl),
  Lib.run_overlaps_apart w 103 4 110 (by kernel_rfl) 2 hz ⟨g, 0, none⟩ ⟨b, o, none⟩ m vc lb cb hne 110 110 vcur.size cur.size (by simp [World.shape?, hv]) (by simp [World.shape?, hg]) hc (by simp [World.frozen?, hv]) (by simp [World.frozen?, hv])]
 rfl
theorem info34b : ∃ inf z, Try.prog.info? 110 = some inf /\ inf.zero = some z /\ inf.size = 2 /\ inf.bytes = 16 /\ z = .agg #[.int .i64 0, .int .i64 0] := by
 have h : (Try.prog.info? 110).map (fun i => (i.zero, i.size, i.bytes)) = some (some (.agg #[.int .i64 0, .int .i64 0]), 2, 16) := by kernel_rfl
 obtain ⟨inf, h1, h2⟩ := Option.map_eq_some_iff.1 h
 simp only [Prod.mk.injEq] at h2
 exact ⟨inf, _, h1, h2.1, h2.2.1, h2.2.2, rfl⟩
theorem under27 : Try.prog.underlying 103 = some (.slice 110) := by kernel_rfl
set_option maxHeartbeats 4000000 in
set_option maxRecDepth 1000000 in
theorem insert_end (w : World) (v : Value) (n : Nat) (xs : List Value) (hown : w.ownsRow 0 110 2 v n xs) (g vc : Nat) (news : List Value) (hl : news.length = 2) (hsrc : ∀ j u, news[j]? = some u -> w.cell? ⟨g, j, none⟩ = some u)
 (h1 : ∀ u ∈ news, u.oneCell' = true) (hb : (n + 1) * 16 <= 140737488355328) :
 Calls Try.prog 67 #[v, .int .i64 n, .slice (some ⟨g, 0, none⟩) 1 vc] w fun e w' => ∃ v', e = .returned v' /\ w'.ownsRow 0 110 2 v' (n + 1) (xs ++ news) /\ w.grownBy w' v.ownBlock /\ (v'.ownBlock = v.ownBlock \/ v'.ownBlock = some w.heap.size) := by
 obtain ⟨inf, z, z1, z2, z3, z4, z5⟩ := info34b
 have key : ∀ ty, ∃ v' w', (Builtin.append_ #[103, 103] ty #[v, .slice (some ⟨g, 0, none⟩) 1 vc]).run Try.prog w = .ok v' w' /\ w'.ownsRow 0 110 2 v' (n + 1) (xs ++ news) /\ w.grownBy w' v.ownBlock /\ (v'.ownBlock = v.ownBlock \/ v'.ownBlock = some w.heap.size) := fun ty =>
  append_own2 (P := Try.prog) w 103 ty 110 inf z 2 16 under27 z1 z2 z3 z4 (by rw [z5]; rfl) (by omega) v n xs hown ⟨g, 0, none⟩ 1 vc news (by omega) (fun j u hj => by rw [addr_add, Nat.zero_add]; exact hsrc j u hj) h1 (by unfold maxLen; omega) (by omega)
 obtain ⟨ty, hty⟩ : ∃ ty : TypeId, ty = 103 := ⟨103, rfl⟩
 obtain ⟨v', w', r1, r2⟩ := key 103
 have r2 := Lib.hid r2
 clear key h1 hsrc
 have hn63 : n <= 9223372036854775807 := by omega
 obtain ⟨hx, hf⟩ := hown
 rcases hf with ⟨rfl, rfl⟩ | ⟨b, cap, cur, rfl, hbb, hg, hnc, hcm, hcs, htk⟩
 ·clear hx hb
  go_enter Try.func67, Try.ntmps67
  go_wp2_with (at_builtin; refine Lib.wpList_append_run _ rfl _ _ _ _ rfl _ _ rfl rfl _ _ r1 ?_)
  go_ret
  exact ⟨v', rfl, r2.out⟩
 ·have hcm' : cap <= 9223372036854775807 := by unfold maxLen at hcm; omega
  clear hx hb hg hcs htk hcm hbb
  go_enter Try.func67, Try.ntmps67
  go_wp2_with (at_builtin; refine Lib.wpList_append_run _ rfl _ _ _ _ rfl _ _ rfl rfl _ _ r1 ?_)
  all_goals (go_ret; exact ⟨v', rfl, r2.out⟩)
set_option maxHeartbeats 4000000 in
set_option maxRecDepth 1000000 in
theorem insert_shift (w : World) (b n cap i : Nat) (cur : Array Value) (hi : i < n) (hnc : n + 1 <= cap) (hcm : cap <= maxLen) (hg : w.heap[b]? = some (.cells cur 110 (0, 0))) (hcs : cur.size = cap * 2) (hone : ∀ v ∈ cur.toList.take (n * 2), v.oneCell' = true)
 (g vc : Nat) (vcur : Array Value) (hv : w.heap[g]? = some (.cells vcur 110 (0, 0))) (hgb : g ≠ b) (news : List Value) (hl : news.length = 2) (hsrc : ∀ j u, news[j]? = some u -> w.cell? ⟨g, j, none⟩ = some u) (h1 : ∀ u ∈ news, u.oneCell' = true) :
 Calls Try.prog 67 #[.slice (some ⟨b, 0, none⟩) n cap, .int .i64 i, .slice (some ⟨g, 0, none⟩) 1 vc] w fun e w' => e = .returned (.slice (some ⟨b, 0, none⟩) (n + 1) cap) /\ ∃ cur' : Array Value, cur'.size = cur.size /\
  cur'.toList.take ((n + 1) * 2) = (cur.toList.take (n * 2)).take (i * 2) ++ news ++ (cur.toList.take (n * 2)).drop (i * 2) /\ w' = w.drew.setRow b cur' := by
 obtain ⟨inf, z, z1, z2, z3, z4, z5⟩ := info34b
 have hcm' : cap <= 9223372036854775807 := by unfold maxLen at hcm; omega
 obtain ⟨cs, hcs1⟩ : ∃ cs, cs = (cur.toList.take (n * 2)).drop (i * 2) := ⟨_, rfl⟩
 have hcl : cs.length = (n - i) * 2 := by rw [hcs1]; simp; omega
 have hov : ∀ o lb cb, (callFunc 93 #[.slice (some ⟨g, 0, none⟩) 1 vc, .slice (some ⟨b, o, none⟩) lb cb]).run Try.prog w = .ok (.value (.bool false)) w := fun o lb cb => run_overlaps39 w g b 1 vc lb cb o vcur cur hgb hv hg (by omega)
 have hgd : w.drew.heap[b]? = some (.cells cur 110 (0, 0)) := hg
 obtain ⟨c1, hc1⟩ : ∃ c1 : Array Value, c1 = (cur.toList.take ((i + 1) * 2) ++ cs ++ cur.toList.drop ((i + 1) * 2 + cs.length)).toArray := ⟨_, rfl⟩
 have hs1 : c1.size = cur.size := by rw [hc1]; simp [hcl]; omega
 obtain ⟨W1, hW1⟩ : ∃ W1, W1 = w.drew.setRow b c1 := ⟨_, rfl⟩
 have hgw : W1.heap[b]? = some (.cells c1 110 (0, 0)) := by rw [hW1]; exact setRow_heap w.drew b cur _ 110 _ hgd
 have hcp1 : ∀ ty dc sc, (Builtin.copy_ #[103, 103] ty #[.slice (some ⟨b, (i + 1) * 2, none⟩) (n + 1 - (i + 1)) dc, .slice (some ⟨b, i * 2, none⟩) (n + 1 - i) sc]).run Try.prog w.drew = .ok (goInt (n - i : Nat)) W1 := fun ty dc sc => by
  rw [hW1, hc1]
  exact run_copy_row2 w.drew 103 103 ty 110 inf 2 b ((i + 1) * 2) (n + 1 - (i + 1)) dc cur ⟨b, i * 2, none⟩ (n + 1 - i) sc (n - i) cs under27 z1 z3 (by simp only [Nat.min_def]; split <;> omega) hcl
   (fun j u hj => by
    rw [addr_add, cell_of_heap hgd]
    rw [hcs1, List.getElem?_drop, List.getElem?_take] at hj
    split at hj
    ·simpa using hj
    ·cases hj) hgd (by rw [hcl]; omega) (fun v hv => hone v (by rw [hcs1] at hv; exact List.mem_of_mem_drop hv))
 obtain ⟨c2, hc2⟩ : ∃ c2 : Array Value, c2 = (c1.toList.take (i * 2) ++ news ++ c1.toList.drop (i * 2 + news.length)).toArray := ⟨_, rfl⟩
 obtain ⟨W2, hW2⟩ : ∃ W2, W2 = W1.setRow b c2 := ⟨_, rfl⟩
 have hcp2 : ∀ ty dc, (Builtin.copy_ #[103, 103] ty #[.slice (some ⟨b, i * 2, none⟩) (n + 1 - i) dc, .slice (some ⟨g, 0, none⟩) 1 vc]).run Try.prog W1 = .ok (goInt (1 : Nat)) W2 := fun ty dc => by
  rw [hW2, hc2]
  exact run_copy_row2 W1 103 103 ty 110 inf 2 b (i * 2) (n + 1 - i) dc c1 ⟨g, 0, none⟩ 1 vc 1 news under27 z1 z3 (by simp only [Nat.min_def]; split <;> omega) (by omega)
   (fun j u hj => by
    rw [addr_add, Nat.zero_add, hW1]
    have := hsrc j u hj
    simp only [World.cell?] at this ⊢
    rw [setRow_other w.drew b g c1 hgb]
    exact this) hgw (by omega) h1
 have fin : Hid (∃ cur' : Array Value, cur'.size = cur.size /\ cur'.toList.take ((n + 1) * 2) = (cur.toList.take (n * 2)).take (i * 2) ++ news ++ (cur.toList.take (n * 2)).drop (i * 2) /\ W2 = w.drew.setRow b cur') := by
  refine ⟨c2, ?_, ?_, ?_⟩
  ·rw [hc2, List.size_toArray, List.length_append, List.length_append, List.length_take, List.length_drop, Array.length_toList, hs1, hl]; omega
  ·have e1 : c1.toList.take (i * 2) = (cur.toList.take (n * 2)).take (i * 2) := by
    rw [hc1, List.toList_toArray, List.append_assoc, List.take_append_of_le_length (by simp; omega), List.take_take, List.take_take]
    congr 1; omega
   have e2 : (c1.toList.drop (i * 2 + 2)).take ((n - i) * 2) = cs := by
    have h2 : (cur.toList.take ((i + 1) * 2)).length = i * 2 + 2 := by rw [List.length_take, Array.length_toList]; omega
    rw [hc1, List.toList_toArray, List.append_assoc, <- h2, List.drop_left, List.take_append_of_le_length (by omega), List.take_of_length_le (by omega)]
   rw [hc2, List.toList_toArray, <- hcs1, <- e1, <- e2, hl]
   have h3 : (c1.toList.take (i * 2) ++ news).length = i * 2 + 2 := by rw [List.length_append, List.length_take, Array.length_toList, hl]; omega
   rw [List.take_append, List.take_of_length_le (by omega), h3]
   congr 2; omega
  ·rw [hW2, hW1, setRow_setRow]
 have hz2 : ¬ ((i : Int) = (n : Int)) := by omega
 have hw1 : IntKind.i64.wrap ((i : Int) + 1) = (i : Int) + 1 := by rw [IntKind.wrap_i64]; omega
 have hw2 : IntKind.i64.wrap ((n : Int) + 1) = (n : Int) + 1 := by rw [IntKind.wrap_i64]; omega
 have hb1 : (0 : Int) <= (i : Int) + 1 := by omega
 have hin : i <= n := by omega
 have htn : ((i : Int) + 1).toNat = i + 1 := by omega
 have htn2 : ((n : Int) + 1).toNat = n + 1 := by omega
 have hb2 : ¬ (cap = i + 1) := by omega
 have hb3 : (i : Int) <= (n : Int) + 1 := by omega
 have hb4 : ¬ (cap = i) := by omega
 have hb5 : ¬ ((cap : Int) < (n : Int) + 1) := by omega
 clear hc1 hs1 hW1 hgw hc2 hW2 hcs1 hcl h1 hsrc hone hgd hg hv z1 z2 z3 z4 z5
 have mixed : Try.prog.follows Departure.mixedOrders = true := by kernel_rfl
 go_enter Try.func67, Try.ntmps67
 go_wp2_with (simp only [hov])
 go_region_law_o (refine step_copy_runI rfl _ _ 103 103 rfl (.slice (some ⟨b, (i + 1) * 2, none⟩) (n + 1 - (i + 1)) (cap - (i + 1))) (.slice (some ⟨b, i * 2, none⟩) (n + 1 - i) (cap - i)) (by simp [Act.eval, Act.put]) (by simp [Act.eval, Act.put]) (hcp1 _ _ _) ?_)
 go_wp2_with (at_builtin; refine wpList_copy_runI _ rfl _ _ 103 103 rfl _ _ rfl rfl (hcp2 _ _) ?_)
 go_ret
 exact ⟨rfl, fin.out⟩
theorem alloc_setRow (w : World) (r c : Array Value) (t : TypeId) : (w.alloc (.cells r t)).setRow w.heap.size c = w.alloc (.cells c t) := by
 simp only [World.setRow, World.alloc, World.mk.injEq, and_true, true_and]
 apply Array.ext_getElem?
 intro k
 rw [Array.getElem?_modify, Array.getElem?_push, Array.getElem?_push]
 by_cases hk : w.heap.size = k
 ·subst hk; simp
 ·have : ¬ k = w.heap.size := fun e => hk e.symm
  simp [hk, this]
set_option maxHeartbeats 4000000 in
set_option maxRecDepth 1000000 in
theorem insert_grow (w : World) (b n cap i : Nat) (cur : Array Value) (hi : i < n) (hnc : n <= cap) (hroom : cap < n + 1) (hcm : cap <= maxLen) (hg : w.heap[b]? = some (.cells cur 110 (0, 0))) (hcs : cur.size = cap * 2) (hone : ∀ v ∈ cur.toList.take (n * 2), v.oneCell' = true)
 (g vc : Nat) (hgb : g < w.heap.size) (news : List Value) (hl : news.length = 2) (hsrc : ∀ j u, news[j]? = some u -> w.cell? ⟨g, j, none⟩ = some u) (h1 : ∀ u ∈ news, u.oneCell' = true) (hbig : (n + 1) * 16 <= 140737488355328) :
 Calls Try.prog 67 #[.slice (some ⟨b, 0, none⟩) n cap, .int .i64 i, .slice (some ⟨g, 0, none⟩) 1 vc] w fun e w' => ∃ G, e = .returned (.slice (some ⟨w.heap.size, 0, none⟩) (n + 1) G) /\ n + 1 <= G /\ G <= maxLen /\ ∃ cur' : Array Value, cur'.size = G * 2 /\
  cur'.toList.take ((n + 1) * 2) = (cur.toList.take (n * 2)).take (i * 2) ++ news ++ (cur.toList.take (n * 2)).drop (i * 2) /\ w' = ((w.drew.alloc (.cells cur' 110))).drew := by
 obtain ⟨inf, z, z1, z2, z3, z4, z5⟩ := info34b
 have hcm' : cap <= 9223372036854775807 := by unfold maxLen at hcm; omega
 have hbw : b < w.heap.size := (Array.getElem?_eq_some_iff.1 hg).1
 obtain ⟨cs, hcs1⟩ : ∃ cs, cs = (cur.toList.take (n * 2)).drop (i * 2) := ⟨_, rfl⟩
 obtain ⟨hd, hhd⟩ : ∃ hd, hd = (cur.toList.take (n * 2)).take (i * 2) := ⟨_, rfl⟩
 have hcl : cs.length = (n - i) * 2 := by rw [hcs1]; simp; omega
 have hhl : hd.length = i * 2 := by rw [hhd]; simp; omega
 have hcell : ∀ k u, (cur.toList.take (n * 2))[k]? = some u -> w.cell? ⟨b, k, none⟩ = some u := fun k u h => by
  rw [cell_of_heap hg]
  rw [List.getElem?_take] at h
  split at h
  ·simpa using h
  ·cases h
 have hkk : (n : Int) + 1 - (i : Int) = ((n + 1 - i : Nat) : Int) := by omega
 have hik : i + (n + 1 - i) = n + 1 := by omega
 have hzc : z.cells.size = 2 := by rw [z5]; rfl
 have hold : (Builtin.firstCells inf.size i (.slice (some ⟨b, 0, none⟩) i cap)).run Try.prog w.drew = .ok hd.toArray w.drew := by
  rw [z3]
  exact run_firstCells_some w.drew 2 i ⟨b, 0, none⟩ i cap hd (by rw [hhl]) (fun j v hj => by
   rw [addr_add, Nat.zero_add]
   rw [hhd, List.getElem?_take] at hj
   split at hj
   ·exact hcell j v hj
   ·cases hj)
 obtain ⟨G, hG⟩ : ∃ G, G = grownCap w (n + 1) cap 110 := ⟨_, rfl⟩
 obtain ⟨ROW, hROW⟩ : ∃ ROW : Array Value, ROW = hd.toArray ++ Builtin.zeroCells z.cells (n + 1 - i) ++ Builtin.zeroCells z.cells (G - (n + 1)) := ⟨_, rfl⟩
 obtain ⟨W1, hW1⟩ : ∃ W1, W1 = w.drew.alloc (.cells ROW 110) := ⟨_, rfl⟩
 have hGn : n + 1 <= G := by rw [hG]; exact grownCap_ge w _ _ _
 have hGm : G <= maxLen := by rw [hG]; exact grownCap_le_maxLen w (n + 1) cap 110 (by unfold maxLen; omega)
 have hG63 : G <= 9223372036854775807 := by unfold maxLen at hGm; omega
 have hrz : ∀ ty, (Builtin.append_ #[103, 3] ty #[.slice (some ⟨b, 0, none⟩) i cap, .int .i64 ((n : Int) + 1 - (i : Int))]).run Try.prog w = .ok (.slice (some ⟨w.heap.size, 0, none⟩) (n + 1) G) W1 := fun ty => by
  have h := Lib.run_append_grow_zeros w 103 3 ty 110 inf z .i64 .i64 under27 (by kernel_rfl) z1 z2 (some ⟨b, 0, none⟩) i cap hd hold (n + 1 - i) (by omega) (by omega) (by omega) (by omega) (by rw [z4]; omega) (by rw [z4, hik]; exact growslice_fits hroom hbig)
  rw [hik, <- hG, <- hROW, <- hW1] at h
  rw [hkk]
  exact h
 have hRl : ROW.size = G * 2 := by
  rw [hROW]
  simp only [Array.size_append, List.size_toArray, hhl, size_zeroCells, hzc]
  omega
 have hgN : W1.heap[w.heap.size]? = some (.cells ROW 110 (0, 0)) := by rw [hW1]; exact heap_alloc_new w.drew _
 have hgO : ∀ k, k < w.heap.size -> W1.heap[k]? = w.heap[k]? := fun k hk => by rw [hW1]; exact heap_alloc_old w.drew _ hk
 obtain ⟨c1, hc1⟩ : ∃ c1 : Array Value, c1 = (ROW.toList.take (i * 2) ++ news ++ ROW.toList.drop (i * 2 + news.length)).toArray := ⟨_, rfl⟩
 have hs1 : c1.size = ROW.size := by rw [hc1]; simp [hl]; omega
 obtain ⟨W2, hW2⟩ : ∃ W2, W2 = W1.setRow w.heap.size c1 := ⟨_, rfl⟩
 have hcpA : ∀ ty dc, (Builtin.copy_ #[103, 103] ty #[.slice (some ⟨w.heap.size, i * 2, none⟩) (n + 1 - i) dc, .slice (some ⟨g, 0, none⟩) 1 vc]).run Try.prog W1 = .ok (goInt (1 : Nat)) W2 := fun ty dc => by
  rw [hW2, hc1]
  exact run_copy_row2 W1 103 103 ty 110 inf 2 w.heap.size (i * 2) (n + 1 - i) dc ROW ⟨g, 0, none⟩ 1 vc 1 news under27 z1 z3 (by simp only [Nat.min_def]; split <;> omega) (by omega)
   (fun j u hj => by
    rw [addr_add, Nat.zero_add]
    have := hsrc j u hj
    simp only [World.cell?] at this ⊢
    rw [hgO g hgb]
    exact this) hgN (by omega) h1
 have hgN2 : W2.drew.heap[w.heap.size]? = some (.cells c1 110 (0, 0)) := by rw [hW2]; exact setRow_heap W1 w.heap.size ROW _ 110 _ hgN
 obtain ⟨c2, hc2⟩ : ∃ c2 : Array Value, c2 = (c1.toList.take ((i + 1) * 2) ++ cs ++ c1.toList.drop ((i + 1) * 2 + cs.length)).toArray := ⟨_, rfl⟩
 obtain ⟨W3, hW3⟩ : ∃ W3, W3 = W2.drew.setRow w.heap.size c2 := ⟨_, rfl⟩
 have hcpB : ∀ ty dc sc, (Builtin.copy_ #[103, 103] ty #[.slice (some ⟨w.heap.size, (i + 1) * 2, none⟩) (n + 1 - (i + 1)) dc, .slice (some ⟨b, i * 2, none⟩) (n - i) sc]).run Try.prog W2.drew = .ok (goInt (n - i : Nat)) W3 := fun ty dc sc => by
  rw [hW3, hc2]
  exact run_copy_row2 W2.drew 103 103 ty 110 inf 2 w.heap.size ((i + 1) * 2) (n + 1 - (i + 1)) dc c1 ⟨b, i * 2, none⟩ (n - i) sc (n - i) cs under27 z1 z3 (by simp only [Nat.min_def]; split <;> omega) hcl
   (fun j u hj => by
    rw [addr_add]
    have := hcell (i * 2 + j) u (by rw [hcs1, List.getElem?_drop] at hj; exact hj)
    have hb2 : W2.drew.heap[b]? = w.heap[b]? := by
     show W2.heap[b]? = _
     rw [hW2, setRow_other W1 w.heap.size b c1 (by omega), hgO b hbw]
    simp only [World.cell?] at this ⊢
    rw [hb2]
    exact this) hgN2 (by rw [hcl]; omega) (fun v hv => hone v (by rw [hcs1] at hv; exact List.mem_of_mem_drop hv))
 have fin : Hid (∃ cur' : Array Value, cur'.size = G * 2 /\ cur'.toList.take ((n + 1) * 2) = (cur.toList.take (n * 2)).take (i * 2) ++ news ++ (cur.toList.take (n * 2)).drop (i * 2) /\ W3 = (w.drew.alloc (.cells cur' 110)).drew) := by
  refine ⟨c2, ?_, ?_, ?_⟩
  ·rw [hc2, List.size_toArray, List.length_append, List.length_append, List.length_take, List.length_drop, Array.length_toList, hs1, hcl]; omega
  ·rw [<- hhd, <- hcs1, hc2, List.toList_toArray]
   have e1 : c1.toList.take ((i + 1) * 2) = hd ++ news := by
    rw [hc1, List.toList_toArray]
    have e2 : ROW.toList.take (i * 2) = hd := by
     rw [hROW]
     simp only [Array.toList_append, List.append_assoc]
     rw [<- hhl, List.take_left]
    rw [e2, show (i + 1) * 2 = (hd ++ news).length by simp [hhl, hl]; omega, List.take_left]
   rw [e1, show (n + 1) * 2 = (hd ++ news ++ cs).length by simp [hhl, hl, hcl]; omega, List.take_left]
  ·rw [hW3, hW2]
   have : (W1.setRow w.heap.size c1).drew.setRow w.heap.size c2 = (W1.setRow w.heap.size c2).drew := by
    rw [<- setRow_setRow W1 w.heap.size c1 c2]; rfl
   rw [this, hW1]
   exact congrArg World.drew (alloc_setRow w.drew ROW c2 110)
 have hz2 : ¬ ((i : Int) = (n : Int)) := by omega
 have hw1 : IntKind.i64.wrap ((i : Int) + 1) = (i : Int) + 1 := by rw [IntKind.wrap_i64]; omega
 have hw2 : IntKind.i64.wrap ((n : Int) + 1) = (n : Int) + 1 := by rw [IntKind.wrap_i64]; omega
 have hw3 : IntKind.i64.wrap ((n : Int) + 1 - (i : Int)) = (n : Int) + 1 - (i : Int) := by rw [IntKind.wrap_i64]; omega
 have hb1 : (0 : Int) <= (i : Int) + 1 := by omega
 have hin : i <= n := by omega
 have htn : ((i : Int) + 1).toNat = i + 1 := by omega
 have htn2 : ((n : Int) + 1).toNat = n + 1 := by omega
 have hb2 : ¬ (G = i + 1) := by omega
 have hb3 : (i : Int) <= (n : Int) := by omega
 have hb4 : ¬ (G = i) := by omega
 have hb6 : ¬ (cap = i) := by omega
 have hb5 : (cap : Int) < (n : Int) + 1 := by omega
 have hGn := Lib.hid hGn
 have hGm := Lib.hid hGm
 clear hc1 hs1 hW1 hgN hgO hgN2 hW3 hc2 hW2 hcs1 hcl h1 hsrc hone hg z1 z2 z3 z4 z5 hkk hik hold hROW hG hRl hcell hhd hhl
 have mixed : Try.prog.follows Departure.mixedOrders = true := by kernel_rfl
 go_enter Try.func67, Try.ntmps67
 go_wp2_with (first
  | (at_builtin; refine Lib.wpList_append_run _ rfl _ _ _ _ rfl _ _ rfl rfl _ _ (hrz _) ?_)
  | (at_builtin; refine wpList_copy_runI _ rfl _ _ 103 103 rfl _ _ rfl rfl (hcpA _ _) ?_)
  | (at_builtin; refine wpList_copy_runI _ rfl _ _ 103 103 rfl _ _ rfl rfl (hcpB _ _ _) ?_))
 go_region_law_o (refine step_copy_runI rfl _ _ 103 103 rfl (.slice (some ⟨w.heap.size, (i + 1) * 2, none⟩) (n + 1 - (i + 1)) (G - (i + 1))) (.slice (some ⟨b, i * 2, none⟩) (n - i) (cap - i)) (by simp [Act.eval, Act.put]) (by simp [Act.eval, Act.put]) (hcpB _ _ _) ?_)
 go_wp2
 go_ret
 exact ⟨G, rfl, hGn.out, hGm.out, fin.out⟩
def tmK : List K := [.i .i64, .i .i64]
def tmR : Row := .ofKs tmK
section
variable {w w' : World} {Im Im' : Nat -> Prop} {q : Row}
theorem _root_.Go.Proofs.Ytfhheeoejncfgaa.Ew.RowsV.takeN : ∀ {l : RL} {xs : List Value}, RowsV w Im q l xs -> ∀ i, RowsV w Im q (l.take i) (xs.take (i * q.size))
 | [], xs, h, i => by simp only [RowsV] at h; subst h; simp [RowsV]
 | r :: l, xs, h, 0 => by simp [RowsV]
 | r :: l, xs, h, i + 1 => by
   obtain ⟨us, ys, rfl, h2, h3⟩ := h
   refine ⟨us, ys.take (i * q.size), ?_, h2, RowsV.takeN h3 i⟩
   have e1 : (i + 1) * q.size = us.length + i * q.size := by rw [Nat.succ_mul, h2.len.1]; omega
   rw [e1, List.take_append, List.take_of_length_le (by omega)]; simp
theorem _root_.Go.Proofs.Ytfhheeoejncfgaa.Ew.RowsV.dropN : ∀ {l : RL} {xs : List Value}, RowsV w Im q l xs -> ∀ i, RowsV w Im q (l.drop i) (xs.drop (i * q.size))
 | [], xs, h, i => by simp only [RowsV] at h; subst h; simp [RowsV]
 | r :: l, xs, h, 0 => by simpa using h
 | r :: l, xs, h, i + 1 => by
   obtain ⟨us, ys, rfl, h2, h3⟩ := h
   have e1 : (i + 1) * q.size = us.length + i * q.size := by rw [Nat.succ_mul, h2.len.1]; omega
   have e2 : (us ++ ys).drop (us.length + i * q.size) = ys.drop (i * q.size) := by
    rw [List.drop_append, List.drop_of_length_le (by omega)]; simp
   rw [e1, e2, List.drop_succ_cons]
   exact RowsV.dropN h3 i
end
theorem RowsV_all {w w' : World} {Im Im' : Nat -> Prop} {l : RL} {xs : List Value} (h : RowsV w Im tmR l xs) : RowsV w' Im' tmR l xs :=
 RowsV.fr (Im := fun _ => False) (fun _ h => h.elim) (RowsV_any (ks := tmK) (Im' := fun _ => False) h)
theorem relE_ret {w w' : World} {M0 Im0 : Nat -> Prop} {hs : Nat -> Hd} {ty : Nat} {q : Row} (hM : ∀ b, M0 b -> ¬ Im0 b /\ b < w.heap.size) (hI : ∀ b, Im0 b -> b < w.heap.size) (hf : Fr M0 w w') {nn k : Nat} {ys : List Int} {hd' : Hd}
 (hc : isCd (env ys k)) (ho : OwL w' Im0 ty q hd' (dc (env ys k))) (hb : ∀ b, (hd'.sl (dc (env ys k)).length).ownBlock = some b -> M0 b \/ w.heap.size <= b) :
 RelE F0 (env ys) w M0 Im0 (upd hs nn hd') [(nn, mkB true, .lst ty q true (LEN (.var .x k)) (.var .x k))] w' := by
 have hl : (LEN (.var .x k)).den F0 (env ys) = ((dc (env ys k)).length : Int) := by
  rw [BI_F0.len]
  exact wrap_len ho.1
 have hd : (E.var .x k).den F0 (env ys) = env ys k := rfl
 refine ⟨fun x hx _ => ?_, fun x hx y hy _ _ b _ _ => ?_, fun b hb' => Nat.lt_of_lt_of_le (hI b hb') hf.size, hf⟩
 ·simp only [List.mem_singleton] at hx
  subst hx
  have hm : mutB F0 (env ys) (upd hs nn hd') nn (.lst ty q true (LEN (.var .x k)) (.var .x k)) = (hd'.sl (dc (env ys k)).length).ownBlock := by
   simp only [mutB, upd_same, hl, Int.toNat_natCast]
  refine ⟨⟨by rw [hd]; exact hc, by rw [hd]; exact hl, ?_⟩, fun b hb' => ?_⟩
  ·rw [hd]; simp only [cond_true, upd_same]; exact ho
  ·rw [hm] at hb'
   refine ⟨hb b hb', fun hi => ?_, (ho.2.choose_spec.1.lt b hb').2⟩
   rcases hb b hb' with h | h
   ·exact (hM b h).1 hi
   ·have := hI b hi; omega
 ·simp only [List.mem_singleton] at hx hy
  subst hx; subst hy; rfl
def cap8 : Int := 8796093022000
noncomputable def insertE (key : Nat) : Ent := ⟨key, 67, [.lst 110 tmR true, .sc (.i .i64), .lst 110 tmR true], [], [], .lst 110 tmR true,
 fun _ xs => cd (((dc (env xs 0)).take (env xs 1).toNat) ++ (dc (env xs 2)) ++ ((dc (env xs 0)).drop (env xs 1).toNat)),
 fun xs => 0 <= env xs 1 /\ env xs 1 <= ((dc (env xs 0)).length : Int) /\ (dc (env xs 2)).length = 1 /\ ((dc (env xs 0)).length : Int) < cap8⟩
theorem insert_own (w : World) (v : Value) (n i : Nat) (xs : List Value) (hown : w.ownsRow 0 110 2 v n xs) (hi : i <= n) (hone : ∀ u ∈ xs, u.oneCell' = true) (u : Value) (news : List Value) (hu : w.ownsRow 0 110 2 u 1 news) (h1 : ∀ u ∈ news, u.oneCell' = true)
 (hne : ∀ b, v.ownBlock = some b -> u.ownBlock ≠ some b) (hbig : (n + 1) * 16 <= 140737488355328) :
 Calls Try.prog 67 #[v, .int .i64 i, u] w fun e w' => ∃ v', e = .returned v' /\ w'.ownsRow 0 110 2 v' (n + 1) (xs.take (i * 2) ++ news ++ xs.drop (i * 2)) /\ Fr (fun b => v.ownBlock = some b) w w' /\ (v'.ownBlock = v.ownBlock \/ v'.ownBlock = some w.heap.size) := by
 obtain ⟨hul, hur⟩ := hu
 rcases hur with ⟨rfl, h⟩ | ⟨g, vc, vcur, rfl, _, hvg, hvn, hvm, hvs, hvt⟩
 ·omega
 have hsrc : ∀ j u, news[j]? = some u -> w.cell? ⟨g, j, none⟩ = some u := fun j u hj => by
  rw [cell_of_heap hvg]
  rw [<- hvt, List.getElem?_take] at hj
  split at hj
  ·simpa using hj
  ·cases hj
 by_cases he : i = n
 ·subst he
  refine Calls.mono (insert_end w v i xs hown g vc news (by omega) hsrc h1 hbig) fun e w' h => ?_
  obtain ⟨v', e1, e2, e3, e4⟩ := h
  have hl := hown.1
  refine ⟨v', e1, ?_, Fr.grown e3, e4⟩
  rw [List.take_of_length_le (by omega), List.drop_of_length_le (by omega), List.append_nil]
  exact e2
 ·obtain ⟨hl, hr⟩ := hown
  rcases hr with ⟨rfl, h⟩ | ⟨b, cap, cur, rfl, _, hg, hnc, hcm, hcs, ht⟩
  ·omega
  have hgb : g ≠ b := fun e => hne b rfl (by rw [e]; rfl)
  by_cases hroom : n + 1 <= cap
  ·refine Calls.mono (insert_shift w b n cap i cur (by omega) hroom hcm hg hcs (by rw [ht]; exact hone) g vc vcur hvg hgb news (by omega) hsrc h1) fun e w' h => ?_
   obtain ⟨e1, cur', e2, e3, rfl⟩ := h
   rw [ht] at e3
   refine ⟨_, e1, ⟨?_, .inr ⟨b, cap, cur', rfl, Nat.zero_le _, setRow_heap w.drew b cur _ 110 _ hg, hroom, hcm, by omega, e3⟩⟩, ?_, Or.inl rfl⟩
   ·rw [List.length_append, List.length_append, List.length_take, List.length_drop, hl, hul]; omega
   ·exact ((Fr.drew _ w).trans (Fr.setRow b cur') (fun k _ e => by rw [e]; rfl))
  ·refine Calls.mono (insert_grow w b n cap i cur (by omega) hnc (by omega) hcm hg hcs (by rw [ht]; exact hone) g vc (Array.getElem?_eq_some_iff.1 hvg).1 news (by omega) hsrc h1 hbig) fun e w' h => ?_
   obtain ⟨G, e1, e2, e3, cur', e4, e5, rfl⟩ := h
   rw [ht] at e5
   refine ⟨_, e1, ⟨?_, .inr ⟨w.heap.size, G, cur', rfl, Nat.zero_le _, heap_alloc_new w.drew _, e2, e3, e4, e5⟩⟩, ?_, Or.inr rfl⟩
   ·rw [List.length_append, List.length_append, List.length_take, List.length_drop, hl, hul]; omega
   ·exact ((Fr.drew (fun b' => (Value.slice (some ⟨b, 0, none⟩) n cap).ownBlock = some b') w).trans (Fr.alloc _ w.drew _) (fun _ _ h => h)).trans (Fr.drew _ _) (fun _ _ h => h)
theorem relE_own {w w0 : World} {M0 Im0 : Nat -> Prop} {hs : Nat -> Hd} {ty : Nat} {q : Row} {n k : Nat} {ys : List Int} {l : Ents} (hR : RelE F0 (env ys) w0 M0 Im0 hs l w) (hm : (n, mkB true, .lst ty q true (LEN (.var .x k)) (.var .x k)) ∈ l) :
 isCd (env ys k) /\ OwL w Im0 ty q (hs n) (dc (env ys k)) /\ (∀ b, ((hs n).sl (dc (env ys k)).length).ownBlock = some b -> M0 b \/ w0.heap.size <= b) /\
 SV.conc F0 (env ys) hs (.ls n (LEN (.var .x k))) = (hs n).sl (dc (env ys k)).length /\ mutB F0 (env ys) hs n (.lst ty q true (LEN (.var .x k)) (.var .x k)) = ((hs n).sl (dc (env ys k)).length).ownBlock := by
 obtain ⟨h1, h2⟩ := hR.ent _ hm (by simp)
 obtain ⟨a1, a2, a3⟩ := h1
 have hd : (E.var .x k).den F0 (env ys) = env ys k := rfl
 rw [hd] at a1 a2 a3
 simp only [cond_true] at a3
 have hm : mutB F0 (env ys) hs n (.lst ty q true (LEN (.var .x k)) (.var .x k)) = ((hs n).sl (dc (env ys k)).length).ownBlock := by simp only [mutB, a2, Int.toNat_natCast]
 refine ⟨a1, a3, fun b hb => (h2 b (by rw [hm]; exact hb)).1, by simp only [SV.conc, a2, Int.toNat_natCast], hm⟩
theorem insert_ok (G : Glob) (key : Nat) : EntryOK Try.prog G (insertE key) := by
 intro xs hf hp w M0 Im0 hs hM hG hR
 match xs, hf with
 | [a, i, c], hf =>
   obtain ⟨_, hi, _, _⟩ := hf
   obtain ⟨p1, p2, p3, p4⟩ := hp
   have e0 : env [a, i, c] 0 = a := rfl
   have e1 : env [a, i, c] 1 = i := rfl
   have e2 : env [a, i, c] 2 = c := rfl
   obtain ⟨o1, o2, o3, o4, o5⟩ := relE_own (n := 0) (k := 0) hR (List.mem_cons_self ..)
   obtain ⟨u1, u2, u3, u4, u5⟩ := relE_own (n := 1) (k := 2) hR (List.mem_cons_of_mem _ (List.mem_cons_self ..))
   rw [e0, e1] at p2
   rw [e1] at p1
   rw [e2] at p3
   rw [e0] at p4 o1 o2 o3 o4 o5
   rw [e2] at u1 u2 u3 u4 u5
   obtain ⟨q1, xs', q2, q3⟩ := o2
   obtain ⟨v1, us', v2, v3⟩ := u2
   rw [p3] at v2 u4 u5
   unfold cap8 at p4
   have hne : ∀ b, ((hs 0).sl (dc a).length).ownBlock = some b -> ((hs 1).sl 1).ownBlock ≠ some b := fun b h h' => by
    have := hR.inj _ (List.mem_cons_self ..) _ (List.mem_cons_of_mem _ (List.mem_cons_self ..)) (by simp) (by simp) b (o5 ▸ h) (u5 ▸ h')
    exact absurd (show (0 : Nat) = 1 from this) (by omega)
   have hin : (i.toNat : Int) = i := Int.toNat_of_nonneg p1
   have H := insert_own w _ (dc a).length i.toNat xs' q2 (by omega) q3.one _ us' v2 v3.one hne (by omega)
   have hargs : (SV.concL F0 (env [a, i, c]) hs (insertE key).pgen.1).toArray = #[(hs 0).sl (dc a).length, .int .i64 i.toNat, (hs 1).sl 1] := by
    show #[SV.conc F0 (env [a, i, c]) hs (.ls 0 (LEN (.var .x 0))), (E.var (.i .i64) 1).val F0 (env [a, i, c]), SV.conc F0 (env [a, i, c]) hs (.ls 1 (LEN (.var .x 2)))] = _
    rw [o4, u4, hin]
    have : (E.var (.i .i64) 1).val F0 (env [a, i, c]) = .int .i64 i := by
     show Value.int .i64 (IntKind.i64.wrap i) = _
     exact congrArg _ hi
    rw [this]
   rw [hargs]
   refine Calls.mono H fun e w' h => ?_
   obtain ⟨v', r1, r2, r3, r4⟩ := h
   obtain ⟨hd', rfl⟩ := ownsRow_hd r2
   obtain ⟨z, hz⟩ : ∃ z, z = cd (((dc a).take i.toNat) ++ (dc c) ++ ((dc a).drop i.toNat)) := ⟨_, rfl⟩
   have hzl : (dc z).length = (dc a).length + 1 := by
    rw [hz, dc_cd, List.length_append, List.length_append, List.length_take, List.length_drop, p3]; omega
   have hz3 : env ([a, i, c] ++ outsE (insertE key).fn [a, i, c] 0 (insertE key).oks) 3 = z := by rw [hz]; rfl
   have hT : Fr M0 w w' := by
    refine ⟨r3.os, r3.tape, r3.output, r3.size, fun k hk hn => r3.block k hk fun e => ?_⟩
    rcases o3 k e with h | h
    ·exact hn h
    ·omega
   have hO : OwL w' Im0 110 tmR hd' (dc z) := by
    refine ⟨by rw [hzl]; unfold maxLen; omega, _, by rw [hzl]; exact r2, ?_⟩
    rw [hz, dc_cd]
    have hq3 : RowsV w' Im0 tmR (dc a) xs' := RowsV_all q3
    exact ((hq3.takeN _).append (RowsV_all v3)).append (hq3.dropN _)
   refine ⟨upd hs 2 hd', Im0, fun j hj => upd_other hs hd' (by have : j < 2 := hj; omega), fun _ h => h, fun b h => Or.inl h, ?_, ?_⟩
   ·rw [r1]
    show _ = Ending.returned (SV.conc F0 _ (upd hs 2 hd') (.ls 2 (LEN (.var .x 3))))
    have : (LEN (.var .x 3)).den F0 (env ([a, i, c] ++ outsE (insertE key).fn [a, i, c] 0 (insertE key).oks)) = ((dc a).length + 1 : Nat) := by
     rw [BI_F0.len]
     have : (E.var .x 3).den F0 (env ([a, i, c] ++ outsE (insertE key).fn [a, i, c] 0 (insertE key).oks)) = z := hz3
     rw [this, hzl]
     exact wrap_len (by unfold maxLen; omega)
    simp only [SV.conc, upd_same, this, Int.toNat_natCast]
   ·have := relE_ret (hs := hs) (nn := 2) (k := 3) (ys := [a, i, c] ++ outsE (insertE key).fn [a, i, c] 0 (insertE key).oks) hM hR.im hT (hd' := hd') (by rw [hz3, hz]; exact isCd_cd _) (by rw [hz3]; exact hO) (by
     rw [hz3, hzl]
     intro b hb
     rcases r4 with r4 | r4
     ·rw [r4] at hb; exact o3 b hb
     ·rw [r4] at hb; simp only [Option.some.injEq] at hb; exact Or.inr (by omega))
    exact this
end Go.Proofs.Ytfhheeoejncfgaa.Ew.Q
namespace Go.Proofs.Ytfhheeoejncfgaa.Ew.Q
open Go Go.RowKit Go.Lib
set_option maxHeartbeats 4000000 in
set_option maxRecDepth 1000000 in
theorem delete_nil (w : World) : Calls Try.prog 91 #[.slice none 0 0, .int .i64 0, .int .i64 0] w fun e w' => e = .returned (.slice none 0 0) /\ w' = w := by
 go_enter Try.func91, Try.ntmps91
 go_wp2
 all_goals (go_ret; exact ⟨rfl, rfl⟩)
set_option maxHeartbeats 4000000 in
set_option maxRecDepth 1000000 in
theorem clone_nil (w : World) : Calls Try.prog 114 #[.slice none 0 0] w fun e w' => e = .returned (.slice none 0 0) /\ w' = w := by
 have eqn := fun (w : World) a n c => Lib.run_eql_slice_nil (P := Try.prog) w 103 110 a n c 0 0 under27
 go_enter Try.func114, Try.ntmps114
 go_wp2
 all_goals (go_ret; exact ⟨rfl, rfl⟩)
set_option maxHeartbeats 4000000 in
set_option maxRecDepth 1000000 in
theorem clone_some (w : World) (b o n cap : Nat) (xs : List Value) (hl : xs.length = n * 2) (hsrc : ∀ j u, xs[j]? = some u -> w.cell? ⟨b, o + j, none⟩ = some u) (h1 : ∀ u ∈ xs, u.oneCell' = true) (hb : n * 16 <= 140737488355328) :
 Calls Try.prog 114 #[.slice (some ⟨b, o, none⟩) n cap] w fun e w' => ∃ v', e = .returned v' /\ w'.ownsRow 0 110 2 v' n xs /\ Fr (fun _ => False) w w' /\ ∀ k, v'.ownBlock = some k -> w.heap.size <= k := by
 obtain ⟨inf, z, z1, z2, z3, z4, z5⟩ := info34b
 obtain ⟨W, hW⟩ : ∃ W, W = w.alloc (.cells #[] 110) := ⟨_, rfl⟩
 have key : ∃ v' w', (Builtin.append_ #[103, 103] 103 #[.slice (some ⟨w.heap.size, 0, none⟩) 0 0, .slice (some ⟨b, o, none⟩) n cap]).run Try.prog W = .ok v' w' /\ w'.ownsRow 0 110 2 v' (0 + n) ([] ++ xs) /\ W.grownBy w' (some w.heap.size) /\ (v'.ownBlock = some w.heap.size \/ v'.ownBlock = some W.heap.size) :=
  append_own2 (P := Try.prog) W 103 103 110 inf z 2 16 under27 z1 z2 z3 z4 (by rw [z5]; rfl) (by omega) (.slice (some ⟨w.heap.size, 0, none⟩) 0 0) 0 [] (by rw [hW]; exact World.ownsRow_made w #[] 0 (Nat.zero_le _) (by unfold maxLen; omega) (by simp)) ⟨b, o, none⟩ n cap xs hl (fun j u hj => by
   rw [addr_add]
   have hc := hsrc j u hj
   have hbl : b < w.heap.size := World.block_lt_of_cell? w _ hc
   simp only [World.cell?] at hc ⊢
   rw [hW, heap_alloc_old w _ hbl]; exact hc) h1 (by unfold maxLen; omega) (by omega)
 rw [Nat.zero_add, List.nil_append] at key
 have hWs : W.heap.size = w.heap.size + 1 := by rw [hW]; simp
 obtain ⟨v', w', r1, r2, r3, r4⟩ := key
 have fin : Hid (w'.ownsRow 0 110 2 v' n xs /\ Fr (fun _ => False) w w' /\ ∀ k, v'.ownBlock = some k -> w.heap.size <= k) := by
  refine ⟨r2, ?_, fun k hk => ?_⟩
  ·rw [hW] at r3
   exact (Fr.alloc (fun _ => False) w _).trans (Fr.grown r3) (fun b hb e => by simp only [Option.some.injEq] at e; omega)
  ·rcases r4 with r4 | r4 <;> rw [r4] at hk <;> simp only [Option.some.injEq] at hk <;> omega
 rw [hW] at r1
 clear r2 r3 r4 hsrc h1 hW hWs
 have eqn := fun (w : World) a n c => Lib.run_eql_slice_nil (P := Try.prog) w 103 110 a n c 0 0 under27
 go_enter Try.func114, Try.ntmps114
 go_wp2_with (at_builtin; refine Lib.wpList_append_run _ rfl _ _ _ _ rfl _ _ rfl rfl _ _ r1 ?_)
 go_ret
 exact ⟨v', rfl, fin.out⟩
theorem delete_own (w : World) (v : Value) (n i j : Nat) (xs : List Value) (hown : w.ownsRow 0 110 2 v n xs) (hij : i <= j) (hj : j <= n) (hone : ∀ u ∈ xs, u.oneCell' = true) :
 Calls Try.prog 91 #[v, .int .i64 i, .int .i64 j] w fun e w' => ∃ v', e = .returned v' /\ w'.ownsRow 0 110 2 v' (i + (n - j)) (xs.take (i * 2) ++ xs.drop (j * 2)) /\ Fr (fun b => v.ownBlock = some b) w w' /\ v'.ownBlock = v.ownBlock := by
 obtain ⟨hl, hr⟩ := hown
 rcases hr with ⟨rfl, rfl⟩ | ⟨b, cap, cur, rfl, _, hg, hnc, hcm, hcs, ht⟩
 ·have h0 : i = 0 := by omega
  have h1 : j = 0 := by omega
  subst h0; subst h1
  refine Calls.mono (delete_nil w) fun e w' h => ?_
  obtain ⟨e1, rfl⟩ := h
  have : xs = [] := List.length_eq_zero_iff.1 (by omega)
  subst this
  exact ⟨_, e1, World.ownsRow_nil w' 0 110 2, Fr.refl _ _, rfl⟩
 ·by_cases he : i = j
  ·subst he
   refine Calls.mono (delete_same (.slice (some ⟨b, 0, none⟩) n cap) i w b n cap rfl hj hnc hcm) fun e w' h => ?_
   obtain ⟨e1, rfl⟩ := h
   refine ⟨_, e1, ⟨?_, .inr ⟨b, cap, cur, by rw [show i + (n - i) = n by omega], Nat.zero_le _, hg, by omega, hcm, hcs, ?_⟩⟩, Fr.refl _ _, rfl⟩
   ·rw [List.take_append_drop]; omega
   ·rw [List.take_append_drop, show i + (n - i) = n by omega]; exact ht
  ·refine Calls.mono (delete_walk i j w b n cap cur (by omega) hj hnc hcm hg hcs (by rw [ht]; exact hone)) fun e w' h => ?_
   obtain ⟨e1, cur', e2, e3, rfl⟩ := h
   rw [ht] at e3
   unfold delCells at e3
   refine ⟨_, e1, ⟨?_, .inr ⟨b, cap, cur', rfl, Nat.zero_le _, setRow_heap w.drew b cur _ 110 _ hg, by omega, hcm, by omega, e3⟩⟩, ?_, rfl⟩
   ·rw [List.length_append, List.length_take, List.length_drop]; omega
   ·exact ((Fr.drew _ w).trans (Fr.setRow b cur') (fun k _ e => by rw [e]; rfl))
noncomputable def deleteE (key : Nat) : Ent := ⟨key, 91, [.lst 110 tmR true, .sc (.i .i64), .sc (.i .i64)], [], [], .lst 110 tmR true,
 fun _ xs => cd (((dc (env xs 0)).take (env xs 1).toNat) ++ ((dc (env xs 0)).drop (env xs 2).toNat)),
 fun xs => 0 <= env xs 1 /\ env xs 1 <= env xs 2 /\ env xs 2 <= ((dc (env xs 0)).length : Int)⟩
noncomputable def cloneE (key : Nat) : Ent := ⟨key, 114, [.lst 110 tmR false], [], [], .lst 110 tmR true, fun _ xs => env xs 0, fun xs => ((dc (env xs 0)).length : Int) < cap8⟩
theorem delete_ok (G : Glob) (key : Nat) : EntryOK Try.prog G (deleteE key) := by
 intro xs hf hp w M0 Im0 hs hM hG hR
 match xs, hf with
 | [a, i, j], hf =>
   obtain ⟨_, hi, hj, _⟩ := hf
   obtain ⟨p1, p2, p3⟩ := hp
   have e0 : env [a, i, j] 0 = a := rfl
   have e1 : env [a, i, j] 1 = i := rfl
   have e2 : env [a, i, j] 2 = j := rfl
   obtain ⟨o1, o2, o3, o4, o5⟩ := relE_own (n := 0) (k := 0) hR (List.mem_cons_self ..)
   rw [e1] at p1 p2
   rw [e2] at p2 p3
   rw [e0] at p3 o1 o2 o3 o4 o5
   obtain ⟨q1, xs', q2, q3⟩ := o2
   have hin : (i.toNat : Int) = i := Int.toNat_of_nonneg p1
   have hjn : (j.toNat : Int) = j := Int.toNat_of_nonneg (by omega)
   have H := delete_own w _ (dc a).length i.toNat j.toNat xs' q2 (by omega) (by omega) q3.one
   have hargs : (SV.concL F0 (env [a, i, j]) hs (deleteE key).pgen.1).toArray = #[(hs 0).sl (dc a).length, .int .i64 i.toNat, .int .i64 j.toNat] := by
    show #[SV.conc F0 (env [a, i, j]) hs (.ls 0 (LEN (.var .x 0))), (E.var (.i .i64) 1).val F0 (env [a, i, j]), (E.var (.i .i64) 2).val F0 (env [a, i, j])] = _
    rw [o4, hin, hjn]
    have t1 : (E.var (.i .i64) 1).val F0 (env [a, i, j]) = .int .i64 i := by
     show Value.int .i64 (IntKind.i64.wrap i) = _
     exact congrArg _ hi
    have t2 : (E.var (.i .i64) 2).val F0 (env [a, i, j]) = .int .i64 j := by
     show Value.int .i64 (IntKind.i64.wrap j) = _
     exact congrArg _ hj
    rw [t1, t2]
   rw [hargs]
   refine Calls.mono H fun e w' h => ?_
   obtain ⟨v', r1, r2, r3, r4⟩ := h
   obtain ⟨hd', rfl⟩ := ownsRow_hd r2
   obtain ⟨z, hz⟩ : ∃ z, z = cd (((dc a).take i.toNat) ++ ((dc a).drop j.toNat)) := ⟨_, rfl⟩
   have hzl : (dc z).length = i.toNat + ((dc a).length - j.toNat) := by
    rw [hz, dc_cd, List.length_append, List.length_take, List.length_drop]; omega
   have hz3 : env ([a, i, j] ++ outsE (deleteE key).fn [a, i, j] 0 (deleteE key).oks) 3 = z := by rw [hz]; rfl
   have hT : Fr M0 w w' := by
    refine ⟨r3.os, r3.tape, r3.output, r3.size, fun k hk hn => r3.block k hk fun e => ?_⟩
    rcases o3 k e with h | h
    ·exact hn h
    ·omega
   have hO : OwL w' Im0 110 tmR hd' (dc z) := by
    refine ⟨by rw [hzl]; omega, _, by rw [hzl]; exact r2, ?_⟩
    rw [hz, dc_cd]
    have hq3 : RowsV w' Im0 tmR (dc a) xs' := RowsV_all q3
    exact (hq3.takeN _).append (hq3.dropN _)
   refine ⟨upd hs 1 hd', Im0, fun j hj => upd_other hs hd' (by have : j < 1 := hj; omega), fun _ h => h, fun b h => Or.inl h, ?_, ?_⟩
   ·rw [r1]
    show _ = Ending.returned (SV.conc F0 _ (upd hs 1 hd') (.ls 1 (LEN (.var .x 3))))
    have : (LEN (.var .x 3)).den F0 (env ([a, i, j] ++ outsE (deleteE key).fn [a, i, j] 0 (deleteE key).oks)) = (i.toNat + ((dc a).length - j.toNat) : Nat) := by
     rw [BI_F0.len]
     have : (E.var .x 3).den F0 (env ([a, i, j] ++ outsE (deleteE key).fn [a, i, j] 0 (deleteE key).oks)) = z := hz3
     rw [this, hzl]
     exact wrap_len (by omega)
    simp only [SV.conc, upd_same, this, Int.toNat_natCast]
   ·have := relE_ret (hs := hs) (nn := 1) (k := 3) (ys := [a, i, j] ++ outsE (deleteE key).fn [a, i, j] 0 (deleteE key).oks) hM hR.im hT (hd' := hd') (by rw [hz3, hz]; exact isCd_cd _) (by rw [hz3]; exact hO) (by
     rw [hz3, hzl]
     intro b hb
     rw [r4] at hb; exact o3 b hb)
    exact this
theorem rd_rows {w : World} {Im : Nat -> Prop} {q : Row} : ∀ (l : RL) (b o : Nat), (∀ i r', l[i]? = some r' -> ∃ us, RowV w Im q r' us /\ ∀ j u, us[j]? = some u -> w.cell? ⟨b, o + i * q.size + j, none⟩ = some u) ->
 ∃ xs, RowsV w Im q l xs /\ ∀ j u, xs[j]? = some u -> w.cell? ⟨b, o + j, none⟩ = some u
 | [], b, o, _ => ⟨[], rfl, fun j u h => by simp at h⟩
 | r :: l, b, o, h => by
   obtain ⟨us, u1, u2⟩ := h 0 r rfl
   obtain ⟨ys, y1, y2⟩ := rd_rows l b (o + q.size) fun i r' hi => by
    obtain ⟨vs, v1, v2⟩ := h (i + 1) r' (by simpa using hi)
    refine ⟨vs, v1, fun j u hu => ?_⟩
    have := v2 j u hu
    rwa [Nat.succ_mul, show o + (i * q.size + q.size) + j = o + q.size + i * q.size + j by omega] at this
   refine ⟨us ++ ys, ⟨us, ys, rfl, u1, y1⟩, fun j u hu => ?_⟩
   have hl := u1.len.1
   by_cases hj : j < us.length
   ·rw [List.getElem?_append_left hj] at hu
    have := u2 j u hu
    rwa [Nat.zero_mul, Nat.add_zero] at this
   ·rw [List.getElem?_append_right (by omega)] at hu
    have := y2 (j - us.length) u hu
    rwa [show o + q.size + (j - us.length) = o + j by omega] at this
theorem clone_own (w : World) (Im : Nat -> Prop) (h : Hd) (l : RL) (hsh : ShL w Im tmR h l) (hb : l.length * 16 <= 140737488355328) :
 Calls Try.prog 114 #[h.sl l.length] w fun e w' => ∃ v' xs, e = .returned v' /\ w'.ownsRow 0 110 2 v' l.length xs /\ RowsV w' Im tmR l xs /\ Fr (fun _ => False) w w' /\ ∀ k, v'.ownBlock = some k -> w.heap.size <= k := by
 rcases sl_form h l.length with ⟨h1, h2⟩ | h1
 ·rw [h1]
  have : l = [] := List.length_eq_zero_iff.1 h2
  subst this
  refine Calls.mono (clone_nil w) fun e w' hh => ?_
  obtain ⟨e1, rfl⟩ := hh
  exact ⟨_, [], e1, World.ownsRow_nil _ _ _ _, rfl, Fr.refl _ _, fun k hk => by simp [Value.ownBlock] at hk⟩
 ·rw [h1]
  obtain ⟨xs, x1, x2⟩ := rd_rows l h.blk h.off hsh.2.2.2
  have hl := x1.len
  refine Calls.mono (clone_some w h.blk h.off l.length h.cap xs hl x2 x1.one hb) fun e w' hh => ?_
  obtain ⟨v', e1, e2, e3, e4⟩ := hh
  exact ⟨v', xs, e1, e2, RowsV_all x1, e3, e4⟩
theorem clone_ok (G : Glob) (key : Nat) : EntryOK Try.prog G (cloneE key) := by
 intro xs hf hp w M0 Im0 hs hM hG hR
 obtain ⟨a, rfl⟩ := List.length_eq_one_iff.1 (show xs.length = 1 from fits_length hf)
 ·have e0 : env [a] 0 = a := rfl
  have hp : ((dc a).length : Int) < cap8 := hp
  unfold cap8 at hp
  obtain ⟨h1, _⟩ := hR.ent (0, mkB true, .lst 110 tmR false (LEN (.var .x 0)) (.var .x 0)) (List.mem_cons_self ..) (by simp)
  obtain ⟨a1, a2, a3⟩ := h1
  have hd : (E.var .x 0).den F0 (env [a]) = a := rfl
  rw [hd] at a1 a2 a3
  simp only [cond_false] at a3
  have H := clone_own w Im0 (hs 0) (dc a) a3 (by omega)
  have hargs : (SV.concL F0 (env [a]) hs (cloneE key).pgen.1).toArray = #[(hs 0).sl (dc a).length] := by
   show #[SV.conc F0 (env [a]) hs (.ls 0 (LEN (.var .x 0)))] = _
   simp only [SV.conc, a2, Int.toNat_natCast]
  rw [hargs]
  refine Calls.mono H fun e w' h => ?_
  obtain ⟨v', xs', r1, r2, r3, r4, r5⟩ := h
  obtain ⟨hd', rfl⟩ := ownsRow_hd r2
  have hz3 : env ([a] ++ outsE (cloneE key).fn [a] 0 (cloneE key).oks) 1 = a := rfl
  refine ⟨upd hs 1 hd', Im0, fun j hj => upd_other hs hd' (by have : j < 1 := hj; omega), fun _ h => h, fun b h => Or.inl h, ?_, ?_⟩
  ·rw [r1]
   show _ = Ending.returned (SV.conc F0 _ (upd hs 1 hd') (.ls 1 (LEN (.var .x 1))))
   have : (LEN (.var .x 1)).den F0 (env ([a] ++ outsE (cloneE key).fn [a] 0 (cloneE key).oks)) = ((dc a).length : Nat) := by
    rw [BI_F0.len]
    exact wrap_len a3.1
   simp only [SV.conc, upd_same, this, Int.toNat_natCast]
  ·have := relE_ret (hs := hs) (nn := 1) (k := 1) (ys := [a] ++ outsE (cloneE key).fn [a] 0 (cloneE key).oks) hM hR.im (r4.mono fun _ h => h.elim) (hd' := hd') (by rw [hz3]; exact a1)
    (by rw [hz3]; exact ⟨a3.1, xs', r2, RowsV_all r3⟩) (by
     rw [hz3]
     intro b hb
     exact Or.inr (r5 b hb))
   exact this
end Go.Proofs.Ytfhheeoejncfgaa.Ew.Q
namespace Go.Proofs.Ytfhheeoejncfgaa.Ew.Q
open Go Go.RowKit
def G0 : Glob := fun _ _ => none
def i64 : Sh := .sc (.i .i64)
def tm : Sh := .agg [i64, i64]
def cmpI (a b : Int) : Int := if a < b then -1 else if b < a then 1 else 0
noncomputable def e44 : Ent := ⟨44, 98, [i64, i64], [], [], i64, fun _ xs => cmpI (env xs 0) (env xs 1), fun _ => True⟩
def c0 : Ctx := ⟨[], []⟩
theorem mixed : Try.prog.follows Departure.mixedOrders = true := by kernel_rfl
theorem c0ok : c0.OK Try.prog G0 := Ctx.OK.nil
def ob_44 : E := (.lit .b 1)
def es_44 : List E := [(.ite (.cmp .lss (vI 0) (vI 1)) (lI (-1)) (.ite (.cmp .gtr (vI 0) (vI 1)) (lI 1) (lI 0)))]
theorem ev_44 : evE Try.prog G0 (tabOf c0.fs) (ltOf c0.ls) 40 10 e44 = some (ob_44, es_44) := by kernel_rfl
theorem ok44 : EntryOK Try.prog G0 e44 := c0ok.entryP mixed ev_44 _ rfl _ rfl fun xs hf _ => by
 match xs, hf with
 | [a, b], hf =>
   obtain ⟨h0, h1, _⟩ := hf
   simp only [norm_i, norm_x] at h0 h1
   refine ⟨by simp only [ob_44, ewA, ewL, preC, binI, dvI, shI, cmpB, env, bi, List.headD, List.tail, List.map, Nat.reduceAdd]; simp, ?_, trivial⟩
   simp only [es_44, e44, cmpI, ewA, ewL, preC, binI, dvI, shI, cmpB, env, bi, List.headD, List.tail, List.map, Nat.reduceAdd, h0, h1]
   have w1 : IntKind.i64.wrap (-1) = -1 := i64w (by decide) (by decide)
   have w2 : IntKind.i64.wrap 1 = 1 := i64w (by decide) (by decide)
   have w3 : IntKind.i64.wrap 0 = 0 := i64w (by decide) (by decide)
   by_cases l1 : a < b
   ·simp [l1, w1, w2, w3]
   ·by_cases l2 : b < a <;> simp [l1, l2, w1, w2, w3]
noncomputable def orF (l : RL) : Int := match l with
 | [] => 0
 | r :: l => if r.getD 0 0 ≠ 0 then r.getD 0 0 else orF l
def rowsOK (ks : List K) (l : RL) : Prop := ∀ r ∈ l, fits ks r
def pre43 (xs : List Int) : Prop := env xs 0 = 0 /\ env xs 1 = 0 /\ env xs 3 = ((dc (env xs 2)).length : Int) /\ 0 <= env xs 4 /\ env xs 4 <= env xs 3 /\ env xs 3 <= 100 /\ rowsOK [.i .i64] (dc (env xs 2))
noncomputable def fn43 (j : Nat) (xs : List Int) : Int := let o := orF ((dc (env xs 2)).drop (env xs 4).toNat); if j = 0 then b2i (o == 0) else o
noncomputable def le43 : LEnt := ⟨⟨9043, 999999, [i64, i64, .lst 3 (Row.ofKs [.i .i64]) false, i64, i64], [], [0], .tup [.sc .b, i64], fn43, pre43⟩, [2, 3, 6, 7, 8], [2], [5, 8] ++ (List.range 8).map (· + 9), [.ex 0, .ret], 18, [6]⟩
def q_L43_0 : E := (.cmp .neq (aI 0 1 [(vX 2), (vI 4), (.lit .x 0)]) (vI 1))
def q_L43_1 : E := (.and (.cmp .lss (vI 4) (vI 3)) (.not q_L43_0))
def q_L43_2 : E := (.or (.not (.cmp .lss (vI 4) (vI 3))) (.and q_L43_1 (aB 9043 0 [(vI 0), (vI 1), (vX 2), (vI 3), (.bin .add .i64 (vI 4) (lI 1))])))
def q_L43_3 : E := (aI 9043 1 [(vI 0), (vI 1), (vX 2), (vI 3), (.bin .add .i64 (vI 4) (lI 1))])
def ob_L43 : E := (.and (.or (.not (.cmp .lss (vI 4) (vI 3))) (.and (.cmp .geq (vI 4) (lI 0)) (.cmp .lss (vI 4) (aI 0 0 [(vX 2)])))) (.or (.not q_L43_1) (aB 9043 1000000 [(vI 0), (vI 1), (vX 2), (vI 3), (.bin .add .i64 (vI 4) (lI 1))])))
def es_L43 : List E := [(.ite q_L43_2 (.lit .b 1) (.lit .b 0)), (.ite q_L43_2 (.ite (.not (.cmp .lss (vI 4) (vI 3))) (vI 0) q_L43_3) (.ite (.and (.cmp .lss (vI 4) (vI 3)) q_L43_0) (aI 0 1 [(vX 2), (vI 4), (.lit .x 0)]) q_L43_3))]
theorem ev_L43 : evL Try.prog G0 (tabOf c0.fs) (evFn Try.prog G0 (tabOf c0.fs) (ltOf c0.ls) 40 10) 40 (subL c0.ls 97 [true,true,false,true,false]) le43 (bodyAt Try.prog 97 [true,true,false,true,false]) = some (ob_L43, es_L43) := by kernel_rfl
def mu43 (xs : List Int) : Nat := (env xs 3 - env xs 4).toNat
theorem lo43 : ItemOK Try.prog G0 97 [true,true,false,true,false] le43 := by
 refine c0ok.loopP mixed mu43 rfl ?_ ev_L43 _ rfl _ rfl ?_
 ·exact ⟨_, _, _, Try.func97, rfl, rfl⟩
 intro n xs hf hp hmu
 obtain ⟨l, hl, S, Sp, -⟩ := self_F le43 mu43 n c0.l (by decide)
 rw [hl]
 match xs, hf with
 | [v, z, c, m, i], hf =>
   obtain ⟨h0, h1, h2, h3, h4, _⟩ := hf
   simp only [norm_i, norm_x] at h0 h1 h2 h3 h4
   obtain ⟨p1, p2, p3, p4, p5, p6, p7⟩ := hp
   simp only [ewA, ewL, preC, binI, dvI, shI, cmpB, env, bi, List.headD, List.tail, List.map, Nat.reduceAdd] at p1 p2 p3 p4 p5 p6 p7
   unfold mu43 at hmu
   simp only [ewA, ewL, preC, binI, dvI, shI, cmpB, env, bi, List.headD, List.tail, List.map, Nat.reduceAdd] at hmu
   subst p1; subst p2
   have w0 : IntKind.i64.wrap 0 = 0 := i64w (by decide) (by decide)
   have w1 : IntKind.i64.wrap 1 = 1 := i64w (by decide) (by decide)
   have hw : IntKind.i64.wrap (dc c).length = (dc c).length := i64w (by omega) (by omega)
   by_cases hlt : i < m
   ·have hs : IntKind.i64.wrap (i + 1) = i + 1 := i64w (by omega) (by omega)
    obtain ⟨r, hr, hm, hd⟩ : ∃ r, (dc c).getD i.toNat [] = r /\ r ∈ dc c /\ (dc c).drop i.toNat = r :: (dc c).drop (i + 1).toNat := by
     have hl : i.toNat < (dc c).length := by omega
     refine ⟨(dc c)[i.toNat], by simp [List.getD, hl], List.getElem_mem hl, ?_⟩
     rw [List.drop_eq_getElem_cons hl, show (i + 1).toNat = i.toNat + 1 by omega]
    have hrw : IntKind.i64.wrap (r.getD 0 0) = r.getD 0 0 := fits_get (p7 r hm) 0 (.i .i64) rfl
    have hS : i2b (K.b.norm (l.F 9043 1000000 [0, 0, c, m, i + 1])) = true := Sp _ ⟨⟨rfl, rfl, p3, by show 0 <= i + 1; omega, by show i + 1 <= m; omega, p6, p7⟩, by show (m - (i + 1)).toNat < n; omega⟩
    have hf : ∀ j x, fn43 j [0, 0, c, m, x] = if j = 0 then b2i (orF ((dc c).drop x.toNat) == 0) else orF ((dc c).drop x.toNat) := fun j x => rfl
    have hp1 : l.F 9043 0 [0, 0, c, m, i + 1] = fn43 0 [0, 0, c, m, i + 1] := S 0 rfl _
    have hp2 : l.F 9043 1 [0, 0, c, m, i + 1] = fn43 1 [0, 0, c, m, i + 1] := S 1 rfl _
    have e1 : le43.ent.fn = fn43 := rfl
    refine ⟨?_, ?_, ?_, trivial⟩
    ·simp only [ob_L43, q_L43_0, q_L43_1, q_L43_2, q_L43_3, ewA, ewL, preC, binI, dvI, shI, cmpB, env, bi, List.headD, List.tail, List.map, Nat.reduceAdd, h3, h4, w0, w1, hs, hr, hS, hw, hrw]
     simp [hlt, p4]; omega
    ·simp only [es_L43, q_L43_0, q_L43_1, q_L43_2, q_L43_3, ewA, ewL, preC, binI, dvI, shI, cmpB, env, bi, List.headD, List.tail, List.map, Nat.reduceAdd, h3, h4, w0, w1, hs, hr, hrw, hp1, hp2, hf, e1, hd, orF, Nat.zero_add]
     generalize r.getD 0 0 = a
     generalize orF (List.drop (i + 1).toNat (dc c)) = o
     by_cases hz : a = 0
     ·subst hz
      by_cases ho : o = 0
      ·subst ho; simp [hlt, bt, nb1, i2b1]
      ·have e1 : (o == 0) = false := by simpa using ho
       simp [hlt, e1, bf, nb0, i2b0]
     ·have e1 : (a == 0) = false := by simpa using hz
      have e2 : (a != 0) = true := by simpa using hz
      simp [hlt, hz, e1, e2, bf, nb0]
    ·simp only [es_L43, q_L43_0, q_L43_1, q_L43_2, q_L43_3, ewA, ewL, preC, binI, dvI, shI, cmpB, env, bi, List.headD, List.tail, List.map, Nat.reduceAdd, h3, h4, w0, w1, hs, hr, hrw, hp1, hp2, hf, e1, hd, orF, Nat.zero_add]
     generalize r.getD 0 0 = a at hrw ⊢
     generalize orF (List.drop (i + 1).toNat (dc c)) = o
     by_cases hz : a = 0
     ·subst hz
      by_cases ho : o = 0
      ·subst ho; simp [hlt, bt, nb1, i2b1, w0]
      ·have e1 : (o == 0) = false := by simpa using ho
       simp [hlt, e1, bf, nb0, i2b0]
     ·have e1 : (a == 0) = false := by simpa using hz
      have e2 : (a != 0) = true := by simpa using hz
      simp [hlt, hz, e1, e2, bf, nb0, hrw]
   ·have hd : (dc c).drop i.toNat = [] := List.drop_of_length_le (by omega)
    refine ⟨?_, ?_, ?_, trivial⟩
    ·simp only [ob_L43, q_L43_0, q_L43_1, q_L43_2, q_L43_3, ewA, ewL, preC, binI, dvI, shI, cmpB, env, bi, List.headD, List.tail, List.map, Nat.reduceAdd, h3, h4]
     simp [hlt, b2i, nb1]
    ·simp only [es_L43, q_L43_0, q_L43_1, q_L43_2, q_L43_3, le43, fn43, orF, hd, ewA, ewL, preC, binI, dvI, shI, cmpB, env, bi, List.headD, List.tail, List.map, Nat.reduceAdd, h3, h4]
     simp [hlt, b2i, nb1]
    ·simp only [es_L43, q_L43_0, q_L43_1, q_L43_2, q_L43_3, le43, fn43, orF, hd, ewA, ewL, preC, binI, dvI, shI, cmpB, env, bi, List.headD, List.tail, List.map, Nat.reduceAdd, h3, h4]
     simp [hlt, b2i, nb1]
noncomputable def e43 : Ent := ⟨43, 97, [.lst 3 (Row.ofKs [.i .i64]) true], [], [], i64, fun _ xs => orF (dc (env xs 0)), fun xs => (dc (env xs 0)).length <= 100 /\ rowsOK [.i .i64] (dc (env xs 0))⟩
noncomputable def c1 : Ctx := ⟨[e44], [(97, [true,true,false,true,false], le43)]⟩
noncomputable def e42 : Ent := ⟨42, 96, [tm, tm], [], [], i64, fun _ xs => orF [[cmpI (env xs 1) (env xs 3)], [cmpI (env xs 0) (env xs 2)]], fun _ => True⟩
noncomputable def c2 : Ctx := ⟨[e43, e44], [(97, [true,true,false,true,false], le43)]⟩
theorem c1ok : c1.OK Try.prog G0 := (c0ok.addL lo43 rfl).addF ok44 rfl
def ob_43 : E := (aB 9043 1000000 [(lI 0), (lI 0), (vX 0), (aI 0 0 [(vX 0)]), (lI 0)])
def es_43 : List E := [(.ite (.not (aB 9043 0 [(lI 0), (lI 0), (vX 0), (aI 0 0 [(vX 0)]), (lI 0)])) (aI 9043 1 [(lI 0), (lI 0), (vX 0), (aI 0 0 [(vX 0)]), (lI 0)]) (lI 0))]
theorem ev_43 : evE Try.prog G0 (tabOf c1.fs) (ltOf c1.ls) 40 10 e43 = some (ob_43, es_43) := by kernel_rfl
def q_42_0 : E := (aX 0 3 [(aX 0 3 [(aX 0 2 []), (aI 44 0 [(vI 1), (vI 3)])]), (aI 44 0 [(vI 0), (vI 2)])])
def ob_42 : E := (.and (aB 44 1000000 [(vI 1), (vI 3)]) (.and (aB 44 1000000 [(vI 0), (vI 2)]) (aB 43 1000000 [q_42_0])))
def es_42 : List E := [(aI 43 0 [q_42_0])]
theorem ev_42 : evE Try.prog G0 (tabOf c2.fs) (ltOf c2.ls) 40 10 e42 = some (ob_42, es_42) := by kernel_rfl
theorem ok43 : EntryOK Try.prog G0 e43 := c1ok.entryP mixed ev_43 _ rfl _ rfl fun xs hf hp => by
 obtain ⟨l, hl, hF⟩ := ctx_F (l0 := c1.l)
 obtain ⟨S, Sp⟩ := hF le43.ent (by rfl) (by decide)
 rw [hl]
 match xs, hf with
 | [c], hf =>
   obtain ⟨p1, p2⟩ := hp
   simp only [ewA, ewL, preC, binI, dvI, shI, cmpB, env, bi, List.headD, List.tail, List.map, Nat.reduceAdd] at p1 p2
   have w0 : IntKind.i64.wrap 0 = 0 := i64w (by decide) (by decide)
   have hw : IntKind.i64.wrap (dc c).length = (dc c).length := i64w (by omega) (by omega)
   have hp : i2b (K.b.norm (l.F 9043 1000000 [0, 0, c, ((dc c).length : Int), 0])) = true := Sp _ ⟨rfl, rfl, rfl, by show (0 : Int) <= 0; omega, by show (0 : Int) <= ((dc c).length : Int); omega, by show ((dc c).length : Int) <= 100; omega, p2⟩
   have f0 : l.F 9043 0 [0, 0, c, ((dc c).length : Int), 0] = b2i (orF (dc c) == 0) := S 0 rfl _
   have f1 : l.F 9043 1 [0, 0, c, ((dc c).length : Int), 0] = orF (dc c) := S 1 rfl _
   refine ⟨?_, ?_, trivial⟩
   ·simp only [ob_43, ewA, ewL, preC, binI, dvI, shI, cmpB, env, bi, List.headD, List.tail, List.map, Nat.reduceAdd, w0, hw, hp]
   ·simp only [es_43, e43, ewA, ewL, preC, binI, dvI, shI, cmpB, env, bi, List.headD, List.tail, List.map, Nat.reduceAdd, w0, hw, f0, f1]
    by_cases ho : orF (dc c) = 0
    ·simp [ho, w0]
    ·have e1 : (orF (dc c) == 0) = false := by simpa using ho
     simp [e1]
theorem ok42 : EntryOK Try.prog G0 e42 := (c1ok.addF ok43 rfl).entryP mixed ev_42 _ rfl _ rfl fun xs hf hp => by
 obtain ⟨l, hl, hF⟩ := ctx_F (l0 := c2.l)
 obtain ⟨S, Sp⟩ := hF e43 (by rfl) (by decide)
 obtain ⟨R, Rp⟩ := hF e44 (by rfl) (by decide)
 show ob_42.tt c2.l.F _ = true /\ outsP _ _ c2.l.F _ _ _ _
 rw [hl]
 match xs, hf with
 | [a, b, c, d], hf =>
   obtain ⟨h0, h1, h2, h3, _⟩ := hf
   simp only [norm_i] at h0 h1 h2 h3
   refine ⟨?_, ?_, trivial⟩
   ·have g1 : ∀ xs, i2b (K.b.norm (l.F 44 1000000 xs)) = true := fun xs => Rp xs trivial
    have w : ∀ x y, IntKind.i64.wrap (cmpI x y) = cmpI x y := fun x y => by
     unfold cmpI; split
     ·exact i64w (by decide) (by decide)
     ·split <;> exact i64w (by decide) (by decide)
    have g2 : ∀ xs, l.F 44 0 xs = cmpI (env xs 0) (env xs 1) := fun xs => R 0 rfl xs
    have g3 : ∀ x y, i2b (K.b.norm (l.F 43 1000000 [cd [[cmpI a b], [cmpI x y]]])) = true := fun x y => Sp _ ⟨by simp [env], by simp [env, rowsOK, fits, K.norm, w]⟩
    simp only [ob_42, q_42_0, ewA, ewL, preC, binI, dvI, shI, cmpB, env, bi, List.headD, List.tail, List.map, Nat.reduceAdd, g1, g2, g3, w, h0, h1, h2, h3, Bool.and_self]
    exact Sp _ ⟨by simp [env], by simp [env, rowsOK, fits, K.norm, w]⟩
   ·have w : ∀ x y, IntKind.i64.wrap (cmpI x y) = cmpI x y := fun x y => by
     unfold cmpI; split
     ·exact i64w (by decide) (by decide)
     ·split <;> exact i64w (by decide) (by decide)
    have g2 : ∀ xs, l.F 44 0 xs = cmpI (env xs 0) (env xs 1) := fun xs => R 0 rfl xs
    have g3 : ∀ xs, l.F 43 0 xs = orF (dc (env xs 0)) := fun xs => S 0 rfl xs
    simp only [es_42, q_42_0, e42, ewA, ewL, preC, binI, dvI, shI, cmpB, env, bi, List.headD, List.tail, List.map, Nat.reduceAdd, g2, g3, w, h0, h1, h2, h3]
end Go.Proofs.Ytfhheeoejncfgaa.Ew.Q
namespace Go.Proofs.Ytfhheeoejncfgaa.Ew.Q
open Go Go.RowKit
noncomputable section
def cmpT (a b : List Int) : Int := orF [[cmpI (a.getD 1 0) (b.getD 1 0)], [cmpI (a.getD 0 0) (b.getD 0 0)]]
def ltT (a b : List Int) : Bool := decide (a.getD 1 0 < b.getD 1 0) || (decide (a.getD 1 0 = b.getD 1 0) && decide (a.getD 0 0 < b.getD 0 0))
def srtT (l : RL) : Prop := l.Pairwise fun a b => ltT a b = true
def cnt (l : RL) (t : List Int) : Nat := (l.filter fun r => ltT r t).length
def tgt (xs : List Int) (i : Nat) : List Int := [env xs i, env xs (i + 1)]
def pre41 (xs : List Int) : Prop := srtT (dc (env xs 0)) /\ rowsOK tmK (dc (env xs 0)) /\ ((dc (env xs 0)).length : Int) < cap8
def preL41 (xs : List Int) : Prop := pre41 xs /\ 0 <= env xs 3 /\ env xs 3 <= cnt (dc (env xs 0)) (tgt xs 1) /\ (cnt (dc (env xs 0)) (tgt xs 1) : Int) <= env xs 4 /\ env xs 4 <= ((dc (env xs 0)).length : Int)
noncomputable def fnL41 (_ : Nat) (xs : List Int) : Int := (cnt (dc (env xs 0)) (tgt xs 1) : Int)
noncomputable def le41 : LEnt := ⟨⟨9041, 999999, [.lst 110 tmR false, .fnc 96 [], .obj 110 [i64, i64], i64, i64], [], [0, 1], .tup [i64], fnL41, preL41⟩, [0, 2, 4, 9, 10], [9], [10, 11] ++ (List.range 20).map (· + 15), [.ex 0], 49, [0]⟩
noncomputable def fn41 (j : Nat) (xs : List Int) : Int := let l := dc (env xs 0); let k := cnt l (tgt xs 1); if j = 0 then (k : Int) else b2i (decide (k < l.length) && decide (cmpT (l.getD k []) (tgt xs 1) = 0))
noncomputable def e41 : Ent := ⟨41, 95, [.lst 110 tmR false, tm, .fnc 96 []], [], [0], .tup [i64, .sc .b], fn41, pre41⟩
noncomputable def c3 : Ctx := ⟨[e42], []⟩
noncomputable def c4 : Ctx := ⟨[e42], [(95, [true,true,true,false,false], le41)]⟩
def qo : Sh := .obj 105 [.lt .b 1, i64, .lst 110 tmR true, .mp [.i .i64] [.i .i64] false false]
noncomputable def c5 : Ctx := ⟨[e41], []⟩
noncomputable def e33 : Ent := ⟨33, 68, [qo, tm], [], [0, 1, 2], i64, fun j xs => fn41 0 [env xs 1, env xs 3, env xs 4], fun xs => pre41 [env xs 1, env xs 3, env xs 4]⟩
theorem ltT_trans {a b c : List Int} (h1 : ltT a b = true) (h2 : ltT b c = true) : ltT a c = true := by
 simp only [ltT, Bool.or_eq_true, Bool.and_eq_true, decide_eq_true_eq] at *
 omega
theorem cnt_cons (r : List Int) (l : RL) (t : List Int) : cnt (r :: l) t = (if ltT r t then 1 else 0) + cnt l t := by
 unfold cnt
 rw [List.filter_cons]
 split
 ·simp; omega
 ·simp
theorem cnt_le (l : RL) (t : List Int) : cnt l t <= l.length := List.length_filter_le _ _
theorem cnt_spec {t : List Int} : ∀ {l : RL}, srtT l -> ∀ h, h < l.length -> (ltT (l.getD h []) t = true ↔ h < cnt l t)
 | [], _, h, hh => by simp at hh
 | r :: l, hs, h, hh => by
   obtain ⟨s1, s2⟩ := List.pairwise_cons.1 hs
   rw [cnt_cons]
   by_cases hr : ltT r t = true
   ·cases h with
    | zero => exact ⟨fun _ => by rw [if_pos hr]; omega, fun _ => by simpa using hr⟩
    | succ h =>
      have := cnt_spec (t := t) s2 h (by simpa using hh)
      simp only [List.getD_cons_succ, hr, if_true]
      rw [this]; omega
   ·have hz : ∀ x ∈ l, ¬ ltT x t = true := fun x hx h' => hr (ltT_trans (s1 x hx) h')
    have h0 : cnt l t = 0 := by
     unfold cnt
     rw [List.filter_eq_nil_iff.2 hz]; rfl
    rw [h0]
    cases h with
    | zero => simp [hr]
    | succ h =>
      have hl : h < l.length := by simpa using hh
      have := hz (l.getD h []) (by simp [List.getD, hl])
      exact ⟨fun h' => absurd (by simpa using h') this, fun h' => by rw [if_neg hr] at h'; omega⟩
theorem cmpI_neg (a b : Int) : cmpI a b < 0 ↔ a < b := by unfold cmpI; split <;> (try split) <;> omega
theorem cmpI_zero (a b : Int) : cmpI a b = 0 ↔ a = b := by unfold cmpI; split <;> (try split) <;> omega
theorem orF2 (x y : Int) : orF [[x], [y]] = if x ≠ 0 then x else y := by
 simp only [orF, List.getD_cons_zero]
 by_cases h : x = 0
 ·by_cases g : y = 0 <;> simp [h, g]
 ·simp [h]
theorem cmpT_neg (a b : List Int) : cmpT a b < 0 ↔ ltT a b = true := by
 unfold cmpT ltT
 rw [orF2]
 simp only [Bool.or_eq_true, Bool.and_eq_true, decide_eq_true_eq]
 have h1 := cmpI_zero (a.getD 1 0) (b.getD 1 0)
 have h2 := cmpI_neg (a.getD 1 0) (b.getD 1 0)
 have h3 := cmpI_neg (a.getD 0 0) (b.getD 0 0)
 split
 ·rename_i h
  rw [h2]
  have : ¬ (a.getD 1 0 = b.getD 1 0) := fun e => h (h1.2 e)
  omega
 ·rename_i h
  have := h1.1 (by simpa using h)
  rw [h3]; omega
theorem cmpT_w (a b : List Int) : IntKind.i64.wrap (cmpT a b) = cmpT a b := by
 have w : ∀ x y, -1 <= cmpI x y /\ cmpI x y <= 1 := fun x y => by unfold cmpI; split <;> (try split) <;> omega
 unfold cmpT; rw [orF2]
 have := w (a.getD 1 0) (b.getD 1 0)
 have := w (a.getD 0 0) (b.getD 0 0)
 split <;> exact i64w (by omega) (by omega)
theorem half_w {i j : Int} (h1 : 0 <= i) (h2 : i <= j) (h3 : j < 4000000000000000000) : IntKind.i64.wrap (shI .shr .u64 (IntKind.u64.wrap (IntKind.i64.wrap (i + j))) (IntKind.u64.wrap 1)) = (i + j) / 2 := by
 rw [i64w (z := i + j) (by omega) (by omega)]
 have e1 : IntKind.u64.wrap (i + j) = i + j := by
  simp only [IntKind.wrap, IntKind.signed, IntKind.bits]; simp; omega
 have e2 : IntKind.u64.wrap 1 = 1 := by decide
 rw [e1, e2]
 show IntKind.i64.wrap ((i + j).fdiv (2 ^ 1)) = _
 rw [Int.fdiv_eq_ediv_of_nonneg _ (by decide)]
 exact i64w (by simp; omega) (by simp; omega)
def q_L41_0 : E := (.conv .i64 (.sh .shr .u64 (.conv .u64 (.bin .add .i64 (vI 3) (vI 4))) (.lit (.i .u64) 1)))
def q_L41_1 : E := (.and (.cmp .geq q_L41_0 (lI 0)) (.cmp .lss q_L41_0 (aI 0 0 [(vX 0)])))
def q_L41_2 : E := (aI 0 1 [(vX 0), q_L41_0, (.lit .x 0)])
def q_L41_3 : E := (aI 0 1 [(vX 0), q_L41_0, (.lit .x 1)])
def q_L41_4 : E := (.cmp .lss (aI 42 0 [q_L41_2, q_L41_3, (vI 1), (vI 2)]) (lI 0))
def q_L41_5 : E := (.ite q_L41_4 (.bin .add .i64 q_L41_0 (lI 1)) (vI 3))
def q_L41_6 : E := (.ite q_L41_4 (vI 4) q_L41_0)
def ob_L41 : E := (.and (.or (.not (.cmp .lss (vI 3) (vI 4))) (.and q_L41_1 (.and q_L41_1 (aB 42 1000000 [q_L41_2, q_L41_3, (vI 1), (vI 2)])))) (.or (.not (.cmp .lss (vI 3) (vI 4))) (aB 9041 1000000 [(vX 0), (vI 1), (vI 2), q_L41_5, q_L41_6])))
def es_L41 : List E := [(.ite (.not (.cmp .lss (vI 3) (vI 4))) (vI 3) (aI 9041 0 [(vX 0), (vI 1), (vI 2), q_L41_5, q_L41_6]))]
theorem ev_L41 : evL Try.prog G0 (tabOf c3.fs) (evFn Try.prog G0 (tabOf c3.fs) (ltOf c3.ls) 40 10) 40 (subL c3.ls 95 [true,true,true,false,false]) le41 (bodyAt Try.prog 95 [true,true,true,false,false]) = some (ob_L41, es_L41) := by kernel_rfl
def q_41_0 : E := (aI 9041 0 [(vX 0), (vI 1), (vI 2), (lI 0), (aI 0 0 [(vX 0)])])
def q_41_1 : E := (.cmp .lss q_41_0 (aI 0 0 [(vX 0)]))
def q_41_2 : E := (.not q_41_1)
def q_41_3 : E := (.or q_41_2 (.and (.cmp .geq q_41_0 (lI 0)) q_41_1))
def q_41_4 : E := (aI 0 1 [(vX 0), q_41_0, (.lit .x 0)])
def q_41_5 : E := (aI 0 1 [(vX 0), q_41_0, (.lit .x 1)])
def ob_41 : E := (.and (aB 9041 1000000 [(vX 0), (vI 1), (vI 2), (lI 0), (aI 0 0 [(vX 0)])]) (.and q_41_3 (.and q_41_3 (.or q_41_2 (aB 42 1000000 [q_41_4, q_41_5, (vI 1), (vI 2)])))))
def es_41 : List E := [q_41_0, (.and q_41_1 (.cmp .eql (aI 42 0 [q_41_4, q_41_5, (vI 1), (vI 2)]) (lI 0)))]
theorem ev_41 : evE Try.prog G0 (tabOf c4.fs) (ltOf c4.ls) 40 10 e41 = some (ob_41, es_41) := by kernel_rfl
def ob_33 : E := (aB 41 1000000 [(vX 1), (vI 3), (vI 4)])
def es_33 : List E := [(aI 41 0 [(vX 1), (vI 3), (vI 4)])]
theorem ev_33 : evE Try.prog G0 (tabOf c5.fs) (ltOf c5.ls) 40 10 e33 = some (ob_33, es_33) := by kernel_rfl
theorem c2ok : c2.OK Try.prog G0 := c1ok.addF ok43 rfl
theorem c3ok : c3.OK Try.prog G0 := (c2ok.addF ok42 rfl).sub rfl (by simp [c3]) (by simp [c3])
theorem lo41 : ItemOK Try.prog G0 95 [true,true,true,false,false] le41 := by
 refine c3ok.loopP mixed (fun xs => (env xs 4 - env xs 3).toNat) rfl ?_ ev_L41 _ rfl _ rfl ?_
 ·exact ⟨_, _, _, Try.func95, rfl, rfl⟩
 intro n xs hf hp hmu
 obtain ⟨l, hl, S, Sp, hF⟩ := self_F le41 (fun xs => (env xs 4 - env xs 3).toNat) n c3.l (by decide)
 obtain ⟨R, Rp⟩ := hF e42 (by rfl) (by decide) (by decide)
 rw [hl]
 match xs, hf with
 | [c, a, b, i, j], hf =>
   obtain ⟨h0, h1, h2, h3, h4, _⟩ := hf
   simp only [norm_i, norm_x] at h0 h1 h2 h3 h4
   obtain ⟨⟨p1, p2, p3⟩, p4, p5, p6, p7⟩ := hp
   simp only [ewA, ewL, preC, binI, dvI, shI, cmpB, env, bi, List.headD, List.tail, List.map, Nat.reduceAdd, tgt] at p1 p2 p3 p4 p5 p6 p7 hmu
   unfold cap8 at p3
   have w0 : IntKind.i64.wrap 0 = 0 := i64w (by decide) (by decide)
   have w1 : IntKind.i64.wrap 1 = 1 := i64w (by decide) (by decide)
   have hw : IntKind.i64.wrap (dc c).length = (dc c).length := i64w (by omega) (by omega)
   have f9 : ∀ xs, l.F 9041 0 xs = (cnt (dc (env xs 0)) (tgt xs 1) : Int) := fun xs => S 0 rfl xs
   have f42 : ∀ xs, l.F 42 0 xs = orF [[cmpI (env xs 1) (env xs 3)], [cmpI (env xs 0) (env xs 2)]] := fun xs => R 0 rfl xs
   have e1 : le41.ent.fn = fnL41 := rfl
   by_cases hlt : i < j
   ·obtain ⟨h, hh⟩ : ∃ h, h = (i + j) / 2 := ⟨_, rfl⟩
    have hm := half_w p4 (by omega : i <= j) (by omega)
    have hs : IntKind.i64.wrap (h + 1) = h + 1 := i64w (by omega) (by omega)
    have hsh : IntKind.i64.wrap h = h := i64w (by omega) (by omega)
    obtain ⟨r, hr, hrm⟩ : ∃ r, (dc c).getD h.toNat [] = r /\ r ∈ dc c := by
     have hl : h.toNat < (dc c).length := by omega
     exact ⟨(dc c)[h.toNat], by simp [List.getD, hl], List.getElem_mem hl⟩
    have hr0 : IntKind.i64.wrap (r.getD 0 0) = r.getD 0 0 := fits_get (p2 r hrm) 0 (.i .i64) rfl
    have hr1 : IntKind.i64.wrap (r.getD 1 0) = r.getD 1 0 := fits_get (p2 r hrm) 1 (.i .i64) rfl
    have hspec := cnt_spec (t := [a, b]) p1 h.toNat (by omega)
    rw [hr, <- cmpT_neg] at hspec
    have hc : orF [[cmpI (r.getD 1 0) b], [cmpI (r.getD 0 0) a]] = cmpT r [a, b] := rfl
    simp only [shI] at hm
    refine ⟨?_, ?_, trivial⟩
    ·simp only [ob_L41, q_L41_0, q_L41_1, q_L41_2, q_L41_3, q_L41_4, q_L41_5, q_L41_6, ewA, ewL, preC, binI, dvI, shI, cmpB, env, bi, List.headD, List.tail, List.map, Nat.reduceAdd, h0, h1, h2, h3, h4, w0, w1, hw, hm, <- hh, hs, hr, hr0, hr1, f9, f42, tgt, Int.toNat_natCast, hsh, hc, cmpT_w]
     have h42 : i2b (K.b.norm (l.F 42 1000000 [r.getD 0 0, r.getD 1 0, a, b])) = true := Rp _ trivial
     have hx : ∀ x y, 0 <= x -> x <= (cnt (dc c) [a, b] : Int) -> (cnt (dc c) [a, b] : Int) <= y -> y <= ((dc c).length : Int) -> (y - x).toNat < n -> i2b (K.b.norm (l.F 9041 1000000 [c, a, b, x, y])) = true := fun x y g1 g2 g3 g4 g5 =>
      Sp _ ⟨⟨⟨p1, p2, by show ((dc c).length : Int) < cap8; unfold cap8; omega⟩, g1, g2, g3, g4⟩, g5⟩
     have hb1 : decide (h >= 0) = true := by simp; omega
     have hb2 : decide (h < ((dc c).length : Int)) = true := by simp; omega
     simp only [h42, hb1, hb2, Bool.and_self, Bool.or_true, Bool.true_and, Bool.or_eq_true]
     right
     by_cases hq : cmpT r [a, b] < 0
     ·have := hspec.1 hq
      simp only [hq, decide_true, cond_true]
      exact hx _ _ (by omega) (by omega) p6 p7 (by omega)
     ·have : ¬ h.toNat < cnt (dc c) [a, b] := fun e => hq (hspec.2 e)
      simp only [hq, decide_false, cond_false]
      exact hx _ _ p4 p5 (by omega) (by omega) (by omega)
    ·simp only [es_L41, q_L41_0, q_L41_1, q_L41_2, q_L41_3, q_L41_4, q_L41_5, q_L41_6, e1, fnL41, ewA, ewL, preC, binI, dvI, shI, cmpB, env, bi, List.headD, List.tail, List.map, Nat.reduceAdd, h0, h1, h2, h3, h4, w0, w1, hw, hm, <- hh, hs, hr, hr0, hr1, f9, f42, tgt, Int.toNat_natCast, hsh, hc, cmpT_w]
     simp [hlt]
   ·refine ⟨?_, ?_, trivial⟩
    ·simp only [ob_L41, q_L41_0, q_L41_1, q_L41_2, q_L41_3, q_L41_4, q_L41_5, q_L41_6, ewA, ewL, preC, binI, dvI, shI, cmpB, env, bi, List.headD, List.tail, List.map, Nat.reduceAdd, h3, h4]
     simp [hlt]
    ·simp only [es_L41, q_L41_0, q_L41_1, q_L41_2, q_L41_3, q_L41_4, q_L41_5, q_L41_6, e1, fnL41, ewA, ewL, preC, binI, dvI, shI, cmpB, env, bi, List.headD, List.tail, List.map, Nat.reduceAdd, h3, h4, tgt]
     have : (cnt (dc c) [a, b] : Int) = i := by omega
     simp [hlt, this, h3]
theorem ok41 : EntryOK Try.prog G0 e41 := (c3ok.addL lo41 rfl).entryP mixed ev_41 _ rfl _ rfl fun xs hf hp => by
 obtain ⟨l, hl, hF⟩ := ctx_F (l0 := c4.l)
 obtain ⟨S, Sp⟩ := hF le41.ent (by rfl) (by decide)
 obtain ⟨R, Rp⟩ := hF e42 (by rfl) (by decide)
 show ob_41.tt c4.l.F _ = true /\ outsP _ _ c4.l.F _ _ _ _
 rw [hl]
 match xs, hf with
 | [c, a, b], hf =>
   obtain ⟨h0, h1, h2, _⟩ := hf
   simp only [norm_i] at h0 h1 h2
   obtain ⟨p1, p2, p3⟩ := hp
   simp only [ewA, ewL, preC, binI, dvI, shI, cmpB, env, bi, List.headD, List.tail, List.map, Nat.reduceAdd] at p1 p2 p3
   unfold cap8 at p3
   have w0 : IntKind.i64.wrap 0 = 0 := i64w (by decide) (by decide)
   have hw : IntKind.i64.wrap (dc c).length = (dc c).length := i64w (by omega) (by omega)
   obtain ⟨k, hkk⟩ : ∃ k, cnt (dc c) [a, b] = k := ⟨_, rfl⟩
   have hkl : k <= (dc c).length := hkk ▸ cnt_le _ _
   have hkt : IntKind.i64.wrap (k : Int) = (k : Int) := i64w (by omega) (by omega)
   have f9 : l.F 9041 0 [c, a, b, 0, ((dc c).length : Int)] = (k : Int) := by rw [<- hkk]; exact S 0 rfl _
   have hp9 : i2b (K.b.norm (l.F 9041 1000000 [c, a, b, 0, ((dc c).length : Int)])) = true := Sp _ ⟨⟨p1, p2, by show ((dc c).length : Int) < cap8; unfold cap8; omega⟩, by show (0 : Int) <= 0; omega, by show (0 : Int) <= (cnt (dc c) [a, b] : Int); omega, by show (cnt (dc c) [a, b] : Int) <= ((dc c).length : Int); omega, by show ((dc c).length : Int) <= ((dc c).length : Int); omega⟩
   have f42 : ∀ xs, l.F 42 0 xs = orF [[cmpI (env xs 1) (env xs 3)], [cmpI (env xs 0) (env xs 2)]] := fun xs => R 0 rfl xs
   have hge : decide ((k : Int) >= 0) = true := by simp
   refine ⟨?_, ?_, ?_, trivial⟩
   ·simp only [ob_41, q_41_0, q_41_1, q_41_2, q_41_3, q_41_4, q_41_5, ewA, ewL, preC, binI, dvI, shI, cmpB, env, bi, List.headD, List.tail, List.map, Nat.reduceAdd, h0, h1, h2, w0, hw, f9, hkt, hp9, hge, f42]
    by_cases hlt : (k : Int) < ((dc c).length : Int)
    ·have h42 : ∀ xs, i2b (K.b.norm (l.F 42 1000000 xs)) = true := fun xs => Rp xs trivial
     simp [hlt, h42]
    ·simp [hlt]
   ·simp only [es_41, q_41_0, q_41_1, q_41_2, q_41_3, q_41_4, q_41_5, e41, ewA, ewL, preC, binI, dvI, shI, cmpB, env, bi, List.headD, List.tail, List.map, Nat.reduceAdd, h0, h1, h2, w0, hw, f9, hkt, fn41, tgt, hkk]
    simp [hkt]
   ·simp only [es_41, q_41_0, q_41_1, q_41_2, q_41_3, q_41_4, q_41_5, e41, ewA, ewL, preC, binI, dvI, shI, cmpB, env, bi, List.headD, List.tail, List.map, Nat.reduceAdd, h0, h1, h2, w0, hw, f9, hkt, fn41, tgt, f42, hkk]
    by_cases hlt : k < (dc c).length
    ·obtain ⟨r, hr, hrm⟩ : ∃ r, (dc c).getD k [] = r /\ r ∈ dc c := ⟨(dc c)[k], by simp [List.getD, hlt], List.getElem_mem hlt⟩
     have hr0 : IntKind.i64.wrap (r.getD 0 0) = r.getD 0 0 := fits_get (p2 r hrm) 0 (.i .i64) rfl
     have hr1 : IntKind.i64.wrap (r.getD 1 0) = r.getD 1 0 := fits_get (p2 r hrm) 1 (.i .i64) rfl
     have hc : orF [[cmpI (r.getD 1 0) b], [cmpI (r.getD 0 0) a]] = cmpT r [a, b] := rfl
     simp only [hr, hr0, hr1, hc, cmpT_w, hkt, Nat.zero_add, if_neg (show ¬ (1 : Nat) = 0 by decide)]
     simp only [norm_b2i, hlt, decide_true, Bool.true_and, Int.ofNat_lt]
     by_cases hz : cmpT r [a, b] = 0
     ·simp [hz]
     ·have e : (cmpT r [a, b] == 0) = false := by simpa using hz
      simp [hz, e]
    ·simp [hlt, bf, nb0]
theorem c5ok : c5.OK Try.prog G0 := (c3ok.addF ok41 rfl).sub rfl (by simp [c5]) (by simp [c5])
theorem ok33 : EntryOK Try.prog G0 e33 := c5ok.entryP mixed ev_33 _ rfl _ rfl fun xs hf hp => by
 obtain ⟨l, hl, hF⟩ := ctx_F (l0 := c5.l)
 obtain ⟨S, Sp⟩ := hF e41 (by rfl) (by decide)
 rw [hl]
 match xs, hf with
 | [now, tc, mc, a, b], hf =>
   obtain ⟨h0, h1, h2, h3, h4, _⟩ := hf
   simp only [norm_i] at h0 h1 h2 h3 h4
   refine ⟨?_, ?_, trivial⟩
   ·simp only [ob_33, ewA, ewL, preC, binI, dvI, shI, cmpB, env, bi, List.headD, List.tail, List.map, Nat.reduceAdd, h3, h4]
    exact Sp _ hp
   ·have f0 : ∀ xs, l.F 41 0 xs = fn41 0 xs := fun xs => S 0 rfl xs
    simp only [es_33, e33, ewA, ewL, preC, binI, dvI, shI, cmpB, env, bi, List.headD, List.tail, List.map, Nat.reduceAdd, h3, h4, f0]
def idR (r : List Int) : Int := r.getD 0 0
def dlR (r : List Int) : Int := r.getD 1 0
theorem ltT_irr (a : List Int) : ltT a a = false := by simp [ltT]
theorem ltT_iff {a b : List Int} : ltT a b = true ↔ dlR a < dlR b \/ (dlR a = dlR b /\ idR a < idR b) := by
 simp only [ltT, dlR, idR, Bool.or_eq_true, Bool.and_eq_true, decide_eq_true_eq]
theorem take_cnt {t : List Int} : ∀ {l : RL}, srtT l -> l.take (cnt l t) = l.filter (fun r => ltT r t) /\ l.drop (cnt l t) = l.filter (fun r => !ltT r t)
 | [], _ => ⟨rfl, rfl⟩
 | r :: l, h => by
   obtain ⟨s1, s2⟩ := List.pairwise_cons.1 h
   obtain ⟨i1, i2⟩ := take_cnt (t := t) s2
   rw [cnt_cons]
   by_cases hr : ltT r t = true
   ·rw [if_pos hr, Nat.add_comm, List.take_succ_cons, List.drop_succ_cons, i1, i2]
    simp [List.filter_cons, hr]
   ·have hz : ∀ x ∈ l, ¬ ltT x t = true := fun x hx h' => hr (ltT_trans (s1 x hx) h')
    have h0 : cnt l t = 0 := by
     unfold cnt
     rw [List.filter_eq_nil_iff.2 hz]; rfl
    rw [if_neg hr, h0]
    refine ⟨?_, ?_⟩
    ·simp only [Nat.add_zero, List.take_zero]
     symm
     rw [List.filter_eq_nil_iff]
     intro x hx
     rcases List.mem_cons.1 hx with rfl | hx
     ·exact hr
     ·exact hz x hx
    ·simp only [Nat.add_zero, List.drop_zero]
     symm
     rw [List.filter_eq_self]
     intro x hx
     rcases List.mem_cons.1 hx with rfl | hx
     ·simpa using hr
     ·simpa using hz x hx
theorem srt_eq : ∀ {a b : RL}, srtT a -> srtT b -> a.Perm b -> a = b
 | [], b, _, _, h => (List.nil_perm.1 h).symm
 | x :: a, [], _, _, h => absurd h.length_eq (by simp)
 | x :: a, y :: b, ha, hb, h => by
   obtain ⟨a1, a2⟩ := List.pairwise_cons.1 ha
   obtain ⟨b1, b2⟩ := List.pairwise_cons.1 hb
   have hxy : x = y := by
    rcases List.mem_cons.1 (h.subset (List.mem_cons_self ..)) with e | hx
    ·exact e
    ·rcases List.mem_cons.1 (h.symm.subset (List.mem_cons_self ..)) with e | hy
     ·exact e.symm
     ·have := ltT_trans (a1 y hy) (b1 x hx)
      rw [ltT_irr] at this; cases this
   subst hxy
   rw [srt_eq a2 b2 (List.Perm.cons_inv h)]
def delT (i : Int) (T : RL) : RL := T.filter fun r => idR r != i
def insT (t : List Int) (T : RL) : RL := T.take (cnt T t) ++ [t] ++ T.drop (cnt T t)
structure QI (now : Int) (T M : RL) : Prop where
 srt : srtT T
 row : rowsOK tmK T
 mrt : SortedR 1 M
 perm : T.Perm M
 rng : ∀ r ∈ T, 0 <= idR r /\ idR r < 4096 /\ now < dlR r /\ dlR r <= now + 2147483648
 tim : 0 <= now /\ now <= 1099511627776
theorem row_eq {r : List Int} (h : fits tmK r) : ∃ i d, r = [i, d] /\ IntKind.i64.wrap i = i /\ IntKind.i64.wrap d = d := by
 match r, h with
 | [i, d], h => exact ⟨i, d, rfl, h.1, h.2.1⟩
theorem QI.uid {now : Int} {T M : RL} (h : QI now T M) : ∀ {a b : List Int}, a ∈ T -> b ∈ T -> idR a = idR b -> a = b := by
 intro a b ha hb hab
 have hne := h.mrt.ne
 obtain ⟨i, d, rfl, _⟩ := row_eq (h.row a ha)
 obtain ⟨j, e, rfl, _⟩ := row_eq (h.row b hb)
 have hij : i = j := hab
 subst hij
 by_cases hde : d = e
 ·rw [hde]
 ·exfalso
  have ha' := h.perm.subset ha
  have hb' := h.perm.subset hb
  have : ∀ {l : RL}, l.Pairwise (fun a b => a.take 1 ≠ b.take 1) -> [i, d] ∈ l -> [i, e] ∈ l -> False := by
   intro l hl h1 h2
   induction l with
   | nil => cases h1
   | cons x l ih =>
     obtain ⟨p1, p2⟩ := List.pairwise_cons.1 hl
     rcases List.mem_cons.1 h1 with g1 | g1
     ·rcases List.mem_cons.1 h2 with g2 | g2
      ·rw [<- g1] at g2; simp at g2; exact hde g2.symm
      ·exact p1 _ g2 (by rw [<- g1]; rfl)
     ·rcases List.mem_cons.1 h2 with g2 | g2
      ·exact p1 _ g1 (by rw [<- g2]; rfl)
      ·exact ih p2 g1 g2
  exact this hne ha' hb'
theorem len_le : ∀ {l : RL} {a b : Int}, SortedR 1 l -> rowsOK tmK l -> (∀ r ∈ l, a <= idR r /\ idR r < b) -> a <= b -> (l.length : Int) <= b - a
 | [], a, b, _, _, _, h => by simp; omega
 | r :: l, a, b, hs, hr, hb, hab => by
   obtain ⟨s1, s2⟩ := SortedR.cons.1 hs
   obtain ⟨r1, r2⟩ := hb r (List.mem_cons_self ..)
   have := len_le (a := idR r + 1) (b := b) s2 (fun x hx => hr x (List.mem_cons_of_mem _ hx)) (fun x hx => by
    obtain ⟨i, d, rfl, _⟩ := row_eq (hr r (List.mem_cons_self ..))
    obtain ⟨j, e, rfl, _⟩ := row_eq (hr x (List.mem_cons_of_mem _ hx))
    have h1 := s1 _ hx
    have h2 := (hb _ (List.mem_cons_of_mem _ hx)).2
    refine ⟨?_, h2⟩
    simp only [List.take, ltR] at h1
    show i + 1 <= j
    by_cases hij : i < j
    ·omega
    ·simp [hij] at h1) (by omega)
   simp only [List.length_cons]; omega
theorem QI.len {now : Int} {T M : RL} (h : QI now T M) : (T.length : Int) <= 4096 := by
 have := len_le (a := 0) (b := 4096) h.mrt (fun r hr => h.row r (h.perm.symm.subset hr)) (fun r hr => by
  have := h.rng r (h.perm.symm.subset hr); omega) (by omega)
 rw [h.perm.length_eq]; omega
theorem QI.has {now : Int} {T M : RL} (h : QI now T M) (i : Int) : (M.any fun r => r.take [i].length == [i]) = true ↔ ∃ d, [i, d] ∈ T := by
 rw [List.any_eq_true]
 constructor
 ·rintro ⟨r, hr, he⟩
  obtain ⟨j, d, rfl, _⟩ := row_eq (h.row r (h.perm.symm.subset hr))
  simp at he
  subst he
  exact ⟨d, h.perm.symm.subset hr⟩
 ·rintro ⟨d, hd⟩
  exact ⟨_, h.perm.subset hd, by simp⟩
theorem QI.val {now : Int} {T M : RL} (h : QI now T M) {i d : Int} (hd : [i, d] ∈ T) (x : List Int) : ((M.find? fun r => r.take [i].length == [i]).getD x) = [i, d] := by
 cases hf : M.find? (fun r => r.take [i].length == [i]) with
 | none =>
   rw [List.find?_eq_none] at hf
   exact absurd (by simp) (hf _ (h.perm.subset hd))
 | some r =>
   have h1 := List.mem_of_find?_eq_some hf
   have h2 := List.find?_some hf
   have h3 := h.perm.symm.subset h1
   obtain ⟨j, e, rfl, _⟩ := row_eq (h.row r h3)
   have : j = i := by simpa using h2
   subst this
   simp only [Option.getD_some]
   exact h.uid h3 hd rfl
theorem srt_del {T : RL} (h : srtT T) (i : Int) : srtT (delT i T) := List.Pairwise.filter _ h
theorem drop_eq {now : Int} {T M : RL} (h : QI now T M) {i d : Int} (hd : [i, d] ∈ T) : T.take (cnt T [i, d]) ++ T.drop (cnt T [i, d] + 1) = delT i T := by
 obtain ⟨t1, t2⟩ := take_cnt (t := [i, d]) h.srt
 have hk : cnt T [i, d] < T.length := by
  have hm : [i, d] ∈ T.drop (cnt T [i, d]) := by rw [t2]; exact List.mem_filter.2 ⟨hd, by simp [ltT_irr]⟩
  have := List.length_pos_of_mem hm
  rw [List.length_drop] at this; omega
 have hc : T.drop (cnt T [i, d]) = T[cnt T [i, d]] :: T.drop (cnt T [i, d] + 1) := List.drop_eq_getElem_cons hk
 have hsd : srtT (T.drop (cnt T [i, d])) := List.Pairwise.sublist (List.drop_sublist _ _) h.srt
 have hfirst : T[cnt T [i, d]] = [i, d] := by
  have hm : [i, d] ∈ T.drop (cnt T [i, d]) := by rw [t2]; exact List.mem_filter.2 ⟨hd, by simp [ltT_irr]⟩
  rw [hc] at hm hsd
  rcases List.mem_cons.1 hm with e | hm
  ·exact e.symm
  ·have h1 := (List.pairwise_cons.1 hsd).1 _ hm
   have h2 : T[cnt T [i, d]] ∈ T.drop (cnt T [i, d]) := by rw [hc]; exact List.mem_cons_self ..
   rw [t2] at h2
   have := (List.mem_filter.1 h2).2
   simp [h1] at this
 apply srt_eq
 ·refine List.Pairwise.sublist ?_ h.srt
  have := (List.sublist_cons_self (T[cnt T [i, d]]) (T.drop (cnt T [i, d] + 1)))
  rw [<- hc] at this
  have := List.Sublist.append (List.Sublist.refl (T.take (cnt T [i, d]))) this
  rwa [List.take_append_drop] at this
 ·exact srt_del h.srt i
 ·have hT : T.Perm ([i, d] :: (T.take (cnt T [i, d]) ++ T.drop (cnt T [i, d] + 1))) := by
   conv => lhs; rw [<- List.take_append_drop (cnt T [i, d]) T, hc, hfirst]
   exact List.perm_middle
  have hnd : ∀ x ∈ T.take (cnt T [i, d]) ++ T.drop (cnt T [i, d] + 1), idR x ≠ i := by
   intro x hx e
   have hxT : x ∈ T := hT.symm.subset (List.mem_cons_of_mem _ hx)
   have hxe : x = [i, d] := h.uid hxT hd e
   subst hxe
   have hs : srtT ([i, d] :: T.drop (cnt T [i, d] + 1)) := by rw [hc, hfirst] at hsd; exact hsd
   rcases List.mem_append.1 hx with hx | hx
   ·rw [t1] at hx
    have := (List.mem_filter.1 hx).2
    rw [ltT_irr] at this; cases this
   ·have := (List.pairwise_cons.1 hs).1 _ hx
    rw [ltT_irr] at this; cases this
  have := hT.filter (fun r => idR r != i)
  rw [List.filter_cons_of_neg (by simp [idR])] at this
  have hself : (T.take (cnt T [i, d]) ++ T.drop (cnt T [i, d] + 1)).filter (fun r => idR r != i) = T.take (cnt T [i, d]) ++ T.drop (cnt T [i, d] + 1) := List.filter_eq_self.2 (fun x hx => by simpa using hnd x hx)
  rw [hself] at this
  exact this.symm
theorem QI.del {now : Int} {T M : RL} (h : QI now T M) (i : Int) : QI now (delT i T) (delR [i] M) := by
 have hd : delR [i] M = M.filter fun r => idR r != i := by
  rw [delR_filter (n := 1) rfl h.mrt]
  apply List.filter_congr
  intro r hr
  obtain ⟨j, e, rfl, _⟩ := row_eq (h.row r (h.perm.symm.subset hr))
  simp only [List.take, idR, List.getD_cons_zero, bne]
  congr 1
  by_cases hj : j = i <;> simp [hj]
 refine ⟨srt_del h.srt i, fun r hr => h.row r (List.mem_filter.1 hr).1, delR_sorted (k := [i]) (n := 1) rfl h.mrt, by rw [hd]; exact h.perm.filter _, fun r hr => h.rng r (List.mem_filter.1 hr).1, h.tim⟩
theorem srt_ins {T : RL} (h : srtT T) {t : List Int} (hn : ∀ x ∈ T, ltT x t = true \/ ltT t x = true) : srtT (insT t T) := by
 obtain ⟨t1, t2⟩ := take_cnt (t := t) h
 unfold insT srtT
 rw [t1, t2]
 rw [List.append_assoc, List.pairwise_append]
 refine ⟨List.Pairwise.filter _ h, ?_, ?_⟩
 ·rw [List.singleton_append, List.pairwise_cons]
  refine ⟨fun x hx => ?_, List.Pairwise.filter _ h⟩
  have hx' := List.mem_filter.1 hx
  rcases hn x hx'.1 with h1 | h1
  ·simp [h1] at hx'
  ·exact h1
 ·intro a ha b hb
  have ha' := (List.mem_filter.1 ha).2
  rcases List.mem_append.1 hb with hb | hb
  ·rw [List.mem_singleton.1 hb]; exact ha'
  ·have hb' := List.mem_filter.1 hb
   rcases hn b hb'.1 with h1 | h1
   ·simp [h1] at hb'
   ·exact ltT_trans ha' h1
theorem perm_ins (t : List Int) (T : RL) : (insT t T).Perm (t :: T) := by
 unfold insT
 rw [List.append_assoc, List.singleton_append]
 exact List.perm_middle.trans (by rw [List.take_append_drop])
theorem lt_tot {i d : Int} {x : List Int} (hx : fits tmK x) (h : idR x ≠ i) : ltT x [i, d] = true \/ ltT [i, d] x = true := by
 obtain ⟨j, e, rfl, _⟩ := row_eq hx
 simp only [ltT_iff, dlR, idR, List.getD_cons_succ, List.getD_cons_zero] at h ⊢
 omega
theorem QI.ins {now : Int} {T M : RL} (h : QI now T M) {i d : Int} (hi : ∀ x ∈ T, idR x ≠ i) (h1 : 0 <= i) (h2 : i < 4096) (h3 : now < d) (h4 : d <= now + 2147483648) : QI now (insT [i, d] T) (putR 1 [i, d] M) := by
 have ht := h.tim
 have hp := perm_ins [i, d] T
 have hf : M.filter (fun r => !(r.take 1 == ([i, d] : List Int).take 1)) = M := by
  rw [List.filter_eq_self]
  intro r hr
  have hrT := h.perm.symm.subset hr
  obtain ⟨j, e, rfl, _⟩ := row_eq (h.row r hrT)
  have := hi _ hrT
  simp only [idR, List.getD_cons_zero] at this
  simp [this]
 refine ⟨srt_ins h.srt fun x hx => lt_tot (h.row x hx) (hi x hx), fun r hr => ?_, putR_sorted h.mrt, ?_, fun r hr => ?_, h.tim⟩
 ·rcases List.mem_cons.1 (hp.subset hr) with rfl | hr
  ·exact ⟨i64w (by omega) (by omega), i64w (by omega) (by omega), trivial⟩
  ·exact h.row r hr
 ·have := putR_perm (n := 1) (row := [i, d]) h.mrt
  rw [hf] at this
  exact hp.trans ((h.perm.cons _).trans this.symm)
 ·rcases List.mem_cons.1 (hp.subset hr) with rfl | hr
  ·exact ⟨h1, h2, h3, h4⟩
  ·exact h.rng r hr
def delAll (l : RL) (M : RL) : RL := l.foldl (fun m r => delR [idR r] m) M
theorem delAll_spec : ∀ {l M : RL}, SortedR 1 M -> rowsOK tmK M -> SortedR 1 (delAll l M) /\ delAll l M = M.filter fun r => l.all fun x => idR r != idR x
 | [], M, h, _ => ⟨h, (List.filter_eq_self.2 fun _ _ => rfl).symm⟩
 | x :: l, M, h, hr => by
   have hd : delR [idR x] M = M.filter fun r => idR r != idR x := by
    rw [delR_filter (n := 1) rfl h]
    apply List.filter_congr
    intro r hrm
    obtain ⟨j, e, rfl, _⟩ := row_eq (hr r hrm)
    generalize idR x = y
    simp only [List.take, idR, List.getD_cons_zero, bne]
    congr 1
    by_cases hj : j = y <;> simp [hj]
   have hs := delR_sorted (k := [idR x]) (n := 1) rfl h
   obtain ⟨i1, i2⟩ := delAll_spec (l := l) hs (fun r hrm => hr r (by rw [hd] at hrm; exact (List.mem_filter.1 hrm).1))
   refine ⟨i1, ?_⟩
   show delAll l (delR [idR x] M) = _
   rw [i2, hd, List.filter_filter]
   apply List.filter_congr
   intro r _
   simp only [List.all_cons, Bool.and_comm]
def dueT (now : Int) (T : RL) : RL := T.filter fun r => decide (dlR r <= now)
def leftT (now : Int) (T : RL) : RL := T.filter fun r => decide (now < dlR r)
theorem QI.split {now : Int} {T M : RL} (h : QI now T M) (t : Int) : T.take (cnt T [0, t + 1]) = dueT t T /\ T.drop (cnt T [0, t + 1]) = leftT t T := by
 obtain ⟨t1, t2⟩ := take_cnt (t := [0, t + 1]) h.srt
 rw [t1, t2]
 have key : ∀ r ∈ T, ltT r [0, t + 1] = decide (dlR r <= t) := fun r hr => by
  have hr' := h.rng r hr
  rw [Bool.eq_iff_iff, ltT_iff, decide_eq_true_eq]
  simp only [dlR, idR, List.getD_cons_succ, List.getD_cons_zero] at hr' ⊢
  omega
 refine ⟨List.filter_congr fun r hr => key r hr, List.filter_congr fun r hr => ?_⟩
 rw [key r hr]
 by_cases hc : dlR r <= t
 ·simp [hc]
 ·simp [hc]; omega
theorem QI.to {now : Int} {T M : RL} (h : QI now T M) {t : Int} (h1 : now <= t) (h2 : t <= 1099511627776) : QI t (leftT t T) (delAll (dueT t T) M) := by
 have hrM : rowsOK tmK M := fun r hr => h.row r (h.perm.symm.subset hr)
 obtain ⟨d1, d2⟩ := delAll_spec (l := dueT t T) h.mrt hrM
 have ht := h.tim
 refine ⟨List.Pairwise.filter _ h.srt, fun r hr => h.row r (List.mem_filter.1 hr).1, d1, ?_, fun r hr => ?_, by omega⟩
 ·rw [d2]
  have : leftT t T = T.filter fun r => (dueT t T).all fun x => idR r != idR x := by
   apply List.filter_congr
   intro r hr
   rw [Bool.eq_iff_iff, decide_eq_true_eq, List.all_eq_true]
   constructor
   ·intro hlt x hx
    have hx' := List.mem_filter.1 hx
    have hx2 := hx'.2
    simp only [decide_eq_true_eq] at hx2
    simp only [bne_iff_ne, ne_eq]
    intro e
    have := h.uid hr hx'.1 e
    subst this
    omega
   ·intro hall
    by_cases hle : t < dlR r
    ·exact hle
    ·have := hall r (List.mem_filter.2 ⟨hr, by simp; omega⟩)
     simp at this
  rw [this]
  exact h.perm.filter _
 ·have hr' := List.mem_filter.1 hr
  have := h.rng r hr'.1
  have h3 := hr'.2
  simp only [decide_eq_true_eq] at h3
  omega
def qcs : List Sh := [.lt .b 1, i64, .lst 110 tmR true, .mp [.i .i64] [.i .i64] false false]
def qob : Ob := { j := 0, ty := 105, cs := qcs }
def ltm : Sh := .lst 110 tmR true
def QIx (xs : List Int) : Prop := QI (env xs 0) (dc (env xs 1)) (dc (env xs 2))
def hasM (M : RL) (i : Int) : Bool := M.any fun r => r.take [i].length == [i]
def e28 : Ent := ⟨28, 61, [qo], [], [0, 1, 2], .lt .b 0, fun _ _ => 0, fun _ => True⟩
def rightB (i : Int) : Bool := decide (i >= 0) && decide (i < 4096)
def e30 : Ent := ⟨30, 62, [i64], [], [], .sc .b, fun _ xs => b2i (rightB (env xs 0)), fun _ => True⟩
def fn31 : Nat -> List Int -> Int
 | 0, xs => env xs 0
 | 1, xs => bif hasM (dc (env xs 2)) (env xs 3) then cd (delT (env xs 3) (dc (env xs 1))) else env xs 1
 | 2, xs => bif hasM (dc (env xs 2)) (env xs 3) then cd (delR [env xs 3] (dc (env xs 2))) else env xs 2
 | _, xs => b2i (hasM (dc (env xs 2)) (env xs 3))
def e31 : Ent := ⟨31, 63, [qo, i64], [qob], [], .sc .b, fn31, QIx⟩
def c60 : Ctx := ⟨[e33, insertE 32, deleteE 34, cloneE 29], []⟩
def c6 : Ctx := ⟨[e33, e28, e30, insertE 32, deleteE 34, cloneE 29], []⟩
def ob_28 : E := (.lit .b 1)
def es_28 : List E := []
theorem ev_28 : evE Try.prog G0 (tabOf c60.fs) (ltOf c60.ls) 40 10 e28 = some (ob_28, es_28) := by kernel_rfl
def ob_30 : E := (.lit .b 1)
def es_30 : List E := [(.and (.cmp .geq (vI 0) (lI 0)) (.cmp .lss (vI 0) (lI 4096)))]
theorem ev_30 : evE Try.prog G0 (tabOf c60.fs) (ltOf c60.ls) 40 10 e30 = some (ob_30, es_30) := by kernel_rfl
def q_31_0 : E := (aI 0 9 [(vX 2), (.lit .x 1), (.lit .x 1), (vI 3)])
def q_31_1 : E := (aI 33 0 [(vI 0), (vX 1), (vX 2), (vI 3), q_31_0])
def q_31_2 : E := (.bin .add .i64 q_31_1 (lI 1))
def ob_31 : E := (.and (.or (.not (aB 0 8 [(vX 2), (vI 3)])) (.and (aB 33 1000000 [(vI 0), (vX 1), (vX 2), (vI 3), q_31_0]) (aB 34 1000000 [(vX 1), q_31_1, q_31_2]))) (.ite (aB 0 8 [(vX 2), (vI 3)]) (aB 0 8 [(vX 2), (vI 3)]) (.not (aB 0 8 [(vX 2), (vI 3)]))))
def es_31 : List E := [(vI 0), (.ite (aB 0 8 [(vX 2), (vI 3)]) (aX 34 0 [(vX 1), q_31_1, q_31_2]) (vX 1)), (.ite (aB 0 8 [(vX 2), (vI 3)]) (aX 0 11 [(vX 2), (vI 3)]) (vX 2)), (aB 0 8 [(vX 2), (vI 3)])]
theorem ev_31 : evE Try.prog G0 (tabOf c6.fs) (ltOf c6.ls) 40 10 e31 = some (ob_31, es_31) := by kernel_rfl
theorem c6ok0 : c60.OK Try.prog G0 := by
 have h0 : Ctx.OK Try.prog G0 ⟨[cloneE 29], []⟩ := c0ok.addF (clone_ok G0 29) rfl
 have h1 : Ctx.OK Try.prog G0 ⟨[deleteE 34, cloneE 29], []⟩ := h0.addF (delete_ok G0 34) rfl
 have h2 : Ctx.OK Try.prog G0 ⟨[insertE 32, deleteE 34, cloneE 29], []⟩ := h1.addF (insert_ok G0 32) rfl
 exact h2.addF ok33 rfl
theorem ok28 : EntryOK Try.prog G0 e28 := c6ok0.entryP mixed ev_28 _ rfl _ rfl fun xs hf hp => ⟨by simp only [ob_28, ewA, ewL, preC, binI, dvI, shI, cmpB, env, bi, List.headD, List.tail, List.map, Nat.reduceAdd]; rfl, trivial⟩
theorem ok30 : EntryOK Try.prog G0 e30 := c6ok0.entryP mixed ev_30 _ rfl _ rfl fun xs hf hp => by
 match xs, hf with
 | [i], hf =>
   obtain ⟨h0, _⟩ := hf
   simp only [norm_i] at h0
   have w0 : IntKind.i64.wrap 0 = 0 := i64w (by decide) (by decide)
   have w1 : IntKind.i64.wrap 4096 = 4096 := i64w (by decide) (by decide)
   refine ⟨by simp only [ob_30, ewA, ewL, preC, binI, dvI, shI, cmpB, env, bi, List.headD, List.tail, List.map, Nat.reduceAdd]; rfl, ?_, trivial⟩
   simp only [es_30, e30, rightB, ewA, ewL, preC, binI, dvI, shI, cmpB, env, bi, List.headD, List.tail, List.map, Nat.reduceAdd, h0, w0, w1]
theorem c6ok : c6.OK Try.prog G0 := ((c6ok0.addF ok28 rfl).addF ok30 rfl).sub rfl (by simp [c6, c60]) (by simp [c6, c60])
theorem ok31 : EntryOK Try.prog G0 e31 := c6ok.entryP mixed ev_31 _ rfl _ rfl fun xs hf hp => by
 obtain ⟨l, hl, hF⟩ := ctx_F (l0 := c6.l)
 obtain ⟨S, Sp⟩ := hF e33 (by rfl) (by decide)
 obtain ⟨R, Rp⟩ := hF (deleteE 34) (by rfl) (by decide)
 rw [hl]
 match xs, hf with
 | [now, tc, mc, i], hf =>
   obtain ⟨h0, h1, h2, h3, _⟩ := hf
   simp only [norm_i] at h0 h3
   have hq : QI now (dc tc) (dc mc) := hp
   have hlen := hq.len
   have w1 : IntKind.i64.wrap 1 = 1 := i64w (by decide) (by decide)
   have hH : (List.any (dc mc) fun r => List.take [i].length r == [i]) = hasM (dc mc) i := rfl
   cases hh : hasM (dc mc) i
   ·refine ⟨?_, ?_, ?_, ?_, ?_, trivial⟩
    ·simp only [ob_31, q_31_0, q_31_1, q_31_2, ewA, ewL, preC, binI, dvI, shI, cmpB, env, bi, List.headD, List.tail, List.map, Nat.reduceAdd, h0, h3, hH, hh]; simp
    ·simp only [es_31, q_31_0, q_31_1, q_31_2, e31, fn31, ewA, ewL, preC, binI, dvI, shI, cmpB, env, bi, List.headD, List.tail, List.map, Nat.reduceAdd, h0]
    ·simp only [es_31, q_31_0, q_31_1, q_31_2, e31, fn31, ewA, ewL, preC, binI, dvI, shI, cmpB, env, bi, List.headD, List.tail, List.map, Nat.reduceAdd, h0, h3, hH, hh, cond_false]
    ·simp only [es_31, q_31_0, q_31_1, q_31_2, e31, fn31, ewA, ewL, preC, binI, dvI, shI, cmpB, env, bi, List.headD, List.tail, List.map, Nat.reduceAdd, h0, h3, hH, hh, cond_false]
    ·simp only [es_31, q_31_0, q_31_1, q_31_2, e31, fn31, ewA, ewL, preC, binI, dvI, shI, cmpB, env, bi, List.headD, List.tail, List.map, Nat.reduceAdd, h0, h3, hH, hh]
   ·obtain ⟨d, hd⟩ := (hq.has i).1 hh
    have hv := hq.val hd (i :: List.replicate 1 0)
    have hwd : IntKind.i64.wrap d = d := fits_get (hq.row _ hd) 1 (.i .i64) rfl
    obtain ⟨k, hk⟩ : ∃ k, k = cnt (dc tc) [i, d] := ⟨_, rfl⟩
    have hkl : k <= (dc tc).length := hk ▸ cnt_le _ _
    have hk1 : k < (dc tc).length := by
     obtain ⟨t1, t2⟩ := take_cnt (t := [i, d]) hq.srt
     have hm : [i, d] ∈ (dc tc).drop k := by rw [hk, t2]; exact List.mem_filter.2 ⟨hd, by simp [ltT_irr]⟩
     have := List.length_pos_of_mem hm
     rw [List.length_drop] at this; omega
    have f33 : l.F 33 0 [now, tc, mc, i, d] = (k : Int) := by rw [hk]; exact S 0 rfl _
    have p33 : i2b (K.b.norm (l.F 33 1000000 [now, tc, mc, i, d])) = true := Sp _ ⟨hq.srt, hq.row, by show ((dc tc).length : Int) < cap8; unfold cap8; omega⟩
    have wk : IntKind.i64.wrap (k : Int) = (k : Int) := i64w (by omega) (by omega)
    have wk1 : IntKind.i64.wrap ((k : Int) + 1) = (k : Int) + 1 := i64w (by omega) (by omega)
    have p34 : i2b (K.b.norm (l.F 34 1000000 [tc, (k : Int), (k : Int) + 1])) = true := Rp _ ⟨by show (0 : Int) <= (k : Int); omega, by show (k : Int) <= (k : Int) + 1; omega, by show (k : Int) + 1 <= ((dc tc).length : Int); omega⟩
    have f34 : l.F 34 0 [tc, (k : Int), (k : Int) + 1] = cd (delT i (dc tc)) := by
     rw [<- drop_eq hq hd, <- hk]
     exact R 0 rfl _
    refine ⟨?_, ?_, ?_, ?_, ?_, trivial⟩
    ·simp only [ob_31, q_31_0, q_31_1, q_31_2, ewA, ewL, preC, binI, dvI, shI, cmpB, env, bi, List.headD, List.tail, List.map, Nat.reduceAdd, h0, h3, hH, hh, hv, hwd, w1, f33, p33, wk, wk1, p34]; rfl
    ·simp only [es_31, q_31_0, q_31_1, q_31_2, e31, fn31, ewA, ewL, preC, binI, dvI, shI, cmpB, env, bi, List.headD, List.tail, List.map, Nat.reduceAdd, h0]
    ·simp only [es_31, q_31_0, q_31_1, q_31_2, e31, fn31, ewA, ewL, preC, binI, dvI, shI, cmpB, env, bi, List.headD, List.tail, List.map, Nat.reduceAdd, h0, h3, hH, hh, hv, hwd, w1, f33, wk, wk1, f34, cond_true]
    ·simp only [es_31, q_31_0, q_31_1, q_31_2, e31, fn31, ewA, ewL, preC, binI, dvI, shI, cmpB, env, bi, List.headD, List.tail, List.map, Nat.reduceAdd, h0, h3, hH, hh, cond_true]
    ·simp only [es_31, q_31_0, q_31_1, q_31_2, e31, fn31, ewA, ewL, preC, binI, dvI, shI, cmpB, env, bi, List.headD, List.tail, List.map, Nat.reduceAdd, h0, h3, hH, hh]
def armB (now i d : Int) : Bool := rightB i && !decide (d <= now) && !decide (d > now + 2147483648)
def fn21 : Nat -> List Int -> Int
 | 0, xs => env xs 0
 | 1, xs => bif armB (env xs 0) (env xs 3) (env xs 4) then cd (insT [env xs 3, env xs 4] (delT (env xs 3) (dc (env xs 1)))) else env xs 1
 | 2, xs => bif armB (env xs 0) (env xs 3) (env xs 4) then cd (putR 1 [env xs 3, env xs 4] (delR [env xs 3] (dc (env xs 2)))) else env xs 2
 | _, xs => bif armB (env xs 0) (env xs 3) (env xs 4) then 0 else 2
def e21 : Ent := ⟨21, 44, [qo, i64, i64], [qob], [], i64, fn21, QIx⟩
def fn22 : Nat -> List Int -> Int
 | 0, xs => env xs 0
 | 1, xs => bif rightB (env xs 3) && hasM (dc (env xs 2)) (env xs 3) then cd (delT (env xs 3) (dc (env xs 1))) else env xs 1
 | 2, xs => bif rightB (env xs 3) && hasM (dc (env xs 2)) (env xs 3) then cd (delR [env xs 3] (dc (env xs 2))) else env xs 2
 | _, xs => bif rightB (env xs 3) then (bif hasM (dc (env xs 2)) (env xs 3) then 0 else 6) else 2
def e22 : Ent := ⟨22, 41, [qo, i64], [qob], [], i64, fn22, QIx⟩
def e17 : Ent := ⟨17, 66, [qo], [], [0, 1, 2], i64, fun _ xs => env xs 0, fun _ => True⟩
def e19 : Ent := ⟨19, 45, [qo], [], [0, 1, 2], i64, fun _ xs => ((dc (env xs 1)).length : Int), fun _ => True⟩
def fn20 : Nat -> List Int -> Int
 | 0, xs => env xs 0
 | _, xs => cd []
def timB (t : Int) : Prop := 0 <= t /\ t <= 1099511627776
def e20 : Ent := ⟨20, 40, [i64], [], [], .tup [qo, .lt (.i .i64) 0], fn20, fun xs => timB (env xs 0)⟩
def c7 : Ctx := ⟨[e31, e33, e28, e30, insertE 32, deleteE 34, cloneE 29], []⟩
def c8 : Ctx := ⟨[e19, e31, e33, e28, e30, insertE 32, deleteE 34, cloneE 29], []⟩
theorem c7ok : c7.OK Try.prog G0 := (c6ok.addF ok31 rfl).sub rfl (by simp [c7, c6]) (by simp [c7, c6])
def q_21_0 : E := (.or (.or (.not (aB 30 0 [(vI 3)])) (.cmp .leq (vI 4) (vI 0))) (.cmp .gtr (vI 4) (.bin .add .i64 (vI 0) (lI 2147483648))))
def q_21_1 : E := (aI 31 0 [(vI 0), (vX 1), (vX 2), (vI 3)])
def q_21_2 : E := (aX 31 1 [(vI 0), (vX 1), (vX 2), (vI 3)])
def q_21_3 : E := (aX 31 2 [(vI 0), (vX 1), (vX 2), (vI 3)])
def q_21_4 : E := (aI 33 0 [q_21_1, q_21_2, q_21_3, (vI 3), (vI 4)])
def ob_21 : E := (.and (.and (.and (aB 28 1000000 [(vI 0), (vX 1), (vX 2)]) (aB 30 1000000 [(vI 3)])) (.or q_21_0 (.and (aB 31 1000000 [(vI 0), (vX 1), (vX 2), (vI 3)]) (.and (aB 33 1000000 [q_21_1, q_21_2, q_21_3, (vI 3), (vI 4)]) (aB 32 1000000 [q_21_2, q_21_4, (aX 0 3 [(aX 0 2 []), (vI 3), (vI 4)])]))))) (.ite q_21_0 q_21_0 (.not q_21_0)))
def es_21 : List E := [(.ite q_21_0 (vI 0) q_21_1), (.ite q_21_0 (vX 1) (aX 32 0 [q_21_2, q_21_4, (aX 0 3 [(aX 0 2 []), (vI 3), (vI 4)])])), (.ite q_21_0 (vX 2) (aX 0 10 [q_21_3, (.lit .x 1), (vI 3), (vI 4)])), (.ite q_21_0 (lI 2) (lI 0))]
theorem ev_21 : evE Try.prog G0 (tabOf c7.fs) (ltOf c7.ls) 40 10 e21 = some (ob_21, es_21) := by kernel_rfl
def q_22_0 : E := (.or (.not (aB 30 0 [(vI 3)])) (.not (aB 31 3 [(vI 0), (vX 1), (vX 2), (vI 3)])))
def q_22_1 : E := (.or (.not q_22_0) (aB 30 0 [(vI 3)]))
def q_22_2 : E := (aI 31 0 [(vI 0), (vX 1), (vX 2), (vI 3)])
def q_22_3 : E := (aX 31 1 [(vI 0), (vX 1), (vX 2), (vI 3)])
def q_22_4 : E := (aX 31 2 [(vI 0), (vX 1), (vX 2), (vI 3)])
def ob_22 : E := (.and (.and (aB 28 1000000 [(vI 0), (vX 1), (vX 2)]) (.and (aB 30 1000000 [(vI 3)]) (.or (.not (aB 30 0 [(vI 3)])) (aB 31 1000000 [(vI 0), (vX 1), (vX 2), (vI 3)])))) (.ite q_22_0 (.ite (.not (aB 30 0 [(vI 3)])) (.and q_22_0 (.not (aB 30 0 [(vI 3)]))) q_22_1) q_22_1))
def es_22 : List E := [(.ite q_22_0 (.ite (.not (aB 30 0 [(vI 3)])) (vI 0) q_22_2) q_22_2), (.ite q_22_0 (.ite (.not (aB 30 0 [(vI 3)])) (vX 1) q_22_3) q_22_3), (.ite q_22_0 (.ite (.not (aB 30 0 [(vI 3)])) (vX 2) q_22_4) q_22_4), (.ite q_22_0 (.ite (.not (aB 30 0 [(vI 3)])) (lI 2) (lI 6)) (lI 0))]
theorem ev_22 : evE Try.prog G0 (tabOf c7.fs) (ltOf c7.ls) 40 10 e22 = some (ob_22, es_22) := by kernel_rfl
def ob_17 : E := (aB 28 1000000 [(vI 0), (vX 1), (vX 2)])
def es_17 : List E := [(vI 0)]
theorem ev_17 : evE Try.prog G0 (tabOf c7.fs) (ltOf c7.ls) 40 10 e17 = some (ob_17, es_17) := by kernel_rfl
def ob_19 : E := (aB 28 1000000 [(vI 0), (vX 1), (vX 2)])
def es_19 : List E := [(aI 0 0 [(vX 1)])]
theorem ev_19 : evE Try.prog G0 (tabOf c7.fs) (ltOf c7.ls) 40 10 e19 = some (ob_19, es_19) := by kernel_rfl
def q_20_0 : E := (.or (.cmp .lss (vI 0) (lI 0)) (.cmp .gtr (vI 0) (lI 1099511627776)))
def q_20_1 : E := (.not q_20_0)
def ob_20 : E := (.and (.and q_20_1 (.cmp .eql (.ite q_20_0 (lI 2) (lI 0)) (lI 0))) q_20_1)
def es_20 : List E := [(vI 0), (aX 0 2 []), (aX 0 2 [])]
theorem ev_20 : evE Try.prog G0 (tabOf c7.fs) (ltOf c7.ls) 40 10 e20 = some (ob_20, es_20) := by kernel_rfl
theorem ok22 : EntryOK Try.prog G0 e22 := c7ok.entryP mixed ev_22 _ rfl _ rfl fun xs hf hp => by
 obtain ⟨l, hl, hF⟩ := ctx_F (l0 := c7.l)
 obtain ⟨S, Sp⟩ := hF e30 (by rfl) (by decide)
 obtain ⟨R, Rp⟩ := hF e31 (by rfl) (by decide)
 obtain ⟨_, Np⟩ := hF e28 (by rfl) (by decide)
 rw [hl]
 match xs, hf with
 | [now, tc, mc, i], hf =>
   obtain ⟨h0, h1, h2, h3, _⟩ := hf
   simp only [norm_i] at h0 h3
   have n28 : ∀ xs, i2b (K.b.norm (l.F 28 1000000 xs)) = true := fun xs => Np xs trivial
   have n30 : ∀ xs, i2b (K.b.norm (l.F 30 1000000 xs)) = true := fun xs => Sp xs trivial
   have n31 : i2b (K.b.norm (l.F 31 1000000 [now, tc, mc, i])) = true := Rp _ hp
   have f30 : ∀ xs, l.F 30 0 xs = b2i (rightB (env xs 0)) := fun xs => S 0 rfl xs
   have f0 : l.F 31 0 [now, tc, mc, i] = now := R 0 rfl _
   have f1 : l.F 31 1 [now, tc, mc, i] = _ := R 1 rfl _
   have f2 : l.F 31 2 [now, tc, mc, i] = _ := R 2 rfl _
   have f3 : l.F 31 3 [now, tc, mc, i] = b2i (hasM (dc mc) i) := R 3 rfl _
   have w0 : IntKind.i64.wrap 0 = 0 := i64w (by decide) (by decide)
   have w2 : IntKind.i64.wrap 2 = 2 := i64w (by decide) (by decide)
   have w6 : IntKind.i64.wrap 6 = 6 := i64w (by decide) (by decide)
   simp only [e31, fn31, env, List.getD_cons_succ, List.getD_cons_zero] at f1 f2
   refine ⟨?_, ?_, ?_, ?_, ?_, trivial⟩
   ·simp only [ob_22, q_22_0, q_22_1, q_22_2, q_22_3, q_22_4, ewA, ewL, preC, binI, dvI, shI, cmpB, env, bi, List.headD, List.tail, List.map, Nat.reduceAdd, h0, h3, n28, n30, n31, f30, f3]
    cases rightB i <;> cases hasM (dc mc) i <;> rfl
   ·simp only [es_22, q_22_0, q_22_1, q_22_2, q_22_3, q_22_4, e22, fn22, ewA, ewL, preC, binI, dvI, shI, cmpB, env, bi, List.headD, List.tail, List.map, Nat.reduceAdd, h0, h3, f30, f3, f0]
    cases rightB i <;> cases hasM (dc mc) i <;> simp [h0]
   ·simp only [es_22, q_22_0, q_22_1, q_22_2, q_22_3, q_22_4, e22, fn22, ewA, ewL, preC, binI, dvI, shI, cmpB, env, bi, List.headD, List.tail, List.map, Nat.reduceAdd, h0, h3, f30, f3, f1]
    cases rightB i <;> cases hasM (dc mc) i <;> rfl
   ·simp only [es_22, q_22_0, q_22_1, q_22_2, q_22_3, q_22_4, e22, fn22, ewA, ewL, preC, binI, dvI, shI, cmpB, env, bi, List.headD, List.tail, List.map, Nat.reduceAdd, h0, h3, f30, f3, f2]
    cases rightB i <;> cases hasM (dc mc) i <;> rfl
   ·simp only [es_22, q_22_0, q_22_1, q_22_2, q_22_3, q_22_4, e22, fn22, ewA, ewL, preC, binI, dvI, shI, cmpB, env, bi, List.headD, List.tail, List.map, Nat.reduceAdd, h0, h3, f30, f3, w0, w2, w6]
    cases rightB i <;> cases hasM (dc mc) i <;> simp [w0, w2, w6]
theorem QI.del_none {now : Int} {T M : RL} (h : QI now T M) {i : Int} (hh : hasM M i = false) : delT i T = T /\ delR [i] M = M := by
 have hn : ∀ r ∈ T, idR r ≠ i := fun r hr e => by
  obtain ⟨j, d, rfl, _⟩ := row_eq (h.row r hr)
  have : j = i := e
  subst this
  have := (h.has j).2 ⟨d, hr⟩
  unfold hasM at hh
  rw [hh] at this; cases this
 refine ⟨List.filter_eq_self.2 fun r hr => by simpa using hn r hr, ?_⟩
 rw [delR_filter (n := 1) rfl h.mrt, List.filter_eq_self]
 intro r hr
 have hrT := h.perm.symm.subset hr
 obtain ⟨j, d, rfl, _⟩ := row_eq (h.row r hrT)
 have := hn _ hrT
 simp only [idR, List.getD_cons_zero] at this
 simp [this]
theorem ok21 : EntryOK Try.prog G0 e21 := c7ok.entryP mixed ev_21 _ rfl _ rfl fun xs hf hp => by
 obtain ⟨l, hl, hF⟩ := ctx_F (l0 := c7.l)
 obtain ⟨S, Sp⟩ := hF e30 (by rfl) (by decide)
 obtain ⟨R, Rp⟩ := hF e31 (by rfl) (by decide)
 obtain ⟨_, Np⟩ := hF e28 (by rfl) (by decide)
 obtain ⟨U, Up⟩ := hF e33 (by rfl) (by decide)
 obtain ⟨V, Vp⟩ := hF (insertE 32) (by rfl) (by decide)
 rw [hl]
 match xs, hf with
 | [now, tc, mc, i, d], hf =>
   obtain ⟨h0, h1, h2, h3, h4, _⟩ := hf
   simp only [norm_i] at h0 h3 h4
   have hq : QI now (dc tc) (dc mc) := hp
   have ht := hq.tim
   have n28 : ∀ xs, i2b (K.b.norm (l.F 28 1000000 xs)) = true := fun xs => Np xs trivial
   have n30 : ∀ xs, i2b (K.b.norm (l.F 30 1000000 xs)) = true := fun xs => Sp xs trivial
   have n31 : i2b (K.b.norm (l.F 31 1000000 [now, tc, mc, i])) = true := Rp _ hp
   have f30 : ∀ xs, l.F 30 0 xs = b2i (rightB (env xs 0)) := fun xs => S 0 rfl xs
   have f0 : l.F 31 0 [now, tc, mc, i] = now := R 0 rfl _
   obtain ⟨t1, ht1, hT⟩ : ∃ t1, l.F 31 1 [now, tc, mc, i] = t1 /\ dc t1 = delT i (dc tc) := by
    refine ⟨_, R 1 rfl _, ?_⟩
    show dc (bif hasM (dc mc) i then cd (delT i (dc tc)) else tc) = _
    cases hh : hasM (dc mc) i
    ·exact (hq.del_none hh).1.symm
    ·exact dc_cd _
   obtain ⟨m1, hm1, hM⟩ : ∃ m1, l.F 31 2 [now, tc, mc, i] = m1 /\ dc m1 = delR [i] (dc mc) := by
    refine ⟨_, R 2 rfl _, ?_⟩
    show dc (bif hasM (dc mc) i then cd (delR [i] (dc mc)) else mc) = _
    cases hh : hasM (dc mc) i
    ·exact (hq.del_none hh).2.symm
    ·exact dc_cd _
   have hq1 : QI now (dc t1) (dc m1) := by rw [hT, hM]; exact hq.del i
   have hlen := hq1.len
   have w0 : IntKind.i64.wrap 0 = 0 := i64w (by decide) (by decide)
   have w2 : IntKind.i64.wrap 2 = 2 := i64w (by decide) (by decide)
   have wS : IntKind.i64.wrap 2147483648 = 2147483648 := i64w (by decide) (by decide)
   have wN : IntKind.i64.wrap (now + 2147483648) = now + 2147483648 := i64w (by omega) (by omega)
   obtain ⟨k, hk⟩ : ∃ k, k = cnt (dc t1) [i, d] := ⟨_, rfl⟩
   have hkl : k <= (dc t1).length := hk ▸ cnt_le _ _
   have wk : IntKind.i64.wrap (k : Int) = (k : Int) := i64w (by omega) (by omega)
   have n33 : i2b (K.b.norm (l.F 33 1000000 [now, t1, m1, i, d])) = true := Up _ ⟨hq1.srt, hq1.row, by show ((dc t1).length : Int) < cap8; unfold cap8; omega⟩
   have f33 : l.F 33 0 [now, t1, m1, i, d] = (k : Int) := by rw [hk]; exact U 0 rfl _
   have n32 : i2b (K.b.norm (l.F 32 1000000 [t1, (k : Int), cd [[i, d]]])) = true := Vp _ ⟨by show (0 : Int) <= (k : Int); omega, by show (k : Int) <= ((dc t1).length : Int); omega, by show (dc (cd [[i, d]])).length = 1; rw [dc_cd]; rfl, by show ((dc t1).length : Int) < cap8; unfold cap8; omega⟩
   have f32 : l.F 32 0 [t1, (k : Int), cd [[i, d]]] = cd (insT [i, d] (delT i (dc tc))) := by
    rw [<- hT]
    unfold insT
    rw [<- hk]
    refine (V 0 rfl _).trans ?_
    show cd ((dc t1).take ((k : Int)).toNat ++ dc (cd [[i, d]]) ++ (dc t1).drop ((k : Int)).toNat) = _
    rw [dc_cd, Int.toNat_natCast]
   have hc : (!rightB i || decide (d <= now) || decide (d > now + 2147483648)) = !armB now i d := by
    unfold armB; cases rightB i <;> cases decide (d <= now) <;> cases decide (d > now + 2147483648) <;> rfl
   refine ⟨?_, ?_, ?_, ?_, ?_, trivial⟩
   ·simp only [ob_21, q_21_0, q_21_1, q_21_2, q_21_3, q_21_4, ewA, ewL, preC, binI, dvI, shI, cmpB, env, bi, List.headD, List.tail, List.map, Nat.reduceAdd, h0, h3, h4, n28, n30, n31, f30, f0, ht1, hm1, wS, wN, n33, f33, wk, n32, hc]
    cases armB now i d <;> rfl
   ·simp only [es_21, q_21_0, q_21_1, q_21_2, q_21_3, q_21_4, e21, fn21, ewA, ewL, preC, binI, dvI, shI, cmpB, env, bi, List.headD, List.tail, List.map, Nat.reduceAdd, h0, h3, h4, f30, f0, wS, wN, hc]
    cases armB now i d <;> rfl
   ·simp only [es_21, q_21_0, q_21_1, q_21_2, q_21_3, q_21_4, e21, fn21, ewA, ewL, preC, binI, dvI, shI, cmpB, env, bi, List.headD, List.tail, List.map, Nat.reduceAdd, h0, h3, h4, f30, f0, ht1, hm1, wS, wN, f33, wk, f32, hc]
    cases armB now i d <;> rfl
   ·simp only [es_21, q_21_0, q_21_1, q_21_2, q_21_3, q_21_4, e21, fn21, ewA, ewL, preC, binI, dvI, shI, cmpB, env, bi, List.headD, List.tail, List.map, Nat.reduceAdd, h0, h3, h4, f30, f0, hm1, hM, wS, wN, hc]
    cases armB now i d <;> rfl
   ·simp only [es_21, q_21_0, q_21_1, q_21_2, q_21_3, q_21_4, e21, fn21, ewA, ewL, preC, binI, dvI, shI, cmpB, env, bi, List.headD, List.tail, List.map, Nat.reduceAdd, h0, h3, h4, f30, wS, wN, hc, w0, w2]
    cases armB now i d <;> simp [w0, w2]
theorem ok17 : EntryOK Try.prog G0 e17 := c7ok.entryP mixed ev_17 _ rfl _ rfl fun xs hf hp => by
 obtain ⟨l, hl, hF⟩ := ctx_F (l0 := c7.l)
 obtain ⟨_, Np⟩ := hF e28 (by rfl) (by decide)
 rw [hl]
 match xs, hf with
 | [now, tc, mc], hf =>
   obtain ⟨h0, h1, h2, _⟩ := hf
   simp only [norm_i] at h0
   refine ⟨?_, ?_, trivial⟩
   ·simp only [ob_17, ewA, ewL, preC, binI, dvI, shI, cmpB, env, bi, List.headD, List.tail, List.map, Nat.reduceAdd, h0]
    exact Np _ trivial
   ·simp only [es_17, e17, ewA, ewL, preC, binI, dvI, shI, cmpB, env, bi, List.headD, List.tail, List.map, Nat.reduceAdd, h0]
theorem ok19 : EntryOK Try.prog G0 e19 := c7ok.entryP mixed ev_19 _ rfl _ rfl fun xs hf hp => by
 obtain ⟨l, hl, hF⟩ := ctx_F (l0 := c7.l)
 obtain ⟨_, Np⟩ := hF e28 (by rfl) (by decide)
 rw [hl]
 match xs, hf with
 | [now, tc, mc], hf =>
   obtain ⟨h0, h1, h2, _⟩ := hf
   simp only [norm_i] at h0
   refine ⟨?_, ?_, trivial⟩
   ·simp only [ob_19, ewA, ewL, preC, binI, dvI, shI, cmpB, env, bi, List.headD, List.tail, List.map, Nat.reduceAdd, h0]
    exact Np _ trivial
   ·simp only [es_19, e19, ewA, ewL, preC, binI, dvI, shI, cmpB, env, bi, List.headD, List.tail, List.map, Nat.reduceAdd, h0]
theorem ok20 : EntryOK Try.prog G0 e20 := c7ok.entryP mixed ev_20 _ rfl _ rfl fun xs hf hp => by
 match xs, hf with
 | [n], hf =>
   obtain ⟨h0, _⟩ := hf
   simp only [norm_i] at h0
   obtain ⟨p1, p2⟩ := hp
   simp only [ewA, ewL, preC, binI, dvI, shI, cmpB, env, bi, List.headD, List.tail, List.map, Nat.reduceAdd] at p1 p2
   have w0 : IntKind.i64.wrap 0 = 0 := i64w (by decide) (by decide)
   have w2 : IntKind.i64.wrap 2 = 2 := i64w (by decide) (by decide)
   have wM : IntKind.i64.wrap 1099511627776 = 1099511627776 := i64w (by decide) (by decide)
   have d1 : decide (n < 0) = false := by simp; omega
   have d2 : decide (n > 1099511627776) = false := by simp; omega
   refine ⟨?_, ?_, ?_, ?_, trivial⟩
   ·simp only [ob_20, q_20_0, q_20_1, ewA, ewL, preC, binI, dvI, shI, cmpB, env, bi, List.headD, List.tail, List.map, Nat.reduceAdd, h0, w0, w2, wM, d1, d2]; rfl
   ·simp only [es_20, q_20_0, q_20_1, e20, fn20, ewA, ewL, preC, binI, dvI, shI, cmpB, env, bi, List.headD, List.tail, List.map, Nat.reduceAdd, h0]
   ·simp only [es_20, q_20_0, q_20_1, e20, fn20, ewA, ewL, preC, binI, dvI, shI, cmpB, env, bi, List.headD, List.tail, List.map, Nat.reduceAdd, h0]
   ·simp only [es_20, q_20_0, q_20_1, e20, fn20, ewA, ewL, preC, binI, dvI, shI, cmpB, env, bi, List.headD, List.tail, List.map, Nat.reduceAdd, h0]
def delC (l : RL) (c : Int) : Int := l.foldl (fun m r => cd (delR [idR r] (dc m))) c
def fnTo : Nat -> List Int -> Int
 | 0, xs => env xs 0
 | 1, xs => env xs 1
 | _, xs => delC ((dc (env xs 3)).drop (env xs 5).toNat) (env xs 2)
def preTo (xs : List Int) : Prop := env xs 4 = ((dc (env xs 3)).length : Int) /\ 0 <= env xs 5 /\ env xs 5 <= env xs 4 /\ rowsOK tmK (dc (env xs 3)) /\ env xs 4 < cap8
def leTo : LEnt := ⟨⟨9024, 999999, [qo, ltm, i64, i64], [qob], [3], .tup [], fnTo, preTo⟩, [0, 40, 41, 42], [], [9] ++ (List.range 11).map (· + 42), [.ex 1], 63, []⟩
def toB (now t : Int) : Bool := !decide (t < now) && !decide (t > 1099511627776)
def fn24 : Nat -> List Int -> Int
 | 0, xs => bif toB (env xs 0) (env xs 3) then env xs 3 else env xs 0
 | 1, xs => bif toB (env xs 0) (env xs 3) then cd (leftT (env xs 3) (dc (env xs 1))) else env xs 1
 | 2, xs => bif toB (env xs 0) (env xs 3) then delC (dueT (env xs 3) (dc (env xs 1))) (env xs 2) else env xs 2
 | 3, xs => bif toB (env xs 0) (env xs 3) then cd (dueT (env xs 3) (dc (env xs 1))) else cd []
 | _, xs => bif toB (env xs 0) (env xs 3) then 0 else 2
def e24 : Ent := ⟨24, 92, [qo, i64], [qob], [], .tup [ltm, i64], fn24, QIx⟩
def tickT (now : Int) : Int := if now + 1 < 1099511627776 then now + 1 else 1099511627776
def fn16 (j : Nat) (xs : List Int) : Int := fn24 j [env xs 0, env xs 1, env xs 2, tickT (env xs 0)]
def e16 : Ent := ⟨16, 64, [qo], [qob], [], .tup [ltm, i64], fn16, QIx⟩
def c9 : Ctx := ⟨c7.fs, [(92, [true,true,true,true,true,false,true,false], leTo)]⟩
def cA : Ctx := ⟨[e24, e28], []⟩
def q_L24_0 : E := (aX 0 11 [(vX 2), (aI 0 1 [(vX 3), (vI 5), (.lit .x 0)])])
def ob_L24 : E := (.and (.and (.or (.not (.cmp .lss (vI 5) (vI 4))) (.and (.cmp .geq (vI 5) (lI 0)) (.cmp .lss (vI 5) (aI 0 0 [(vX 3)])))) (.or (.not (.cmp .lss (vI 5) (vI 4))) (aB 9024 1000000 [(vI 0), (vX 1), q_L24_0, (vX 3), (vI 4), (.bin .add .i64 (vI 5) (lI 1))]))) (.or (.not (.or (.not (.cmp .lss (vI 5) (vI 4))) (.cmp .lss (vI 5) (vI 4)))) (.ite (.not (.cmp .lss (vI 5) (vI 4))) (.not (.cmp .lss (vI 5) (vI 4))) (.cmp .lss (vI 5) (vI 4)))))
def es_L24 : List E := [(.ite (.not (.cmp .lss (vI 5) (vI 4))) (vI 0) (aI 9024 0 [(vI 0), (vX 1), q_L24_0, (vX 3), (vI 4), (.bin .add .i64 (vI 5) (lI 1))])), (.ite (.not (.cmp .lss (vI 5) (vI 4))) (vX 1) (aX 9024 1 [(vI 0), (vX 1), q_L24_0, (vX 3), (vI 4), (.bin .add .i64 (vI 5) (lI 1))])), (.ite (.not (.cmp .lss (vI 5) (vI 4))) (vX 2) (aX 9024 2 [(vI 0), (vX 1), q_L24_0, (vX 3), (vI 4), (.bin .add .i64 (vI 5) (lI 1))]))]
theorem ev_L24 : evL Try.prog G0 (tabOf c7.fs) (evFn Try.prog G0 (tabOf c7.fs) (ltOf c7.ls) 40 10) 40 (subL c7.ls 92 [true,true,true,true,true,false,true,false]) leTo (bodyAt Try.prog 92 [true,true,true,true,true,false,true,false]) = some (ob_L24, es_L24) := by kernel_rfl
def q_24_0 : E := (.or (.cmp .lss (vI 3) (vI 0)) (.cmp .gtr (vI 3) (lI 1099511627776)))
def q_24_1 : E := (aI 33 0 [(vI 3), (vX 1), (vX 2), (lI 0), (.bin .add .i64 (vI 3) (lI 1))])
def q_24_2 : E := (.and (.cmp .leq (lI 0) q_24_1) (.cmp .leq q_24_1 (aI 0 0 [(vX 1)])))
def q_24_3 : E := (aX 0 5 [(vX 1), (lI 0), q_24_1])
def q_24_4 : E := (aX 29 0 [q_24_3])
def q_24_5 : E := (aI 0 0 [q_24_4])
def q_24_6 : E := (aX 9024 1 [(vI 3), (vX 1), (vX 2), q_24_4, q_24_5, (lI 0)])
def q_24_7 : E := (.not q_24_0)
def q_24_8 : E := (.ite q_24_0 q_24_0 q_24_7)
def ob_24 : E := (.and (.and (aB 28 1000000 [(vI 0), (vX 1), (vX 2)]) (.or q_24_0 (.and (aB 33 1000000 [(vI 3), (vX 1), (vX 2), (lI 0), (.bin .add .i64 (vI 3) (lI 1))]) (.and (.and q_24_2 (.and q_24_2 (aB 29 1000000 [q_24_3]))) (.and (aB 9024 1000000 [(vI 3), (vX 1), (vX 2), q_24_4, q_24_5, (lI 0)]) (aB 34 1000000 [q_24_6, (lI 0), q_24_1])))))) (.and q_24_8 (.and q_24_8 (.or q_24_0 q_24_7))))
def es_24 : List E := [(.ite q_24_0 (vI 0) (aI 9024 0 [(vI 3), (vX 1), (vX 2), q_24_4, q_24_5, (lI 0)])), (.ite q_24_0 (vX 1) (aX 34 0 [q_24_6, (lI 0), q_24_1])), (.ite q_24_0 (vX 2) (aX 9024 2 [(vI 3), (vX 1), (vX 2), q_24_4, q_24_5, (lI 0)])), (.ite q_24_0 (aX 0 2 []) q_24_4), (.ite q_24_0 (lI 2) (lI 0))]
theorem ev_24 : evE Try.prog G0 (tabOf c9.fs) (ltOf c9.ls) 40 10 e24 = some (ob_24, es_24) := by kernel_rfl
def q_16_0 : E := (.ite (.cmp .lss (lI 1099511627776) (.bin .add .i64 (vI 0) (lI 1))) (lI 1099511627776) (.bin .add .i64 (vI 0) (lI 1)))
def ob_16 : E := (.and (aB 28 1000000 [(vI 0), (vX 1), (vX 2)]) (aB 24 1000000 [(vI 0), (vX 1), (vX 2), q_16_0]))
def es_16 : List E := [(aI 24 0 [(vI 0), (vX 1), (vX 2), q_16_0]), (aX 24 1 [(vI 0), (vX 1), (vX 2), q_16_0]), (aX 24 2 [(vI 0), (vX 1), (vX 2), q_16_0]), (aX 24 3 [(vI 0), (vX 1), (vX 2), q_16_0]), (aI 24 4 [(vI 0), (vX 1), (vX 2), q_16_0])]
theorem ev_16 : evE Try.prog G0 (tabOf cA.fs) (ltOf cA.ls) 40 10 e16 = some (ob_16, es_16) := by kernel_rfl
theorem loTo : ItemOK Try.prog G0 92 [true,true,true,true,true,false,true,false] leTo := by
 refine c7ok.loopP mixed (fun xs => (env xs 4 - env xs 5).toNat) rfl ?_ ev_L24 _ rfl _ rfl ?_
 ·exact ⟨_, _, _, Try.func92, rfl, rfl⟩
 intro n xs hf hp hmu
 obtain ⟨l, hl, S, Sp, hF⟩ := self_F leTo (fun xs => (env xs 4 - env xs 5).toNat) n c7.l (by decide)
 rw [hl]
 match xs, hf with
 | [now, tc, mc, c, m, i], hf =>
   obtain ⟨h0, h1, h2, h3, h4, h5, _⟩ := hf
   simp only [norm_i, norm_x] at h0 h4 h5
   obtain ⟨p1, p2, p3, p4, p5⟩ := hp
   simp only [ewA, ewL, preC, binI, dvI, shI, cmpB, env, bi, List.headD, List.tail, List.map, Nat.reduceAdd] at p1 p2 p3 p4 p5 hmu
   unfold cap8 at p5
   have w0 : IntKind.i64.wrap 0 = 0 := i64w (by decide) (by decide)
   have w1 : IntKind.i64.wrap 1 = 1 := i64w (by decide) (by decide)
   have wl : IntKind.i64.wrap ((dc c).length : Int) = ((dc c).length : Int) := i64w (by omega) (by omega)
   have e1 : leTo.ent.fn = fnTo := rfl
   by_cases hlt : i < m
   ·have hs : IntKind.i64.wrap (i + 1) = i + 1 := i64w (by omega) (by omega)
    obtain ⟨r, hr, hm, hd⟩ : ∃ r, (dc c).getD i.toNat [] = r /\ r ∈ dc c /\ (dc c).drop i.toNat = r :: (dc c).drop (i + 1).toNat := by
     have hl : i.toNat < (dc c).length := by omega
     refine ⟨(dc c)[i.toNat], by simp [List.getD, hl], List.getElem_mem hl, ?_⟩
     rw [List.drop_eq_getElem_cons hl, show (i + 1).toNat = i.toNat + 1 by omega]
    have hr0 : IntKind.i64.wrap (r.getD 0 0) = idR r := fits_get (p4 r hm) 0 (.i .i64) rfl
    have nS : i2b (K.b.norm (l.F 9024 1000000 [now, tc, cd (delR [idR r] (dc mc)), c, m, i + 1])) = true :=
     Sp _ ⟨⟨p1, by show 0 <= i + 1; omega, by show i + 1 <= m; omega, p4, by show m < cap8; unfold cap8; omega⟩, by show (m - (i + 1)).toNat < n; omega⟩
    have f0 : l.F 9024 0 [now, tc, cd (delR [idR r] (dc mc)), c, m, i + 1] = now := S 0 rfl _
    have f1 : l.F 9024 1 [now, tc, cd (delR [idR r] (dc mc)), c, m, i + 1] = tc := S 1 rfl _
    have f2 : l.F 9024 2 [now, tc, cd (delR [idR r] (dc mc)), c, m, i + 1] = delC ((dc c).drop (i + 1).toNat) (cd (delR [idR r] (dc mc))) := S 2 rfl _
    have b1 : decide (i >= 0) = true := by simp; omega
    have b2 : decide (i < ((dc c).length : Int)) = true := by simp; omega
    refine ⟨?_, ?_, ?_, ?_, trivial⟩
    ·simp only [ob_L24, q_L24_0, ewA, ewL, preC, binI, dvI, shI, cmpB, env, bi, List.headD, List.tail, List.map, Nat.reduceAdd, h0, h4, h5, w0, w1, wl, hs, hr, hr0, nS, b1, b2, hlt, decide_true]; rfl
    ·simp only [es_L24, q_L24_0, ewA, ewL, preC, binI, dvI, shI, cmpB, env, bi, List.headD, List.tail, List.map, Nat.reduceAdd, h0, h4, h5, w1, hs, hr, hr0, f0, hlt, decide_true, e1, fnTo]; rfl
    ·simp only [es_L24, q_L24_0, ewA, ewL, preC, binI, dvI, shI, cmpB, env, bi, List.headD, List.tail, List.map, Nat.reduceAdd, h0, h4, h5, w1, hs, hr, hr0, f1, hlt, decide_true, e1, fnTo]; rfl
    ·simp only [es_L24, q_L24_0, ewA, ewL, preC, binI, dvI, shI, cmpB, env, bi, List.headD, List.tail, List.map, Nat.reduceAdd, h0, h4, h5, w1, hs, hr, hr0, f2, hlt, decide_true, e1, fnTo, hd]; rfl
   ·have hd : (dc c).drop i.toNat = [] := List.drop_of_length_le (by omega)
    refine ⟨?_, ?_, ?_, ?_, trivial⟩
    ·simp only [ob_L24, q_L24_0, ewA, ewL, preC, binI, dvI, shI, cmpB, env, bi, List.headD, List.tail, List.map, Nat.reduceAdd, h0, h4, h5, hlt, decide_false]; rfl
    ·simp only [es_L24, q_L24_0, ewA, ewL, preC, binI, dvI, shI, cmpB, env, bi, List.headD, List.tail, List.map, Nat.reduceAdd, h0, h4, h5, hlt, decide_false, e1, fnTo]; rfl
    ·simp only [es_L24, q_L24_0, ewA, ewL, preC, binI, dvI, shI, cmpB, env, bi, List.headD, List.tail, List.map, Nat.reduceAdd, h0, h4, h5, hlt, decide_false, e1, fnTo]; rfl
    ·simp only [es_L24, q_L24_0, ewA, ewL, preC, binI, dvI, shI, cmpB, env, bi, List.headD, List.tail, List.map, Nat.reduceAdd, h0, h4, h5, hlt, decide_false, e1, fnTo, hd]; rfl
theorem dc_delC : ∀ (l : RL) (c : Int), dc (delC l c) = delAll l (dc c)
 | [], _ => rfl
 | r :: l, c => by
   show dc (delC l (cd (delR [idR r] (dc c)))) = delAll l (delR [idR r] (dc c))
   rw [dc_delC l, dc_cd]
theorem ok24 : EntryOK Try.prog G0 e24 := (c7ok.addL loTo rfl).entryP mixed ev_24 _ rfl _ rfl fun xs hf hp => by
 obtain ⟨l, hl, hF⟩ := ctx_F (l0 := c9.l)
 show ob_24.tt c9.l.F _ = true /\ outsP _ _ c9.l.F _ _ _ _
 rw [hl]
 match xs, hf with
 | [now, tc, mc, t], hf =>
   obtain ⟨h0, h1, h2, h3, _⟩ := hf
   simp only [norm_i] at h0 h3
   have hq : QI now (dc tc) (dc mc) := hp
   obtain ⟨S, Sp⟩ := hF leTo.ent (by rfl) (by decide)
   obtain ⟨_, Np⟩ := hF e28 (by rfl) (by decide)
   obtain ⟨U, Up⟩ := hF e33 (by rfl) (by decide)
   obtain ⟨D, Dp⟩ := hF (deleteE 34) (by rfl) (by decide)
   obtain ⟨C, Cp⟩ := hF (cloneE 29) (by rfl) (by decide)
   have hlen := hq.len
   have htm := hq.tim
   have n28 : ∀ xs, i2b (K.b.norm (l.F 28 1000000 xs)) = true := fun xs => Np xs trivial
   have w0 : IntKind.i64.wrap 0 = 0 := i64w (by decide) (by decide)
   have w1 : IntKind.i64.wrap 1 = 1 := i64w (by decide) (by decide)
   have w2 : IntKind.i64.wrap 2 = 2 := i64w (by decide) (by decide)
   have wM : IntKind.i64.wrap 1099511627776 = 1099511627776 := i64w (by decide) (by decide)
   have wl : IntKind.i64.wrap ((dc tc).length : Int) = ((dc tc).length : Int) := i64w (by omega) (by omega)
   have hc : (decide (t < now) || decide (t > 1099511627776)) = !toB now t := by
    unfold toB; cases decide (t < now) <;> cases decide (t > 1099511627776) <;> rfl
   cases hb : toB now t
   ·have hc' : (decide (t < now) || decide (t > 1099511627776)) = true := by rw [hc, hb]; rfl
    refine ⟨?_, ?_, ?_, ?_, ?_, ?_, trivial⟩
    ·simp only [ob_24, q_24_0, q_24_1, q_24_2, q_24_3, q_24_4, q_24_5, q_24_6, q_24_7, q_24_8, ewA, ewL, preC, binI, dvI, shI, cmpB, env, bi, List.headD, List.tail, List.map, Nat.reduceAdd, h0, h3, n28, wM, hc']; rfl
    ·simp only [es_24, q_24_0, q_24_1, q_24_2, q_24_3, q_24_4, q_24_5, q_24_6, q_24_7, q_24_8, e24, fn24, ewA, ewL, preC, binI, dvI, shI, cmpB, env, bi, List.headD, List.tail, List.map, Nat.reduceAdd, h0, h3, wM, hc', hb, cond_true, cond_false]
    ·simp only [es_24, q_24_0, q_24_1, q_24_2, q_24_3, q_24_4, q_24_5, q_24_6, q_24_7, q_24_8, e24, fn24, ewA, ewL, preC, binI, dvI, shI, cmpB, env, bi, List.headD, List.tail, List.map, Nat.reduceAdd, h0, h3, wM, hc', hb, cond_true, cond_false]
    ·simp only [es_24, q_24_0, q_24_1, q_24_2, q_24_3, q_24_4, q_24_5, q_24_6, q_24_7, q_24_8, e24, fn24, ewA, ewL, preC, binI, dvI, shI, cmpB, env, bi, List.headD, List.tail, List.map, Nat.reduceAdd, h0, h3, wM, hc', hb, cond_true, cond_false]
    ·simp only [es_24, q_24_0, q_24_1, q_24_2, q_24_3, q_24_4, q_24_5, q_24_6, q_24_7, q_24_8, e24, fn24, ewA, ewL, preC, binI, dvI, shI, cmpB, env, bi, List.headD, List.tail, List.map, Nat.reduceAdd, h0, h3, wM, hc', hb, cond_true, cond_false]
    ·simp only [es_24, q_24_0, q_24_1, q_24_2, q_24_3, q_24_4, q_24_5, q_24_6, q_24_7, q_24_8, e24, fn24, ewA, ewL, preC, binI, dvI, shI, cmpB, env, bi, List.headD, List.tail, List.map, Nat.reduceAdd, h0, h3, wM, w2, hc', hb, cond_true, cond_false]
   ·have hc' : (decide (t < now) || decide (t > 1099511627776)) = false := by rw [hc, hb]; rfl
    have ht : now <= t /\ t <= 1099511627776 := by simpa using hc'
    have wt : IntKind.i64.wrap (t + 1) = t + 1 := i64w (by omega) (by omega)
    obtain ⟨k, hk⟩ : ∃ k, k = cnt (dc tc) [0, t + 1] := ⟨_, rfl⟩
    obtain ⟨hs1, hs2⟩ := hq.split t
    rw [<- hk] at hs1 hs2
    have hkl : k <= (dc tc).length := hk ▸ cnt_le _ _
    have wk : IntKind.i64.wrap (k : Int) = (k : Int) := i64w (by omega) (by omega)
    have n33 : i2b (K.b.norm (l.F 33 1000000 [t, tc, mc, 0, t + 1])) = true := Up _ ⟨hq.srt, hq.row, by show ((dc tc).length : Int) < cap8; unfold cap8; omega⟩
    have f33 : l.F 33 0 [t, tc, mc, 0, t + 1] = (k : Int) := by rw [hk]; exact U 0 rfl _
    have hdl : (dueT t (dc tc)).length <= (dc tc).length := List.length_filter_le _ _
    have f29 : l.F 29 0 [cd (dueT t (dc tc))] = cd (dueT t (dc tc)) := C 0 rfl _
    have n29 : i2b (K.b.norm (l.F 29 1000000 [cd (dueT t (dc tc))])) = true := Cp _ (by show ((dc (cd (dueT t (dc tc)))).length : Int) < cap8; rw [dc_cd]; unfold cap8; omega)
    obtain ⟨L, hL⟩ : ∃ L, L = (dueT t (dc tc)).length := ⟨_, rfl⟩
    rw [<- hL] at hdl
    have wL : IntKind.i64.wrap (L : Int) = (L : Int) := i64w (by omega) (by omega)
    have nTo : i2b (K.b.norm (l.F 9024 1000000 [t, tc, mc, cd (dueT t (dc tc)), (L : Int), 0])) = true :=
     Sp _ ⟨by show (L : Int) = ((dc (cd (dueT t (dc tc)))).length : Int); rw [dc_cd, hL], by show (0 : Int) <= 0; omega, by show (0 : Int) <= (L : Int); omega, by show rowsOK tmK (dc (cd (dueT t (dc tc)))); rw [dc_cd]; exact fun r hr => hq.row r (List.mem_filter.1 hr).1, by show (L : Int) < cap8; unfold cap8; omega⟩
    have g0 : l.F 9024 0 [t, tc, mc, cd (dueT t (dc tc)), (L : Int), 0] = t := S 0 rfl _
    have g1 : l.F 9024 1 [t, tc, mc, cd (dueT t (dc tc)), (L : Int), 0] = tc := S 1 rfl _
    have g2 : l.F 9024 2 [t, tc, mc, cd (dueT t (dc tc)), (L : Int), 0] = delC (dueT t (dc tc)) mc := by
     refine (S 2 rfl _).trans ?_
     show delC ((dc (cd (dueT t (dc tc)))).drop (0 : Int).toNat) mc = _
     rw [dc_cd]; rfl
    have n34 : i2b (K.b.norm (l.F 34 1000000 [tc, 0, (k : Int)])) = true := Dp _ ⟨by show (0 : Int) <= 0; omega, by show (0 : Int) <= (k : Int); omega, by show (k : Int) <= ((dc tc).length : Int); omega⟩
    have f34 : l.F 34 0 [tc, 0, (k : Int)] = cd (leftT t (dc tc)) := by
     rw [<- hs2]
     refine (D 0 rfl _).trans ?_
     show cd ((dc tc).take (0 : Int).toNat ++ (dc tc).drop ((k : Int)).toNat) = _
     rw [Int.toNat_natCast]; rfl
    have b1 : decide ((0 : Int) <= (k : Int)) = true := by simp
    have b2 : decide ((k : Int) <= ((dc tc).length : Int)) = true := by simp; omega
    have hlc : ((dc (cd (dueT t (dc tc)))).length : Int) = (L : Int) := by rw [dc_cd, hL]
    refine ⟨?_, ?_, ?_, ?_, ?_, ?_, trivial⟩
    ·simp only [ob_24, q_24_0, q_24_1, q_24_2, q_24_3, q_24_4, q_24_5, q_24_6, q_24_7, q_24_8, ewA, ewL, preC, binI, dvI, shI, cmpB, env, bi, List.headD, List.tail, List.map, Nat.reduceAdd, h0, h3, n28, wM, w0, w1, wt, hc', n33, f33, wk, List.drop_zero, hs1, f29, n29, <- hL, wL, nTo, g1, n34, wl, b1, b2]; rfl
    ·simp only [es_24, q_24_0, q_24_1, q_24_2, q_24_3, q_24_4, q_24_5, q_24_6, q_24_7, q_24_8, e24, fn24, ewA, ewL, preC, binI, dvI, shI, cmpB, env, bi, List.headD, List.tail, List.map, Nat.reduceAdd, h0, h3, wM, w0, w1, wt, hc', hb, f33, wk, List.drop_zero, hs1, f29, <- hL, wL, g0, cond_true, cond_false]
    ·simp only [es_24, q_24_0, q_24_1, q_24_2, q_24_3, q_24_4, q_24_5, q_24_6, q_24_7, q_24_8, e24, fn24, ewA, ewL, preC, binI, dvI, shI, cmpB, env, bi, List.headD, List.tail, List.map, Nat.reduceAdd, h0, h3, wM, w0, w1, wt, hc', hb, f33, wk, List.drop_zero, hs1, f29, <- hL, wL, g1, f34, cond_true, cond_false]
    ·simp only [es_24, q_24_0, q_24_1, q_24_2, q_24_3, q_24_4, q_24_5, q_24_6, q_24_7, q_24_8, e24, fn24, ewA, ewL, preC, binI, dvI, shI, cmpB, env, bi, List.headD, List.tail, List.map, Nat.reduceAdd, h0, h3, wM, w0, w1, wt, hc', hb, f33, wk, List.drop_zero, hs1, f29, <- hL, wL, g2, cond_true, cond_false]
    ·simp only [es_24, q_24_0, q_24_1, q_24_2, q_24_3, q_24_4, q_24_5, q_24_6, q_24_7, q_24_8, e24, fn24, ewA, ewL, preC, binI, dvI, shI, cmpB, env, bi, List.headD, List.tail, List.map, Nat.reduceAdd, h0, h3, wM, w0, w1, wt, hc', hb, f33, wk, List.drop_zero, hs1, f29, cond_true, cond_false]
    ·simp only [es_24, q_24_0, q_24_1, q_24_2, q_24_3, q_24_4, q_24_5, q_24_6, q_24_7, q_24_8, e24, fn24, ewA, ewL, preC, binI, dvI, shI, cmpB, env, bi, List.headD, List.tail, List.map, Nat.reduceAdd, h0, h3, wM, w0, w2, hc', hb, cond_true, cond_false]
theorem cAok : cA.OK Try.prog G0 := (c7ok.addF ok24 rfl).sub rfl (by simp [cA, c7]) (by simp [cA])
theorem ok16 : EntryOK Try.prog G0 e16 := cAok.entryP mixed ev_16 _ rfl _ rfl fun xs hf hp => by
 obtain ⟨l, hl, hF⟩ := ctx_F (l0 := cA.l)
 obtain ⟨S, Sp⟩ := hF e24 (by rfl) (by decide)
 obtain ⟨_, Np⟩ := hF e28 (by rfl) (by decide)
 rw [hl]
 match xs, hf with
 | [now, tc, mc], hf =>
   obtain ⟨h0, h1, h2, _⟩ := hf
   simp only [norm_i] at h0
   have hq : QI now (dc tc) (dc mc) := hp
   have htm := hq.tim
   have n28 : ∀ xs, i2b (K.b.norm (l.F 28 1000000 xs)) = true := fun xs => Np xs trivial
   have w1 : IntKind.i64.wrap 1 = 1 := i64w (by decide) (by decide)
   have wM : IntKind.i64.wrap 1099511627776 = 1099511627776 := i64w (by decide) (by decide)
   have wn : IntKind.i64.wrap (now + 1) = now + 1 := i64w (by omega) (by omega)
   have hn : (bif decide (1099511627776 < now + 1) then 1099511627776 else now + 1) = tickT now := by
    unfold tickT
    by_cases h : 1099511627776 < now + 1
    ·rw [if_neg (by omega)]; simp [h]
    ·by_cases g : now + 1 < 1099511627776
     ·rw [if_pos g]; simp [h]
     ·rw [if_neg g]; simp [h]; omega
   have n24 : i2b (K.b.norm (l.F 24 1000000 [now, tc, mc, tickT now])) = true := Sp _ hp
   have f : ∀ j, (j == preC) = false -> l.F 24 j [now, tc, mc, tickT now] = fn24 j [now, tc, mc, tickT now] := fun j hj => S j hj _
   have e : ∀ j, fn16 j [now, tc, mc] = fn24 j [now, tc, mc, tickT now] := fun j => rfl
   refine ⟨?_, ?_, ?_, ?_, ?_, ?_, trivial⟩
   ·simp only [ob_16, q_16_0, ewA, ewL, preC, binI, dvI, shI, cmpB, env, bi, List.headD, List.tail, List.map, Nat.reduceAdd, h0, w1, wM, wn, hn, n28, n24]; rfl
   ·simp only [es_16, q_16_0, e16, e, ewA, ewL, preC, binI, dvI, shI, cmpB, env, bi, List.headD, List.tail, List.map, Nat.reduceAdd, h0, w1, wM, wn, hn, f 0 rfl]
   ·simp only [es_16, q_16_0, e16, e, ewA, ewL, preC, binI, dvI, shI, cmpB, env, bi, List.headD, List.tail, List.map, Nat.reduceAdd, h0, w1, wM, wn, hn, f 1 rfl]
   ·simp only [es_16, q_16_0, e16, e, ewA, ewL, preC, binI, dvI, shI, cmpB, env, bi, List.headD, List.tail, List.map, Nat.reduceAdd, h0, w1, wM, wn, hn, f 2 rfl]
   ·simp only [es_16, q_16_0, e16, e, ewA, ewL, preC, binI, dvI, shI, cmpB, env, bi, List.headD, List.tail, List.map, Nat.reduceAdd, h0, w1, wM, wn, hn, f 3 rfl]
   ·simp only [es_16, q_16_0, e16, e, ewA, ewL, preC, binI, dvI, shI, cmpB, env, bi, List.headD, List.tail, List.map, Nat.reduceAdd, h0, w1, wM, wn, hn, f 4 rfl]
end
end Go.Proofs.Ytfhheeoejncfgaa.Ew.Q
namespace Go.Proofs.Ytfhheeoejncfgaa.Ew
open Go Go.RowKit
noncomputable section
def rowsOK (ks : List K) (l : RL) : Prop := ∀ r ∈ l, fits ks r
theorem row_at {ks : List K} {c i : Int} (h : rowsOK ks (dc c)) (h0 : 0 <= i) (h1 : i < ((dc c).length : Int)) : ∃ r, (dc c).getD i.toNat [] = r /\ fits ks r /\ r ∈ dc c /\ (dc c).drop i.toNat = r :: (dc c).drop (i + 1).toNat := by
 have hl : i.toNat < (dc c).length := by omega
 refine ⟨(dc c)[i.toNat], by simp [List.getD, hl], h _ (List.getElem_mem hl), List.getElem_mem hl, ?_⟩
 rw [List.drop_eq_getElem_cons hl, show (i + 1).toNat = i.toNat + 1 by omega]
theorem two_of {xs : List Int} (h : xs.length = 2) : ∃ a b, xs = [a, b] := by
 match xs, h with
 | [a, b], _ => exact ⟨a, b, rfl⟩
def gC (T : RL) (i j : Nat) : Int := (T.getD i []).getD j 0
def setC (T : RL) (i j : Nat) (vs : List Int) : RL := T.set i (splR (T.getD i []) j vs)
theorem setC_len (T : RL) (i j : Nat) (vs : List Int) : (setC T i j vs).length = T.length := by simp [setC]
theorem setC_row (T : RL) {i : Nat} (a j : Nat) (vs : List Int) (hi : i < T.length) : (setC T i j vs).getD a [] = if a = i then splR (T.getD i []) j vs else T.getD a [] := by
 unfold setC
 simp only [List.getD_eq_getElem?_getD, List.getElem?_set]
 by_cases h : a = i
 ·subst h; simp [hi]
 ·have h' : ¬ i = a := fun e => h e.symm
  simp [h, h']
theorem splR_len {r vs : List Int} {j : Nat} (h : j + vs.length <= r.length) : (splR r j vs).length = r.length := by
 unfold splR; simp; omega
theorem splR_get {r vs : List Int} {j : Nat} (h : j + vs.length <= r.length) (b : Nat) : (splR r j vs).getD b 0 = if b < j then r.getD b 0 else if b < j + vs.length then vs.getD (b - j) 0 else r.getD b 0 := by
 unfold splR
 simp only [List.getD_eq_getElem?_getD]
 by_cases h1 : b < j
 ·rw [if_pos h1, List.append_assoc, List.getElem?_append_left (by simp; omega), List.getElem?_take, if_pos h1]
 ·rw [if_neg h1]
  by_cases h2 : b < j + vs.length
  ·rw [if_pos h2, List.append_assoc, List.getElem?_append_right (by simp; omega), List.getElem?_append_left (by simp; omega)]
   congr 2; simp; omega
  ·rw [if_neg h2, List.getElem?_append_right (by simp; omega), List.getElem?_drop]
   congr 2; simp; omega
theorem gC_set {T : RL} {i j : Nat} {vs : List Int} (hi : i < T.length) (hj : j + vs.length <= (T.getD i []).length) (a b : Nat) :
 gC (setC T i j vs) a b = if a = i /\ j <= b /\ b < j + vs.length then vs.getD (b - j) 0 else gC T a b := by
 unfold gC
 rw [setC_row T a j vs hi]
 by_cases h : a = i
 ·subst h
  rw [if_pos rfl, splR_get hj]
  by_cases h1 : b < j
  ·rw [if_pos h1, if_neg (by omega)]
  ·rw [if_neg h1]
   by_cases h2 : b < j + vs.length
   ·rw [if_pos h2, if_pos ⟨rfl, by omega, h2⟩]
   ·rw [if_neg h2, if_neg (by omega)]
 ·rw [if_neg h, if_neg (by omega)]
theorem gC_set1 {T : RL} {i j : Nat} {v : Int} (hi : i < T.length) (hj : j < (T.getD i []).length) (a b : Nat) :
 gC (setC T i j [v]) a b = if a = i /\ b = j then v else gC T a b := by
 rw [gC_set hi (by simp only [List.length_cons, List.length_nil]; omega)]
 by_cases h : a = i /\ b = j
 ·rw [if_pos h, if_pos ⟨h.1, by omega, by simp; omega⟩, h.2]; simp
 ·rw [if_neg h, if_neg]
  simp only [List.length_cons, List.length_nil]; omega
def Wid (T : RL) (n w : Nat) : Prop := T.length = n /\ ∀ i < n, (T.getD i []).length = w
theorem Wid.set {T : RL} {n w i j : Nat} {vs : List Int} (h : Wid T n w) (hi : i < n) (hj : j + vs.length <= w) : Wid (setC T i j vs) n w := by
 obtain ⟨h1, h2⟩ := h
 refine ⟨by rw [setC_len, h1], fun a ha => ?_⟩
 rw [setC_row T a j vs (by omega)]
 split
 ·rw [splR_len (by rw [h2 i hi]; exact hj), h2 i hi]
 ·exact h2 a ha
theorem Wid.c {T : RL} {n w i j : Nat} {vs : List Int} (h : Wid T n w) (hi : i < n) (hj : j + vs.length <= w) (a b : Nat) : gC (setC T i j vs) a b = if a = i /\ j <= b /\ b < j + vs.length then vs.getD (b - j) 0 else gC T a b :=
 gC_set (by rw [h.1]; exact hi) (by rw [h.2 i hi]; exact hj) a b
theorem Wid.c1 {T : RL} {n w i j : Nat} {v : Int} (h : Wid T n w) (hi : i < n) (hj : j < w) (a b : Nat) : gC (setC T i j [v]) a b = if a = i /\ b = j then v else gC T a b :=
 gC_set1 (by rw [h.1]; exact hi) (by rw [h.2 i hi]; exact hj) a b
def headP : List Nat -> Int
 | [] => 0
 | a :: _ => (a : Int) + 1
def lastP (l : List Nat) : Int := headP l.reverse
theorem lastP_snoc (l : List Nat) (a : Nat) : lastP (l ++ [a]) = (a : Int) + 1 := by simp [lastP, headP]
theorem lastP_nil : lastP [] = 0 := rfl
theorem snoc_cases (l : List Nat) : l = [] \/ ∃ m a, l = m ++ [a] := by
 rcases List.eq_nil_or_concat l with h | ⟨m, a, h⟩
 ·exact Or.inl h
 ·exact Or.inr ⟨m, a, by rw [h]; simp⟩
def uQ (Q : Nat -> List Nat) (k : Nat) (l : List Nat) : Nat -> List Nat := fun m => if m = k then l else Q m
theorem uQ_same (Q : Nat -> List Nat) (k : Nat) (l : List Nat) : uQ Q k l k = l := if_pos rfl
theorem uQ_ne (Q : Nat -> List Nat) {k m : Nat} (l : List Nat) (h : m ≠ k) : uQ Q k l m = Q m := if_neg h
structure Lk (T S : RL) (Q : Nat -> List Nat) (cap : Nat) : Prop where
 tw : Wid T cap 5
 sw : Wid S 2049 3
 qc : ∀ k, ∀ i ∈ Q k, i < cap
 qk : ∀ k, 2049 <= k -> Q k = []
 nd : ∀ k, (Q k).Nodup
 dj : ∀ k m i, i ∈ Q k -> i ∈ Q m -> k = m
 hd : ∀ k < 2049, gC S k 0 = headP (Q k) /\ gC S k 1 = lastP (Q k) /\ gC S k 2 = ((Q k).length : Int)
 ch : ∀ k A i B, Q k = A ++ i :: B -> gC T i 2 = lastP A /\ gC T i 3 = headP B
def dropT (T : RL) (i : Nat) : RL :=
 let p := gC T i 2
 let n := gC T i 3
 let T1 := if 0 < p then setC T (p - 1).toNat 3 [n] else T
 let T2 := if 0 < n then setC T1 (n - 1).toNat 2 [p] else T1
 setC T2 i 0 [0, 0, 0, 0, 0]
def dropS (S : RL) (k : Nat) (p n : Int) : RL :=
 let S1 := if 0 < p then S else setC S k 0 [n]
 let S2 := if 0 < n then S1 else setC S1 k 1 [p]
 setC S2 k 2 [gC S2 k 2 - 1]
theorem Lk.q_lt {T S : RL} {Q : Nat -> List Nat} {cap k i : Nat} (h : Lk T S Q cap) (hi : i ∈ Q k) : k < 2049 := by
 by_cases hk : k < 2049
 ·exact hk
 ·rw [h.qk k (by omega)] at hi; cases hi
theorem dropT_spec {T S : RL} {Q : Nat -> List Nat} {cap k i : Nat} {A B : List Nat} (h : Lk T S Q cap) (hq : Q k = A ++ i :: B) :
 Wid (dropT T i) cap 5 /\ ∀ y j, gC (dropT T i) y j = if y = i /\ j < 5 then 0 else if lastP A = (y : Int) + 1 /\ j = 3 then headP B else if headP B = (y : Int) + 1 /\ j = 2 then lastP A else gC T y j := by
 obtain ⟨c1, c2⟩ := h.ch k A i B hq
 have hic : i < cap := h.qc k i (by rw [hq]; simp)
 have hA : ∀ a ∈ A, a < cap := fun a ha => h.qc k a (by rw [hq]; simp [ha])
 have hB : ∀ a ∈ B, a < cap := fun a ha => h.qc k a (by rw [hq]; simp [ha])
 have hnd := h.nd k
 rw [hq] at hnd
 have hpA : lastP A = 0 \/ ∃ a, a ∈ A /\ lastP A = (a : Int) + 1 := by
  rcases snoc_cases A with rfl | ⟨m, a, rfl⟩
  ·exact Or.inl rfl
  ·exact Or.inr ⟨a, by simp, lastP_snoc m a⟩
 have hpB : headP B = 0 \/ ∃ a, a ∈ B /\ headP B = (a : Int) + 1 := by
  cases B with
  | nil => exact Or.inl rfl
  | cons b r => exact Or.inr ⟨b, by simp, rfl⟩
 obtain ⟨T1, e1⟩ : ∃ T1, T1 = if 0 < lastP A then setC T (lastP A - 1).toNat 3 [headP B] else T := ⟨_, rfl⟩
 have s1 : Wid T1 cap 5 /\ ∀ y j, gC T1 y j = if lastP A = (y : Int) + 1 /\ j = 3 then headP B else gC T y j := by
  rw [e1]
  rcases hpA with e | ⟨a, ha, e⟩
  ·rw [e, if_neg (by decide)]
   exact ⟨h.tw, fun y j => by rw [if_neg (by omega)]⟩
  ·rw [e, if_pos (by omega), show ((a : Int) + 1 - 1).toNat = a by omega]
   refine ⟨h.tw.set (hA a ha) (by simp), fun y j => ?_⟩
   rw [h.tw.c1 (hA a ha) (by decide)]
   by_cases hy : y = a /\ j = 3
   ·rw [if_pos hy, if_pos (by omega)]
   ·rw [if_neg hy, if_neg (by omega)]
 obtain ⟨T2, e2⟩ : ∃ T2, T2 = if 0 < headP B then setC T1 (headP B - 1).toNat 2 [lastP A] else T1 := ⟨_, rfl⟩
 have s2 : Wid T2 cap 5 /\ ∀ y j, gC T2 y j = if headP B = (y : Int) + 1 /\ j = 2 then lastP A else gC T1 y j := by
  rw [e2]
  rcases hpB with e | ⟨a, ha, e⟩
  ·rw [e, if_neg (by decide)]
   exact ⟨s1.1, fun y j => by rw [if_neg (by omega)]⟩
  ·rw [e, if_pos (by omega), show ((a : Int) + 1 - 1).toNat = a by omega]
   refine ⟨s1.1.set (hB a ha) (by simp), fun y j => ?_⟩
   rw [s1.1.c1 (hB a ha) (by decide)]
   by_cases hy : y = a /\ j = 2
   ·rw [if_pos hy, if_pos (by omega)]
   ·rw [if_neg hy, if_neg (by omega)]
 have e3 : dropT T i = setC T2 i 0 [0, 0, 0, 0, 0] := by
  unfold dropT
  simp only [c1, c2]
  rw [e2, e1]
 rw [e3]
 refine ⟨s2.1.set hic (by simp), fun y j => ?_⟩
 rw [s2.1.c hic (by simp)]
 by_cases hy : y = i /\ j < 5
 ·rw [if_pos (by simpa using hy), if_pos hy]
  match j, hy.2 with
  | 0, _ | 1, _ | 2, _ | 3, _ | 4, _ => rfl
 ·rw [if_neg (by simpa using hy), if_neg hy, s2.2, s1.2]
  by_cases g1 : headP B = (y : Int) + 1 /\ j = 2
  ·rw [if_pos g1, if_neg (by omega), if_pos g1]
  ·rw [if_neg g1]
   by_cases g2 : lastP A = (y : Int) + 1 /\ j = 3
   ·rw [if_pos g2, if_pos g2]
   ·rw [if_neg g2, if_neg g2, if_neg g1]
theorem dropS_spec {S : RL} {k : Nat} {p n : Int} (h : Wid S 2049 3) (hk : k < 2049) (hp : 0 <= p) (hn : 0 <= n) :
 Wid (dropS S k p n) 2049 3 /\ ∀ m j, gC (dropS S k p n) m j = if m = k /\ j = 2 then gC S k 2 - 1 else if m = k /\ j = 1 /\ n = 0 then p else if m = k /\ j = 0 /\ p = 0 then n else gC S m j := by
 obtain ⟨S1, e1⟩ : ∃ S1, S1 = if 0 < p then S else setC S k 0 [n] := ⟨_, rfl⟩
 have s1 : Wid S1 2049 3 /\ ∀ m j, gC S1 m j = if m = k /\ j = 0 /\ p = 0 then n else gC S m j := by
  rw [e1]
  by_cases hp0 : 0 < p
  ·rw [if_pos hp0]
   exact ⟨h, fun m j => by rw [if_neg (by omega)]⟩
  ·rw [if_neg hp0]
   refine ⟨h.set hk (by simp), fun m j => ?_⟩
   rw [h.c1 hk (by decide)]
   by_cases g : m = k /\ j = 0
   ·rw [if_pos g, if_pos (by omega)]
   ·rw [if_neg g, if_neg (by omega)]
 obtain ⟨S2, e2⟩ : ∃ S2, S2 = if 0 < n then S1 else setC S1 k 1 [p] := ⟨_, rfl⟩
 have s2 : Wid S2 2049 3 /\ ∀ m j, gC S2 m j = if m = k /\ j = 1 /\ n = 0 then p else gC S1 m j := by
  rw [e2]
  by_cases hn0 : 0 < n
  ·rw [if_pos hn0]
   exact ⟨s1.1, fun m j => by rw [if_neg (by omega)]⟩
  ·rw [if_neg hn0]
   refine ⟨s1.1.set hk (by simp), fun m j => ?_⟩
   rw [s1.1.c1 hk (by decide)]
   by_cases g : m = k /\ j = 1
   ·rw [if_pos g, if_pos (by omega)]
   ·rw [if_neg g, if_neg (by omega)]
 have e3 : dropS S k p n = setC S2 k 2 [gC S2 k 2 - 1] := by
  unfold dropS
  rw [e2, e1]
 rw [e3]
 refine ⟨s2.1.set hk (by simp), fun m j => ?_⟩
 rw [s2.1.c1 hk (by decide)]
 by_cases g : m = k /\ j = 2
 ·rw [if_pos g, if_pos g, s2.2, if_neg (by omega), s1.2, if_neg (by omega)]
 ·rw [if_neg g, if_neg g, s2.2, s1.2]
theorem headP_nonneg (l : List Nat) : 0 <= headP l := by cases l <;> simp [headP]; omega
theorem lastP_nonneg (l : List Nat) : 0 <= lastP l := headP_nonneg _
theorem headP_mem {l : List Nat} {y : Nat} (h : headP l = (y : Int) + 1) : y ∈ l := by
 cases l with
 | nil => simp [headP] at h; omega
 | cons a r => simp only [headP] at h; have : a = y := by omega
               subst this; simp
theorem lastP_mem {l : List Nat} {y : Nat} (h : lastP l = (y : Int) + 1) : y ∈ l := by
 have := headP_mem h
 simpa using this
theorem headP_app {A : List Nat} (B : List Nat) (h : A ≠ []) : headP (A ++ B) = headP A := by
 cases A with
 | nil => exact absurd rfl h
 | cons a r => rfl
theorem lastP_app (A : List Nat) {B : List Nat} (h : B ≠ []) : lastP (A ++ B) = lastP B := by
 rcases snoc_cases B with rfl | ⟨m, a, rfl⟩
 ·exact absurd rfl h
 ·rw [<- List.append_assoc, lastP_snoc, lastP_snoc]
theorem lastP_cons (i : Nat) {B : List Nat} (h : B ≠ []) : lastP (i :: B) = lastP B := lastP_app [i] h
theorem headP_zero {l : List Nat} : headP l = 0 ↔ l = [] := by
 cases l with
 | nil => simp [headP]
 | cons a r => simp [headP]; omega
theorem lastP_zero {l : List Nat} : lastP l = 0 ↔ l = [] := by
 unfold lastP; rw [headP_zero]; simp
theorem Lk.drop {T S : RL} {Q : Nat -> List Nat} {cap k i : Nat} {A B : List Nat} (h : Lk T S Q cap) (hq : Q k = A ++ i :: B) :
 Lk (dropT T i) (dropS S k (gC T i 2) (gC T i 3)) (uQ Q k (A ++ B)) cap := by
 obtain ⟨t1, t2⟩ := dropT_spec h hq
 obtain ⟨c1, c2⟩ := h.ch k A i B hq
 have hk := h.q_lt (k := k) (i := i) (by rw [hq]; simp)
 obtain ⟨s1, s2⟩ := dropS_spec h.sw hk (p := gC T i 2) (n := gC T i 3) (by rw [c1]; exact lastP_nonneg _) (by rw [c2]; exact headP_nonneg _)
 have hnd := h.nd k
 rw [hq] at hnd
 obtain ⟨n1, n2, n3⟩ := List.nodup_append.1 hnd
 obtain ⟨n4, n5⟩ := List.nodup_cons.1 n2
 have hiA : i ∉ A := fun hA => n3 i hA i (by simp) rfl
 have hAB : ∀ x, x ∈ A -> x ∈ B -> False := fun x hA hB => n3 x hA x (by simp [hB]) rfl
 have q2 : ∀ y, y ≠ i -> gC (dropT T i) y 2 = if headP B = (y : Int) + 1 then lastP A else gC T y 2 := fun y hy => by rw [t2]; simp [hy]
 have q3 : ∀ y, y ≠ i -> gC (dropT T i) y 3 = if lastP A = (y : Int) + 1 then headP B else gC T y 3 := fun y hy => by rw [t2]; simp [hy]
 have sub : ∀ m x, x ∈ uQ Q k (A ++ B) m -> x ∈ Q m /\ x ≠ i := fun m x hx => by
  by_cases hm : m = k
  ·subst hm
   rw [uQ_same] at hx
   rcases List.mem_append.1 hx with hx | hx
   ·exact ⟨by rw [hq]; simp [hx], fun e => hiA (e ▸ hx)⟩
   ·exact ⟨by rw [hq]; simp [hx], fun e => n4 (e ▸ hx)⟩
  ·rw [uQ_ne Q _ hm] at hx
   exact ⟨hx, fun e => hm (h.dj m k i (e ▸ hx) (by rw [hq]; simp))⟩
 refine ⟨t1, s1, fun m x hx => h.qc m x (sub m x hx).1, fun m hm => ?_, fun m => ?_, fun m m' x h1 h2 => h.dj _ _ x (sub m x h1).1 (sub m' x h2).1, fun m hm => ?_, fun m A' y B' hy => ?_⟩
 ·rw [uQ_ne Q _ (by omega)]; exact h.qk m hm
 ·by_cases hm : m = k
  ·subst hm
   rw [uQ_same]
   exact List.Nodup.sublist (List.Sublist.append (List.Sublist.refl A) (List.sublist_cons_self i B)) hnd
  ·rw [uQ_ne Q _ hm]; exact h.nd m
 ·by_cases hmk : m = k
  ·subst hmk
   obtain ⟨d0, d1, d2⟩ := h.hd m hm
   rw [uQ_same, s2, s2, s2]
   rw [hq] at d0 d1 d2
   refine ⟨?_, ?_, ?_⟩
   ·rw [if_neg (by omega), if_neg (by omega)]
    by_cases hA : A = []
    ·subst hA
     rw [if_pos ⟨rfl, rfl, by rw [c1]; rfl⟩, c2]; rfl
    ·rw [if_neg (fun g => hA (lastP_zero.1 (by rw [<- c1]; exact g.2.2))), d0, headP_app _ hA, headP_app _ hA]
   ·rw [if_neg (by omega)]
    by_cases hB : B = []
    ·subst hB
     rw [if_pos ⟨rfl, rfl, by rw [c2]; rfl⟩, c1, List.append_nil]
    ·rw [if_neg (fun g => hB (headP_zero.1 (by rw [<- c2]; exact g.2.2))), if_neg (by omega), d1, lastP_app _ (by simp), lastP_app _ hB, lastP_cons _ hB]
   ·rw [if_pos ⟨rfl, rfl⟩, d2]; simp; omega
  ·rw [uQ_ne Q _ hmk, s2, s2, s2]
   simp only [hmk, false_and, if_false]
   exact h.hd m hm
 ·by_cases hm : m = k
  ·subst hm
   rw [uQ_same] at hy
   have alpha : ∀ C, B = C ++ y :: B' -> A' = A ++ C -> gC (dropT T i) y 2 = lastP A' /\ gC (dropT T i) y 3 = headP B' := fun C e1 e2 => by
    have hyB : y ∈ B := by rw [e1]; simp
    have hyi : y ≠ i := fun e => n4 (e ▸ hyB)
    obtain ⟨o1, o2⟩ := h.ch m (A ++ i :: C) y B' (by rw [hq, e1]; simp)
    rw [q2 y hyi, q3 y hyi, if_neg (c := lastP A = (y : Int) + 1) (fun g => hAB y (lastP_mem g) hyB)]
    refine ⟨?_, o2⟩
    cases C with
    | nil => rw [if_pos (by rw [e1]; rfl), e2, List.append_nil]
    | cons c C' =>
      have hcy : c ≠ y := by
       intro e
       rw [e1, e] at n5
       simp at n5
      rw [if_neg (fun g => hcy (by rw [e1] at g; simp only [List.cons_append, headP] at g; omega)), o1, e2, lastP_app _ (by simp), lastP_app _ (by simp), lastP_cons _ (by simp)]
   rcases List.append_eq_append_iff.1 hy with ⟨C, e1, e2⟩ | ⟨C, e1, e2⟩
   ·exact alpha C e2 e1
   ·cases C with
    | nil => exact alpha [] (by simpa using e2.symm) (by simpa using e1.symm)
    | cons c C' =>
      simp only [List.cons_append, List.cons.injEq] at e2
      obtain ⟨rfl, e2⟩ := e2
      have hyA : y ∈ A := by rw [e1]; simp
      have hyi : y ≠ i := fun e => hiA (e ▸ hyA)
      obtain ⟨o1, o2⟩ := h.ch m A' y (C' ++ i :: B) (by rw [hq, e1]; simp)
      rw [q2 y hyi, q3 y hyi, if_neg (c := headP B = (y : Int) + 1) (fun g => hAB y hyA (headP_mem g))]
      refine ⟨o1, ?_⟩
      cases C' with
      | nil => rw [if_pos (by rw [e1, lastP_snoc]), e2]; rfl
      | cons c' C'' =>
        have hl : lastP A ≠ (y : Int) + 1 := fun g => by
         rw [e1, lastP_app _ (by simp), lastP_cons _ (by simp)] at g
         have hm' := lastP_mem g
         rw [e1] at n1
         have := (List.nodup_append.1 n1).2.1
         exact (List.nodup_cons.1 this).1 hm'
        rw [if_neg hl, o2, e2]; rfl
  ·rw [uQ_ne Q _ hm] at hy
   have hyQ : y ∈ Q m := by rw [hy]; simp
   have hne : ∀ x, x ∈ Q m -> x ∈ Q k -> False := fun x h1 h2 => hm (h.dj m k x h1 h2)
   have hyi : y ≠ i := fun e => hne y hyQ (by rw [hq, e]; simp)
   rw [q2 y hyi, q3 y hyi, if_neg (c := headP B = (y : Int) + 1) (fun g => hne y hyQ (by rw [hq]; simp [headP_mem g])), if_neg (c := lastP A = (y : Int) + 1) (fun g => hne y hyQ (by rw [hq]; simp [lastP_mem g]))]
   exact h.ch m A' y B' hy
def putT (T : RL) (i : Nat) (lv ix d la : Int) : RL :=
 let T1 := setC (setC T i 0 [lv, ix]) i 4 [d]
 let T2 := setC (setC T1 i 2 [la]) i 3 [0]
 if 0 < la then setC T2 (la - 1).toNat 3 [(i : Int) + 1] else T2
def putS (S : RL) (k i : Nat) : RL :=
 let S1 := if 0 < gC S k 1 then S else setC S k 0 [(i : Int) + 1]
 let S2 := setC S1 k 1 [(i : Int) + 1]
 setC S2 k 2 [gC S2 k 2 + 1]
theorem putT_spec {T : RL} {cap i : Nat} {lv ix d la : Int} (h : Wid T cap 5) (hi : i < cap) (hla : la = 0 \/ ∃ a : Nat, a < cap /\ a ≠ i /\ la = (a : Int) + 1) :
 Wid (putT T i lv ix d la) cap 5 /\ ∀ y j, gC (putT T i lv ix d la) y j = if y = i /\ j < 5 then [lv, ix, la, 0, d].getD j 0 else if la = (y : Int) + 1 /\ j = 3 then (i : Int) + 1 else gC T y j := by
 have w1 := h.set (vs := [lv, ix]) (j := 0) hi (by simp)
 have w2 := w1.set (vs := [d]) (j := 4) hi (by simp)
 have w3 := w2.set (vs := [la]) (j := 2) hi (by simp)
 have w4 := w3.set (vs := [0]) (j := 3) hi (by simp)
 have g4 : ∀ y j, gC (setC (setC (setC (setC T i 0 [lv, ix]) i 4 [d]) i 2 [la]) i 3 [0]) y j = if y = i /\ j < 5 then [lv, ix, la, 0, d].getD j 0 else gC T y j := fun y j => by
  rw [w3.c1 hi (by decide), w2.c1 hi (by decide), w1.c1 hi (by decide), h.c hi (by simp)]
  by_cases hy : y = i
  ·subst hy
   match j with
   | 0 | 1 | 2 | 3 | 4 => simp
   | j + 5 =>
     rw [if_neg (by omega), if_neg (by omega), if_neg (by omega), if_neg (by simp), if_neg (by omega)]
  ·simp [hy]
 unfold putT
 simp only
 rcases hla with rfl | ⟨a, ha, hai, rfl⟩
 ·rw [if_neg (by decide)]
  refine ⟨w4, fun y j => ?_⟩
  rw [g4, if_neg (c := (0 : Int) = (y : Int) + 1 /\ j = 3) (by omega)]
 ·rw [if_pos (by omega), show ((a : Int) + 1 - 1).toNat = a by omega]
  refine ⟨w4.set ha (by simp), fun y j => ?_⟩
  rw [w4.c1 ha (by decide), g4]
  by_cases hy : y = a /\ j = 3
  ·rw [if_pos hy, if_neg (by omega), if_pos (by omega)]
  ·rw [if_neg hy]
   by_cases hz : y = i /\ j < 5
   ·rw [if_pos hz, if_pos hz]
   ·rw [if_neg hz, if_neg hz, if_neg (by omega)]
theorem putS_spec {S : RL} {k i : Nat} (h : Wid S 2049 3) (hk : k < 2049) (hla : 0 <= gC S k 1) :
 Wid (putS S k i) 2049 3 /\ ∀ m j, gC (putS S k i) m j = if m = k /\ j = 2 then gC S k 2 + 1 else if m = k /\ j = 1 then (i : Int) + 1 else if m = k /\ j = 0 /\ gC S k 1 = 0 then (i : Int) + 1 else gC S m j := by
 obtain ⟨S1, e1⟩ : ∃ S1, S1 = if 0 < gC S k 1 then S else setC S k 0 [(i : Int) + 1] := ⟨_, rfl⟩
 have s1 : Wid S1 2049 3 /\ ∀ m j, gC S1 m j = if m = k /\ j = 0 /\ gC S k 1 = 0 then (i : Int) + 1 else gC S m j := by
  rw [e1]
  by_cases hp0 : 0 < gC S k 1
  ·rw [if_pos hp0]
   exact ⟨h, fun m j => by rw [if_neg (by omega)]⟩
  ·rw [if_neg hp0]
   refine ⟨h.set hk (by simp), fun m j => ?_⟩
   rw [h.c1 hk (by decide)]
   by_cases g : m = k /\ j = 0
   ·rw [if_pos g, if_pos (by omega)]
   ·rw [if_neg g, if_neg (by omega)]
 have w2 := s1.1.set (vs := [(i : Int) + 1]) (j := 1) hk (by simp)
 have e3 : putS S k i = setC (setC S1 k 1 [(i : Int) + 1]) k 2 [gC (setC S1 k 1 [(i : Int) + 1]) k 2 + 1] := by
  unfold putS
  rw [e1]
 rw [e3]
 refine ⟨w2.set hk (by simp), fun m j => ?_⟩
 rw [w2.c1 hk (by decide), s1.1.c1 hk (by decide), s1.1.c1 hk (by decide), s1.2, s1.2]
 by_cases g : m = k /\ j = 2
 ·rw [if_pos g, if_pos g, if_neg (by omega), if_neg (by omega)]
 ·rw [if_neg g, if_neg g]
theorem Lk.put {T S : RL} {Q : Nat -> List Nat} {cap k i : Nat} {lv ix d : Int} (h : Lk T S Q cap) (hk : k < 2049) (hi : i < cap) (hn : ∀ m, i ∉ Q m) :
 Lk (putT T i lv ix d (gC S k 1)) (putS S k i) (uQ Q k (Q k ++ [i])) cap := by
 obtain ⟨d0, d1, d2⟩ := h.hd k hk
 have hla : gC S k 1 = 0 \/ ∃ a : Nat, a < cap /\ a ≠ i /\ gC S k 1 = (a : Int) + 1 := by
  rw [d1]
  rcases snoc_cases (Q k) with e | ⟨m, a, e⟩
  ·exact Or.inl (by rw [e]; rfl)
  ·have ha : a ∈ Q k := by rw [e]; simp
   exact Or.inr ⟨a, h.qc k a ha, fun x => hn k (x ▸ ha), by rw [e, lastP_snoc]⟩
 obtain ⟨t1, t2⟩ := putT_spec (lv := lv) (ix := ix) (d := d) h.tw hi hla
 obtain ⟨s1, s2⟩ := putS_spec (i := i) h.sw hk (by rw [d1]; exact lastP_nonneg _)
 have sub : ∀ m x, x ∈ uQ Q k (Q k ++ [i]) m -> x ∈ Q m \/ (x = i /\ m = k) := fun m x hx => by
  by_cases hm : m = k
  ·subst hm
   rw [uQ_same] at hx
   rcases List.mem_append.1 hx with hx | hx
   ·exact Or.inl hx
   ·exact Or.inr ⟨by simpa using hx, rfl⟩
  ·rw [uQ_ne Q _ hm] at hx; exact Or.inl hx
 refine ⟨t1, s1, fun m x hx => ?_, fun m hm => ?_, fun m => ?_, fun m m' x h1 h2 => ?_, fun m hm => ?_, fun m A' y B' hy => ?_⟩
 ·rcases sub m x hx with h1 | ⟨rfl, _⟩
  ·exact h.qc m x h1
  ·exact hi
 ·rw [uQ_ne Q _ (by omega)]; exact h.qk m hm
 ·by_cases hm : m = k
  ·subst hm
   rw [uQ_same]
   refine List.nodup_append.2 ⟨h.nd m, by simp, fun a ha b hb e => ?_⟩
   have : b = i := by simpa using hb
   exact hn m (by rw [<- this, <- e]; exact ha)
  ·rw [uQ_ne Q _ hm]; exact h.nd m
 ·rcases sub m x h1 with g1 | ⟨e1, g1⟩
  ·rcases sub m' x h2 with g2 | ⟨e2, g2⟩
   ·exact h.dj m m' x g1 g2
   ·exact absurd (e2 ▸ g1) (hn m)
  ·rcases sub m' x h2 with g2 | ⟨e2, g2⟩
   ·exact absurd (e1 ▸ g2) (hn m')
   ·rw [g1, g2]
 ·by_cases hmk : m = k
  ·subst hmk
   rw [uQ_same, s2, s2, s2]
   refine ⟨?_, ?_, ?_⟩
   ·rw [if_neg (by omega), if_neg (by omega)]
    by_cases hA : Q m = []
    ·rw [if_pos ⟨rfl, rfl, by rw [d1, hA]; rfl⟩, hA]; rfl
    ·rw [if_neg (fun g => hA (lastP_zero.1 (by rw [<- d1]; exact g.2.2))), d0, headP_app _ hA]
   ·rw [if_neg (by omega), if_pos ⟨rfl, rfl⟩, lastP_snoc]
   ·rw [if_pos ⟨rfl, rfl⟩, d2]; simp
  ·rw [uQ_ne Q _ hmk, s2, s2, s2]
   simp only [hmk, false_and, if_false]
   exact h.hd m hm
 ·have q2 : y ≠ i -> gC (putT T i lv ix d (gC S k 1)) y 2 = gC T y 2 := fun hyi => by rw [t2]; simp [hyi]
  have q3 : y ≠ i -> gC (putT T i lv ix d (gC S k 1)) y 3 = if gC S k 1 = (y : Int) + 1 then (i : Int) + 1 else gC T y 3 := fun hyi => by rw [t2]; simp [hyi]
  by_cases hm : m = k
  ·subst hm
   rw [uQ_same] at hy
   rcases snoc_cases B' with rfl | ⟨B'', z, rfl⟩
   ·have e := List.append_inj_right' hy rfl
    have e' := List.append_inj_left' hy rfl
    have : i = y := by simpa using e
    subst this
    rw [t2, t2, if_pos ⟨rfl, by decide⟩, if_pos ⟨rfl, by decide⟩, <- e', d1]
    exact ⟨rfl, rfl⟩
   ·have hy' : Q m ++ [i] = (A' ++ y :: B'') ++ [z] := by rw [hy]; simp
    have e' := List.append_inj_left' hy' rfl
    have e : i = z := by simpa using List.append_inj_right' hy' rfl
    subst e
    have hyQ : y ∈ Q m := by rw [e']; simp
    have hyi : y ≠ i := fun e => hn m (e ▸ hyQ)
    obtain ⟨o1, o2⟩ := h.ch m A' y B'' e'
    rw [q2 hyi, q3 hyi, d1]
    refine ⟨o1, ?_⟩
    cases B'' with
    | nil => rw [if_pos (by rw [e', lastP_snoc])]; rfl
    | cons c C =>
      have hl : lastP (Q m) ≠ (y : Int) + 1 := fun g => by
       rw [e', lastP_app _ (by simp), lastP_cons _ (by simp)] at g
       have hm' := lastP_mem g
       have := h.nd m
       rw [e'] at this
       exact (List.nodup_cons.1 (List.nodup_append.1 this).2.1).1 hm'
      rw [if_neg hl, o2]; rfl
  ·rw [uQ_ne Q _ hm] at hy
   have hyQ : y ∈ Q m := by rw [hy]; simp
   have hyi : y ≠ i := fun e => hn m (e ▸ hyQ)
   rw [q2 hyi, q3 hyi, if_neg (fun g => hm (h.dj m k y hyQ (lastP_mem (by rw [<- d1]; exact g))))]
   exact h.ch m A' y B' hy
def joinT (T : RL) (f bl : Int) : RL := setC (if 0 < bl then setC T (bl - 1).toNat 3 [f] else T) (f - 1).toNat 2 [bl]
def joinS (S : RL) (k : Nat) : RL :=
 let S1 := if 0 < gC S 2048 1 then S else setC S 2048 0 [gC S k 0]
 let S2 := setC S1 2048 1 [gC S k 1]
 setC (setC S2 2048 2 [gC S2 2048 2 + gC S k 2]) k 0 [0, 0, 0]
theorem Lk.join {T S : RL} {Q : Nat -> List Nat} {cap k : Nat} (h : Lk T S Q cap) (hk : k < 2048) (hne : Q k ≠ []) :
 Lk (joinT T (gC S k 0) (gC S 2048 1)) (joinS S k) (uQ (uQ Q 2048 (Q 2048 ++ Q k)) k []) cap := by
 obtain ⟨d0, d1, d2⟩ := h.hd k (by omega)
 obtain ⟨b0, b1, b2⟩ := h.hd 2048 (by omega)
 obtain ⟨f, F, hF⟩ : ∃ f F, Q k = f :: F := by
  cases hq : Q k with
  | nil => exact absurd hq hne
  | cons f F => exact ⟨f, F, rfl⟩
 have ef : gC S k 0 = (f : Int) + 1 := by rw [d0, hF]; rfl
 have hfk : f ∈ Q k := by rw [hF]; simp
 have hfc := h.qc k f hfk
 have dis : ∀ x, x ∈ Q k -> x ∈ Q 2048 -> False := fun x h1 h2 => by have := h.dj _ _ x h1 h2; omega
 have t : Wid (joinT T (gC S k 0) (gC S 2048 1)) cap 5 /\ ∀ y j, gC (joinT T (gC S k 0) (gC S 2048 1)) y j = if y = f /\ j = 2 then lastP (Q 2048) else if lastP (Q 2048) = (y : Int) + 1 /\ j = 3 then (f : Int) + 1 else gC T y j := by
  unfold joinT
  rw [ef, b1, show ((f : Int) + 1 - 1).toNat = f by omega]
  rcases snoc_cases (Q 2048) with e | ⟨m, a, e⟩
  ·rw [e, lastP_nil, if_neg (by decide)]
   refine ⟨h.tw.set hfc (by simp), fun y j => ?_⟩
   rw [h.tw.c1 hfc (by decide), if_neg (c := (0 : Int) = (y : Int) + 1 /\ j = 3) (by omega)]
  ·have ha : a ∈ Q 2048 := by rw [e]; simp
   rw [e, lastP_snoc, if_pos (by omega), show ((a : Int) + 1 - 1).toNat = a by omega]
   have w := h.tw.set (vs := [(f : Int) + 1]) (j := 3) (h.qc _ a ha) (by simp)
   refine ⟨w.set hfc (by simp), fun y j => ?_⟩
   rw [w.c1 hfc (by decide), h.tw.c1 (h.qc _ a ha) (by decide)]
   by_cases g : y = a /\ j = 3
   ·rw [if_neg (c := y = f /\ j = 2) (by omega), if_pos g, if_neg (c := y = f /\ j = 2) (by omega), if_pos (by omega)]
   ·rw [if_neg (c := y = a /\ j = 3) g, if_neg (c := (a : Int) + 1 = (y : Int) + 1 /\ j = 3) (by omega)]
 obtain ⟨t1, t2⟩ := t
 have sS : Wid (joinS S k) 2049 3 /\ ∀ m j, gC (joinS S k) m j = if m = k /\ j < 3 then 0 else if m = 2048 /\ j = 2 then gC S 2048 2 + gC S k 2 else if m = 2048 /\ j = 1 then gC S k 1 else if m = 2048 /\ j = 0 /\ gC S 2048 1 = 0 then gC S k 0 else gC S m j := by
  obtain ⟨S1, e1⟩ : ∃ S1, S1 = if 0 < gC S 2048 1 then S else setC S 2048 0 [gC S k 0] := ⟨_, rfl⟩
  have s1 : Wid S1 2049 3 /\ ∀ m j, gC S1 m j = if m = 2048 /\ j = 0 /\ gC S 2048 1 = 0 then gC S k 0 else gC S m j := by
   rw [e1]
   have hla : 0 <= gC S 2048 1 := by rw [b1]; exact lastP_nonneg _
   by_cases hp0 : 0 < gC S 2048 1
   ·rw [if_pos hp0]
    exact ⟨h.sw, fun m j => by rw [if_neg (by omega)]⟩
   ·rw [if_neg hp0]
    refine ⟨h.sw.set (by omega) (by simp), fun m j => ?_⟩
    rw [h.sw.c1 (by omega) (by decide)]
    by_cases g : m = 2048 /\ j = 0
    ·rw [if_pos g, if_pos (by omega)]
    ·rw [if_neg g, if_neg (by omega)]
  have w2 := s1.1.set (i := 2048) (vs := [gC S k 1]) (j := 1) (by omega) (by simp)
  have w3 := w2.set (i := 2048) (vs := [gC (setC S1 2048 1 [gC S k 1]) 2048 2 + gC S k 2]) (j := 2) (by omega) (by simp)
  have e3 : joinS S k = setC (setC (setC S1 2048 1 [gC S k 1]) 2048 2 [gC (setC S1 2048 1 [gC S k 1]) 2048 2 + gC S k 2]) k 0 [0, 0, 0] := by
   unfold joinS
   rw [e1]
  rw [e3]
  refine ⟨w3.set (by omega) (by simp), fun m j => ?_⟩
  rw [w3.c (by omega) (by simp), w2.c1 (by omega) (by decide), s1.1.c1 (by omega) (by decide), s1.1.c1 (by omega) (by decide), s1.2, s1.2]
  by_cases g : m = k /\ j < 3
  ·rw [if_pos (by simpa using g), if_pos g]
   match j, g.2 with
   | 0, _ | 1, _ | 2, _ => rfl
  ·rw [if_neg (by simpa using g), if_neg g]
   by_cases g2 : m = 2048 /\ j = 2
   ·rw [if_pos g2, if_pos g2, if_neg (by omega), if_neg (by omega)]
   ·rw [if_neg g2, if_neg g2]
 obtain ⟨s1, s2⟩ := sS
 have hU : ∀ m, uQ (uQ Q 2048 (Q 2048 ++ Q k)) k [] m = if m = k then [] else if m = 2048 then Q 2048 ++ Q k else Q m := fun m => rfl
 have sub : ∀ m x, x ∈ uQ (uQ Q 2048 (Q 2048 ++ Q k)) k [] m -> m ≠ k /\ ((m = 2048 /\ (x ∈ Q 2048 \/ x ∈ Q k)) \/ (m ≠ 2048 /\ x ∈ Q m)) := fun m x hx => by
  rw [hU] at hx
  by_cases hm : m = k
  ·rw [if_pos hm] at hx; cases hx
  ·rw [if_neg hm] at hx
   refine ⟨hm, ?_⟩
   by_cases hm' : m = 2048
   ·rw [if_pos hm'] at hx
    exact Or.inl ⟨hm', List.mem_append.1 hx⟩
   ·rw [if_neg hm'] at hx; exact Or.inr ⟨hm', hx⟩
 have ndB : (Q 2048 ++ Q k).Nodup := List.nodup_append.2 ⟨h.nd _, h.nd _, fun a ha b hb e => dis b hb (e ▸ ha)⟩
 refine ⟨t1, s1, fun m x hx => ?_, fun m hm => ?_, fun m => ?_, fun m m' x h1 h2 => ?_, fun m hm => ?_, fun m A' y B' hy => ?_⟩
 ·rcases (sub m x hx).2 with ⟨_, h1 | h1⟩ | ⟨_, h1⟩ <;> exact h.qc _ x h1
 ·rw [hU, if_neg (by omega), if_neg (by omega)]; exact h.qk m hm
 ·rw [hU]
  by_cases hm : m = k
  ·rw [if_pos hm]; exact List.nodup_nil
  ·rw [if_neg hm]
   by_cases hm' : m = 2048
   ·rw [if_pos hm']; exact ndB
   ·rw [if_neg hm']; exact h.nd m
 ·obtain ⟨n1, g1⟩ := sub m x h1
  obtain ⟨n2, g2⟩ := sub m' x h2
  rcases g1 with ⟨e1, g1 | g1⟩ | ⟨e1, g1⟩ <;> rcases g2 with ⟨e2, g2 | g2⟩ | ⟨e2, g2⟩
  ·rw [e1, e2]
  ·rw [e1, e2]
  ·exact absurd (h.dj _ _ x g1 g2).symm e2
  ·rw [e1, e2]
  ·rw [e1, e2]
  ·exact absurd (h.dj _ _ x g1 g2).symm n2
  ·exact absurd (h.dj _ _ x g1 g2) e1
  ·exact absurd (h.dj _ _ x g1 g2) n1
  ·exact h.dj _ _ x g1 g2
 ·rw [hU, s2, s2, s2]
  by_cases hmk : m = k
  ·rw [if_pos hmk, if_pos ⟨hmk, by decide⟩, if_pos ⟨hmk, by decide⟩, if_pos ⟨hmk, by decide⟩]
   exact ⟨rfl, rfl, rfl⟩
  ·simp only [hmk, false_and, if_false]
   by_cases hm' : m = 2048
   ·subst hm'
    simp only [true_and, if_true]
    refine ⟨?_, ?_, ?_⟩
    ·rw [if_neg (by omega), if_neg (by omega)]
     by_cases hA : Q 2048 = []
     ·rw [if_pos (by rw [b1, hA]; rfl), d0, hA]; rfl
     ·rw [if_neg (fun g => hA (lastP_zero.1 (by rw [<- b1]; exact g))), b0, headP_app _ hA]
    ·rw [if_neg (by omega), d1, lastP_app _ hne]
    ·rw [b2, d2]; simp
   ·simp only [hm', false_and, if_false]
    exact h.hd m hm
 ·rw [hU] at hy
  by_cases hm : m = k
  ·rw [if_pos hm] at hy; simp at hy
  ·rw [if_neg hm] at hy
   have q2 : gC (joinT T (gC S k 0) (gC S 2048 1)) y 2 = if y = f then lastP (Q 2048) else gC T y 2 := by rw [t2]; simp
   have q3 : gC (joinT T (gC S k 0) (gC S 2048 1)) y 3 = if lastP (Q 2048) = (y : Int) + 1 then (f : Int) + 1 else gC T y 3 := by rw [t2]; simp
   rw [q2, q3]
   by_cases hm' : m = 2048
   ·rw [if_pos hm'] at hy
    have inK : ∀ C, Q k = C ++ y :: B' -> A' = Q 2048 ++ C -> (if y = f then lastP (Q 2048) else gC T y 2) = lastP A' /\ (if lastP (Q 2048) = (y : Int) + 1 then (f : Int) + 1 else gC T y 3) = headP B' := fun C e1 e2 => by
     have hyk : y ∈ Q k := by rw [e1]; simp
     obtain ⟨o1, o2⟩ := h.ch k C y B' e1
     rw [if_neg (c := lastP (Q 2048) = (y : Int) + 1) (fun g => dis y hyk (lastP_mem g))]
     refine ⟨?_, o2⟩
     cases C with
     | nil =>
       have : f = y := by rw [hF] at e1; simpa using (List.cons.inj e1).1
       rw [if_pos this.symm, e2, List.append_nil]
     | cons c C' =>
       have hfc : f = c := by rw [hF] at e1; exact (List.cons.inj e1).1
       have hne' : ¬ y = f := fun e => by
        have := h.nd k
        rw [e1, <- hfc, <- e] at this
        simp at this
       rw [if_neg hne', o1, e2, lastP_app _ (by simp)]
    rcases List.append_eq_append_iff.1 hy with ⟨C, e1, e2⟩ | ⟨C, e1, e2⟩
    ·exact inK C e2 e1
    ·cases C with
     | nil => exact inK [] (by simpa using e2.symm) (by simpa using e1.symm)
     | cons c C' =>
       simp only [List.cons_append, List.cons.injEq] at e2
       obtain ⟨rfl, e2⟩ := e2
       have hyB : y ∈ Q 2048 := by rw [e1]; simp
       obtain ⟨o1, o2⟩ := h.ch 2048 A' y C' e1
       have hyf : ¬ y = f := fun e => dis f hfk (e ▸ hyB)
       rw [if_neg hyf]
       refine ⟨o1, ?_⟩
       cases C' with
       | nil => rw [if_pos (by rw [e1, lastP_snoc]), e2, List.nil_append, hF]; rfl
       | cons c' C'' =>
         have hl : lastP (Q 2048) ≠ (y : Int) + 1 := fun g => by
          rw [e1, lastP_app _ (by simp), lastP_cons _ (by simp)] at g
          have hm' := lastP_mem g
          have := h.nd 2048
          rw [e1] at this
          exact (List.nodup_cons.1 (List.nodup_append.1 this).2.1).1 hm'
         rw [if_neg hl, o2, e2]; rfl
   ·rw [if_neg hm'] at hy
    have hyQ : y ∈ Q m := by rw [hy]; simp
    rw [if_neg (c := y = f) (fun e => hm (h.dj m k y hyQ (e ▸ hfk))), if_neg (c := lastP (Q 2048) = (y : Int) + 1) (fun g => hm' (h.dj m 2048 y hyQ (lastP_mem g)))]
    exact h.ch m A' y B' hy
def G0 : Glob := fun _ _ => none
def i64 : Sh := .sc (.i .i64)
def bS : Sh := .sc .b
def k5 : List K := [.i .i64, .i .i64, .i .i64, .i .i64, .i .i64]
def k3 : List K := [.i .i64, .i .i64, .i .i64]
def ltm : Sh := .lst 79 (Row.ofKs k5) true
def wsh : Sh := .seg 74 k3 [i64, i64, i64, i64, ltm]
def wob : Ob := { j := 0, ty := 74, tl := some k3, cs := [.sc .x, i64, i64, i64, i64, ltm] }
def pin : Sh := .pin 0 5 3
def z0 : Nat -> List Int -> Int := fun _ _ => 0
def T0 : List Int -> Prop := fun _ => True
def blk (k t : Int) : Int := t / 256 ^ k.toNat
def fn71 (_ : Nat) (xs : List Int) : Int := blk (env xs 0) (env xs 1)
def e71 : Ent := ⟨71, 71, [i64, i64], [], [], i64, fn71, fun xs => 0 <= env xs 0 /\ env xs 0 <= 4⟩
def T5 (xs : List Int) : RL := dc (env xs 5)
def S3 (xs : List Int) : RL := dc (env xs 0)
def nowW (xs : List Int) : Int := env xs 1
def locI (now : Int) (T : RL) (i : Nat) : Int := if gC T i 4 <= now then 2048 else gC T i 0 * 512 + gC T i 1
def ofOK (now : Int) (T : RL) (i : Nat) : Prop := now < gC T i 4 -> 0 <= gC T i 0 /\ gC T i 0 < 4 /\ 0 <= gC T i 1 /\ gC T i 1 < 512
structure WL (S T le : Int) (Q : Nat -> List Nat) : Prop where
 rS : rowsOK k3 (dc S)
 rT : rowsOK k5 (dc T)
 ct : 0 < (dc T).length /\ (dc T).length <= 4096
 lk : Lk (dc T) (dc S) Q (dc T).length
 le : 0 <= le /\ le <= 4096
def lenT (xs : List Int) : Int := ((dc (env xs 5)).length : Int)
def e46 : Ent := ⟨46, 46, [wsh], [], [0, 1], .lt .b 0, z0, fun xs => 0 < lenT xs /\ lenT xs <= 4096⟩
def e47 : Ent := ⟨47, 47, [wsh, i64], [], [0, 1], bS, fun _ xs => b2i (decide (0 <= env xs 6) && decide (env xs 6 < lenT xs)), fun xs => 0 < lenT xs /\ lenT xs <= 4096⟩
def idW (xs : List Int) : Nat := (env xs 6).toNat
def pre69 (xs : List Int) : Prop := rowsOK k5 (T5 xs) /\ (T5 xs).length <= 4096 /\ 0 <= env xs 6 /\ env xs 6 < lenT xs /\ ofOK (nowW xs) (T5 xs) (idW xs)
def e69 : Ent := ⟨69, 69, [wsh, i64], [], [0, 1], pin, fun _ xs => locI (nowW xs) (T5 xs) (idW xs), pre69⟩
def lvF (now d : Int) : Int := if blk 1 d <= blk 1 now + 1 then 0 else if blk 2 d <= blk 2 now + 1 then 1 else if blk 3 d <= blk 3 now + 1 then 2 else 3
def fn70 (j : Nat) (xs : List Int) : Int := match j with
 | 0 => lvF (nowW xs) (env xs 6)
 | _ => blk (lvF (nowW xs) (env xs 6)) (env xs 6) % 512
def pre70 (xs : List Int) : Prop := 0 <= nowW xs /\ nowW xs <= 1099511627776 /\ 0 <= env xs 6 /\ env xs 6 <= 1101659111424
def e70 : Ent := ⟨70, 70, [wsh, i64], [], [0, 1], .agg [i64, i64], fn70, pre70⟩
def fn48 (j : Nat) (xs : List Int) : Int := match j with
 | 0 => cd (dropS (S3 xs) (locI (nowW xs) (T5 xs) (idW xs)).toNat (gC (T5 xs) (idW xs) 2) (gC (T5 xs) (idW xs) 3))
 | 1 => env xs 1
 | 2 => env xs 2
 | 3 => env xs 3 - 1
 | 4 => env xs 4
 | _ => cd (dropT (T5 xs) (idW xs))
def pre48 (xs : List Int) : Prop := ∃ Q, WL (env xs 0) (env xs 5) (env xs 3) Q /\ 0 <= env xs 6 /\ env xs 6 < lenT xs /\ ofOK (nowW xs) (T5 xs) (idW xs) /\ idW xs ∈ Q (locI (nowW xs) (T5 xs) (idW xs)).toNat
def e48 : Ent := ⟨48, 48, [wsh, i64], [wob], [], .tup [], fn48, pre48⟩
def kW (now d : Int) : Int := if d <= now then 2048 else lvF now d * 512 + blk (lvF now d) d % 512
def fn49 (j : Nat) (xs : List Int) : Int := match j with
 | 0 => cd (putS (S3 xs) (kW (nowW xs) (env xs 7)).toNat (idW xs))
 | 1 => env xs 1
 | 2 => env xs 2
 | 3 => env xs 3 + 1
 | 4 => env xs 4
 | _ => cd (putT (T5 xs) (idW xs) (lvF (nowW xs) (env xs 7)) (blk (lvF (nowW xs) (env xs 7)) (env xs 7) % 512) (env xs 7) (gC (S3 xs) (kW (nowW xs) (env xs 7)).toNat 1))
def pre49 (xs : List Int) : Prop := ∃ Q, WL (env xs 0) (env xs 5) (env xs 3) Q /\ 0 <= env xs 6 /\ env xs 6 < lenT xs /\ (∀ m, idW xs ∉ Q m) /\ (0 <= nowW xs /\ nowW xs <= 1099511627776) /\ 0 <= env xs 7 /\ env xs 7 <= 1101659111424
def e49 : Ent := ⟨49, 49, [wsh, i64, i64], [wob], [], .tup [], fn49, pre49⟩
def fn50 (j : Nat) (xs : List Int) : Int := match j with
 | 0 => if gC (S3 xs) (idW xs) 2 = 0 then env xs 0 else cd (joinS (S3 xs) (idW xs))
 | 1 => env xs 1
 | 2 => env xs 2
 | 3 => env xs 3
 | 4 => env xs 4
 | _ => if gC (S3 xs) (idW xs) 2 = 0 then env xs 5 else cd (joinT (T5 xs) (gC (S3 xs) (idW xs) 0) (gC (S3 xs) 2048 1))
def pre50 (xs : List Int) : Prop := ∃ Q, WL (env xs 0) (env xs 5) (env xs 3) Q /\ 0 <= env xs 6 /\ env xs 6 < 2048
def e50 : Ent := ⟨50, 50, [wsh, pin], [wob], [], .tup [], fn50, pre50⟩
def wK (k now : Int) : Nat := (k * 512 + (blk k now + 1) % 512).toNat
def wtF (S : RL) (now : Int) : Int := if 0 < gC S (wK 1 now) 2 then gC S (wK 1 now) 0 else if 0 < gC S (wK 2 now) 2 then gC S (wK 2 now) 0 else if 0 < gC S (wK 3 now) 2 then gC S (wK 3 now) 0 else 0
def e51 : Ent := ⟨51, 51, [wsh], [], [0, 1], i64, fun _ xs => wtF (S3 xs) (nowW xs), fun xs => rowsOK k3 (S3 xs) /\ (S3 xs).length = 2049 /\ 0 <= nowW xs /\ nowW xs <= 1099511627776⟩
def cA : Ctx := ⟨[], []⟩
def cB : Ctx := ⟨[e71], []⟩
def cC : Ctx := ⟨[e69, e70], []⟩
def ob_71 : E := (.cmp .geq (.bin .mul .i64 (lI 8) (vI 0)) (lI 0))
def es_71 : List E := [(.sh .shr .i64 (vI 1) (.bin .mul .i64 (lI 8) (vI 0)))]
theorem ev_71 : evE Try.prog G0 (tabOf cA.fs) (ltOf cA.ls) 40 10 e71 = some (ob_71, es_71) := by kernel_rfl
def ob_46 : E := (.not (.cmp .eql (aI 0 0 [(vX 5)]) (lI 0)))
def es_46 : List E := []
theorem ev_46 : evE Try.prog G0 (tabOf cA.fs) (ltOf cA.ls) 40 10 e46 = some (ob_46, es_46) := by kernel_rfl
def ob_47 : E := (.lit .b 1)
def es_47 : List E := [(.and (.cmp .geq (vI 6) (lI 0)) (.cmp .lss (vI 6) (aI 0 0 [(vX 5)])))]
theorem ev_47 : evE Try.prog G0 (tabOf cA.fs) (ltOf cA.ls) 40 10 e47 = some (ob_47, es_47) := by kernel_rfl
def q_69_0 : E := (.and (.cmp .geq (vI 6) (lI 0)) (.cmp .lss (vI 6) (aI 0 0 [(vX 5)])))
def q_69_1 : E := (.cmp .leq (aI 0 1 [(vX 5), (vI 6), (.lit .x 4)]) (vI 1))
def q_69_2 : E := (.cmp .geq (aI 0 1 [(vX 5), (vI 6), (.lit .x 0)]) (lI 0))
def ob_69 : E := (.and q_69_0 (.and q_69_0 (.or q_69_1 (.and q_69_0 (.and q_69_0 (.and (.and q_69_2 (.cmp .lss (aI 0 1 [(vX 5), (vI 6), (.lit .x 0)]) (lI 4))) (.and (.and q_69_2 (.cmp .lss (aI 0 1 [(vX 5), (vI 6), (.lit .x 0)]) (lI 1000000000))) (.and (.cmp .geq (aI 0 1 [(vX 5), (vI 6), (.lit .x 1)]) (lI 0)) (.cmp .lss (aI 0 1 [(vX 5), (vI 6), (.lit .x 1)]) (lI 512))))))))))
def es_69 : List E := [(.ite q_69_1 (lI 2048) (.bin .add .i64 (.bin .mul .i64 (aI 0 1 [(vX 5), (vI 6), (.lit .x 0)]) (lI 512)) (aI 0 1 [(vX 5), (vI 6), (.lit .x 1)])))]
theorem ev_69 : evE Try.prog G0 (tabOf cA.fs) (ltOf cA.ls) 40 10 e69 = some (ob_69, es_69) := by kernel_rfl
def q_70_0 : E := (.cmp .gtr (aI 71 0 [(lI 1), (vI 6)]) (.bin .add .i64 (aI 71 0 [(lI 1), (vI 1)]) (lI 1)))
def q_70_1 : E := (.not q_70_0)
def q_70_2 : E := (.cmp .gtr (aI 71 0 [(lI 2), (vI 6)]) (.bin .add .i64 (aI 71 0 [(lI 2), (vI 1)]) (lI 1)))
def q_70_3 : E := (.not q_70_2)
def q_70_4 : E := (.cmp .gtr (aI 71 0 [(lI 3), (vI 6)]) (.bin .add .i64 (aI 71 0 [(lI 3), (vI 1)]) (lI 1)))
def q_70_5 : E := (.not q_70_4)
def q_70_6 : E := (.ite q_70_1 (lI 0) (.ite q_70_3 (lI 1) (.ite q_70_5 (lI 2) (lI 3))))
def ob_70 : E := (.and (.and (.and (aB 71 1000000 [(lI 1), (vI 6)]) (aB 71 1000000 [(lI 1), (vI 1)])) (.or q_70_1 (.and (.and (aB 71 1000000 [(lI 2), (vI 6)]) (aB 71 1000000 [(lI 2), (vI 1)])) (.or q_70_3 (.and (aB 71 1000000 [(lI 3), (vI 6)]) (aB 71 1000000 [(lI 3), (vI 1)])))))) (.or (.not (.or q_70_1 (.and q_70_0 (.or q_70_3 (.and q_70_2 (.or q_70_5 q_70_4)))))) (aB 71 1000000 [q_70_6, (vI 6)])))
def es_70 : List E := [q_70_6, (.dv .rem .i64 (aI 71 0 [q_70_6, (vI 6)]) 512)]
theorem ev_70 : evE Try.prog G0 (tabOf cB.fs) (ltOf cB.ls) 40 10 e70 = some (ob_70, es_70) := by kernel_rfl
def q_48_0 : E := (.and (.cmp .geq (vI 6) (lI 0)) (.cmp .lss (vI 6) (aI 0 0 [(vX 5)])))
def q_48_1 : E := (.cmp .gtr (aI 0 1 [(vX 5), (vI 6), (.lit .x 2)]) (lI 0))
def q_48_2 : E := (.bin .sub .i64 (aI 0 1 [(vX 5), (vI 6), (.lit .x 2)]) (lI 1))
def q_48_3 : E := (aI 69 0 [(vX 0), (vI 1), (vI 2), (vI 3), (vI 4), (vX 5), (vI 6)])
def q_48_4 : E := (.cmp .geq q_48_3 (lI 0))
def q_48_5 : E := (.and q_48_4 (.cmp .lss q_48_3 (lI 1000000000)))
def q_48_6 : E := (.ite q_48_1 (aX 0 6 [(vX 5), q_48_2, (.lit .x 3), (aI 0 1 [(vX 5), (vI 6), (.lit .x 3)])]) (vX 5))
def q_48_7 : E := (aI 0 1 [q_48_6, (vI 6), (.lit .x 3)])
def q_48_8 : E := (.cmp .gtr q_48_7 (lI 0))
def q_48_9 : E := (.bin .sub .i64 q_48_7 (lI 1))
def q_48_10 : E := (.ite q_48_1 (vX 0) (aX 0 6 [(vX 0), q_48_3, (.lit .x 0), (aI 0 1 [(vX 5), (vI 6), (.lit .x 3)])]))
def q_48_11 : E := (aI 0 1 [q_48_6, (vI 6), (.lit .x 2)])
def q_48_12 : E := (.ite q_48_8 q_48_10 (aX 0 6 [q_48_10, q_48_3, (.lit .x 1), q_48_11]))
def ob_48 : E := (.and (.and (aB 69 1000000 [(vX 0), (vI 1), (vI 2), (vI 3), (vI 4), (vX 5), (vI 6)]) q_48_0) (.and (.and q_48_0 (.and (.or (.not q_48_1) (.and q_48_0 (.and q_48_0 (.and (.cmp .geq q_48_2 (lI 0)) (.cmp .lss q_48_2 (aI 0 0 [(vX 5)])))))) (.or q_48_1 (.and q_48_0 (.and q_48_5 (.and q_48_4 (.cmp .lss q_48_3 (aI 0 0 [(vX 0)])))))))) (.and (.and q_48_0 (.and (.or (.not q_48_8) (.and q_48_0 (.and q_48_0 (.and (.cmp .geq q_48_9 (lI 0)) (.cmp .lss q_48_9 (aI 0 0 [(vX 5)])))))) (.or q_48_8 (.and q_48_0 (.and q_48_5 (.and q_48_4 (.cmp .lss q_48_3 (aI 0 0 [q_48_10])))))))) (.and (.and q_48_5 (.and q_48_4 (.cmp .lss q_48_3 (aI 0 0 [q_48_12])))) q_48_0))))
def es_48 : List E := [(aX 0 6 [q_48_12, q_48_3, (.lit .x 2), (.bin .sub .i64 (aI 0 1 [q_48_12, q_48_3, (.lit .x 2)]) (lI 1))]), (vI 1), (vI 2), (.bin .sub .i64 (vI 3) (lI 1)), (vI 4), (aX 0 6 [(.ite q_48_8 (aX 0 6 [q_48_6, q_48_9, (.lit .x 2), q_48_11]) q_48_6), (vI 6), (.lit .x 0), (lI 0), (lI 0), (lI 0), (lI 0), (lI 0)])]
theorem ev_48 : evE Try.prog G0 (tabOf cC.fs) (ltOf cC.ls) 40 10 e48 = some (ob_48, es_48) := by kernel_rfl
def q_49_0 : E := (.and (.cmp .geq (vI 6) (lI 0)) (.cmp .lss (vI 6) (aI 0 0 [(vX 5)])))
def q_49_1 : E := (aX 0 6 [(aX 0 6 [(vX 5), (vI 6), (.lit .x 0), (aI 70 0 [(vX 0), (vI 1), (vI 2), (vI 3), (vI 4), (vX 5), (vI 7)]), (aI 70 1 [(vX 0), (vI 1), (vI 2), (vI 3), (vI 4), (vX 5), (vI 7)])]), (vI 6), (.lit .x 4), (vI 7)])
def q_49_2 : E := (aI 69 0 [(vX 0), (vI 1), (vI 2), (vI 3), (vI 4), q_49_1, (vI 6)])
def q_49_3 : E := (.cmp .geq q_49_2 (lI 0))
def q_49_4 : E := (.and q_49_3 (.cmp .lss q_49_2 (lI 1000000000)))
def q_49_5 : E := (.and q_49_4 (.and q_49_3 (.cmp .lss q_49_2 (aI 0 0 [(vX 0)]))))
def q_49_6 : E := (aI 0 1 [(vX 0), q_49_2, (.lit .x 1)])
def q_49_7 : E := (.cmp .gtr q_49_6 (lI 0))
def q_49_8 : E := (.bin .sub .i64 q_49_6 (lI 1))
def q_49_9 : E := (.ite q_49_7 (vX 0) (aX 0 6 [(vX 0), q_49_2, (.lit .x 0), (.bin .add .i64 (vI 6) (lI 1))]))
def q_49_10 : E := (aX 0 6 [q_49_9, q_49_2, (.lit .x 1), (.bin .add .i64 (vI 6) (lI 1))])
def q_49_11 : E := (aX 0 6 [(aX 0 6 [q_49_1, (vI 6), (.lit .x 2), q_49_6]), (vI 6), (.lit .x 3), (lI 0)])
def ob_49 : E := (.and q_49_0 (.and (.and (aB 70 1000000 [(vX 0), (vI 1), (vI 2), (vI 3), (vI 4), (vX 5), (vI 7)]) q_49_0) (.and (aB 69 1000000 [(vX 0), (vI 1), (vI 2), (vI 3), (vI 4), q_49_1, (vI 6)]) (.and (.and q_49_5 q_49_0) (.and (.and q_49_5 (.and (.or (.not q_49_7) (.and q_49_5 (.and (.cmp .geq q_49_8 (lI 0)) (.cmp .lss q_49_8 (aI 0 0 [(vX 5)]))))) (.or q_49_7 q_49_5))) (.and (.and q_49_4 (.and q_49_3 (.cmp .lss q_49_2 (aI 0 0 [q_49_9])))) (.and q_49_4 (.and q_49_3 (.cmp .lss q_49_2 (aI 0 0 [q_49_10]))))))))))
def es_49 : List E := [(aX 0 6 [q_49_10, q_49_2, (.lit .x 2), (.bin .add .i64 (aI 0 1 [q_49_10, q_49_2, (.lit .x 2)]) (lI 1))]), (vI 1), (vI 2), (.bin .add .i64 (vI 3) (lI 1)), (vI 4), (.ite q_49_7 (aX 0 6 [q_49_11, q_49_8, (.lit .x 3), (.bin .add .i64 (vI 6) (lI 1))]) q_49_11)]
theorem ev_49 : evE Try.prog G0 (tabOf cC.fs) (ltOf cC.ls) 40 10 e49 = some (ob_49, es_49) := by kernel_rfl
def q_50_0 : E := (.and (.cmp .geq (vI 6) (lI 0)) (.cmp .lss (vI 6) (lI 1000000000)))
def q_50_1 : E := (.and q_50_0 (.and (.cmp .geq (vI 6) (lI 0)) (.cmp .lss (vI 6) (aI 0 0 [(vX 0)]))))
def q_50_2 : E := (.cmp .eql (aI 0 1 [(vX 0), (vI 6), (.lit .x 2)]) (lI 0))
def q_50_3 : E := (.cmp .gtr (aI 0 1 [(vX 0), (lI 2048), (.lit .x 1)]) (lI 0))
def q_50_4 : E := (.bin .sub .i64 (aI 0 1 [(vX 0), (lI 2048), (.lit .x 1)]) (lI 1))
def q_50_5 : E := (.ite q_50_3 (vX 0) (aX 0 6 [(vX 0), (lI 2048), (.lit .x 0), (aI 0 1 [(vX 0), (vI 6), (.lit .x 0)])]))
def q_50_6 : E := (aI 0 0 [q_50_5])
def q_50_7 : E := (.and q_50_0 (.and (.cmp .geq (vI 6) (lI 0)) (.cmp .lss (vI 6) q_50_6)))
def q_50_8 : E := (.cmp .lss (lI 2048) q_50_6)
def q_50_9 : E := (.bin .sub .i64 (aI 0 1 [q_50_5, (vI 6), (.lit .x 0)]) (lI 1))
def q_50_10 : E := (aX 0 6 [q_50_5, (lI 2048), (.lit .x 1), (aI 0 1 [q_50_5, (vI 6), (.lit .x 1)])])
def q_50_11 : E := (aI 0 0 [q_50_10])
def q_50_12 : E := (.cmp .lss (lI 2048) q_50_11)
def q_50_13 : E := (aX 0 6 [q_50_10, (lI 2048), (.lit .x 2), (.bin .add .i64 (aI 0 1 [q_50_10, (lI 2048), (.lit .x 2)]) (aI 0 1 [q_50_10, (vI 6), (.lit .x 2)]))])
def ob_50 : E := (.and q_50_1 (.or q_50_2 (.and (.and (.cmp .lss (lI 2048) (aI 0 0 [(vX 0)])) (.and (.or (.not q_50_3) (.and (.cmp .lss (lI 2048) (aI 0 0 [(vX 0)])) (.and q_50_1 (.and (.cmp .geq q_50_4 (lI 0)) (.cmp .lss q_50_4 (aI 0 0 [(vX 5)])))))) (.or q_50_3 (.and q_50_1 (.cmp .lss (lI 2048) (aI 0 0 [(vX 0)])))))) (.and (.and q_50_7 (.and q_50_8 (.and (.cmp .geq q_50_9 (lI 0)) (.cmp .lss q_50_9 (aI 0 0 [(vX 5)]))))) (.and (.and q_50_7 q_50_8) (.and (.and q_50_12 (.and (.and q_50_0 (.and (.cmp .geq (vI 6) (lI 0)) (.cmp .lss (vI 6) q_50_11))) q_50_12)) (.and q_50_0 (.and (.cmp .geq (vI 6) (lI 0)) (.cmp .lss (vI 6) (aI 0 0 [q_50_13]))))))))))
def es_50 : List E := [(.ite q_50_2 (vX 0) (aX 0 6 [q_50_13, (vI 6), (.lit .x 0), (lI 0), (lI 0), (lI 0)])), (vI 1), (vI 2), (vI 3), (vI 4), (.ite q_50_2 (vX 5) (aX 0 6 [(.ite q_50_3 (aX 0 6 [(vX 5), q_50_4, (.lit .x 3), (aI 0 1 [(vX 0), (vI 6), (.lit .x 0)])]) (vX 5)), q_50_9, (.lit .x 2), (aI 0 1 [q_50_5, (lI 2048), (.lit .x 1)])]))]
theorem ev_50 : evE Try.prog G0 (tabOf cC.fs) (ltOf cC.ls) 40 10 e50 = some (ob_50, es_50) := by kernel_rfl
def q_51_0 : E := (.dv .rem .i64 (.bin .add .i64 (aI 71 0 [(lI 1), (vI 1)]) (lI 1)) 512)
def q_51_1 : E := (.cmp .geq q_51_0 (lI 0))
def q_51_2 : E := (.bin .add .i64 q_51_0 (lI 512))
def q_51_3 : E := (.cmp .gtr (aI 0 1 [(vX 0), q_51_2, (.lit .x 2)]) (lI 0))
def q_51_4 : E := (.dv .rem .i64 (.bin .add .i64 (aI 71 0 [(lI 2), (vI 1)]) (lI 1)) 512)
def q_51_5 : E := (.cmp .geq q_51_4 (lI 0))
def q_51_6 : E := (.bin .add .i64 q_51_4 (lI 1024))
def q_51_7 : E := (.cmp .gtr (aI 0 1 [(vX 0), q_51_6, (.lit .x 2)]) (lI 0))
def q_51_8 : E := (.dv .rem .i64 (.bin .add .i64 (aI 71 0 [(lI 3), (vI 1)]) (lI 1)) 512)
def q_51_9 : E := (.cmp .geq q_51_8 (lI 0))
def q_51_10 : E := (.bin .add .i64 q_51_8 (lI 1536))
def ob_51 : E := (.and (.and (aB 71 1000000 [(lI 1), (vI 1)]) (.and (.and q_51_1 (.cmp .lss q_51_0 (lI 512))) (.and (.and q_51_1 (.cmp .lss q_51_0 (lI 1000000000))) (.and (.cmp .geq q_51_2 (lI 0)) (.cmp .lss q_51_2 (aI 0 0 [(vX 0)])))))) (.or q_51_3 (.and (.and (aB 71 1000000 [(lI 2), (vI 1)]) (.and (.and q_51_5 (.cmp .lss q_51_4 (lI 512))) (.and (.and q_51_5 (.cmp .lss q_51_4 (lI 1000000000))) (.and (.cmp .geq q_51_6 (lI 0)) (.cmp .lss q_51_6 (aI 0 0 [(vX 0)])))))) (.or q_51_7 (.and (aB 71 1000000 [(lI 3), (vI 1)]) (.and (.and q_51_9 (.cmp .lss q_51_8 (lI 512))) (.and (.and q_51_9 (.cmp .lss q_51_8 (lI 1000000000))) (.and (.cmp .geq q_51_10 (lI 0)) (.cmp .lss q_51_10 (aI 0 0 [(vX 0)]))))))))))
def es_51 : List E := [(.ite (.or q_51_3 (.and (.not q_51_3) (.or q_51_7 (.and (.not q_51_7) (.cmp .gtr (aI 0 1 [(vX 0), q_51_10, (.lit .x 2)]) (lI 0)))))) (.ite q_51_3 (aI 0 1 [(vX 0), q_51_2, (.lit .x 0)]) (.ite q_51_7 (aI 0 1 [(vX 0), q_51_6, (.lit .x 0)]) (aI 0 1 [(vX 0), q_51_10, (.lit .x 0)]))) (lI 0))]
theorem ev_51 : evE Try.prog G0 (tabOf cB.fs) (ltOf cB.ls) 40 10 e51 = some (ob_51, es_51) := by kernel_rfl
theorem mixed : Try.prog.follows Departure.mixedOrders = true := by kernel_rfl
theorem cAok : cA.OK Try.prog G0 := Ctx.OK.nil
theorem ok71 : EntryOK Try.prog G0 e71 := cAok.entryP mixed ev_71 _ rfl _ rfl fun xs hf hp => by
 obtain ⟨l, hl, hF⟩ := ctx_P (l0 := cA.l)
 show ob_71.tt cA.l.F _ = true /\ outsP e71.fn _ cA.l.F _ _ _ _
 rw [hl]
 obtain ⟨k, t, rfl⟩ : ∃ a b, xs = [a, b] := by
  have := fits_length hf
  match xs, this with
  | [a, b], _ => exact ⟨a, b, rfl⟩
 obtain ⟨h0, h1, _⟩ := hf
 simp only [norm_i] at h0 h1
 obtain ⟨p1, p2⟩ := hp
 simp only [ewA, ewL, preC, binI, dvI, shI, cmpB, env, bi, List.headD, List.tail, List.map, Nat.reduceAdd] at p1 p2
 have hm := i64r h1
 refine ⟨?_, ?_, trivial⟩
 ·simp (disch := omega) only [ob_71, ewA, ewL, preC, binI, dvI, shI, cmpB, env, bi, List.headD, List.tail, List.map, Nat.reduceAdd, ewB, ewM, if_true, if_false, implies_true, forall_const, ne_eq, reduceCtorEq, Int.reduceEq, Int.reduceLT, Int.reduceLE, Int.reduceToNat, Int.reduceAdd, Int.reduceSub, Int.reduceMul, Int.reduceNeg, Int.reduceBEq, Nat.reduceLT, Nat.reduceEqDiff, h0, h1]
  omega
 ·simp (disch := omega) only [es_71, e71, fn71, ewA, ewL, preC, binI, dvI, shI, cmpB, env, bi, List.headD, List.tail, List.map, Nat.reduceAdd, ewB, ewM, if_true, if_false, implies_true, forall_const, ne_eq, reduceCtorEq, Int.reduceEq, Int.reduceLT, Int.reduceLE, Int.reduceToNat, Int.reduceAdd, Int.reduceSub, Int.reduceMul, Int.reduceNeg, Int.reduceBEq, Nat.reduceLT, Nat.reduceEqDiff, h0, h1]
  have hpow : (256 : Int) ^ k.toNat = 2 ^ (8 * k).toNat := by
   rw [show (8 * k).toNat = 8 * k.toNat by omega, Int.pow_mul]; rfl
  have hpos : (0 : Int) < 2 ^ (8 * k).toNat := Int.pow_pos (by decide)
  rw [show min (8 * k).toNat IntKind.i64.bits = (8 * k).toNat by simp only [IntKind.bits]; omega, Int.fdiv_eq_ediv_of_nonneg _ (Int.le_of_lt hpos), blk, hpow]
  generalize (2 : Int) ^ (8 * k).toNat = q at hpos ⊢
  have g1 : t / q <= 9223372036854775807 := by
   by_cases ht : 0 <= t
   ·have := Int.ediv_le_self q ht; omega
   ·have : t / q < 0 := Int.ediv_neg_of_neg_of_pos (by omega) hpos; omega
  have g2 : -9223372036854775808 <= t / q := (Int.le_ediv_iff_mul_le hpos).2 (by
   have : (9223372036854775808 : Int) * 1 <= 9223372036854775808 * q := Int.mul_le_mul_of_nonneg_left (by omega) (by decide)
   rw [Int.neg_mul]; omega)
  exact i64w g2 g1
theorem fits7 {xs : List Int} {k : K} (h : fits [.x, .i .i64, .i .i64, .i .i64, .i .i64, .x, k] xs) : ∃ S now bu le mo T i, xs = [S, now, bu, le, mo, T, i] := by
 have := fits_length h
 match xs, this with
 | [a, b, c, d, e, f, g], _ => exact ⟨_, _, _, _, _, _, _, rfl⟩
theorem fits6 {xs : List Int} (h : fits [.x, .i .i64, .i .i64, .i .i64, .i .i64, .x] xs) : ∃ S now bu le mo T, xs = [S, now, bu, le, mo, T] := by
 have := fits_length h
 match xs, this with
 | [a, b, c, d, e, f], _ => exact ⟨_, _, _, _, _, _, rfl⟩
theorem rowsC {ks : List K} {T : RL} (h : rowsOK ks T) {i j : Nat} (hi : i < T.length) (hj : ks[j]? = some (.i .i64)) : IntKind.i64.wrap (gC T i j) = gC T i j := by
 have := fits_get (h _ (List.getElem_mem hi)) j _ hj
 unfold gC
 rw [show T.getD i [] = T[i] by simp [List.getD, hi]]
 exact this
theorem rows_set {ks : List K} {T : RL} {i j : Nat} {vs : List Int} (h : rowsOK ks T) (hi : i < T.length) (hv : fits ks (splR (T.getD i []) j vs)) : rowsOK ks (setC T i j vs) := fun r hr => by
 unfold setC at hr
 rcases List.mem_or_eq_of_mem_set hr with h1 | rfl
 ·exact h r h1
 ·exact hv
theorem rows_setC {ks : List K} {T : RL} {i j : Nat} {vs : List Int} (h : rowsOK ks T) (hi : i < T.length) (hv : fits ((ks.drop j).take vs.length) vs) (hl : j + vs.length <= ks.length) : rowsOK ks (setC T i j vs) :=
 rows_set h hi (fits_splR (by rw [show T.getD i [] = T[i] by simp [List.getD, hi]]; exact h _ (List.getElem_mem hi)) hv hl).1
theorem ok46 : EntryOK Try.prog G0 e46 := cAok.entryP mixed ev_46 _ rfl _ rfl fun xs hf hp => by
 obtain ⟨l, hl, hF⟩ := ctx_P (l0 := cA.l)
 show ob_46.tt cA.l.F _ = true /\ outsP e46.fn _ cA.l.F _ _ _ _
 rw [hl]
 obtain ⟨S, now, bu, le, mo, T, rfl⟩ := fits6 hf
 obtain ⟨p1, p2⟩ := hp
 simp only [lenT, ewA, ewL, preC, binI, dvI, shI, cmpB, env, bi, List.headD, List.tail, List.map, Nat.reduceAdd] at p1 p2
 refine ⟨?_, trivial⟩
 simp (disch := omega) only [ob_46, ewA, ewL, preC, binI, dvI, shI, cmpB, env, bi, List.headD, List.tail, List.map, Nat.reduceAdd, ewB, ewM, if_true, if_false, implies_true, forall_const, ne_eq, reduceCtorEq, Int.reduceEq, Int.reduceLT, Int.reduceLE, Int.reduceToNat, Int.reduceAdd, Int.reduceSub, Int.reduceMul, Int.reduceNeg, Int.reduceBEq, Nat.reduceLT, Nat.reduceEqDiff]
 omega
theorem ok47 : EntryOK Try.prog G0 e47 := cAok.entryP mixed ev_47 _ rfl _ rfl fun xs hf hp => by
 obtain ⟨l, hl, hF⟩ := ctx_P (l0 := cA.l)
 show ob_47.tt cA.l.F _ = true /\ outsP e47.fn _ cA.l.F _ _ _ _
 rw [hl]
 obtain ⟨S, now, bu, le, mo, T, i, rfl⟩ := fits7 hf
 obtain ⟨h0, h1, h2, h3, h4, h5, h6, _⟩ := hf
 simp only [norm_i, norm_x] at h6
 obtain ⟨p1, p2⟩ := hp
 simp only [lenT, ewA, ewL, preC, binI, dvI, shI, cmpB, env, bi, List.headD, List.tail, List.map, Nat.reduceAdd] at p1 p2
 refine ⟨?_, ?_, trivial⟩
 ·simp (disch := omega) only [ob_47, ewA, ewL, preC, binI, dvI, shI, cmpB, env, bi, List.headD, List.tail, List.map, Nat.reduceAdd, ewB, ewM, if_true, if_false, implies_true, forall_const, ne_eq, reduceCtorEq, Int.reduceEq, Int.reduceLT, Int.reduceLE, Int.reduceToNat, Int.reduceAdd, Int.reduceSub, Int.reduceMul, Int.reduceNeg, Int.reduceBEq, Nat.reduceLT, Nat.reduceEqDiff]
 ·simp (disch := omega) only [es_47, e47, lenT, ewA, ewL, preC, binI, dvI, shI, cmpB, env, bi, List.headD, List.tail, List.map, Nat.reduceAdd, ewB, ewM, if_true, if_false, implies_true, forall_const, ne_eq, reduceCtorEq, Int.reduceEq, Int.reduceLT, Int.reduceLE, Int.reduceToNat, Int.reduceAdd, Int.reduceSub, Int.reduceMul, Int.reduceNeg, Int.reduceBEq, Nat.reduceLT, Nat.reduceEqDiff, h6]
theorem ok69 : EntryOK Try.prog G0 e69 := cAok.entryP mixed ev_69 _ rfl _ rfl fun xs hf hp => by
 obtain ⟨l, hl, hF⟩ := ctx_P (l0 := cA.l)
 show ob_69.tt cA.l.F _ = true /\ outsP e69.fn _ cA.l.F _ _ _ _
 rw [hl]
 obtain ⟨S, now, bu, le, mo, T, i, rfl⟩ := fits7 hf
 obtain ⟨h0, h1, h2, h3, h4, h5, h6, _⟩ := hf
 simp only [norm_i, norm_x] at h1 h6
 obtain ⟨p1, p2, p3, p4, p5⟩ := hp
 simp only [lenT, T5, S3, nowW, idW, ewA, ewL, preC, binI, dvI, shI, cmpB, env, bi, List.headD, List.tail, List.map, Nat.reduceAdd] at p1 p2 p3 p4 p5
 have hl : i.toNat < (dc T).length := by omega
 have c0 := rowsC p1 (j := 0) hl rfl
 have c1 := rowsC p1 (j := 1) hl rfl
 have c4 := rowsC p1 (j := 4) hl rfl
 simp only [gC] at c0 c1 c4 p5
 simp only [ofOK, gC] at p5
 refine ⟨?_, ?_, trivial⟩
 ·simp (disch := omega) only [ob_69, q_69_0, q_69_1, q_69_2, ewA, ewL, preC, binI, dvI, shI, cmpB, env, bi, List.headD, List.tail, List.map, Nat.reduceAdd, ewB, ewM, if_true, if_false, implies_true, forall_const, ne_eq, reduceCtorEq, Int.reduceEq, Int.reduceLT, Int.reduceLE, Int.reduceToNat, Int.reduceAdd, Int.reduceSub, Int.reduceMul, Int.reduceNeg, Int.reduceBEq, Nat.reduceLT, Nat.reduceEqDiff, h1, h6, c0, c1, c4]
  exact ⟨⟨p3, p4⟩, ⟨p3, p4⟩, fun h => ⟨⟨p3, p4⟩, ⟨p3, p4⟩, ⟨(p5 h).1, (p5 h).2.1⟩, ⟨(p5 h).1, by have := (p5 h).2.1; omega⟩, (p5 h).2.2.1, (p5 h).2.2.2⟩⟩
 ·simp (disch := omega) only [es_69, q_69_0, q_69_1, q_69_2, e69, locI, T5, nowW, idW, gC, ewA, ewL, preC, binI, dvI, shI, cmpB, env, bi, List.headD, List.tail, List.map, Nat.reduceAdd, ewB, ewM, if_true, if_false, implies_true, forall_const, ne_eq, reduceCtorEq, Int.reduceEq, Int.reduceLT, Int.reduceLE, Int.reduceToNat, Int.reduceAdd, Int.reduceSub, Int.reduceMul, Int.reduceNeg, Int.reduceBEq, Nat.reduceLT, Nat.reduceEqDiff, h1, h6, c0, c1, c4]
theorem blk_rng {t : Int} (k : Int) (h : 0 <= t) : 0 <= blk k t /\ blk k t <= t := by
 have hp : (0 : Int) < 256 ^ k.toNat := Int.pow_pos (by decide)
 exact ⟨Int.ediv_nonneg h (Int.le_of_lt hp), Int.ediv_le_self _ h⟩
theorem cBok : cB.OK Try.prog G0 := Ctx.OK.nil.addF ok71 rfl
set_option maxHeartbeats 4000000 in
theorem ok70 : EntryOK Try.prog G0 e70 := cBok.entryP mixed ev_70 _ rfl _ rfl fun xs hf hp => by
 obtain ⟨l, hl, hF⟩ := ctx_P (l0 := cB.l)
 show ob_70.tt cB.l.F _ = true /\ outsP e70.fn _ cB.l.F _ _ _ _
 rw [hl]
 have F71 := FC (k := 71) rfl (hF e71 (by rfl) (by decide))
 have hSS := F71
 obtain ⟨S, now, bu, le, mo, T, d, rfl⟩ := fits7 hf
 obtain ⟨h0, h1, h2, h3, h4, h5, h6, _⟩ := hf
 simp only [norm_i, norm_x] at h1 h6
 obtain ⟨p1, p2, p3, p4⟩ := hp
 simp only [nowW, ewA, ewL, preC, binI, dvI, shI, cmpB, env, bi, List.headD, List.tail, List.map, Nat.reduceAdd] at p1 p2 p3 p4
 have f : ∀ k t, e71.fn 0 [k, t] = blk k t := fun _ _ => rfl
 have n1 := blk_rng 1 p1
 have n2 := blk_rng 2 p1
 have n3 := blk_rng 3 p1
 have d1 := blk_rng 1 p3
 have d2 := blk_rng 2 p3
 have d3 := blk_rng 3 p3
 have y : ∀ t, e71.pre [1, t] /\ e71.pre [2, t] /\ e71.pre [3, t] /\ e71.pre [0, t] := fun t => ⟨⟨by show (0 : Int) <= 1; decide, by show (1 : Int) <= 4; decide⟩, ⟨by show (0 : Int) <= 2; decide, by show (2 : Int) <= 4; decide⟩, ⟨by show (0 : Int) <= 3; decide, by show (3 : Int) <= 4; decide⟩, ⟨by show (0 : Int) <= 0; decide, by show (0 : Int) <= 4; decide⟩⟩
 refine ⟨?_, ?_, ?_, trivial⟩
 ·simp (disch := omega) only [ob_70, q_70_0, q_70_1, q_70_2, q_70_3, q_70_4, q_70_5, q_70_6, ewA, ewL, preC, binI, dvI, shI, cmpB, env, bi, List.headD, List.tail, List.map, Nat.reduceAdd, ewB, ewM, if_true, if_false, implies_true, forall_const, ne_eq, reduceCtorEq, Int.reduceEq, Int.reduceLT, Int.reduceLE, Int.reduceToNat, Int.reduceAdd, Int.reduceSub, Int.reduceMul, Int.reduceNeg, Int.reduceBEq, Nat.reduceLT, Nat.reduceEqDiff, hSS, h1, h6, f]
  refine ⟨⟨⟨(y d).1, (y now).1⟩, fun _ => ⟨⟨(y d).2.1, (y now).2.1⟩, fun _ => ⟨(y d).2.2.1, (y now).2.2.1⟩⟩⟩, fun _ => ?_⟩
  split
  ·exact (y d).2.2.2
  ·split
   ·exact (y d).1
   ·split
    ·exact (y d).2.1
    ·exact (y d).2.2.1
 ·simp (disch := omega) only [es_70, q_70_0, q_70_1, q_70_2, q_70_3, q_70_4, q_70_5, q_70_6, e70, fn70, lvF, nowW, ewA, ewL, preC, binI, dvI, shI, cmpB, env, bi, List.headD, List.tail, List.map, Nat.reduceAdd, ewB, ewM, if_true, if_false, implies_true, forall_const, ne_eq, reduceCtorEq, Int.reduceEq, Int.reduceLT, Int.reduceLE, Int.reduceToNat, Int.reduceAdd, Int.reduceSub, Int.reduceMul, Int.reduceNeg, Int.reduceBEq, Nat.reduceLT, Nat.reduceEqDiff, hSS, h1, h6, f]
 ·simp (disch := omega) only [es_70, q_70_0, q_70_1, q_70_2, q_70_3, q_70_4, q_70_5, q_70_6, e70, fn70, lvF, nowW, ewA, ewL, preC, binI, dvI, shI, cmpB, env, bi, List.headD, List.tail, List.map, Nat.reduceAdd, ewB, ewM, if_true, if_false, implies_true, forall_const, ne_eq, reduceCtorEq, Int.reduceEq, Int.reduceLT, Int.reduceLE, Int.reduceToNat, Int.reduceAdd, Int.reduceSub, Int.reduceMul, Int.reduceNeg, Int.reduceBEq, Nat.reduceLT, Nat.reduceEqDiff, hSS, h1, h6, f]
  have hb : ∀ k, 0 <= blk k d /\ blk k d <= d := fun k => blk_rng k p3
  obtain ⟨Z, hZ⟩ : ∃ Z, Z = blk (if blk 1 d <= blk 1 now + 1 then 0 else if blk 2 d <= blk 2 now + 1 then 1 else if blk 3 d <= blk 3 now + 1 then 2 else 3) d := ⟨_, rfl⟩
  have hZr : 0 <= Z /\ Z <= d := hZ ▸ hb _
  rw [<- hZ, show IntKind.i64.wrap Z = Z from i64w (by omega) (by omega), Int.tmod_eq_emod_of_nonneg hZr.1]
theorem cCok : cC.OK Try.prog G0 := (Ctx.OK.nil.addF ok70 rfl).addF ok69 rfl
theorem headP_le {l : List Nat} {c : Nat} (h : ∀ a ∈ l, a < c) : headP l <= c := by
 cases l with
 | nil => simp [headP]
 | cons a r => have := h a (by simp); simp only [headP]; omega
theorem lastP_le {l : List Nat} {c : Nat} (h : ∀ a ∈ l, a < c) : lastP l <= c := headP_le (fun a ha => h a (by simpa using ha))
theorem gC_def (l : RL) (n j : Nat) : (l.getD n []).getD j 0 = gC l n j := rfl
theorem setC_def (l : RL) (i j : Nat) (vs : List Int) : l.set i (splR (l.getD i []) j vs) = setC l i j vs := rfl
theorem locI_rng {now : Int} {T : RL} {i : Nat} (h : ofOK now T i) : 0 <= locI now T i /\ locI now T i < 2049 := by
 unfold locI
 by_cases hc : gC T i 4 <= now
 ·rw [if_pos hc]; omega
 ·rw [if_neg hc]; have := h (by omega); omega
theorem nodup_len : ∀ {c : Nat} {l : List Nat}, l.Nodup -> (∀ a ∈ l, a < c) -> l.length <= c
 | 0, l, _, hl => by
   cases l with
   | nil => simp
   | cons a r => have := hl a (by simp); omega
 | c + 1, l, h, hl => by
   have h1 := nodup_len (c := c) (l := l.erase c) (h.erase c) fun a ha => by
    have := (List.Nodup.mem_erase_iff h).1 ha
    have := hl a this.2
    omega
   rw [List.length_erase] at h1
   split at h1 <;> omega
set_option maxHeartbeats 8000000 in
theorem ok48 : EntryOK Try.prog G0 e48 := cCok.entryP mixed ev_48 _ rfl _ rfl fun xs hf hp => by
 obtain ⟨l, hl, hF⟩ := ctx_P (l0 := cC.l)
 show ob_48.tt cC.l.F _ = true /\ outsP e48.fn _ cC.l.F _ _ _ _
 rw [hl]
 have F69 := FC (k := 69) rfl (hF e69 (by rfl) (by decide))
 have hSS := F69
 obtain ⟨S, now, bu, le, mo, T, i, rfl⟩ := fits7 hf
 obtain ⟨h0, h1, h2, h3, h4, h5, h6, _⟩ := hf
 simp only [norm_i, norm_x] at h1 h2 h3 h4 h6
 obtain ⟨Q, p1, p2, p3, p4, p5⟩ := hp
 simp only [lenT, T5, S3, nowW, idW, ewA, ewL, preC, binI, dvI, shI, cmpB, env, bi, List.headD, List.tail, List.map, Nat.reduceAdd] at p1 p2 p3 p4 p5
 have hle := p1.le
 have hct := p1.ct
 obtain ⟨A, B, hq⟩ := List.append_of_mem p5
 obtain ⟨c1, c2⟩ := p1.lk.ch _ _ _ _ hq
 obtain ⟨n, hn⟩ : ∃ n, n = i.toNat := ⟨_, rfl⟩
 have hl : n < (dc T).length := by omega
 have w2 := rowsC p1.rT (j := 2) hl rfl
 have w3 := rowsC p1.rT (j := 3) hl rfl
 have hL : e69.fn 0 [S, now, bu, le, mo, T, i] = locI now (dc T) n := by rw [hn]; rfl
 have hy : e69.pre [S, now, bu, le, mo, T, i] := ⟨p1.rT, p1.ct.2, p2, p3, p4⟩
 rw [<- hn] at c1 c2 hq p5 p4
 have hLr := locI_rng p4
 have hnd := p1.lk.nd (locI now (dc T) n).toNat
 rw [hq] at hnd
 have hin : ∀ a, a ∈ A \/ a ∈ B -> a < (dc T).length := fun a ha => p1.lk.qc (locI now (dc T) n).toNat a (by rw [hq]; rcases ha with h | h <;> simp [h])
 have hPr : 0 <= gC (dc T) n 2 /\ gC (dc T) n 2 <= ((dc T).length : Int) := by rw [c1]; exact ⟨lastP_nonneg _, lastP_le fun a ha => hin a (Or.inl ha)⟩
 have hXr : 0 <= gC (dc T) n 3 /\ gC (dc T) n 3 <= ((dc T).length : Int) := by rw [c2]; exact ⟨headP_nonneg _, headP_le fun a ha => hin a (Or.inr ha)⟩
 have hne : ((gC (dc T) n 2 - 1).toNat : Int) ≠ n \/ gC (dc T) n 2 = 0 := by
  by_cases h0 : gC (dc T) n 2 = 0
  ·exact Or.inr h0
  ·refine Or.inl fun e => ?_
   have : lastP A = (n : Int) + 1 := by rw [<- c1]; omega
   have hA := lastP_mem this
   obtain ⟨_, _, n3⟩ := List.nodup_append.1 hnd
   exact n3 n hA n (by simp) rfl
 have g2 : 0 < gC (dc T) n 2 -> gC (setC (dc T) (gC (dc T) n 2 - 1).toNat 3 [gC (dc T) n 3]) n 2 = gC (dc T) n 2 := fun h => by
  rw [p1.lk.tw.c1 (by omega) (by decide), if_neg (by omega)]
 have g3 : 0 < gC (dc T) n 2 -> gC (setC (dc T) (gC (dc T) n 2 - 1).toNat 3 [gC (dc T) n 3]) n 3 = gC (dc T) n 3 := fun h => by
  rw [p1.lk.tw.c1 (by omega) (by decide), if_neg (by omega)]
 have hS := p1.lk.sw.1
 have hK : (locI now (dc T) n).toNat < 2049 := by omega
 have hcr : 1 <= gC (dc S) (locI now (dc T) n).toNat 2 /\ gC (dc S) (locI now (dc T) n).toNat 2 <= 4096 := by
  rw [(p1.lk.hd _ hK).2.2, hq]
  have h1 := nodup_len (p1.lk.nd (locI now (dc T) n).toNat) fun a ha => p1.lk.qc _ a ha
  rw [hq] at h1
  simp only [List.length_append, List.length_cons] at h1 ⊢
  omega
 have u0 : ∀ v, gC (setC (dc S) (locI now (dc T) n).toNat 0 [v]) (locI now (dc T) n).toNat 2 = gC (dc S) (locI now (dc T) n).toNat 2 := fun v => by rw [p1.lk.sw.c1 hK (by decide), if_neg (by omega)]
 have u1 : ∀ v, gC (setC (dc S) (locI now (dc T) n).toNat 1 [v]) (locI now (dc T) n).toNat 2 = gC (dc S) (locI now (dc T) n).toNat 2 := fun v => by rw [p1.lk.sw.c1 hK (by decide), if_neg (by omega)]
 have u2 : ∀ v w, gC (setC (setC (dc S) (locI now (dc T) n).toNat 0 [v]) (locI now (dc T) n).toNat 1 [w]) (locI now (dc T) n).toNat 2 = gC (dc S) (locI now (dc T) n).toNat 2 := fun v w => by rw [(p1.lk.sw.set hK (by simp)).c1 hK (by decide), if_neg (by omega), u0]
 by_cases hP : 0 < gC (dc T) n 2 <;> by_cases hX : 0 < gC (dc T) n 3 <;> refine ⟨?_, ?_, ?_, ?_, ?_, ?_, ?_, trivial⟩
 all_goals simp (disch := omega) only [ob_48, q_48_0, q_48_1, q_48_2, q_48_3, q_48_4, q_48_5, q_48_6, q_48_7, q_48_8, q_48_9, q_48_10, q_48_11, q_48_12, es_48, e48, fn48, S3, T5, nowW, idW, ewA, ewL, preC, binI, dvI, shI, cmpB, env, bi, List.headD, List.tail, List.map, Nat.reduceAdd, ewB, ewM, if_true, if_false, implies_true, forall_const, ne_eq, reduceCtorEq, Int.reduceEq, Int.reduceLT, Int.reduceLE, Int.reduceToNat, Int.reduceAdd, Int.reduceSub, Int.reduceMul, Int.reduceNeg, Int.reduceBEq, Nat.reduceLT, Nat.reduceEqDiff, hSS, h1, h2, h3, h4, h6, hL, <- hn, gC_def, setC_def, w2, w3, hP, hX, g2, g3, hy, setC_len, hS, u0, u1, u2]
 all_goals first | omega | simp only [dropS, hP, hX, if_true, if_false, u0, u1, u2] | simp only [dropT, hP, hX, if_true, if_false]
theorem fits8 {xs : List Int} {k m : K} (h : fits [.x, .i .i64, .i .i64, .i .i64, .i .i64, .x, k, m] xs) : ∃ S now bu le mo T i d, xs = [S, now, bu, le, mo, T, i, d] := by
 have := fits_length h
 match xs, this with
 | [a, b, c, d, e, f, g, h], _ => exact ⟨_, _, _, _, _, _, _, _, rfl⟩
theorem lvF_rng (now d : Int) : 0 <= lvF now d /\ lvF now d <= 3 := by
 unfold lvF
 repeat' split
 all_goals omega
theorem kW_rng (now d : Int) : 0 <= kW now d /\ kW now d < 2049 := by
 unfold kW
 have := lvF_rng now d
 split <;> omega
set_option maxHeartbeats 8000000 in
theorem ok49 : EntryOK Try.prog G0 e49 := cCok.entryP mixed ev_49 _ rfl _ rfl fun xs hf hp => by
 obtain ⟨l, hl, hF⟩ := ctx_P (l0 := cC.l)
 show ob_49.tt cC.l.F _ = true /\ outsP e49.fn _ cC.l.F _ _ _ _
 rw [hl]
 have F69 := FC (k := 69) rfl (hF e69 (by rfl) (by decide))
 have F70 := FC (k := 70) rfl (hF e70 (by rfl) (by decide))
 have hSS := And.intro F69 F70
 obtain ⟨S, now, bu, le, mo, T, i, d, rfl⟩ := fits8 hf
 obtain ⟨h0, h1, h2, h3, h4, h5, h6, h7, _⟩ := hf
 simp only [norm_i, norm_x] at h1 h2 h3 h4 h6 h7
 obtain ⟨Q, p1, p2, p3, p4, p5, p6⟩ := hp
 simp only [lenT, T5, S3, nowW, idW, ewA, ewL, preC, binI, dvI, shI, cmpB, env, bi, List.headD, List.tail, List.map, Nat.reduceAdd] at p1 p2 p3 p4 p5 p6
 have hle := p1.le
 have hct := p1.ct
 obtain ⟨n, hn⟩ : ∃ n, n = i.toNat := ⟨_, rfl⟩
 have hl : n < (dc T).length := by omega
 have hlv := lvF_rng now d
 have hb := blk_rng (lvF now d) p6.1
 have hk := kW_rng now d
 obtain ⟨lv, elv⟩ : ∃ lv, lv = lvF now d := ⟨_, rfl⟩
 obtain ⟨ix, eix⟩ : ∃ ix, ix = blk (lvF now d) d % 512 := ⟨_, rfl⟩
 have hix : 0 <= ix /\ ix < 512 := by omega
 have f0 : e70.fn 0 [S, now, bu, le, mo, T, d] = lv := elv.symm
 have f1 : e70.fn 1 [S, now, bu, le, mo, T, d] = ix := eix.symm
 have y70 : e70.pre [S, now, bu, le, mo, T, d] := ⟨p5.1, p5.2, p6⟩
 rw [<- elv] at hlv
 have wt1 := p1.lk.tw.set (vs := [lv, ix]) (j := 0) hl (by simp)
 have wt2 := wt1.set (vs := [d]) (j := 4) hl (by simp)
 have r4 : gC (setC (setC (dc T) n 0 [lv, ix]) n 4 [d]) n 4 = d := by rw [wt1.c1 hl (by decide), if_pos ⟨rfl, rfl⟩]
 have r0 : gC (setC (setC (dc T) n 0 [lv, ix]) n 4 [d]) n 0 = lv := by rw [wt1.c1 hl (by decide), if_neg (by omega), p1.lk.tw.c hl (by simp), if_pos ⟨rfl, by decide, by simp⟩]; rfl
 have r1 : gC (setC (setC (dc T) n 0 [lv, ix]) n 4 [d]) n 1 = ix := by rw [wt1.c1 hl (by decide), if_neg (by omega), p1.lk.tw.c hl (by simp), if_pos ⟨rfl, by decide, by simp⟩]; rfl
 have hL : e69.fn 0 [S, now, bu, le, mo, cd (setC (setC (dc T) n 0 [lv, ix]) n 4 [d]), i] = kW now d := by
  show locI now (dc (cd _)) i.toNat = _
  rw [dc_cd, <- hn]
  unfold locI kW
  rw [r4, r0, r1, elv, eix]
 have rT1 : rowsOK k5 (setC (setC (dc T) n 0 [lv, ix]) n 4 [d]) := by
  refine rows_setC (rows_setC p1.rT hl ?_ (by simp [k5])) (by rw [setC_len]; exact hl) ?_ (by simp [k5])
  ·exact ⟨i64w (by omega) (by omega), i64w (by omega) (by omega), trivial⟩
  ·exact ⟨h7, trivial⟩
 have eix' : blk lv d % 512 = ix := by rw [elv]; exact eix.symm
 have hy : e69.pre [S, now, bu, le, mo, cd (setC (setC (dc T) n 0 [lv, ix]) n 4 [d]), i] := by
  show rowsOK k5 (dc (cd _)) /\ (dc (cd _)).length <= 4096 /\ 0 <= i /\ i < ((dc (cd _)).length : Int) /\ ofOK now (dc (cd _)) i.toNat
  rw [dc_cd, setC_len, setC_len, <- hn]
  exact ⟨rT1, hct.2, p2, p3, fun _ => by rw [r0, r1]; omega⟩
 obtain ⟨K, hK⟩ : ∃ K, K = (kW now d).toNat := ⟨_, rfl⟩
 have hK9 : K < 2049 := by omega
 have hS := p1.lk.sw.1
 obtain ⟨a0, a1, a2⟩ := p1.lk.hd K hK9
 have hla : 0 <= gC (dc S) K 1 /\ gC (dc S) K 1 <= ((dc T).length : Int) := by rw [a1]; exact ⟨lastP_nonneg _, lastP_le fun a ha => p1.lk.qc _ a ha⟩
 have hcr : 0 <= gC (dc S) K 2 /\ gC (dc S) K 2 <= 4096 := by
  rw [a2]
  have h1 := nodup_len (p1.lk.nd K) fun a ha => p1.lk.qc _ a ha
  omega
 have u0 : ∀ v, gC (setC (dc S) K 0 [v]) K 2 = gC (dc S) K 2 := fun v => by rw [p1.lk.sw.c1 hK9 (by decide), if_neg (by omega)]
 have u1 : ∀ v, gC (setC (dc S) K 1 [v]) K 2 = gC (dc S) K 2 := fun v => by rw [p1.lk.sw.c1 hK9 (by decide), if_neg (by omega)]
 have u2 : ∀ v w, gC (setC (setC (dc S) K 0 [v]) K 1 [w]) K 2 = gC (dc S) K 2 := fun v w => by rw [(p1.lk.sw.set hK9 (by simp)).c1 hK9 (by decide), if_neg (by omega), u0]
 have wla : IntKind.i64.wrap (gC (dc S) K 1) = gC (dc S) K 1 := i64w (by omega) (by omega)
 have e1 : ((n : Nat) : Int) = i := by omega
 by_cases hP : 0 < gC (dc S) K 1 <;> refine ⟨?_, ?_, ?_, ?_, ?_, ?_, ?_, trivial⟩
 all_goals simp (disch := omega) only [ob_49, q_49_0, q_49_1, q_49_2, q_49_3, q_49_4, q_49_5, q_49_6, q_49_7, q_49_8, q_49_9, q_49_10, q_49_11, es_49, e49, fn49, S3, T5, nowW, idW, ewA, ewL, preC, binI, dvI, shI, cmpB, env, bi, List.headD, List.tail, List.map, Nat.reduceAdd, ewB, ewM, if_true, if_false, implies_true, forall_const, ne_eq, reduceCtorEq, Int.reduceEq, Int.reduceLT, Int.reduceLE, Int.reduceToNat, Int.reduceAdd, Int.reduceSub, Int.reduceMul, Int.reduceNeg, Int.reduceBEq, Nat.reduceLT, Nat.reduceEqDiff, hSS, h1, h2, h3, h4, h6, h7, f0, f1, y70, <- hn, gC_def, setC_def, hL, hy, <- hK, hP, setC_len, hS, u0, u1, u2, wla, <- elv, <- eix]
 all_goals first | omega | simp only [putS, hP, if_true, if_false, u0, u1, u2, e1] | simp only [putT, hP, if_true, if_false, e1, eix']
set_option maxHeartbeats 8000000 in
theorem ok50 : EntryOK Try.prog G0 e50 := cCok.entryP mixed ev_50 _ rfl _ rfl fun xs hf hp => by
 obtain ⟨l, hl, hF⟩ := ctx_P (l0 := cC.l)
 show ob_50.tt cC.l.F _ = true /\ outsP e50.fn _ cC.l.F _ _ _ _
 rw [hl]
 obtain ⟨S, now, bu, le, mo, T, i, rfl⟩ := fits7 hf
 obtain ⟨h0, h1, h2, h3, h4, h5, h6, _⟩ := hf
 simp only [norm_i, norm_x] at h1 h2 h3 h4 h6
 obtain ⟨Q, p1, p2, p3⟩ := hp
 simp only [ewA, ewL, preC, binI, dvI, shI, cmpB, env, bi, List.headD, List.tail, List.map, Nat.reduceAdd] at p1 p2 p3
 have hle := p1.le
 have hct := p1.ct
 obtain ⟨n, hn⟩ : ∃ n, n = i.toNat := ⟨_, rfl⟩
 have hn8 : n < 2048 := by omega
 have hS := p1.lk.sw.1
 obtain ⟨a0, a1, a2⟩ := p1.lk.hd n (by omega)
 obtain ⟨b0, b1, b2⟩ := p1.lk.hd 2048 (by omega)
 have bnd : ∀ k, (Q k).length <= (dc T).length := fun k => nodup_len (p1.lk.nd k) fun a ha => p1.lk.qc _ a ha
 have q0 : 0 <= gC (dc S) n 0 /\ gC (dc S) n 0 <= ((dc T).length : Int) := by rw [a0]; exact ⟨headP_nonneg _, headP_le fun a ha => p1.lk.qc _ a ha⟩
 have q1 : 0 <= gC (dc S) n 1 /\ gC (dc S) n 1 <= ((dc T).length : Int) := by rw [a1]; exact ⟨lastP_nonneg _, lastP_le fun a ha => p1.lk.qc _ a ha⟩
 have q2 : 0 <= gC (dc S) n 2 /\ gC (dc S) n 2 <= 4096 := by rw [a2]; have := bnd n; omega
 have q3 : 0 <= gC (dc S) 2048 1 /\ gC (dc S) 2048 1 <= ((dc T).length : Int) := by rw [b1]; exact ⟨lastP_nonneg _, lastP_le fun a ha => p1.lk.qc _ a ha⟩
 have q4 : 0 <= gC (dc S) 2048 2 /\ gC (dc S) 2048 2 <= 4096 := by rw [b2]; have := bnd 2048; omega
 have q5 : gC (dc S) n 2 ≠ 0 -> 0 < gC (dc S) n 0 := fun h => by
  rw [a2] at h
  rw [a0]
  cases hq : Q n with
  | nil => rw [hq] at h; exact absurd rfl h
  | cons a r => simp only [headP]; omega
 have hb := p1.lk.sw
 have v0 : ∀ v j, gC (setC (dc S) 2048 0 [v]) n j = gC (dc S) n j := fun v j => by rw [hb.c1 (by omega) (by decide), if_neg (by omega)]
 have w0 : ∀ v, Wid (setC (dc S) 2048 0 [v]) 2049 3 := fun v => hb.set (by omega) (by simp)
 have v1 : ∀ v, gC (setC (dc S) 2048 0 [v]) 2048 1 = gC (dc S) 2048 1 := fun v => by rw [hb.c1 (by omega) (by decide), if_neg (by omega)]
 have x1 : ∀ v j, gC (setC (dc S) 2048 1 [v]) n j = gC (dc S) n j := fun v j => by rw [hb.c1 (by omega) (by decide), if_neg (by omega)]
 have x2 : ∀ v, gC (setC (dc S) 2048 1 [v]) 2048 2 = gC (dc S) 2048 2 := fun v => by rw [hb.c1 (by omega) (by decide), if_neg (by omega)]
 have y1 : ∀ u v j, gC (setC (setC (dc S) 2048 0 [u]) 2048 1 [v]) n j = gC (dc S) n j := fun u v j => by rw [(w0 u).c1 (by omega) (by decide), if_neg (by omega), v0]
 have y2 : ∀ u v, gC (setC (setC (dc S) 2048 0 [u]) 2048 1 [v]) 2048 2 = gC (dc S) 2048 2 := fun u v => by rw [(w0 u).c1 (by omega) (by decide), if_neg (by omega), hb.c1 (by omega) (by decide), if_neg (by omega)]
 by_cases hc : gC (dc S) n 2 = 0
 ·refine ⟨?_, ?_, ?_, ?_, ?_, ?_, ?_, trivial⟩
  all_goals simp (disch := omega) only [ob_50, q_50_0, q_50_1, q_50_2, q_50_3, q_50_4, q_50_5, q_50_6, q_50_7, q_50_8, q_50_9, q_50_10, q_50_11, q_50_12, q_50_13, es_50, e50, fn50, S3, T5, nowW, idW, ewA, ewL, preC, binI, dvI, shI, cmpB, env, bi, List.headD, List.tail, List.map, Nat.reduceAdd, ewB, ewM, if_true, if_false, implies_true, forall_const, ne_eq, reduceCtorEq, Int.reduceEq, Int.reduceLT, Int.reduceLE, Int.reduceToNat, Int.reduceAdd, Int.reduceSub, Int.reduceMul, Int.reduceNeg, Int.reduceBEq, Nat.reduceLT, Nat.reduceEqDiff, h1, h2, h3, h4, h6, <- hn, gC_def, setC_def, hc, setC_len, hS]
  all_goals omega
 ·by_cases hP : 0 < gC (dc S) 2048 1 <;> refine ⟨?_, ?_, ?_, ?_, ?_, ?_, ?_, trivial⟩
  all_goals simp (disch := omega) only [ob_50, q_50_0, q_50_1, q_50_2, q_50_3, q_50_4, q_50_5, q_50_6, q_50_7, q_50_8, q_50_9, q_50_10, q_50_11, q_50_12, q_50_13, es_50, e50, fn50, S3, T5, nowW, idW, ewA, ewL, preC, binI, dvI, shI, cmpB, env, bi, List.headD, List.tail, List.map, Nat.reduceAdd, ewB, ewM, if_true, if_false, implies_true, forall_const, ne_eq, reduceCtorEq, Int.reduceEq, Int.reduceLT, Int.reduceLE, Int.reduceToNat, Int.reduceAdd, Int.reduceSub, Int.reduceMul, Int.reduceNeg, Int.reduceBEq, Nat.reduceLT, Nat.reduceEqDiff, h1, h2, h3, h4, h6, <- hn, gC_def, setC_def, hc, hP, setC_len, hS, v0, v1, x1, x2, y1, y2]
  all_goals first | omega | simp only [joinS, hP, if_true, if_false, v0, v1, x1, x2, y1, y2] | simp only [joinT, hP, if_true, if_false]
theorem wK_lt {k now : Int} (h : 0 <= k) (h3 : k <= 3) : wK k now < 2048 := by unfold wK; omega
set_option maxHeartbeats 8000000 in
theorem ok51 : EntryOK Try.prog G0 e51 := cBok.entryP mixed ev_51 _ rfl _ rfl fun xs hf hp => by
 obtain ⟨l, hl, hF⟩ := ctx_P (l0 := cB.l)
 show ob_51.tt cB.l.F _ = true /\ outsP e51.fn _ cB.l.F _ _ _ _
 rw [hl]
 have F71 := FC (k := 71) rfl (hF e71 (by rfl) (by decide))
 have hSS := F71
 obtain ⟨S, now, bu, le, mo, T, rfl⟩ := fits6 hf
 obtain ⟨h0, h1, h2, h3, h4, h5, _⟩ := hf
 simp only [norm_i, norm_x] at h1 h2 h3 h4
 obtain ⟨p1, p2, p3, p4⟩ := hp
 simp only [S3, nowW, ewA, ewL, preC, binI, dvI, shI, cmpB, env, bi, List.headD, List.tail, List.map, Nat.reduceAdd] at p1 p2 p3 p4
 have f : ∀ k t, e71.fn 0 [k, t] = blk k t := fun _ _ => rfl
 have n1 := blk_rng 1 p3
 have n2 := blk_rng 2 p3
 have n3 := blk_rng 3 p3
 have y1 : e71.pre [1, now] := ⟨by show (0 : Int) <= 1; decide, by show (1 : Int) <= 4; decide⟩
 have y2 : e71.pre [2, now] := ⟨by show (0 : Int) <= 2; decide, by show (2 : Int) <= 4; decide⟩
 have y3 : e71.pre [3, now] := ⟨by show (0 : Int) <= 3; decide, by show (3 : Int) <= 4; decide⟩
 have t1 : (blk 1 now + 1).tmod 512 = (blk 1 now + 1) % 512 := Int.tmod_eq_emod_of_nonneg (by omega)
 have t2 : (blk 2 now + 1).tmod 512 = (blk 2 now + 1) % 512 := Int.tmod_eq_emod_of_nonneg (by omega)
 have t3 : (blk 3 now + 1).tmod 512 = (blk 3 now + 1) % 512 := Int.tmod_eq_emod_of_nonneg (by omega)
 have cw : ∀ k j, k < 2049 -> j < 3 -> IntKind.i64.wrap (gC (dc S) k j) = gC (dc S) k j := fun k j hk hj => by
  match j, hj with
  | 0, _ | 1, _ | 2, _ => exact rowsC p1 (by omega) rfl
 refine ⟨?_, ?_, trivial⟩
 ·simp (disch := omega) only [ob_51, q_51_0, q_51_1, q_51_2, q_51_3, q_51_4, q_51_5, q_51_6, q_51_7, q_51_8, q_51_9, q_51_10, ewA, ewL, preC, binI, dvI, shI, cmpB, env, bi, List.headD, List.tail, List.map, Nat.reduceAdd, ewB, ewM, if_true, if_false, implies_true, forall_const, ne_eq, reduceCtorEq, Int.reduceEq, Int.reduceLT, Int.reduceLE, Int.reduceToNat, Int.reduceAdd, Int.reduceSub, Int.reduceMul, Int.reduceNeg, Int.reduceBEq, Nat.reduceLT, Nat.reduceEqDiff, hSS, h1, f, y1, y2, y3, t1, t2, t3, gC_def, cw, p2]
  omega
 ·simp (disch := omega) only [es_51, q_51_0, q_51_1, q_51_2, q_51_3, q_51_4, q_51_5, q_51_6, q_51_7, q_51_8, q_51_9, q_51_10, e51, wtF, wK, S3, nowW, ewA, ewL, preC, binI, dvI, shI, cmpB, env, bi, List.headD, List.tail, List.map, Nat.reduceAdd, ewB, ewM, if_true, if_false, implies_true, forall_const, ne_eq, reduceCtorEq, Int.reduceEq, Int.reduceLT, Int.reduceLE, Int.reduceToNat, Int.reduceAdd, Int.reduceSub, Int.reduceMul, Int.reduceNeg, Int.reduceBEq, Nat.reduceLT, Nat.reduceEqDiff, hSS, h1, f, y1, y2, y3, t1, t2, t3, gC_def, cw, p2]
  rw [Int.add_comm 512, Int.add_comm 1024, Int.add_comm 1536]
  have g1 := cw ((blk 1 now + 1) % 512 + 512).toNat 0 (by omega) (by decide)
  have g2 := cw ((blk 2 now + 1) % 512 + 1024).toNat 0 (by omega) (by decide)
  have g3 := cw ((blk 3 now + 1) % 512 + 1536).toNat 0 (by omega) (by decide)
  by_cases c1 : 0 < gC (dc S) ((blk 1 now + 1) % 512 + 512).toNat 2
  ·rw [if_pos c1, if_pos (fun h => absurd c1 (by omega)), if_pos c1, g1]
  ·rw [if_neg c1]
   by_cases c2 : 0 < gC (dc S) ((blk 2 now + 1) % 512 + 1024).toNat 2
   ·rw [if_pos c2, if_pos (fun _ => ⟨by omega, fun h => absurd c2 (by omega)⟩), if_neg c1, if_pos c2, g2]
   ·rw [if_neg c2]
    by_cases c3 : 0 < gC (dc S) ((blk 3 now + 1) % 512 + 1536).toNat 2
    ·rw [if_pos c3, if_pos (fun _ => ⟨by omega, fun _ => ⟨by omega, c3⟩⟩), if_neg c1, if_neg c2, g3]
    ·rw [if_neg c3, if_neg (fun h => c3 ((h (by omega)).2 (by omega)).2)]; rfl
theorem blk0 (t : Int) : blk 0 t = t := by simp [blk]
theorem blk1 (t : Int) : blk 1 t = t / 256 := rfl
theorem blk2 (t : Int) : blk 2 t = t / 65536 := rfl
theorem blk3 (t : Int) : blk 3 t = t / 16777216 := rfl
theorem blk4 (t : Int) : blk 4 t = t / 4294967296 := rfl
def cnt (n : Nat) (p : Nat -> Bool) : Nat := (List.range n).countP p
theorem cnt_succ (n : Nat) (p : Nat -> Bool) : cnt (n + 1) p = cnt n p + (if p n = true then 1 else 0) := by
 unfold cnt; rw [List.range_succ, List.countP_append, List.countP_singleton]
theorem cnt_congr {p q : Nat -> Bool} : ∀ {n : Nat}, (∀ j < n, p j = q j) -> cnt n p = cnt n q
 | 0, _ => rfl
 | n + 1, h => by rw [cnt_succ, cnt_succ, cnt_congr (n := n) fun j hj => h j (by omega), h n (by omega)]
theorem cnt_le (p : Nat -> Bool) : ∀ n : Nat, cnt n p <= n
 | 0 => Nat.le_refl _
 | n + 1 => by rw [cnt_succ]; have := cnt_le p n; split <;> omega
theorem cnt_mono {p q : Nat -> Bool} : ∀ {n : Nat}, (∀ j < n, p j = true -> q j = true) -> cnt n p <= cnt n q
 | 0, _ => Nat.le_refl _
 | n + 1, h => by
   rw [cnt_succ, cnt_succ]
   have h1 := cnt_mono (n := n) fun j hj => h j (by omega)
   have h2 := h n (by omega)
   cases hp : p n <;> cases hq : q n <;> simp_all <;> omega
theorem cnt_pos {p : Nat -> Bool} : ∀ {n i : Nat}, i < n -> p i = true -> 0 < cnt n p
 | n + 1, i, hi, hp => by
   rw [cnt_succ]
   by_cases h : i = n
   ·subst h; rw [if_pos hp]; omega
   ·have := cnt_pos (n := n) (i := i) (by omega) hp; omega
theorem cnt_zero {p : Nat -> Bool} {n : Nat} (h : ∀ j < n, p j = false) : cnt n p = 0 := by
 unfold cnt
 rw [List.countP_eq_zero]
 intro j hj
 rw [h j (List.mem_range.1 hj)]; decide
theorem cnt_upd {p q : Nat -> Bool} {i : Nat} : ∀ {n : Nat}, i < n -> (∀ j < n, j ≠ i -> q j = p j) -> (cnt n q : Int) = cnt n p - (if p i = true then 1 else 0) + (if q i = true then 1 else 0)
 | n + 1, hi, h => by
   rw [cnt_succ, cnt_succ]
   by_cases hn : i = n
   ·subst hn
    rw [cnt_congr (n := i) (p := q) (q := p) fun j hj => h j (by omega) (by omega)]
    cases p i <;> cases q i <;> simp <;> omega
   ·have := cnt_upd (n := n) (i := i) (by omega) fun j hj hne => h j (by omega) hne
    have hq := h n (by omega) (fun e => hn e.symm)
    rw [hq]
    split <;> omega
def waits (now : Int) (T : RL) (i : Nat) : Bool := decide (now < gC T i 4) && decide (1 <= gC T i 0) && decide (blk (gC T i 0) (gC T i 4) = blk (gC T i 0) now + 1)
def cntW (now : Int) (T : RL) : Nat := cnt T.length (waits now T)
def cntD (T : RL) : Nat := cnt T.length fun i => decide (0 < gC T i 4)
structure WOK (now bu le : Int) (S T : RL) (Q : Nat -> List Nat) (w : Int) : Prop where
 tm : 0 <= now /\ now <= 1099511627776
 bg : 1 <= bu /\ bu <= 4096
 ct : 0 < T.length /\ T.length <= 4096 /\ (T.length : Int) <= 256 * bu
 rS : rowsOK k3 S
 rT : rowsOK k5 T
 lk : Lk T S Q T.length
 inn : ∀ i < T.length, 0 < gC T i 4 -> i ∈ Q (locI now T i).toNat
 out : ∀ k i, i ∈ Q k -> 0 < gC T i 4 /\ (locI now T i).toNat = k
 dr : ∀ i < T.length, 0 <= gC T i 4 /\ gC T i 4 <= now + 2147483648
 pl : ∀ i < T.length, now < gC T i 4 -> (0 <= gC T i 0 /\ gC T i 0 <= 3) /\ gC T i 1 = blk (gC T i 0) (gC T i 4) % 512 /\ (1 <= gC T i 0 -> blk (gC T i 0) now < blk (gC T i 0) (gC T i 4)) /\ (gC T i 0 < 3 -> blk (gC T i 0 + 1) (gC T i 4) <= blk (gC T i 0 + 1) now + 1)
 wt : (cntW now T : Int) <= w
 ln : le = (cntD T : Int)
theorem WOK.of {now bu le w : Int} {S T : RL} {Q : Nat -> List Nat} (h : WOK now bu le S T Q w) {i : Nat} (hi : i < T.length) : ofOK now T i := fun hd => by
 obtain ⟨p1, p2, _, _⟩ := h.pl i hi hd
 rw [p2]
 refine ⟨p1.1, by omega, Int.emod_nonneg _ (by decide), Int.emod_lt_of_pos _ (by decide)⟩
theorem WOK.le_rng {now bu le w : Int} {S T : RL} {Q : Nat -> List Nat} (h : WOK now bu le S T Q w) : 0 <= le /\ le <= 4096 := by
 have := cnt_le (fun i => decide (0 < gC T i 4)) T.length
 have h1 := h.ct
 rw [h.ln]; unfold cntD; omega
theorem w64 {v : Int} (h1 : -9223372036854775808 <= v) (h2 : v <= 9223372036854775807) : K.norm (.i .i64) v = v := i64w h1 h2
theorem rows_dropS {S : RL} {k : Nat} {p n : Int} {c : Nat} (h : rowsOK k3 S) (hw : Wid S 2049 3) (hk : k < 2049) (hp : 0 <= p /\ p <= c) (hn : 0 <= n /\ n <= c) (hc : c <= 4096) (hcc : 0 <= gC S k 2 /\ gC S k 2 <= 4096) : rowsOK k3 (dropS S k p n) := by
 have hl := hw.1
 have s1 : rowsOK k3 (if 0 < p then S else setC S k 0 [n]) /\ Wid (if 0 < p then S else setC S k 0 [n]) 2049 3 /\ gC (if 0 < p then S else setC S k 0 [n]) k 2 = gC S k 2 := by
  split
  ·exact ⟨h, hw, rfl⟩
  ·exact ⟨rows_setC h (by omega) ⟨w64 (by omega) (by omega), trivial⟩ (by simp [k3]), hw.set hk (by simp), by rw [hw.c1 hk (by decide), if_neg (by omega)]⟩
 obtain ⟨S1, e1⟩ : ∃ S1, S1 = if 0 < p then S else setC S k 0 [n] := ⟨_, rfl⟩
 rw [<- e1] at s1
 obtain ⟨a1, a2, a3⟩ := s1
 have s2 : rowsOK k3 (if 0 < n then S1 else setC S1 k 1 [p]) /\ Wid (if 0 < n then S1 else setC S1 k 1 [p]) 2049 3 /\ gC (if 0 < n then S1 else setC S1 k 1 [p]) k 2 = gC S k 2 := by
  split
  ·exact ⟨a1, a2, a3⟩
  ·exact ⟨rows_setC a1 (by rw [a2.1]; omega) ⟨w64 (by omega) (by omega), trivial⟩ (by simp [k3]), a2.set hk (by simp), by rw [a2.c1 hk (by decide), if_neg (by omega), a3]⟩
 obtain ⟨S2, e2⟩ : ∃ S2, S2 = if 0 < n then S1 else setC S1 k 1 [p] := ⟨_, rfl⟩
 rw [<- e2] at s2
 obtain ⟨b1, b2, b3⟩ := s2
 have e3 : dropS S k p n = setC S2 k 2 [gC S2 k 2 - 1] := by unfold dropS; rw [e2, e1]
 rw [e3, b3]
 exact rows_setC b1 (by rw [b2.1]; omega) ⟨w64 (by omega) (by omega), trivial⟩ (by simp [k3])
theorem rows_dropT {T S : RL} {Q : Nat -> List Nat} {cap k i : Nat} {A B : List Nat} (h : rowsOK k5 T) (hk : Lk T S Q cap) (hq : Q k = A ++ i :: B) (hc : cap <= 4096) : rowsOK k5 (dropT T i) := by
 obtain ⟨c1, c2⟩ := hk.ch k A i B hq
 have hic : i < cap := hk.qc k i (by rw [hq]; simp)
 have hA : lastP A <= cap := lastP_le fun a ha => hk.qc k a (by rw [hq]; simp [ha])
 have hB : headP B <= cap := headP_le fun a ha => hk.qc k a (by rw [hq]; simp [ha])
 have hA0 := lastP_nonneg A
 have hB0 := headP_nonneg B
 have hw := hk.tw
 have s1 : rowsOK k5 (if 0 < lastP A then setC T (lastP A - 1).toNat 3 [headP B] else T) /\ Wid (if 0 < lastP A then setC T (lastP A - 1).toNat 3 [headP B] else T) cap 5 := by
  split
  ·exact ⟨rows_setC h (by rw [hw.1]; omega) ⟨w64 (by omega) (by omega), trivial⟩ (by simp [k5]), hw.set (by omega) (by simp)⟩
  ·exact ⟨h, hw⟩
 obtain ⟨T1, e1⟩ : ∃ T1, T1 = if 0 < lastP A then setC T (lastP A - 1).toNat 3 [headP B] else T := ⟨_, rfl⟩
 rw [<- e1] at s1
 obtain ⟨a1, a2⟩ := s1
 have s2 : rowsOK k5 (if 0 < headP B then setC T1 (headP B - 1).toNat 2 [lastP A] else T1) /\ Wid (if 0 < headP B then setC T1 (headP B - 1).toNat 2 [lastP A] else T1) cap 5 := by
  split
  ·exact ⟨rows_setC a1 (by rw [a2.1]; omega) ⟨w64 (by omega) (by omega), trivial⟩ (by simp [k5]), a2.set (by omega) (by simp)⟩
  ·exact ⟨a1, a2⟩
 obtain ⟨T2, e2⟩ : ∃ T2, T2 = if 0 < headP B then setC T1 (headP B - 1).toNat 2 [lastP A] else T1 := ⟨_, rfl⟩
 rw [<- e2] at s2
 have e3 : dropT T i = setC T2 i 0 [0, 0, 0, 0, 0] := by unfold dropT; simp only [c1, c2]; rw [e2, e1]
 rw [e3]
 exact rows_setC s2.1 (by rw [s2.2.1]; exact hic) ⟨rfl, rfl, rfl, rfl, rfl, trivial⟩ (by simp [k5])
theorem WOK.drop {now bu le w : Int} {S T : RL} {Q : Nat -> List Nat} {i : Nat} (h : WOK now bu le S T Q w) (hi : i < T.length) (hd : 0 < gC T i 4) :
 ∃ A B, Q (locI now T i).toNat = A ++ i :: B /\ WOK now bu (le - 1) (dropS S (locI now T i).toNat (gC T i 2) (gC T i 3)) (dropT T i) (uQ Q (locI now T i).toNat (A ++ B)) w /\
   (dropT T i).length = T.length /\ (∀ y, y ≠ i -> gC (dropT T i) y 0 = gC T y 0 /\ gC (dropT T i) y 1 = gC T y 1 /\ gC (dropT T i) y 4 = gC T y 4) /\ gC (dropT T i) i 4 = 0 := by
 have hm := h.inn i hi hd
 obtain ⟨A, B, hq⟩ := List.append_of_mem hm
 obtain ⟨t1, t2⟩ := dropT_spec h.lk hq
 have hl : (dropT T i).length = T.length := t1.1
 have hy : ∀ y, y ≠ i -> gC (dropT T i) y 0 = gC T y 0 /\ gC (dropT T i) y 1 = gC T y 1 /\ gC (dropT T i) y 4 = gC T y 4 := fun y hy => by
  rw [t2, t2, t2]; simp [hy]
 have hz : ∀ j, j < 5 -> gC (dropT T i) i j = 0 := fun j hj => by rw [t2, if_pos ⟨rfl, hj⟩]
 have hlk := h.lk.drop hq
 have hnd := h.lk.nd (locI now T i).toNat
 rw [hq] at hnd
 obtain ⟨n1, n2, n3⟩ := List.nodup_append.1 hnd
 obtain ⟨n4, n5⟩ := List.nodup_cons.1 n2
 have hiA : i ∉ A := fun hA => n3 i hA i (by simp) rfl
 have hloc : ∀ y, y ≠ i -> locI now (dropT T i) y = locI now T y := fun y hy' => by
  obtain ⟨e0, e1, e4⟩ := hy y hy'
  unfold locI; rw [e0, e1, e4]
 have hnot : ∀ k, i ∉ uQ Q (locI now T i).toNat (A ++ B) k := fun k hk => by
  by_cases hkk : k = (locI now T i).toNat
  ·rw [hkk, uQ_same] at hk
   rcases List.mem_append.1 hk with h1 | h1
   ·exact hiA h1
   ·exact n4 h1
  ·rw [uQ_ne Q _ hkk] at hk
   exact hkk (h.lk.dj _ _ i hk hm)
 refine ⟨A, B, hq, ⟨h.tm, h.bg, by rw [hl]; exact h.ct, ?_, ?_, by rw [hl]; exact hlk, fun y hyl hyd => ?_, fun k y hk => ?_, fun y hyl => ?_, fun y hyl hyd => ?_, ?_, ?_⟩, hl, hy, hz 4 (by decide)⟩
 ·
  have hk : (locI now T i).toNat < 2049 := h.lk.q_lt hm
  exact rows_dropS h.rS h.lk.sw hk (by rw [(h.lk.ch _ _ _ _ hq).1]; exact ⟨lastP_nonneg _, lastP_le fun a ha => h.lk.qc _ a (by rw [hq]; simp [ha])⟩)
   (by rw [(h.lk.ch _ _ _ _ hq).2]; exact ⟨headP_nonneg _, headP_le fun a ha => h.lk.qc _ a (by rw [hq]; simp [ha])⟩) h.ct.2.1
   (by
    rw [(h.lk.hd _ hk).2.2]
    have := nodup_len (h.lk.nd (locI now T i).toNat) fun a ha => h.lk.qc _ a ha
    have := h.ct
    omega)
 ·exact rows_dropT h.rT h.lk hq h.ct.2.1
 ·rw [hl] at hyl
  by_cases he : y = i
  ·subst he; rw [hz 4 (by decide)] at hyd; omega
  ·rw [hloc y he]
   rw [(hy y he).2.2] at hyd
   have h1 := h.inn y hyl hyd
   by_cases hk : (locI now T y).toNat = (locI now T i).toNat
   ·rw [hk, uQ_same]
    rw [hk, hq] at h1
    simp only [List.mem_append, List.mem_cons] at h1 ⊢
    rcases h1 with h1 | h1 | h1
    ·exact Or.inl h1
    ·exact absurd h1 he
    ·exact Or.inr h1
   ·rw [uQ_ne Q _ hk]; exact h1
 ·have he : y ≠ i := fun e => hnot k (e ▸ hk)
  rw [hloc y he, (hy y he).2.2]
  by_cases hkk : k = (locI now T i).toNat
  ·subst hkk
   rw [uQ_same] at hk
   exact h.out _ y (by rw [hq]; rcases List.mem_append.1 hk with h1 | h1 <;> simp [h1])
  ·rw [uQ_ne Q _ hkk] at hk
   exact h.out _ y hk
 ·rw [hl] at hyl
  by_cases he : y = i
  ·subst he
   rw [hz 4 (by decide)]
   have := h.tm; omega
  ·rw [(hy y he).2.2]; exact h.dr y hyl
 ·rw [hl] at hyl
  by_cases he : y = i
  ·subst he
   rw [hz 4 (by decide)] at hyd
   have := h.tm; omega
  ·obtain ⟨e0, e1, e4⟩ := hy y he
   rw [e4] at hyd
   rw [e0, e1, e4]; exact h.pl y hyl hyd
 ·refine Int.le_trans ?_ h.wt
  unfold cntW
  rw [hl]
  refine Int.ofNat_le.2 (cnt_mono fun y hyl hw => ?_)
  by_cases he : y = i
  ·subst he
   unfold waits at hw
   rw [hz 4 (by decide)] at hw
   simp only [Bool.and_eq_true, decide_eq_true_eq] at hw
   have := h.tm; omega
  ·obtain ⟨e0, e1, e4⟩ := hy y he
   unfold waits at hw ⊢
   rw [e0, e4] at hw
   exact hw
 ·rw [h.ln]
  unfold cntD
  rw [hl]
  have := cnt_upd (p := fun i => decide (0 < gC T i 4)) (q := fun y => decide (0 < gC (dropT T i) y 4)) hi fun y _ he => by rw [(hy y he).2.2]
  rw [this]
  simp only [hd, hz 4 (by decide)]
  simp
theorem rows_putT {T : RL} {cap i : Nat} {lv ix d la : Int} (h : rowsOK k5 T) (hw : Wid T cap 5) (hi : i < cap) (hc : cap <= 4096) (h1 : 0 <= lv /\ lv <= 3) (h2 : 0 <= ix /\ ix < 512) (h3 : 0 <= d /\ d <= 1101659111424) (h4 : 0 <= la /\ la <= cap) : rowsOK k5 (putT T i lv ix d la) := by
 have w1 := hw.set (vs := [lv, ix]) (j := 0) hi (by simp)
 have w2 := w1.set (vs := [d]) (j := 4) hi (by simp)
 have w3 := w2.set (vs := [la]) (j := 2) hi (by simp)
 have w4 := w3.set (vs := [0]) (j := 3) hi (by simp)
 have r1 := rows_setC (j := 0) (vs := [lv, ix]) h (by rw [hw.1]; exact hi) ⟨w64 (by omega) (by omega), w64 (by omega) (by omega), trivial⟩ (by simp [k5])
 have r2 := rows_setC (j := 4) (vs := [d]) r1 (by rw [w1.1]; exact hi) ⟨w64 (by omega) (by omega), trivial⟩ (by simp [k5])
 have r3 := rows_setC (j := 2) (vs := [la]) r2 (by rw [w2.1]; exact hi) ⟨w64 (by omega) (by omega), trivial⟩ (by simp [k5])
 have r4 := rows_setC (j := 3) (vs := [0]) r3 (by rw [w3.1]; exact hi) ⟨rfl, trivial⟩ (by simp [k5])
 unfold putT
 simp only
 split
 ·exact rows_setC r4 (by rw [w4.1]; omega) ⟨w64 (by omega) (by omega), trivial⟩ (by simp [k5])
 ·exact r4
theorem rows_putS {S : RL} {k i : Nat} (h : rowsOK k3 S) (hw : Wid S 2049 3) (hk : k < 2049) (hi : i < 4096) (hcc : 0 <= gC S k 2 /\ gC S k 2 <= 4096) : rowsOK k3 (putS S k i) := by
 obtain ⟨S1, e1⟩ : ∃ S1, S1 = if 0 < gC S k 1 then S else setC S k 0 [(i : Int) + 1] := ⟨_, rfl⟩
 have s1 : rowsOK k3 S1 /\ Wid S1 2049 3 /\ gC S1 k 2 = gC S k 2 := by
  rw [e1]
  split
  ·exact ⟨h, hw, rfl⟩
  ·exact ⟨rows_setC h (by rw [hw.1]; exact hk) ⟨w64 (by omega) (by omega), trivial⟩ (by simp [k3]), hw.set hk (by simp), by rw [hw.c1 hk (by decide), if_neg (by omega)]⟩
 obtain ⟨a1, a2, a3⟩ := s1
 have b1 := rows_setC (j := 1) (vs := [(i : Int) + 1]) a1 (by rw [a2.1]; exact hk) ⟨w64 (by omega) (by omega), trivial⟩ (by simp [k3])
 have b2 := a2.set (j := 1) (vs := [(i : Int) + 1]) hk (by simp)
 have b3 : gC (setC S1 k 1 [(i : Int) + 1]) k 2 = gC S k 2 := by rw [a2.c1 hk (by decide), if_neg (by omega), a3]
 have e3 : putS S k i = setC (setC S1 k 1 [(i : Int) + 1]) k 2 [gC (setC S1 k 1 [(i : Int) + 1]) k 2 + 1] := by unfold putS; rw [e1]
 rw [e3, b3]
 exact rows_setC b1 (by rw [b2.1]; exact hk) ⟨w64 (by omega) (by omega), trivial⟩ (by simp [k3])
theorem lvF_spec (now d : Int) : (1 <= lvF now d -> blk (lvF now d) now + 1 < blk (lvF now d) d) /\ (lvF now d < 3 -> blk (lvF now d + 1) d <= blk (lvF now d + 1) now + 1) := by
 unfold lvF
 by_cases h1 : blk 1 d <= blk 1 now + 1
 ·rw [if_pos h1]; exact ⟨fun h => by omega, fun _ => h1⟩
 ·rw [if_neg h1]
  by_cases h2 : blk 2 d <= blk 2 now + 1
  ·rw [if_pos h2]; exact ⟨fun _ => by omega, fun _ => h2⟩
  ·rw [if_neg h2]
   by_cases h3 : blk 3 d <= blk 3 now + 1
   ·rw [if_pos h3]; exact ⟨fun _ => by omega, fun _ => h3⟩
   ·rw [if_neg h3]; exact ⟨fun _ => by omega, fun h => by omega⟩
theorem WOK.put {now bu le w d : Int} {S T : RL} {Q : Nat -> List Nat} {i : Nat} (h : WOK now bu le S T Q w) (hi : i < T.length) (hz : gC T i 4 = 0) (hd : now < d /\ d <= now + 2147483648) :
 WOK now bu (le + 1) (putS S (kW now d).toNat i) (putT T i (lvF now d) (blk (lvF now d) d % 512) d (gC S (kW now d).toNat 1)) (uQ Q (kW now d).toNat (Q (kW now d).toNat ++ [i])) w /\
  (putT T i (lvF now d) (blk (lvF now d) d % 512) d (gC S (kW now d).toNat 1)).length = T.length /\
  (∀ y, y ≠ i -> gC (putT T i (lvF now d) (blk (lvF now d) d % 512) d (gC S (kW now d).toNat 1)) y 0 = gC T y 0 /\ gC (putT T i (lvF now d) (blk (lvF now d) d % 512) d (gC S (kW now d).toNat 1)) y 1 = gC T y 1 /\ gC (putT T i (lvF now d) (blk (lvF now d) d % 512) d (gC S (kW now d).toNat 1)) y 4 = gC T y 4) /\
  gC (putT T i (lvF now d) (blk (lvF now d) d % 512) d (gC S (kW now d).toNat 1)) i 0 = lvF now d /\ gC (putT T i (lvF now d) (blk (lvF now d) d % 512) d (gC S (kW now d).toNat 1)) i 1 = blk (lvF now d) d % 512 /\
  gC (putT T i (lvF now d) (blk (lvF now d) d % 512) d (gC S (kW now d).toNat 1)) i 4 = d := by
 have htm := h.tm
 have hct := h.ct
 have hn : ∀ m, i ∉ Q m := fun m hm => by have := (h.out m i hm).1; omega
 have hkr := kW_rng now d
 have hlv := lvF_rng now d
 obtain ⟨k, ek⟩ : ∃ k, k = (kW now d).toNat := ⟨_, rfl⟩
 have hk : k < 2049 := by omega
 have hb := blk_rng (lvF now d) (t := d) (by omega)
 obtain ⟨l1, l2⟩ := lvF_spec now d
 obtain ⟨lv, elv⟩ : ∃ lv, lv = lvF now d := ⟨_, rfl⟩
 obtain ⟨ix, eix⟩ : ∃ ix, ix = blk (lvF now d) d % 512 := ⟨_, rfl⟩
 have hixr : 0 <= ix /\ ix < 512 := by omega
 have hkw : kW now d = lv * 512 + ix := by unfold kW; rw [if_neg (by omega), elv, eix]
 rw [<- ek, <- eix, <- elv]
 rw [<- elv] at hlv l1 l2 eix
 obtain ⟨d0, d1, d2⟩ := h.lk.hd k hk
 have hla : gC S k 1 = 0 \/ ∃ a : Nat, a < T.length /\ a ≠ i /\ gC S k 1 = (a : Int) + 1 := by
  rw [d1]
  rcases snoc_cases (Q k) with e | ⟨m, a, e⟩
  ·exact Or.inl (by rw [e]; rfl)
  ·have ha : a ∈ Q k := by rw [e]; simp
   exact Or.inr ⟨a, h.lk.qc k a ha, fun x => hn k (x ▸ ha), by rw [e, lastP_snoc]⟩
 have hlar : 0 <= gC S k 1 /\ gC S k 1 <= (T.length : Int) := by rw [d1]; exact ⟨lastP_nonneg _, lastP_le fun a ha => h.lk.qc _ a ha⟩
 obtain ⟨t1, t2⟩ := putT_spec (lv := lv) (ix := ix) (d := d) h.lk.tw hi hla
 have hlk := h.lk.put (lv := lv) (ix := ix) (d := d) hk hi hn
 obtain ⟨T', eT⟩ : ∃ T', T' = putT T i lv ix d (gC S k 1) := ⟨_, rfl⟩
 have hrT := rows_putT h.rT h.lk.tw hi hct.2.1 hlv hixr (by omega) hlar (lv := lv) (ix := ix) (d := d)
 rw [<- eT] at t1 t2 hlk hrT ⊢
 have hl : T'.length = T.length := t1.1
 have hy : ∀ y, y ≠ i -> gC T' y 0 = gC T y 0 /\ gC T' y 1 = gC T y 1 /\ gC T' y 4 = gC T y 4 := fun y hy => by
  rw [t2, t2, t2]; simp [hy]
 have g0 : gC T' i 0 = lv := by rw [t2, if_pos ⟨rfl, by decide⟩]; rfl
 have g1 : gC T' i 1 = ix := by rw [t2, if_pos ⟨rfl, by decide⟩]; rfl
 have g4 : gC T' i 4 = d := by rw [t2, if_pos ⟨rfl, by decide⟩]; rfl
 have hloc : ∀ y, y ≠ i -> locI now T' y = locI now T y := fun y hy' => by
  obtain ⟨e0, e1, e4⟩ := hy y hy'
  unfold locI; rw [e0, e1, e4]
 have hlocI : (locI now T' i).toNat = k := by
  unfold locI; rw [g0, g1, g4, if_neg (by omega), ek, hkw]
 refine ⟨⟨htm, h.bg, by rw [hl]; exact hct, rows_putS h.rS h.lk.sw hk (by omega) (by
  rw [d2]
  have := nodup_len (h.lk.nd k) fun a ha => h.lk.qc _ a ha
  omega), hrT, by rw [hl]; exact hlk, fun y hyl hyd => ?_, fun m y hm => ?_, fun y hyl => ?_, fun y hyl hyd => ?_, ?_, ?_⟩, hl, hy, g0, g1, g4⟩
 ·rw [hl] at hyl
  by_cases he : y = i
  ·subst he; rw [hlocI, uQ_same]; simp
  ·rw [hloc y he]
   rw [(hy y he).2.2] at hyd
   have h1 := h.inn y hyl hyd
   by_cases hk' : (locI now T y).toNat = k
   ·rw [hk', uQ_same]; rw [hk'] at h1; simp [h1]
   ·rw [uQ_ne Q _ hk']; exact h1
 ·by_cases hmk : m = k
  ·subst hmk
   rw [uQ_same] at hm
   rcases List.mem_append.1 hm with h1 | h1
   ·have he : y ≠ i := fun e => hn m (e ▸ h1)
    rw [hloc y he, (hy y he).2.2]; exact h.out m y h1
   ·have : y = i := by simpa using h1
    subst this
    exact ⟨by rw [g4]; omega, hlocI⟩
  ·rw [uQ_ne Q _ hmk] at hm
   have he : y ≠ i := fun e => hn m (e ▸ hm)
   rw [hloc y he, (hy y he).2.2]; exact h.out m y hm
 ·rw [hl] at hyl
  by_cases he : y = i
  ·subst he; rw [g4]; omega
  ·rw [(hy y he).2.2]; exact h.dr y hyl
 ·rw [hl] at hyl
  by_cases he : y = i
  ·subst he
   rw [g0, g1, g4]
   exact ⟨hlv, eix, fun h1 => by have := l1 h1; omega, l2⟩
  ·obtain ⟨e0, e1, e4⟩ := hy y he
   rw [e4] at hyd
   rw [e0, e1, e4]; exact h.pl y hyl hyd
 ·refine Int.le_trans ?_ h.wt
  unfold cntW
  rw [hl]
  refine Int.ofNat_le.2 (cnt_mono fun y hyl hw => ?_)
  by_cases he : y = i
  ·subst he
   unfold waits at hw
   rw [g0, g4] at hw
   simp only [Bool.and_eq_true, decide_eq_true_eq] at hw
   have := l1 hw.1.2
   omega
  ·obtain ⟨e0, e1, e4⟩ := hy y he
   unfold waits at hw ⊢
   rw [e0, e4] at hw
   exact hw
 ·rw [h.ln]
  unfold cntD
  rw [hl]
  have := cnt_upd (p := fun i => decide (0 < gC T i 4)) (q := fun y => decide (0 < gC T' y 4)) hi fun y _ he => by rw [(hy y he).2.2]
  rw [this]
  have hdp : 0 < d := by omega
  simp only [hz, g4, hdp]
  simp
theorem blk_step {lv now : Int} (h : 1 <= lv /\ lv <= 3) (h0 : 0 <= now) : blk lv (now + 1) = blk lv now \/ (now % 256 = 255 /\ blk lv (now + 1) = blk lv now + 1) := by
 have : lv = 1 \/ lv = 2 \/ lv = 3 := by omega
 rcases this with e | e | e <;> subst e <;> simp only [blk1, blk2, blk3] <;> omega
theorem blk_mono {lv now : Int} (h : 1 <= lv /\ lv <= 4) (h0 : 0 <= now) : blk lv now <= blk lv (now + 1) := by
 have : lv = 1 \/ lv = 2 \/ lv = 3 \/ lv = 4 := by omega
 rcases this with e | e | e | e <;> subst e <;> simp only [blk1, blk2, blk3, blk4] <;> omega
theorem joinT_cells {T : RL} {cap : Nat} {f bl : Int} (h : Wid T cap 5) (hf : 0 < f /\ f <= cap) (hb : 0 <= bl /\ bl <= cap) : Wid (joinT T f bl) cap 5 /\ ∀ y j, j ≠ 2 -> j ≠ 3 -> gC (joinT T f bl) y j = gC T y j := by
 have s1 : Wid (if 0 < bl then setC T (bl - 1).toNat 3 [f] else T) cap 5 /\ ∀ y j, j ≠ 3 -> gC (if 0 < bl then setC T (bl - 1).toNat 3 [f] else T) y j = gC T y j := by
  split
  ·exact ⟨h.set (by omega) (by simp), fun y j hj => by rw [h.c1 (by omega) (by decide), if_neg (by omega)]⟩
  ·exact ⟨h, fun _ _ _ => rfl⟩
 unfold joinT
 exact ⟨s1.1.set (by omega) (by simp), fun y j h2 h3 => by rw [s1.1.c1 (by omega) (by decide), if_neg (by omega), s1.2 y j h3]⟩
theorem rows_joinT {T : RL} {cap : Nat} {f bl : Int} (hr : rowsOK k5 T) (h : Wid T cap 5) (hc : cap <= 4096) (hf : 0 < f /\ f <= cap) (hb : 0 <= bl /\ bl <= cap) : rowsOK k5 (joinT T f bl) := by
 have s1 : Wid (if 0 < bl then setC T (bl - 1).toNat 3 [f] else T) cap 5 /\ rowsOK k5 (if 0 < bl then setC T (bl - 1).toNat 3 [f] else T) := by
  split
  ·exact ⟨h.set (by omega) (by simp), rows_setC hr (by rw [h.1]; omega) ⟨w64 (by omega) (by omega), trivial⟩ (by simp [k5])⟩
  ·exact ⟨h, hr⟩
 unfold joinT
 exact rows_setC s1.2 (by rw [s1.1.1]; omega) ⟨w64 (by omega) (by omega), trivial⟩ (by simp [k5])
theorem rows_joinS {S : RL} {k c : Nat} (hr : rowsOK k3 S) (h : Wid S 2049 3) (hk : k < 2048) (hc : c <= 4096) (h0 : 0 <= gC S k 0 /\ gC S k 0 <= c) (h1 : 0 <= gC S k 1 /\ gC S k 1 <= c) (h2 : 0 <= gC S k 2 /\ gC S k 2 <= c) (h3 : 0 <= gC S 2048 2 /\ gC S 2048 2 <= c) : rowsOK k3 (joinS S k) := by
 obtain ⟨S1, e1⟩ : ∃ S1, S1 = if 0 < gC S 2048 1 then S else setC S 2048 0 [gC S k 0] := ⟨_, rfl⟩
 have s1 : Wid S1 2049 3 /\ rowsOK k3 S1 /\ gC S1 2048 2 = gC S 2048 2 := by
  rw [e1]
  split
  ·exact ⟨h, hr, rfl⟩
  ·exact ⟨h.set (by omega) (by simp), rows_setC hr (by rw [h.1]; omega) ⟨w64 (by omega) (by omega), trivial⟩ (by simp [k3]), by rw [h.c1 (by omega) (by decide), if_neg (by omega)]⟩
 obtain ⟨a1, a2, a3⟩ := s1
 have b1 := a1.set (i := 2048) (j := 1) (vs := [gC S k 1]) (by omega) (by simp)
 have b2 := rows_setC (i := 2048) (j := 1) (vs := [gC S k 1]) a2 (by rw [a1.1]; omega) ⟨w64 (by omega) (by omega), trivial⟩ (by simp [k3])
 have b3 : gC (setC S1 2048 1 [gC S k 1]) 2048 2 = gC S 2048 2 := by rw [a1.c1 (by omega) (by decide), if_neg (by omega), a3]
 have c1 := b1.set (i := 2048) (j := 2) (vs := [gC S 2048 2 + gC S k 2]) (by omega) (by simp)
 have c2 := rows_setC (i := 2048) (j := 2) (vs := [gC S 2048 2 + gC S k 2]) b2 (by rw [b1.1]; omega) ⟨w64 (by omega) (by omega), trivial⟩ (by simp [k3])
 have e3 : joinS S k = setC (setC (setC S1 2048 1 [gC S k 1]) 2048 2 [gC (setC S1 2048 1 [gC S k 1]) 2048 2 + gC S k 2]) k 0 [0, 0, 0] := by unfold joinS; rw [e1]
 rw [e3, b3]
 exact rows_setC c2 (by rw [c1.1]; omega) ⟨rfl, rfl, rfl, trivial⟩ (by simp [k3])
theorem WOK.loc_lt {now bu le w : Int} {S T : RL} {Q : Nat -> List Nat} (h : WOK now bu le S T Q w) {i : Nat} (hi : i < T.length) (hd : now < gC T i 4) : (locI now T i).toNat < 2048 := by
 have := h.of hi hd
 unfold locI; rw [if_neg (by omega)]; omega
theorem WOK.noWait {now bu le : Int} {S T : RL} {Q : Nat -> List Nat} (h : WOK now bu le S T Q (bu * (255 - now % 256))) (hb : now % 256 = 255) {i : Nat} (hi : i < T.length) : waits now T i = false := by
 have h0 := h.wt
 rw [hb, show (255 : Int) - 255 = 0 by decide, Int.mul_zero] at h0
 cases hw : waits now T i
 ·rfl
 ·have := cnt_pos hi hw
  unfold cntW at h0; omega
theorem WOK.due {now bu le : Int} {S T : RL} {Q : Nat -> List Nat} (h : WOK now bu le S T Q (bu * (255 - now % 256))) (i : Nat) : i ∈ Q ((now + 1) % 512).toNat ↔ i < T.length /\ gC T i 4 = now + 1 := by
 have htm := h.tm
 constructor
 ·intro hi
  have hil := h.lk.qc _ i hi
  obtain ⟨o1, o2⟩ := h.out _ i hi
  refine ⟨hil, ?_⟩
  have hd : now < gC T i 4 := by
   by_cases hc : now < gC T i 4
   ·exact hc
   ·unfold locI at o2
    rw [if_pos (by omega)] at o2
    omega
  obtain ⟨p1, p2, p3, p4⟩ := h.pl i hil hd
  obtain ⟨_, _, f3, f4⟩ := h.of hil hd
  unfold locI at o2
  rw [if_neg (by omega)] at o2
  have hl0 : gC T i 0 = 0 := by omega
  rw [hl0] at p2 p4 o2
  have p4' := p4 (by decide)
  rw [blk0] at p2
  rw [show (0 : Int) + 1 = 1 by decide, blk1, blk1] at p4'
  omega
 ·rintro ⟨hil, hd⟩
  obtain ⟨p1, p2, p3, p4⟩ := h.pl i hil (by omega)
  have hl0 : gC T i 0 = 0 := by
   by_cases hc : gC T i 0 = 0
   ·exact hc
   ·exfalso
    have q := p3 (by omega)
    rw [hd] at q
    rcases blk_step (lv := gC T i 0) (by omega) htm.1 with e | ⟨e1, e2⟩
    ·omega
    ·have hw := h.noWait e1 hil
     unfold waits at hw
     rw [hd, e2] at hw
     have a1 : now < now + 1 := by omega
     have a2 : 1 <= gC T i 0 := by omega
     simp [a1, a2] at hw
  have hm := h.inn i hil (by omega)
  unfold locI at hm
  rw [if_neg (by omega), p2, hl0, blk0, hd] at hm
  have e : (0 * 512 + (now + 1) % 512).toNat = ((now + 1) % 512).toNat := by omega
  rwa [e] at hm
theorem WOK.join {now bu le : Int} {S T : RL} {Q : Nat -> List Nat} (h : WOK now bu le S T Q (bu * (255 - now % 256))) (hM : now < 1099511627776) {k : Nat} (hk : k = ((now + 1) % 512).toNat) :
 WOK (now + 1) bu le (if gC S k 2 = 0 then S else joinS S k) (if gC S k 2 = 0 then T else joinT T (gC S k 0) (gC S 2048 1)) (uQ (uQ Q 2048 (Q 2048 ++ Q k)) k []) (bu * (256 - (now + 1) % 256)) /\
  (if gC S k 2 = 0 then T else joinT T (gC S k 0) (gC S 2048 1)).length = T.length /\
  ∀ y j, j ≠ 2 -> j ≠ 3 -> gC (if gC S k 2 = 0 then T else joinT T (gC S k 0) (gC S 2048 1)) y j = gC T y j := by
 have htm := h.tm
 have hct := h.ct
 have hdue := h.due
 rw [<- hk] at hdue
 have hk8 : k < 512 := by omega
 obtain ⟨d0, d1, d2⟩ := h.lk.hd k (by omega)
 obtain ⟨b0, b1, b2⟩ := h.lk.hd 2048 (by omega)
 have bnd : ∀ m, (Q m).length <= T.length := fun m => nodup_len (h.lk.nd m) fun a ha => h.lk.qc _ a ha
 have main : Lk (if gC S k 2 = 0 then T else joinT T (gC S k 0) (gC S 2048 1)) (if gC S k 2 = 0 then S else joinS S k) (uQ (uQ Q 2048 (Q 2048 ++ Q k)) k []) T.length /\
  rowsOK k3 (if gC S k 2 = 0 then S else joinS S k) /\ rowsOK k5 (if gC S k 2 = 0 then T else joinT T (gC S k 0) (gC S 2048 1)) /\
  ∀ y j, j ≠ 2 -> j ≠ 3 -> gC (if gC S k 2 = 0 then T else joinT T (gC S k 0) (gC S 2048 1)) y j = gC T y j := by
  by_cases hc : gC S k 2 = 0
  ·have hq : Q k = [] := List.length_eq_zero_iff.1 (by omega)
   have hQ : uQ (uQ Q 2048 (Q 2048 ++ Q k)) k [] = Q := by
    funext m
    unfold uQ
    by_cases h1 : m = k
    ·rw [if_pos h1, h1, hq]
    ·rw [if_neg h1]
     by_cases h2 : m = 2048
     ·rw [if_pos h2, h2, hq, List.append_nil]
     ·rw [if_neg h2]
   simp only [if_pos hc, hQ]
   exact ⟨h.lk, h.rS, h.rT, fun _ _ _ _ => trivial⟩
  ·have hne : Q k ≠ [] := fun e => hc (by rw [d2, e]; rfl)
   simp only [if_neg hc]
   have f0 : 0 < gC S k 0 /\ gC S k 0 <= (T.length : Int) := by
    rw [d0]
    refine ⟨?_, headP_le fun a ha => h.lk.qc _ a ha⟩
    cases hq : Q k with
    | nil => exact absurd hq hne
    | cons a r => simp only [headP]; omega
   have f1 : 0 <= gC S k 1 /\ gC S k 1 <= (T.length : Int) := by rw [d1]; exact ⟨lastP_nonneg _, lastP_le fun a ha => h.lk.qc _ a ha⟩
   have fb : 0 <= gC S 2048 1 /\ gC S 2048 1 <= (T.length : Int) := by rw [b1]; exact ⟨lastP_nonneg _, lastP_le fun a ha => h.lk.qc _ a ha⟩
   have n1 := bnd k
   have n2 := bnd 2048
   exact ⟨h.lk.join (by omega) hne, rows_joinS h.rS h.lk.sw (by omega) hct.2.1 (by omega) f1 (by omega) (by omega), rows_joinT h.rT h.lk.tw hct.2.1 f0 fb, (joinT_cells h.lk.tw f0 fb).2⟩
 obtain ⟨S', eS⟩ : ∃ S', S' = if gC S k 2 = 0 then S else joinS S k := ⟨_, rfl⟩
 obtain ⟨T', eT⟩ : ∃ T', T' = if gC S k 2 = 0 then T else joinT T (gC S k 0) (gC S 2048 1) := ⟨_, rfl⟩
 rw [<- eS, <- eT] at main ⊢
 obtain ⟨m1, m2, m3, m4⟩ := main
 have hl : T'.length = T.length := m1.tw.1
 have g0 := fun y => m4 y 0 (by decide) (by decide)
 have g1 := fun y => m4 y 1 (by decide) (by decide)
 have g4 := fun y => m4 y 4 (by decide) (by decide)
 have hU : ∀ m, uQ (uQ Q 2048 (Q 2048 ++ Q k)) k [] m = if m = k then [] else if m = 2048 then Q 2048 ++ Q k else Q m := fun m => rfl
 have hloc : ∀ y, now + 1 < gC T y 4 -> locI (now + 1) T' y = locI now T y := fun y hd => by
  unfold locI; rw [g0, g1, g4, if_neg (by omega), if_neg (by omega)]
 have hloc2 : ∀ y, gC T y 4 <= now + 1 -> locI (now + 1) T' y = 2048 := fun y hd => by
  unfold locI; rw [g4, if_pos hd]
 refine ⟨⟨by omega, h.bg, by rw [hl]; exact hct, m2, m3, by rw [hl]; exact m1, fun y hyl hyd => ?_, fun m y hm => ?_, fun y hyl => ?_, fun y hyl hyd => ?_, ?_, ?_⟩, hl, m4⟩
 ·rw [hl] at hyl
  rw [g4] at hyd
  by_cases c1 : gC T y 4 <= now + 1
  ·rw [hloc2 y c1, show (2048 : Int).toNat = 2048 from rfl, hU, if_neg (by omega), if_pos rfl]
   by_cases c2 : gC T y 4 <= now
   ·have := h.inn y hyl hyd
    unfold locI at this
    rw [if_pos c2] at this
    exact List.mem_append_left _ this
   ·exact List.mem_append_right _ ((hdue y).2 ⟨hyl, by omega⟩)
  ·have h1 := h.inn y hyl hyd
   have hlt := h.loc_lt hyl (by omega)
   rw [hloc y (by omega), hU, if_neg (fun e => by rw [e] at h1; have := ((hdue y).1 h1).2; omega), if_neg (by omega)]
   exact h1
 ·rw [hU] at hm
  by_cases c1 : m = k
  ·rw [if_pos c1] at hm; cases hm
  ·rw [if_neg c1] at hm
   rw [g4]
   by_cases c2 : m = 2048
   ·rw [if_pos c2] at hm
    rcases List.mem_append.1 hm with h1 | h1
    ·obtain ⟨o1, o2⟩ := h.out _ y h1
     have hyl := h.lk.qc _ y h1
     have : gC T y 4 <= now := by
      by_cases hc : gC T y 4 <= now
      ·exact hc
      ·have := h.loc_lt hyl (by omega); omega
     rw [hloc2 y (by omega)]
     exact ⟨o1, by omega⟩
    ·obtain ⟨e1, e2⟩ := (hdue y).1 h1
     rw [hloc2 y (by omega)]
     exact ⟨by omega, by omega⟩
   ·rw [if_neg c2] at hm
    obtain ⟨o1, o2⟩ := h.out _ y hm
    have hyl := h.lk.qc _ y hm
    have c3 : now < gC T y 4 := by
     by_cases hc : gC T y 4 <= now
     ·unfold locI at o2
      rw [if_pos hc] at o2; omega
     ·omega
    have c4 : gC T y 4 ≠ now + 1 := fun e => c1 (h.lk.dj _ _ y hm ((hdue y).2 ⟨hyl, e⟩))
    rw [hloc y (by omega)]
    exact ⟨o1, o2⟩
 ·rw [hl] at hyl
  rw [g4]
  have := h.dr y hyl
  omega
 ·rw [hl] at hyl
  rw [g4] at hyd
  rw [g0, g1, g4]
  obtain ⟨p1, p2, p3, p4⟩ := h.pl y hyl (by omega)
  refine ⟨p1, p2, fun h1 => ?_, fun h3 => ?_⟩
  ·have q := p3 h1
   rcases blk_step (lv := gC T y 0) (by omega) htm.1 with e | ⟨e1, e2⟩
   ·omega
   ·have hw := h.noWait e1 hyl
    have hne : blk (gC T y 0) (gC T y 4) ≠ blk (gC T y 0) now + 1 := fun e => by
     unfold waits at hw
     have a1 : now < gC T y 4 := by omega
     simp [a1, h1, e] at hw
    omega
  ·have q := p4 h3
   have := blk_mono (lv := gC T y 0 + 1) (now := now) (by omega) htm.1
   omega
 ·by_cases hb : now % 256 = 255
  ·have e : (now + 1) % 256 = 0 := by omega
   rw [e]
   have := cnt_le (waits (now + 1) T') T'.length
   unfold cntW
   rw [hl] at this ⊢
   have h3 := hct.2.2
   rw [Int.mul_comm]
   show _ <= (256 - 0) * bu
   omega
  ·have e : (256 : Int) - (now + 1) % 256 = 255 - now % 256 := by omega
   rw [e]
   refine Int.le_trans ?_ h.wt
   unfold cntW
   rw [hl]
   refine Int.ofNat_le.2 (cnt_mono fun y hyl hw => ?_)
   unfold waits at hw ⊢
   rw [g0, g4] at hw
   simp only [Bool.and_eq_true, decide_eq_true_eq] at hw ⊢
   obtain ⟨⟨w1, w2⟩, w3⟩ := hw
   obtain ⟨p1, _⟩ := h.pl y hyl (by omega)
   rcases blk_step (lv := gC T y 0) (by omega) htm.1 with e | ⟨e1, e2⟩
   ·rw [e] at w3
    exact ⟨⟨by omega, w2⟩, w3⟩
   ·exact absurd e1 hb
 ·rw [h.ln]
  unfold cntD
  rw [hl]
  congr 1
  exact cnt_congr fun y _ => by rw [g4]
theorem waits_iff {now : Int} {T : RL} {i : Nat} : waits now T i = true ↔ now < gC T i 4 /\ 1 <= gC T i 0 /\ blk (gC T i 0) (gC T i 4) = blk (gC T i 0) now + 1 := by
 unfold waits; simp only [Bool.and_eq_true, decide_eq_true_eq]; exact ⟨fun h => ⟨h.1.1, h.1.2, h.2⟩, fun h => ⟨⟨h.1, h.2.1⟩, h.2.2⟩⟩
theorem WOK.in_wait {now bu le w : Int} {S T : RL} {Q : Nat -> List Nat} (h : WOK now bu le S T Q w) {k : Int} (hk : 1 <= k /\ k <= 3) {i : Nat} (hi : i ∈ Q (wK k now)) : i < T.length /\ waits now T i = true := by
 have htm := h.tm
 have hil := h.lk.qc _ i hi
 obtain ⟨o1, o2⟩ := h.out _ i hi
 have hd : now < gC T i 4 := by
  by_cases hc : now < gC T i 4
  ·exact hc
  ·unfold locI wK at o2
   rw [if_pos (by omega)] at o2
   omega
 have hdr := h.dr i hil
 obtain ⟨p1, p2, p3, p4⟩ := h.pl i hil hd
 obtain ⟨_, _, f3, f4⟩ := h.of hil hd
 unfold locI wK at o2
 rw [if_neg (by omega)] at o2
 have hl0 : gC T i 0 = k := by omega
 refine ⟨hil, waits_iff.2 ⟨hd, by omega, ?_⟩⟩
 rw [hl0] at p2 p3 p4 o2 ⊢
 have q3 := p3 hk.1
 have : k = 1 \/ k = 2 \/ k = 3 := by omega
 rcases this with e | e | e <;> subst e
 ·have q4 := p4 (by decide)
  rw [show (1 : Int) + 1 = 2 by decide, blk2, blk2] at q4
  simp only [blk1] at *
  omega
 ·have q4 := p4 (by decide)
  rw [show (2 : Int) + 1 = 3 by decide, blk3, blk3] at q4
  simp only [blk2] at *
  omega
 ·simp only [blk3] at *
  omega
theorem WOK.wait_in {now bu le w : Int} {S T : RL} {Q : Nat -> List Nat} (h : WOK now bu le S T Q w) {i : Nat} (hi : i < T.length) (hw : waits now T i = true) : ∃ k : Int, (1 <= k /\ k <= 3) /\ i ∈ Q (wK k now) := by
 obtain ⟨w1, w2, w3⟩ := waits_iff.1 hw
 have htm := h.tm
 obtain ⟨p1, p2, _, _⟩ := h.pl i hi w1
 have hm := h.inn i hi (by omega)
 refine ⟨gC T i 0, ⟨w2, p1.2⟩, ?_⟩
 unfold locI at hm
 rw [if_neg (by omega), p2, w3] at hm
 exact hm
theorem WOK.wt_cnt {now bu le w : Int} {S T : RL} {Q : Nat -> List Nat} (h : WOK now bu le S T Q w) {k : Int} (hk : 1 <= k /\ k <= 3) : (gC S (wK k now) 2 = ((Q (wK k now)).length : Int)) /\ gC S (wK k now) 0 = headP (Q (wK k now)) := by
 have hlt : wK k now < 2048 := wK_lt (by omega) hk.2
 obtain ⟨a0, _, a2⟩ := h.lk.hd (wK k now) (by omega)
 exact ⟨a2, a0⟩
theorem WOK.wait_pos {now bu le w : Int} {S T : RL} {Q : Nat -> List Nat} (h : WOK now bu le S T Q w) (hw : wtF S now ≠ 0) : ∃ i : Nat, wtF S now = (i : Int) + 1 /\ i < T.length /\ waits now T i = true := by
 have key : ∀ k : Int, 1 <= k /\ k <= 3 -> 0 < gC S (wK k now) 2 -> ∃ i : Nat, gC S (wK k now) 0 = (i : Int) + 1 /\ i < T.length /\ waits now T i = true := fun k hk hc => by
  obtain ⟨e1, e2⟩ := h.wt_cnt hk
  cases hq : Q (wK k now) with
  | nil => rw [e1, hq] at hc; exact absurd hc (by decide)
  | cons i r =>
    obtain ⟨g1, g2⟩ := h.in_wait hk (i := i) (by rw [hq]; simp)
    exact ⟨i, by rw [e2, hq]; rfl, g1, g2⟩
 unfold wtF at hw ⊢
 by_cases c1 : 0 < gC S (wK 1 now) 2
 ·rw [if_pos c1]; exact key 1 (by decide) c1
 ·rw [if_neg c1] at hw ⊢
  by_cases c2 : 0 < gC S (wK 2 now) 2
  ·rw [if_pos c2]; exact key 2 (by decide) c2
  ·rw [if_neg c2] at hw ⊢
   by_cases c3 : 0 < gC S (wK 3 now) 2
   ·rw [if_pos c3]; exact key 3 (by decide) c3
   ·rw [if_neg c3] at hw; exact absurd rfl hw
theorem WOK.wait_zero {now bu le w : Int} {S T : RL} {Q : Nat -> List Nat} (h : WOK now bu le S T Q w) (hw : wtF S now = 0) : cntW now T = 0 := by
 refine cnt_zero fun i hi => ?_
 cases hc : waits now T i
 ·rfl
 ·exfalso
  obtain ⟨k, hk, hm⟩ := h.wait_in hi hc
  have pos : ∀ k : Int, 1 <= k /\ k <= 3 -> 0 < gC S (wK k now) 2 -> 0 < gC S (wK k now) 0 := fun k hk hc => by
   obtain ⟨e1, e2⟩ := h.wt_cnt hk
   cases hq : Q (wK k now) with
   | nil => rw [e1, hq] at hc; exact absurd hc (by decide)
   | cons i r => rw [e2, hq]; simp only [headP]; omega
  have hpos : 0 < gC S (wK k now) 2 := by
   rw [(h.wt_cnt hk).1]
   have := List.length_pos_of_mem hm
   omega
  unfold wtF at hw
  by_cases c1 : 0 < gC S (wK 1 now) 2
  ·rw [if_pos c1] at hw; have := pos 1 (by decide) c1; omega
  ·rw [if_neg c1] at hw
   by_cases c2 : 0 < gC S (wK 2 now) 2
   ·rw [if_pos c2] at hw; have := pos 2 (by decide) c2; omega
   ·rw [if_neg c2] at hw
    by_cases c3 : 0 < gC S (wK 3 now) 2
    ·rw [if_pos c3] at hw; have := pos 3 (by decide) c3; omega
    ·have : k = 1 \/ k = 2 \/ k = 3 := by omega
     rcases this with e | e | e <;> subst e <;> omega
def mvW (now : Int) (p : RL × RL) : RL × RL :=
 let i := (wtF p.1 now - 1).toNat
 let d := gC p.2 i 4
 let S1 := dropS p.1 (locI now p.2 i).toNat (gC p.2 i 2) (gC p.2 i 3)
 (putS S1 (kW now d).toNat i, putT (dropT p.2 i) i (lvF now d) (blk (lvF now d) d % 512) d (gC S1 (kW now d).toNat 1))
theorem lvF_less {now d lv : Int} (h : 1 <= lv /\ lv <= 3) (hb : blk lv d = blk lv now + 1) : lvF now d < lv := by
 unfold lvF
 have : lv = 1 \/ lv = 2 \/ lv = 3 := by omega
 rcases this with e | e | e <;> subst e
 ·rw [if_pos (by omega)]; decide
 ·split
  ·decide
  ·rw [if_pos (by omega)]; decide
 ·split
  ·decide
  ·split
   ·decide
   ·rw [if_pos (by omega)]; decide
theorem WOK.move {now bu le w : Int} {S T : RL} {Q : Nat -> List Nat} (h : WOK now bu le S T Q w) {i : Nat} (hwt : wtF S now = (i : Int) + 1) (hi : i < T.length) (hw : waits now T i = true) :
 ∃ Q', WOK now bu le (mvW now (S, T)).1 (mvW now (S, T)).2 Q' (w - 1) /\ (mvW now (S, T)).2.length = T.length /\ (∀ y, gC (mvW now (S, T)).2 y 4 = gC T y 4) /\ (∀ y, y ≠ i -> gC (mvW now (S, T)).2 y 0 = gC T y 0) /\ gC (mvW now (S, T)).2 i 0 < gC T i 0 /\ 0 <= gC (mvW now (S, T)).2 i 0 /\ Q' 2048 = Q 2048 := by
 obtain ⟨w1, w2, w3⟩ := waits_iff.1 hw
 have htm := h.tm
 obtain ⟨p1, _, _, _⟩ := h.pl i hi w1
 have hdr := h.dr i hi
 obtain ⟨A, B, hq, k1, k2, k3, k4⟩ := h.drop hi (by omega)
 obtain ⟨S1, eS⟩ : ∃ S1, S1 = dropS S (locI now T i).toNat (gC T i 2) (gC T i 3) := ⟨_, rfl⟩
 obtain ⟨T1, eT⟩ : ∃ T1, T1 = dropT T i := ⟨_, rfl⟩
 obtain ⟨d, ed⟩ : ∃ d, d = gC T i 4 := ⟨_, rfl⟩
 have em : mvW now (S, T) = (putS S1 (kW now d).toNat i, putT T1 i (lvF now d) (blk (lvF now d) d % 512) d (gC S1 (kW now d).toNat 1)) := by
  unfold mvW
  simp only [hwt, show ((i : Int) + 1 - 1).toNat = i by omega]
  rw [<- eS, <- eT, <- ed]
 rw [em]
 rw [<- eS, <- eT] at k1
 rw [<- eT] at k2 k3 k4
 have hlt : (locI now T i).toNat < 2048 := h.loc_lt hi w1
 have hc1 : (cntW now T1 : Int) <= w - 1 := by
  have hu := cnt_upd (p := waits now T) (q := waits now T1) hi fun y _ he => by
   obtain ⟨e0, e1, e4⟩ := k3 y he
   unfold waits; rw [e0, e4]
  have hz : waits now T1 i = false := by
   cases hz : waits now T1 i
   ·rfl
   ·have := (waits_iff.1 hz).1; rw [k4] at this; omega
  rw [hw, hz] at hu
  have := h.wt
  unfold cntW at this ⊢
  rw [k2, hu]
  simp; omega
 have k1' : WOK now bu (le - 1) S1 T1 (uQ Q (locI now T i).toNat (A ++ B)) (w - 1) := { k1 with wt := hc1 }
 obtain ⟨m1, m2, m3, m4, m5, m6⟩ := k1'.put (d := d) (by rw [k2]; exact hi) k4 (by omega)
 have hK : (kW now d).toNat < 2048 := by
  have hb := blk_rng (lvF now d) (t := d) (by omega)
  have := lvF_rng now d
  unfold kW; rw [if_neg (by omega)]; omega
 refine ⟨_, by rw [show le = le - 1 + 1 by omega]; exact m1, by rw [m2, k2], fun y => ?_, fun y hy => ?_, ?_, ?_, ?_⟩
 ·by_cases he : y = i
  ·subst he; rw [m6, ed]
  ·rw [(m3 y he).2.2, (k3 y he).2.2]
 ·rw [(m3 y hy).1, (k3 y hy).1]
 ·rw [m4, ed]; exact lvF_less ⟨w2, p1.2⟩ w3
 ·rw [m4]; exact (lvF_rng now d).1
 ·rw [uQ_ne _ _ (by omega), uQ_ne _ _ (by omega)]
def mvN (now : Int) : Nat -> RL × RL -> (RL × RL) × Int
 | 0, p => (p, 0)
 | n + 1, p => if wtF p.1 now = 0 then (p, 0) else ((mvN now n (mvW now p)).1, (mvN now n (mvW now p)).2 + 1)
def lvSum (T : RL) : Nat -> Int
 | 0 => 0
 | n + 1 => lvSum T n + gC T n 0
theorem lvSum_upd {T T' : RL} {i : Nat} : ∀ {n : Nat}, i < n -> (∀ y, y ≠ i -> gC T' y 0 = gC T y 0) -> lvSum T' n = lvSum T n - gC T i 0 + gC T' i 0
 | n + 1, hi, h => by
   have hc : ∀ m, m <= i -> lvSum T' m = lvSum T m := fun m hm => by
    induction m with
    | zero => rfl
    | succ m ih => simp only [lvSum]; rw [ih (by omega), h m (by omega)]
   simp only [lvSum]
   by_cases hn : i = n
   ·subst hn; rw [hc i (Nat.le_refl _)]; omega
   ·rw [lvSum_upd (n := n) (by omega) h, h n (fun e => hn e.symm)]; omega
theorem lvSum_congr {T T' : RL} (h : ∀ y, gC T' y 0 = gC T y 0) : ∀ n, lvSum T' n = lvSum T n
 | 0 => rfl
 | n + 1 => by simp only [lvSum]; rw [lvSum_congr h n, h n]
theorem mvN_ok {now bu le : Int} : ∀ (n : Nat) (p : RL × RL) (Q : Nat -> List Nat) (w : Int), WOK now bu le p.1 p.2 Q w ->
 ∃ Q', WOK now bu le (mvN now n p).1.1 (mvN now n p).1.2 Q' (if (n : Int) <= w then w - n else 0) /\ 0 <= (mvN now n p).2 /\ (mvN now n p).2 <= n /\ (mvN now n p).1.2.length = p.2.length /\ (∀ y, gC (mvN now n p).1.2 y 4 = gC p.2 y 4) /\
   lvSum (mvN now n p).1.2 p.2.length + (mvN now n p).2 <= lvSum p.2 p.2.length /\ Q' 2048 = Q 2048
 | 0, p, Q, w, h => by
   have h0 := h.wt
   have e : (if ((0 : Nat) : Int) <= w then w - ((0 : Nat) : Int) else 0) = w := by rw [if_pos (by omega)]; omega
   exact ⟨Q, by rw [e]; exact h, by show (0 : Int) <= 0; omega, by show (0 : Int) <= ((0 : Nat) : Int); omega, rfl, fun _ => rfl, by show lvSum p.2 _ + 0 <= _; omega, rfl⟩
 | n + 1, p, Q, w, h => by
   by_cases hz : wtF p.1 now = 0
   ·have hc := h.wait_zero hz
    have e : mvN now (n + 1) p = (p, 0) := if_pos hz
    rw [e]
    have h0 := h.wt
    refine ⟨Q, { h with wt := by rw [hc]; split <;> omega }, by show (0 : Int) <= 0; omega, by show (0 : Int) <= ((n + 1 : Nat) : Int); omega, rfl, fun _ => rfl, by show lvSum p.2 _ + 0 <= _; omega, rfl⟩
   ·obtain ⟨i, hi1, hi2, hi3⟩ := h.wait_pos hz
    obtain ⟨Q1, m1, m2, m3, m4, m5, m6, m7⟩ := h.move hi1 hi2 hi3
    have hw1 : 1 <= w := by
     have := cnt_pos hi2 hi3
     have h0 := h.wt
     unfold cntW at h0; omega
    obtain ⟨Q2, r1, r2, r3, r4, r5, r6, r7⟩ := mvN_ok n (mvW now (p.1, p.2)) Q1 (w - 1) m1
    have e : mvN now (n + 1) p = ((mvN now n (mvW now p)).1, (mvN now n (mvW now p)).2 + 1) := if_neg hz
    rw [e]
    have hs := lvSum_upd (T := p.2) (T' := (mvW now (p.1, p.2)).2) hi2 m4
    rw [m2] at r6
    have ew : (if ((n + 1 : Nat) : Int) <= w then w - ((n + 1 : Nat) : Int) else 0) = if (n : Int) <= w - 1 then w - 1 - n else 0 := by
     by_cases c : (n : Int) <= w - 1
     ·rw [if_pos c, if_pos (by omega)]; omega
     ·rw [if_neg c, if_neg (by omega)]
    refine ⟨Q2, by rw [ew]; exact r1, by show 0 <= (mvN now n (mvW now p)).2 + 1; exact Int.le_add_one r2, ?_, by rw [<- m2]; exact r4, fun y => (r5 y).trans (m3 y), ?_, r7.trans m7⟩
    ·have : (mvN now n (mvW now p)).2 <= n := r3
     show (mvN now n (mvW now p)).2 + 1 <= ((n + 1 : Nat) : Int)
     omega
    ·have : lvSum (mvN now n (mvW now p)).1.2 p.2.length + (mvN now n (mvW now p)).2 <= lvSum (mvW now p).2 p.2.length := r6
     have hs' : lvSum (mvW now p).2 p.2.length = lvSum p.2 p.2.length - gC p.2 i 0 + gC (mvW now p).2 i 0 := hs
     have m5' : gC (mvW now p).2 i 0 < gC p.2 i 0 := m5
     show lvSum (mvN now n (mvW now p)).1.2 p.2.length + ((mvN now n (mvW now p)).2 + 1) <= _
     omega
def joinW (k : Nat) (p : RL × RL) : RL × RL := if gC p.1 k 2 = 0 then p else (joinS p.1 k, joinT p.2 (gC p.1 k 0) (gC p.1 2048 1))
def tickW (now bu : Int) (p : RL × RL) : (RL × RL) × Int := if now = 1099511627776 then (p, 0) else mvN (now + 1) bu.toNat (joinW ((now + 1) % 512).toNat p)
def nowT (now : Int) : Int := if now = 1099511627776 then now else now + 1
theorem WOK.tick {now bu le : Int} {S T : RL} {Q : Nat -> List Nat} (h : WOK now bu le S T Q (bu * (255 - now % 256))) :
 ∃ Q', WOK (nowT now) bu le (tickW now bu (S, T)).1.1 (tickW now bu (S, T)).1.2 Q' (bu * (255 - nowT now % 256)) /\ 0 <= (tickW now bu (S, T)).2 /\ (tickW now bu (S, T)).2 <= bu /\ (tickW now bu (S, T)).1.2.length = T.length /\
   (∀ y, gC (tickW now bu (S, T)).1.2 y 4 = gC T y 4) /\ lvSum (tickW now bu (S, T)).1.2 T.length + (tickW now bu (S, T)).2 <= lvSum T T.length /\
   Q' 2048 = Q 2048 ++ (if now = 1099511627776 then [] else Q ((now + 1) % 512).toNat) := by
 have hb := h.bg
 have htm := h.tm
 by_cases hM : now = 1099511627776
 ·have e1 : tickW now bu (S, T) = ((S, T), 0) := if_pos hM
  have e2 : nowT now = now := if_pos hM
  rw [e1, e2, if_pos hM, List.append_nil]
  exact ⟨Q, h, by show (0 : Int) <= 0; omega, by show (0 : Int) <= bu; omega, rfl, fun _ => rfl, by show lvSum T _ + 0 <= _; omega, rfl⟩
 ·have e2 : nowT now = now + 1 := if_neg hM
  obtain ⟨k, hk⟩ : ∃ k, k = ((now + 1) % 512).toNat := ⟨_, rfl⟩
  obtain ⟨j1, j2, j3⟩ := h.join (by omega) hk
  have ej : joinW k (S, T) = (if gC S k 2 = 0 then S else joinS S k, if gC S k 2 = 0 then T else joinT T (gC S k 0) (gC S 2048 1)) := by
   unfold joinW
   by_cases hc : gC S k 2 = 0 <;> simp [hc]
  have e1 : tickW now bu (S, T) = mvN (now + 1) bu.toNat (joinW k (S, T)) := by rw [hk]; exact if_neg hM
  rw [e1, e2, if_neg hM, <- hk]
  have j1' : WOK (now + 1) bu le (joinW k (S, T)).1 (joinW k (S, T)).2 (uQ (uQ Q 2048 (Q 2048 ++ Q k)) k []) (bu * (256 - (now + 1) % 256)) := by rw [ej]; exact j1
  have j2' : (joinW k (S, T)).2.length = T.length := by rw [ej]; exact j2
  have j3' : ∀ y j, j ≠ 2 -> j ≠ 3 -> gC (joinW k (S, T)).2 y j = gC T y j := by rw [ej]; exact j3
  obtain ⟨Q', r1, r2, r3, r4, r5, r6, r7⟩ := mvN_ok bu.toNat (joinW k (S, T)) _ _ j1'
  have hle : bu <= bu * (256 - (now + 1) % 256) := by
   have : bu * 1 <= bu * (256 - (now + 1) % 256) := Int.mul_le_mul_of_nonneg_left (by omega) (by omega)
   omega
  have ew : (if ((bu.toNat : Nat) : Int) <= bu * (256 - (now + 1) % 256) then bu * (256 - (now + 1) % 256) - ((bu.toNat : Nat) : Int) else 0) = bu * (255 - (now + 1) % 256) := by
   rw [if_pos (by omega), show ((bu.toNat : Nat) : Int) = bu by omega, show (256 : Int) - (now + 1) % 256 = (255 - (now + 1) % 256) + 1 by omega, Int.mul_add, Int.mul_one]
   omega
  rw [ew] at r1
  rw [j2'] at r4 r6
  rw [lvSum_congr (T := T) (T' := (joinW k (S, T)).2) (fun y => j3' y 0 (by decide) (by decide))] at r6
  refine ⟨Q', r1, r2, by omega, r4, fun y => (r5 y).trans (j3' y 4 (by decide) (by decide)), r6, ?_⟩
  rw [r7, uQ_ne _ _ (by omega), uQ_same]
end
end Go.Proofs.Ytfhheeoejncfgaa.Ew

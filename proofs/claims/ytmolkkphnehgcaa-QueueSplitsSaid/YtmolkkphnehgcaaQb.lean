/- slices.Insert at the queue's timers: the walk of its text. -/
import Derived.Test.YtmolkkphnehgcaaQa
import Derived.Shelf.Spec.SlicesInsertGrow
set_option linter.unusedVariables false
set_option linter.unusedSimpArgs false
namespace Go.Proofs.Ytmolkkphnehgcaa.Ew
open Go Go.RowKit Go.Lib

/-- copy into a row of its own, at elements of any size. -/
theorem run_copy_row2 {P : Program} (w : World) (dT sT ty elem : TypeId) (inf : TypeInfo) (sz g o dLen dCap : Nat) (cur : Array Value) (a : Addr) (sLen sCap m : Nat) (cs : List Value)
    (hu : P.underlying dT = some (.slice elem)) (hi : P.info? elem = some inf) (hs : inf.size = sz) (hm : m = Nat.min sLen dLen) (hn : cs.length = m * sz)
    (hsrc : ∀ j v, cs[j]? = some v → w.cell? (a.add j) = some v) (hg : w.heap[g]? = some (.cells cur elem (0, 0))) (hfit : o + cs.length ≤ cur.size) (h1 : ∀ v ∈ cs, v.oneCell' = true) :
    (Builtin.copy_ #[dT, sT] ty #[.slice (some ⟨g, o, none⟩) dLen dCap, .slice (some a) sLen sCap]).run P w = .ok (goInt m) (w.setRow g (cur.toList.take o ++ cs ++ cur.toList.drop (o + cs.length)).toArray) := by
  have hl := run_firstCells_some (P := P) w sz m a sLen sCap cs hn hsrc
  have hst := run_storeCells_at P g o elem cs 0 cur w hg (by simpa using hfit) h1
  simp only [Nat.add_zero] at hst
  simp [Builtin.copy_, run_underlying hu, Builtin.lenOf, sizeOf, typeInfo, hi, hs, ← hm, hl, hst]

theorem run_overlaps39 (w : World) (g b m vc lb cb o : Nat) (vcur cur : Array Value) (hne : g ≠ b) (hv : w.heap[g]? = some (.cells vcur 34 (0, 0))) (hg : w.heap[b]? = some (.cells cur 34 (0, 0))) (hc : cur.size ≠ 0) :
    (callFunc 39 #[.slice (some ⟨g, 0, none⟩) m vc, .slice (some ⟨b, o, none⟩) lb cb]).run Try.prog w = .ok (.value (.bool false)) w := by
  have hz : ∀ w, (Go.sizeOf 34).run Try.prog w = .ok 2 w := fun w => by
    obtain ⟨inf, z, h1, h2, h3, h4⟩ := info34
    simp [Go.sizeOf, typeInfo, h1, h3]
  rw [run_callFunc_extern Try.func39 (by kernel_rfl) (by kernel_rfl) (by kernel_rfl) (e := Extern.SlicesOverlaps.overlaps #[27, 27] #[4]) (by kernel_rfl),
    Lib.run_overlaps_apart w 27 4 34 (by kernel_rfl) 2 hz ⟨g, 0, none⟩ ⟨b, o, none⟩ m vc lb cb hne 34 34 vcur.size cur.size (by simp [World.shape?, hv]) (by simp [World.shape?, hg]) hc (by simp [World.frozen?, hv]) (by simp [World.frozen?, hv])]
  rfl

theorem info34b : ∃ inf z, Try.prog.info? 34 = some inf ∧ inf.zero = some z ∧ inf.size = 2 ∧ inf.bytes = 16 ∧ z = .agg #[.int .i64 0, .int .i64 0] := by
  have h : (Try.prog.info? 34).map (fun i => (i.zero, i.size, i.bytes)) = some (some (.agg #[.int .i64 0, .int .i64 0]), 2, 16) := by kernel_rfl
  obtain ⟨inf, h1, h2⟩ := Option.map_eq_some_iff.1 h
  simp only [Prod.mk.injEq] at h2
  exact ⟨inf, _, h1, h2.1, h2.2.1, h2.2.2, rfl⟩
theorem under27 : Try.prog.underlying 27 = some (.slice 34) := by kernel_rfl

set_option maxHeartbeats 4000000 in
set_option maxRecDepth 1000000 in
theorem insert_end (w : World) (v : Value) (n : Nat) (xs : List Value) (hown : w.ownsRow 0 34 2 v n xs) (g vc : Nat) (news : List Value) (hl : news.length = 2) (hsrc : ∀ j u, news[j]? = some u → w.cell? ⟨g, j, none⟩ = some u)
    (h1 : ∀ u ∈ news, u.oneCell' = true) (hb : (n + 1) * 16 ≤ 140737488355328) :
    Calls Try.prog 32 #[v, .int .i64 n, .slice (some ⟨g, 0, none⟩) 1 vc] w fun e w' => ∃ v', e = .returned v' ∧ w'.ownsRow 0 34 2 v' (n + 1) (xs ++ news) ∧ w.grownBy w' v.ownBlock ∧ (v'.ownBlock = v.ownBlock ∨ v'.ownBlock = some w.heap.size) := by
  obtain ⟨inf, z, z1, z2, z3, z4, z5⟩ := info34b
  have key : ∀ ty, ∃ v' w', (Builtin.append_ #[27, 27] ty #[v, .slice (some ⟨g, 0, none⟩) 1 vc]).run Try.prog w = .ok v' w' ∧ w'.ownsRow 0 34 2 v' (n + 1) (xs ++ news) ∧ w.grownBy w' v.ownBlock ∧ (v'.ownBlock = v.ownBlock ∨ v'.ownBlock = some w.heap.size) := fun ty =>
    append_own2 (P := Try.prog) w 27 ty 34 inf z 2 16 under27 z1 z2 z3 z4 (by rw [z5]; rfl) (by omega) v n xs hown ⟨g, 0, none⟩ 1 vc news (by omega) (fun j u hj => by rw [addr_add, Nat.zero_add]; exact hsrc j u hj) h1 (by unfold maxLen; omega) (by omega)
  obtain ⟨ty, hty⟩ : ∃ ty : TypeId, ty = 27 := ⟨27, rfl⟩
  obtain ⟨v', w', r1, r2⟩ := key 27
  have r2 := Lib.hid r2
  clear key h1 hsrc
  have hn63 : n ≤ 9223372036854775807 := by omega
  obtain ⟨hx, hf⟩ := hown
  rcases hf with ⟨rfl, rfl⟩ | ⟨b, cap, cur, rfl, hbb, hg, hnc, hcm, hcs, htk⟩
  · clear hx hb
    go_enter Try.func32, Try.ntmps32
    go_wp2_with (at_builtin; refine Lib.wpList_append_run _ rfl _ _ _ _ rfl _ _ rfl rfl _ _ r1 ?_)
    go_ret
    exact ⟨v', rfl, r2.out⟩
  · have hcm' : cap ≤ 9223372036854775807 := by unfold maxLen at hcm; omega
    clear hx hb hg hcs htk hcm hbb
    go_enter Try.func32, Try.ntmps32
    go_wp2_with (at_builtin; refine Lib.wpList_append_run _ rfl _ _ _ _ rfl _ _ rfl rfl _ _ r1 ?_)
    all_goals (go_ret; exact ⟨v', rfl, r2.out⟩)

set_option maxHeartbeats 4000000 in
set_option maxRecDepth 1000000 in
theorem insert_shift (w : World) (b n cap i : Nat) (cur : Array Value) (hi : i < n) (hnc : n + 1 ≤ cap) (hcm : cap ≤ maxLen) (hg : w.heap[b]? = some (.cells cur 34 (0, 0))) (hcs : cur.size = cap * 2) (hone : ∀ v ∈ cur.toList.take (n * 2), v.oneCell' = true)
    (g vc : Nat) (vcur : Array Value) (hv : w.heap[g]? = some (.cells vcur 34 (0, 0))) (hgb : g ≠ b) (news : List Value) (hl : news.length = 2) (hsrc : ∀ j u, news[j]? = some u → w.cell? ⟨g, j, none⟩ = some u) (h1 : ∀ u ∈ news, u.oneCell' = true) :
    Calls Try.prog 32 #[.slice (some ⟨b, 0, none⟩) n cap, .int .i64 i, .slice (some ⟨g, 0, none⟩) 1 vc] w fun e w' => e = .returned (.slice (some ⟨b, 0, none⟩) (n + 1) cap) ∧ ∃ cur' : Array Value, cur'.size = cur.size ∧
      cur'.toList.take ((n + 1) * 2) = (cur.toList.take (n * 2)).take (i * 2) ++ news ++ (cur.toList.take (n * 2)).drop (i * 2) ∧ w' = w.drew.setRow b cur' := by
  obtain ⟨inf, z, z1, z2, z3, z4, z5⟩ := info34b
  have hcm' : cap ≤ 9223372036854775807 := by unfold maxLen at hcm; omega
  obtain ⟨cs, hcs1⟩ : ∃ cs, cs = (cur.toList.take (n * 2)).drop (i * 2) := ⟨_, rfl⟩
  have hcl : cs.length = (n - i) * 2 := by rw [hcs1]; simp; omega
  have hov : ∀ o lb cb, (callFunc 39 #[.slice (some ⟨g, 0, none⟩) 1 vc, .slice (some ⟨b, o, none⟩) lb cb]).run Try.prog w = .ok (.value (.bool false)) w := fun o lb cb => run_overlaps39 w g b 1 vc lb cb o vcur cur hgb hv hg (by omega)
  have hgd : w.drew.heap[b]? = some (.cells cur 34 (0, 0)) := hg
  obtain ⟨c1, hc1⟩ : ∃ c1 : Array Value, c1 = (cur.toList.take ((i + 1) * 2) ++ cs ++ cur.toList.drop ((i + 1) * 2 + cs.length)).toArray := ⟨_, rfl⟩
  have hs1 : c1.size = cur.size := by rw [hc1]; simp [hcl]; omega
  obtain ⟨W1, hW1⟩ : ∃ W1, W1 = w.drew.setRow b c1 := ⟨_, rfl⟩
  have hgw : W1.heap[b]? = some (.cells c1 34 (0, 0)) := by rw [hW1]; exact setRow_heap w.drew b cur _ 34 _ hgd
  have hcp1 : ∀ ty dc sc, (Builtin.copy_ #[27, 27] ty #[.slice (some ⟨b, (i + 1) * 2, none⟩) (n + 1 - (i + 1)) dc, .slice (some ⟨b, i * 2, none⟩) (n + 1 - i) sc]).run Try.prog w.drew = .ok (goInt (n - i : Nat)) W1 := fun ty dc sc => by
    rw [hW1, hc1]
    exact run_copy_row2 w.drew 27 27 ty 34 inf 2 b ((i + 1) * 2) (n + 1 - (i + 1)) dc cur ⟨b, i * 2, none⟩ (n + 1 - i) sc (n - i) cs under27 z1 z3 (by simp only [Nat.min_def]; split <;> omega) hcl
      (fun j u hj => by
        rw [addr_add, cell_of_heap hgd]
        rw [hcs1, List.getElem?_drop, List.getElem?_take] at hj
        split at hj
        · simpa using hj
        · cases hj) hgd (by rw [hcl]; omega) (fun v hv => hone v (by rw [hcs1] at hv; exact List.mem_of_mem_drop hv))
  obtain ⟨c2, hc2⟩ : ∃ c2 : Array Value, c2 = (c1.toList.take (i * 2) ++ news ++ c1.toList.drop (i * 2 + news.length)).toArray := ⟨_, rfl⟩
  obtain ⟨W2, hW2⟩ : ∃ W2, W2 = W1.setRow b c2 := ⟨_, rfl⟩
  have hcp2 : ∀ ty dc, (Builtin.copy_ #[27, 27] ty #[.slice (some ⟨b, i * 2, none⟩) (n + 1 - i) dc, .slice (some ⟨g, 0, none⟩) 1 vc]).run Try.prog W1 = .ok (goInt (1 : Nat)) W2 := fun ty dc => by
    rw [hW2, hc2]
    exact run_copy_row2 W1 27 27 ty 34 inf 2 b (i * 2) (n + 1 - i) dc c1 ⟨g, 0, none⟩ 1 vc 1 news under27 z1 z3 (by simp only [Nat.min_def]; split <;> omega) (by omega)
      (fun j u hj => by
        rw [addr_add, Nat.zero_add, hW1]
        have := hsrc j u hj
        simp only [World.cell?] at this ⊢
        rw [setRow_other w.drew b g c1 hgb]
        exact this) hgw (by omega) h1
  have fin : Hid (∃ cur' : Array Value, cur'.size = cur.size ∧ cur'.toList.take ((n + 1) * 2) = (cur.toList.take (n * 2)).take (i * 2) ++ news ++ (cur.toList.take (n * 2)).drop (i * 2) ∧ W2 = w.drew.setRow b cur') := by
    refine ⟨c2, ?_, ?_, ?_⟩
    · rw [hc2, List.size_toArray, List.length_append, List.length_append, List.length_take, List.length_drop, Array.length_toList, hs1, hl]; omega
    · have e1 : c1.toList.take (i * 2) = (cur.toList.take (n * 2)).take (i * 2) := by
        rw [hc1, List.toList_toArray, List.append_assoc, List.take_append_of_le_length (by simp; omega), List.take_take, List.take_take]
        congr 1; omega
      have e2 : (c1.toList.drop (i * 2 + 2)).take ((n - i) * 2) = cs := by
        have h2 : (cur.toList.take ((i + 1) * 2)).length = i * 2 + 2 := by rw [List.length_take, Array.length_toList]; omega
        rw [hc1, List.toList_toArray, List.append_assoc, ← h2, List.drop_left, List.take_append_of_le_length (by omega), List.take_of_length_le (by omega)]
      rw [hc2, List.toList_toArray, ← hcs1, ← e1, ← e2, hl]
      have h3 : (c1.toList.take (i * 2) ++ news).length = i * 2 + 2 := by rw [List.length_append, List.length_take, Array.length_toList, hl]; omega
      rw [List.take_append, List.take_of_length_le (by omega), h3]
      congr 2; omega
    · rw [hW2, hW1, setRow_setRow]
  have hz2 : ¬ ((i : Int) = (n : Int)) := by omega
  have hw1 : IntKind.i64.wrap ((i : Int) + 1) = (i : Int) + 1 := by rw [IntKind.wrap_i64]; omega
  have hw2 : IntKind.i64.wrap ((n : Int) + 1) = (n : Int) + 1 := by rw [IntKind.wrap_i64]; omega
  have hb1 : (0 : Int) ≤ (i : Int) + 1 := by omega
  have hin : i ≤ n := by omega
  have htn : ((i : Int) + 1).toNat = i + 1 := by omega
  have htn2 : ((n : Int) + 1).toNat = n + 1 := by omega
  have hb2 : ¬ (cap = i + 1) := by omega
  have hb3 : (i : Int) ≤ (n : Int) + 1 := by omega
  have hb4 : ¬ (cap = i) := by omega
  have hb5 : ¬ ((cap : Int) < (n : Int) + 1) := by omega
  clear hc1 hs1 hW1 hgw hc2 hW2 hcs1 hcl h1 hsrc hone hgd hg hv z1 z2 z3 z4 z5
  have mixed : Try.prog.follows Departure.mixedOrders = true := by kernel_rfl
  go_enter Try.func32, Try.ntmps32
  go_wp2_with (simp only [hov])
  go_region_law_o (refine step_copy_runI rfl _ _ 27 27 rfl (.slice (some ⟨b, (i + 1) * 2, none⟩) (n + 1 - (i + 1)) (cap - (i + 1))) (.slice (some ⟨b, i * 2, none⟩) (n + 1 - i) (cap - i)) (by simp [Act.eval, Act.put]) (by simp [Act.eval, Act.put]) (hcp1 _ _ _) ?_)
  go_wp2_with (at_builtin; refine wpList_copy_runI _ rfl _ _ 27 27 rfl _ _ rfl rfl (hcp2 _ _) ?_)
  go_ret
  exact ⟨rfl, fin.out⟩

theorem alloc_setRow (w : World) (r c : Array Value) (t : TypeId) : (w.alloc (.cells r t)).setRow w.heap.size c = w.alloc (.cells c t) := by
  simp only [World.setRow, World.alloc, World.mk.injEq, and_true, true_and]
  apply Array.ext_getElem?
  intro k
  rw [Array.getElem?_modify, Array.getElem?_push, Array.getElem?_push]
  by_cases hk : w.heap.size = k
  · subst hk; simp
  · have : ¬ k = w.heap.size := fun e => hk e.symm
    simp [hk, this]

set_option maxHeartbeats 4000000 in
set_option maxRecDepth 1000000 in
theorem insert_grow (w : World) (b n cap i : Nat) (cur : Array Value) (hi : i < n) (hnc : n ≤ cap) (hroom : cap < n + 1) (hcm : cap ≤ maxLen) (hg : w.heap[b]? = some (.cells cur 34 (0, 0))) (hcs : cur.size = cap * 2) (hone : ∀ v ∈ cur.toList.take (n * 2), v.oneCell' = true)
    (g vc : Nat) (hgb : g < w.heap.size) (news : List Value) (hl : news.length = 2) (hsrc : ∀ j u, news[j]? = some u → w.cell? ⟨g, j, none⟩ = some u) (h1 : ∀ u ∈ news, u.oneCell' = true) (hbig : (n + 1) * 16 ≤ 140737488355328) :
    Calls Try.prog 32 #[.slice (some ⟨b, 0, none⟩) n cap, .int .i64 i, .slice (some ⟨g, 0, none⟩) 1 vc] w fun e w' => ∃ G, e = .returned (.slice (some ⟨w.heap.size, 0, none⟩) (n + 1) G) ∧ n + 1 ≤ G ∧ G ≤ maxLen ∧ ∃ cur' : Array Value, cur'.size = G * 2 ∧
      cur'.toList.take ((n + 1) * 2) = (cur.toList.take (n * 2)).take (i * 2) ++ news ++ (cur.toList.take (n * 2)).drop (i * 2) ∧ w' = ((w.drew.alloc (.cells cur' 34))).drew := by
  obtain ⟨inf, z, z1, z2, z3, z4, z5⟩ := info34b
  have hcm' : cap ≤ 9223372036854775807 := by unfold maxLen at hcm; omega
  have hbw : b < w.heap.size := (Array.getElem?_eq_some_iff.1 hg).1
  obtain ⟨cs, hcs1⟩ : ∃ cs, cs = (cur.toList.take (n * 2)).drop (i * 2) := ⟨_, rfl⟩
  obtain ⟨hd, hhd⟩ : ∃ hd, hd = (cur.toList.take (n * 2)).take (i * 2) := ⟨_, rfl⟩
  have hcl : cs.length = (n - i) * 2 := by rw [hcs1]; simp; omega
  have hhl : hd.length = i * 2 := by rw [hhd]; simp; omega
  have hcell : ∀ k u, (cur.toList.take (n * 2))[k]? = some u → w.cell? ⟨b, k, none⟩ = some u := fun k u h => by
    rw [cell_of_heap hg]
    rw [List.getElem?_take] at h
    split at h
    · simpa using h
    · cases h
  have hkk : (n : Int) + 1 - (i : Int) = ((n + 1 - i : Nat) : Int) := by omega
  have hik : i + (n + 1 - i) = n + 1 := by omega
  have hzc : z.cells.size = 2 := by rw [z5]; rfl
  have hold : (Builtin.firstCells inf.size i (.slice (some ⟨b, 0, none⟩) i cap)).run Try.prog w.drew = .ok hd.toArray w.drew := by
    rw [z3]
    exact run_firstCells_some w.drew 2 i ⟨b, 0, none⟩ i cap hd (by rw [hhl]) (fun j v hj => by
      rw [addr_add, Nat.zero_add]
      rw [hhd, List.getElem?_take] at hj
      split at hj
      · exact hcell j v hj
      · cases hj)
  obtain ⟨G, hG⟩ : ∃ G, G = grownCap w (n + 1) cap 34 := ⟨_, rfl⟩
  obtain ⟨ROW, hROW⟩ : ∃ ROW : Array Value, ROW = hd.toArray ++ Builtin.zeroCells z.cells (n + 1 - i) ++ Builtin.zeroCells z.cells (G - (n + 1)) := ⟨_, rfl⟩
  obtain ⟨W1, hW1⟩ : ∃ W1, W1 = w.drew.alloc (.cells ROW 34) := ⟨_, rfl⟩
  have hGn : n + 1 ≤ G := by rw [hG]; exact grownCap_ge w _ _ _
  have hGm : G ≤ maxLen := by rw [hG]; exact grownCap_le_maxLen w (n + 1) cap 34 (by unfold maxLen; omega)
  have hG63 : G ≤ 9223372036854775807 := by unfold maxLen at hGm; omega
  have hrz : ∀ ty, (Builtin.append_ #[27, 3] ty #[.slice (some ⟨b, 0, none⟩) i cap, .int .i64 ((n : Int) + 1 - (i : Int))]).run Try.prog w = .ok (.slice (some ⟨w.heap.size, 0, none⟩) (n + 1) G) W1 := fun ty => by
    have h := Lib.run_append_grow_zeros w 27 3 ty 34 inf z .i64 .i64 under27 (by kernel_rfl) z1 z2 (some ⟨b, 0, none⟩) i cap hd hold (n + 1 - i) (by omega) (by omega) (by omega) (by omega) (by rw [z4]; omega) (by rw [z4, hik]; exact growslice_fits hroom hbig)
    rw [hik, ← hG, ← hROW, ← hW1] at h
    rw [hkk]
    exact h
  have hRl : ROW.size = G * 2 := by
    rw [hROW]
    simp only [Array.size_append, List.size_toArray, hhl, size_zeroCells, hzc]
    omega
  have hgN : W1.heap[w.heap.size]? = some (.cells ROW 34 (0, 0)) := by rw [hW1]; exact heap_alloc_new w.drew _
  have hgO : ∀ k, k < w.heap.size → W1.heap[k]? = w.heap[k]? := fun k hk => by rw [hW1]; exact heap_alloc_old w.drew _ hk
  obtain ⟨c1, hc1⟩ : ∃ c1 : Array Value, c1 = (ROW.toList.take (i * 2) ++ news ++ ROW.toList.drop (i * 2 + news.length)).toArray := ⟨_, rfl⟩
  have hs1 : c1.size = ROW.size := by rw [hc1]; simp [hl]; omega
  obtain ⟨W2, hW2⟩ : ∃ W2, W2 = W1.setRow w.heap.size c1 := ⟨_, rfl⟩
  have hcpA : ∀ ty dc, (Builtin.copy_ #[27, 27] ty #[.slice (some ⟨w.heap.size, i * 2, none⟩) (n + 1 - i) dc, .slice (some ⟨g, 0, none⟩) 1 vc]).run Try.prog W1 = .ok (goInt (1 : Nat)) W2 := fun ty dc => by
    rw [hW2, hc1]
    exact run_copy_row2 W1 27 27 ty 34 inf 2 w.heap.size (i * 2) (n + 1 - i) dc ROW ⟨g, 0, none⟩ 1 vc 1 news under27 z1 z3 (by simp only [Nat.min_def]; split <;> omega) (by omega)
      (fun j u hj => by
        rw [addr_add, Nat.zero_add]
        have := hsrc j u hj
        simp only [World.cell?] at this ⊢
        rw [hgO g hgb]
        exact this) hgN (by omega) h1
  have hgN2 : W2.drew.heap[w.heap.size]? = some (.cells c1 34 (0, 0)) := by rw [hW2]; exact setRow_heap W1 w.heap.size ROW _ 34 _ hgN
  obtain ⟨c2, hc2⟩ : ∃ c2 : Array Value, c2 = (c1.toList.take ((i + 1) * 2) ++ cs ++ c1.toList.drop ((i + 1) * 2 + cs.length)).toArray := ⟨_, rfl⟩
  obtain ⟨W3, hW3⟩ : ∃ W3, W3 = W2.drew.setRow w.heap.size c2 := ⟨_, rfl⟩
  have hcpB : ∀ ty dc sc, (Builtin.copy_ #[27, 27] ty #[.slice (some ⟨w.heap.size, (i + 1) * 2, none⟩) (n + 1 - (i + 1)) dc, .slice (some ⟨b, i * 2, none⟩) (n - i) sc]).run Try.prog W2.drew = .ok (goInt (n - i : Nat)) W3 := fun ty dc sc => by
    rw [hW3, hc2]
    exact run_copy_row2 W2.drew 27 27 ty 34 inf 2 w.heap.size ((i + 1) * 2) (n + 1 - (i + 1)) dc c1 ⟨b, i * 2, none⟩ (n - i) sc (n - i) cs under27 z1 z3 (by simp only [Nat.min_def]; split <;> omega) hcl
      (fun j u hj => by
        rw [addr_add]
        have := hcell (i * 2 + j) u (by rw [hcs1, List.getElem?_drop] at hj; exact hj)
        have hb2 : W2.drew.heap[b]? = w.heap[b]? := by
          show W2.heap[b]? = _
          rw [hW2, setRow_other W1 w.heap.size b c1 (by omega), hgO b hbw]
        simp only [World.cell?] at this ⊢
        rw [hb2]
        exact this) hgN2 (by rw [hcl]; omega) (fun v hv => hone v (by rw [hcs1] at hv; exact List.mem_of_mem_drop hv))
  have fin : Hid (∃ cur' : Array Value, cur'.size = G * 2 ∧ cur'.toList.take ((n + 1) * 2) = (cur.toList.take (n * 2)).take (i * 2) ++ news ++ (cur.toList.take (n * 2)).drop (i * 2) ∧ W3 = (w.drew.alloc (.cells cur' 34)).drew) := by
    refine ⟨c2, ?_, ?_, ?_⟩
    · rw [hc2, List.size_toArray, List.length_append, List.length_append, List.length_take, List.length_drop, Array.length_toList, hs1, hcl]; omega
    · rw [← hhd, ← hcs1, hc2, List.toList_toArray]
      have e1 : c1.toList.take ((i + 1) * 2) = hd ++ news := by
        rw [hc1, List.toList_toArray]
        have e2 : ROW.toList.take (i * 2) = hd := by
          rw [hROW]
          simp only [Array.toList_append, List.append_assoc]
          rw [← hhl, List.take_left]
        rw [e2, show (i + 1) * 2 = (hd ++ news).length by simp [hhl, hl]; omega, List.take_left]
      rw [e1, show (n + 1) * 2 = (hd ++ news ++ cs).length by simp [hhl, hl, hcl]; omega, List.take_left]
    · rw [hW3, hW2]
      have : (W1.setRow w.heap.size c1).drew.setRow w.heap.size c2 = (W1.setRow w.heap.size c2).drew := by
        rw [← setRow_setRow W1 w.heap.size c1 c2]; rfl
      rw [this, hW1]
      exact congrArg World.drew (alloc_setRow w.drew ROW c2 34)
  have hz2 : ¬ ((i : Int) = (n : Int)) := by omega
  have hw1 : IntKind.i64.wrap ((i : Int) + 1) = (i : Int) + 1 := by rw [IntKind.wrap_i64]; omega
  have hw2 : IntKind.i64.wrap ((n : Int) + 1) = (n : Int) + 1 := by rw [IntKind.wrap_i64]; omega
  have hw3 : IntKind.i64.wrap ((n : Int) + 1 - (i : Int)) = (n : Int) + 1 - (i : Int) := by rw [IntKind.wrap_i64]; omega
  have hb1 : (0 : Int) ≤ (i : Int) + 1 := by omega
  have hin : i ≤ n := by omega
  have htn : ((i : Int) + 1).toNat = i + 1 := by omega
  have htn2 : ((n : Int) + 1).toNat = n + 1 := by omega
  have hb2 : ¬ (G = i + 1) := by omega
  have hb3 : (i : Int) ≤ (n : Int) := by omega
  have hb4 : ¬ (G = i) := by omega
  have hb6 : ¬ (cap = i) := by omega
  have hb5 : (cap : Int) < (n : Int) + 1 := by omega
  have hGn := Lib.hid hGn
  have hGm := Lib.hid hGm
  clear hc1 hs1 hW1 hgN hgO hgN2 hW3 hc2 hW2 hcs1 hcl h1 hsrc hone hg z1 z2 z3 z4 z5 hkk hik hold hROW hG hRl hcell hhd hhl
  have mixed : Try.prog.follows Departure.mixedOrders = true := by kernel_rfl
  go_enter Try.func32, Try.ntmps32
  go_wp2_with (first
    | (at_builtin; refine Lib.wpList_append_run _ rfl _ _ _ _ rfl _ _ rfl rfl _ _ (hrz _) ?_)
    | (at_builtin; refine wpList_copy_runI _ rfl _ _ 27 27 rfl _ _ rfl rfl (hcpA _ _) ?_)
    | (at_builtin; refine wpList_copy_runI _ rfl _ _ 27 27 rfl _ _ rfl rfl (hcpB _ _ _) ?_))
  go_region_law_o (refine step_copy_runI rfl _ _ 27 27 rfl (.slice (some ⟨w.heap.size, (i + 1) * 2, none⟩) (n + 1 - (i + 1)) (G - (i + 1))) (.slice (some ⟨b, i * 2, none⟩) (n - i) (cap - i)) (by simp [Act.eval, Act.put]) (by simp [Act.eval, Act.put]) (hcpB _ _ _) ?_)
  go_wp2
  go_ret
  exact ⟨G, rfl, hGn.out, hGm.out, fin.out⟩

end Go.Proofs.Ytmolkkphnehgcaa.Ew

/- slices.Insert, slices.Delete, slices.Clone at the queue's timers, as summaries. -/
import Derived.Test.YtmolkkphnehgcaaQb
set_option linter.unusedVariables false
set_option linter.unusedSimpArgs false
namespace Go.Proofs.Ytmolkkphnehgcaa.Ew
open Go Go.RowKit Go.Lib

def tmK : List K := [.i .i64, .i .i64]
def tmR : Row := .ofKs tmK

section
variable {w w' : World} {Im Im' : Nat → Prop} {q : Row}
theorem RowsV.takeN : ∀ {l : RL} {xs : List Value}, RowsV w Im q l xs → ∀ i, RowsV w Im q (l.take i) (xs.take (i * q.size))
  | [], xs, h, i => by simp only [RowsV] at h; subst h; simp [RowsV]
  | r :: l, xs, h, 0 => by simp [RowsV]
  | r :: l, xs, h, i + 1 => by
    obtain ⟨us, ys, rfl, h2, h3⟩ := h
    refine ⟨us, ys.take (i * q.size), ?_, h2, RowsV.takeN h3 i⟩
    have e1 : (i + 1) * q.size = us.length + i * q.size := by rw [Nat.succ_mul, h2.len.1]; omega
    rw [e1, List.take_append, List.take_of_length_le (by omega)]; simp
theorem RowsV.dropN : ∀ {l : RL} {xs : List Value}, RowsV w Im q l xs → ∀ i, RowsV w Im q (l.drop i) (xs.drop (i * q.size))
  | [], xs, h, i => by simp only [RowsV] at h; subst h; simp [RowsV]
  | r :: l, xs, h, 0 => by simpa using h
  | r :: l, xs, h, i + 1 => by
    obtain ⟨us, ys, rfl, h2, h3⟩ := h
    have e1 : (i + 1) * q.size = us.length + i * q.size := by rw [Nat.succ_mul, h2.len.1]; omega
    have e2 : (us ++ ys).drop (us.length + i * q.size) = ys.drop (i * q.size) := by
      rw [List.drop_append, List.drop_of_length_le (by omega)]; simp
    rw [e1, e2, List.drop_succ_cons]
    exact RowsV.dropN h3 i
end

theorem RowsV_all {w w' : World} {Im Im' : Nat → Prop} {l : RL} {xs : List Value} (h : RowsV w Im tmR l xs) : RowsV w' Im' tmR l xs :=
  RowsV.fr (Im := fun _ => False) (fun _ h => h.elim) (RowsV_any (ks := tmK) (Im' := fun _ => False) h)

/-- What is handed back: one list of the call's own. -/
theorem relE_ret {w w' : World} {M0 Im0 : Nat → Prop} {hs : Nat → Hd} {ty : Nat} {q : Row} (hM : ∀ b, M0 b → ¬ Im0 b ∧ b < w.heap.size) (hI : ∀ b, Im0 b → b < w.heap.size) (hf : Fr M0 w w') {nn k : Nat} {ys : List Int} {hd' : Hd}
    (hc : isCd (env ys k)) (ho : OwL w' Im0 ty q hd' (dc (env ys k))) (hb : ∀ b, (hd'.sl (dc (env ys k)).length).ownBlock = some b → M0 b ∨ w.heap.size ≤ b) :
    RelE F0 (env ys) w M0 Im0 (upd hs nn hd') [(nn, mkB true, .lst ty q true (LEN (.var .x k)) (.var .x k))] w' := by
  have hl : (LEN (.var .x k)).den F0 (env ys) = ((dc (env ys k)).length : Int) := by
    rw [BI_F0.len]
    exact wrap_len ho.1
  have hd : (E.var .x k).den F0 (env ys) = env ys k := rfl
  refine ⟨fun x hx _ => ?_, fun x hx y hy _ _ b _ _ => ?_, fun b hb' => Nat.lt_of_lt_of_le (hI b hb') hf.size, hf⟩
  · simp only [List.mem_singleton] at hx
    subst hx
    have hm : mutB F0 (env ys) (upd hs nn hd') nn (.lst ty q true (LEN (.var .x k)) (.var .x k)) = (hd'.sl (dc (env ys k)).length).ownBlock := by
      simp only [mutB, upd_same, hl, Int.toNat_natCast]
    refine ⟨⟨by rw [hd]; exact hc, by rw [hd]; exact hl, ?_⟩, fun b hb' => ?_⟩
    · rw [hd]; simp only [cond_true, upd_same]; exact ho
    · rw [hm] at hb'
      refine ⟨hb b hb', fun hi => ?_, (ho.2.choose_spec.1.lt b hb').2⟩
      rcases hb b hb' with h | h
      · exact (hM b h).1 hi
      · have := hI b hi; omega
  · simp only [List.mem_singleton] at hx hy
    subst hx; subst hy; rfl

def cap8 : Int := 8796093022000
noncomputable def insertE (key : Nat) : Ent := ⟨key, 32, [.lst 34 tmR true, .sc (.i .i64), .lst 34 tmR true], [], [], .lst 34 tmR true,
  fun _ xs => cd (((dc (env xs 0)).take (env xs 1).toNat) ++ (dc (env xs 2)) ++ ((dc (env xs 0)).drop (env xs 1).toNat)),
  fun xs => 0 ≤ env xs 1 ∧ env xs 1 ≤ ((dc (env xs 0)).length : Int) ∧ (dc (env xs 2)).length = 1 ∧ ((dc (env xs 0)).length : Int) < cap8⟩

/-- Insert, of a list of one's own. -/
theorem insert_own (w : World) (v : Value) (n i : Nat) (xs : List Value) (hown : w.ownsRow 0 34 2 v n xs) (hi : i ≤ n) (hone : ∀ u ∈ xs, u.oneCell' = true) (u : Value) (news : List Value) (hu : w.ownsRow 0 34 2 u 1 news) (h1 : ∀ u ∈ news, u.oneCell' = true)
    (hne : ∀ b, v.ownBlock = some b → u.ownBlock ≠ some b) (hbig : (n + 1) * 16 ≤ 140737488355328) :
    Calls Try.prog 32 #[v, .int .i64 i, u] w fun e w' => ∃ v', e = .returned v' ∧ w'.ownsRow 0 34 2 v' (n + 1) (xs.take (i * 2) ++ news ++ xs.drop (i * 2)) ∧ Fr (fun b => v.ownBlock = some b) w w' ∧ (v'.ownBlock = v.ownBlock ∨ v'.ownBlock = some w.heap.size) := by
  obtain ⟨hul, hur⟩ := hu
  rcases hur with ⟨rfl, h⟩ | ⟨g, vc, vcur, rfl, _, hvg, hvn, hvm, hvs, hvt⟩
  · omega
  have hsrc : ∀ j u, news[j]? = some u → w.cell? ⟨g, j, none⟩ = some u := fun j u hj => by
    rw [cell_of_heap hvg]
    rw [← hvt, List.getElem?_take] at hj
    split at hj
    · simpa using hj
    · cases hj
  by_cases he : i = n
  · subst he
    refine Calls.mono (insert_end w v i xs hown g vc news (by omega) hsrc h1 hbig) fun e w' h => ?_
    obtain ⟨v', e1, e2, e3, e4⟩ := h
    have hl := hown.1
    refine ⟨v', e1, ?_, Fr.grown e3, e4⟩
    rw [List.take_of_length_le (by omega), List.drop_of_length_le (by omega), List.append_nil]
    exact e2
  · obtain ⟨hl, hr⟩ := hown
    rcases hr with ⟨rfl, h⟩ | ⟨b, cap, cur, rfl, _, hg, hnc, hcm, hcs, ht⟩
    · omega
    have hgb : g ≠ b := fun e => hne b rfl (by rw [e]; rfl)
    by_cases hroom : n + 1 ≤ cap
    · refine Calls.mono (insert_shift w b n cap i cur (by omega) hroom hcm hg hcs (by rw [ht]; exact hone) g vc vcur hvg hgb news (by omega) hsrc h1) fun e w' h => ?_
      obtain ⟨e1, cur', e2, e3, rfl⟩ := h
      rw [ht] at e3
      refine ⟨_, e1, ⟨?_, .inr ⟨b, cap, cur', rfl, Nat.zero_le _, setRow_heap w.drew b cur _ 34 _ hg, hroom, hcm, by omega, e3⟩⟩, ?_, Or.inl rfl⟩
      · rw [List.length_append, List.length_append, List.length_take, List.length_drop, hl, hul]; omega
      · exact ((Fr.drew _ w).trans (Fr.setRow b cur') (fun k _ e => by rw [e]; rfl))
    · refine Calls.mono (insert_grow w b n cap i cur (by omega) hnc (by omega) hcm hg hcs (by rw [ht]; exact hone) g vc (Array.getElem?_eq_some_iff.1 hvg).1 news (by omega) hsrc h1 hbig) fun e w' h => ?_
      obtain ⟨G, e1, e2, e3, cur', e4, e5, rfl⟩ := h
      rw [ht] at e5
      refine ⟨_, e1, ⟨?_, .inr ⟨w.heap.size, G, cur', rfl, Nat.zero_le _, heap_alloc_new w.drew _, e2, e3, e4, e5⟩⟩, ?_, Or.inr rfl⟩
      · rw [List.length_append, List.length_append, List.length_take, List.length_drop, hl, hul]; omega
      · exact ((Fr.drew (fun b' => (Value.slice (some ⟨b, 0, none⟩) n cap).ownBlock = some b') w).trans (Fr.alloc _ w.drew _) (fun _ _ h => h)).trans (Fr.drew _ _) (fun _ _ h => h)

/-- What a parameter says that is a list of one's own. -/
theorem relE_own {w w0 : World} {M0 Im0 : Nat → Prop} {hs : Nat → Hd} {ty : Nat} {q : Row} {n k : Nat} {ys : List Int} {l : Ents} (hR : RelE F0 (env ys) w0 M0 Im0 hs l w) (hm : (n, mkB true, .lst ty q true (LEN (.var .x k)) (.var .x k)) ∈ l) :
    isCd (env ys k) ∧ OwL w Im0 ty q (hs n) (dc (env ys k)) ∧ (∀ b, ((hs n).sl (dc (env ys k)).length).ownBlock = some b → M0 b ∨ w0.heap.size ≤ b) ∧
    SV.conc F0 (env ys) hs (.ls n (LEN (.var .x k))) = (hs n).sl (dc (env ys k)).length ∧ mutB F0 (env ys) hs n (.lst ty q true (LEN (.var .x k)) (.var .x k)) = ((hs n).sl (dc (env ys k)).length).ownBlock := by
  obtain ⟨h1, h2⟩ := hR.ent _ hm (by simp)
  obtain ⟨a1, a2, a3⟩ := h1
  have hd : (E.var .x k).den F0 (env ys) = env ys k := rfl
  rw [hd] at a1 a2 a3
  simp only [cond_true] at a3
  have hm : mutB F0 (env ys) hs n (.lst ty q true (LEN (.var .x k)) (.var .x k)) = ((hs n).sl (dc (env ys k)).length).ownBlock := by simp only [mutB, a2, Int.toNat_natCast]
  refine ⟨a1, a3, fun b hb => (h2 b (by rw [hm]; exact hb)).1, by simp only [SV.conc, a2, Int.toNat_natCast], hm⟩

theorem insert_ok (G : Glob) (key : Nat) : EntryOK Try.prog G (insertE key) := by
  intro xs hf hp w M0 Im0 hs hM hG hR
  match xs, hf with
  | [a, i, c], hf =>
    obtain ⟨_, hi, _, _⟩ := hf
    obtain ⟨p1, p2, p3, p4⟩ := hp
    have e0 : env [a, i, c] 0 = a := rfl
    have e1 : env [a, i, c] 1 = i := rfl
    have e2 : env [a, i, c] 2 = c := rfl
    obtain ⟨o1, o2, o3, o4, o5⟩ := relE_own (n := 0) (k := 0) hR (List.mem_cons_self ..)
    obtain ⟨u1, u2, u3, u4, u5⟩ := relE_own (n := 1) (k := 2) hR (List.mem_cons_of_mem _ (List.mem_cons_self ..))
    rw [e0, e1] at p2
    rw [e1] at p1
    rw [e2] at p3
    rw [e0] at p4 o1 o2 o3 o4 o5
    rw [e2] at u1 u2 u3 u4 u5
    obtain ⟨q1, xs', q2, q3⟩ := o2
    obtain ⟨v1, us', v2, v3⟩ := u2
    rw [p3] at v2 u4 u5
    unfold cap8 at p4
    have hne : ∀ b, ((hs 0).sl (dc a).length).ownBlock = some b → ((hs 1).sl 1).ownBlock ≠ some b := fun b h h' => by
      have := hR.inj _ (List.mem_cons_self ..) _ (List.mem_cons_of_mem _ (List.mem_cons_self ..)) (by simp) (by simp) b (o5 ▸ h) (u5 ▸ h')
      exact absurd (show (0 : Nat) = 1 from this) (by omega)
    have hin : (i.toNat : Int) = i := Int.toNat_of_nonneg p1
    have H := insert_own w _ (dc a).length i.toNat xs' q2 (by omega) q3.one _ us' v2 v3.one hne (by omega)
    have hargs : (SV.concL F0 (env [a, i, c]) hs (insertE key).pgen.1).toArray = #[(hs 0).sl (dc a).length, .int .i64 i.toNat, (hs 1).sl 1] := by
      show #[SV.conc F0 (env [a, i, c]) hs (.ls 0 (LEN (.var .x 0))), (E.var (.i .i64) 1).val F0 (env [a, i, c]), SV.conc F0 (env [a, i, c]) hs (.ls 1 (LEN (.var .x 2)))] = _
      rw [o4, u4, hin]
      have : (E.var (.i .i64) 1).val F0 (env [a, i, c]) = .int .i64 i := by
        show Value.int .i64 (IntKind.i64.wrap i) = _
        exact congrArg _ hi
      rw [this]
    rw [hargs]
    refine Calls.mono H fun e w' h => ?_
    obtain ⟨v', r1, r2, r3, r4⟩ := h
    obtain ⟨hd', rfl⟩ := ownsRow_hd r2
    obtain ⟨z, hz⟩ : ∃ z, z = cd (((dc a).take i.toNat) ++ (dc c) ++ ((dc a).drop i.toNat)) := ⟨_, rfl⟩
    have hzl : (dc z).length = (dc a).length + 1 := by
      rw [hz, dc_cd, List.length_append, List.length_append, List.length_take, List.length_drop, p3]; omega
    have hz3 : env ([a, i, c] ++ outsE (insertE key).fn [a, i, c] 0 (insertE key).oks) 3 = z := by rw [hz]; rfl
    have hT : Fr M0 w w' := by
      refine ⟨r3.os, r3.tape, r3.output, r3.size, fun k hk hn => r3.block k hk fun e => ?_⟩
      rcases o3 k e with h | h
      · exact hn h
      · omega
    have hO : OwL w' Im0 34 tmR hd' (dc z) := by
      refine ⟨by rw [hzl]; unfold maxLen; omega, _, by rw [hzl]; exact r2, ?_⟩
      rw [hz, dc_cd]
      have hq3 : RowsV w' Im0 tmR (dc a) xs' := RowsV_all q3
      exact ((hq3.takeN _).append (RowsV_all v3)).append (hq3.dropN _)
    refine ⟨upd hs 2 hd', Im0, fun j hj => upd_other hs hd' (by have : j < 2 := hj; omega), fun _ h => h, fun b h => Or.inl h, ?_, ?_⟩
    · rw [r1]
      show _ = Ending.returned (SV.conc F0 _ (upd hs 2 hd') (.ls 2 (LEN (.var .x 3))))
      have : (LEN (.var .x 3)).den F0 (env ([a, i, c] ++ outsE (insertE key).fn [a, i, c] 0 (insertE key).oks)) = ((dc a).length + 1 : Nat) := by
        rw [BI_F0.len]
        have : (E.var .x 3).den F0 (env ([a, i, c] ++ outsE (insertE key).fn [a, i, c] 0 (insertE key).oks)) = z := hz3
        rw [this, hzl]
        exact wrap_len (by unfold maxLen; omega)
      simp only [SV.conc, upd_same, this, Int.toNat_natCast]
    · have := relE_ret (hs := hs) (nn := 2) (k := 3) (ys := [a, i, c] ++ outsE (insertE key).fn [a, i, c] 0 (insertE key).oks) hM hR.im hT (hd' := hd') (by rw [hz3, hz]; exact isCd_cd _) (by rw [hz3]; exact hO) (by
        rw [hz3, hzl]
        intro b hb
        rcases r4 with r4 | r4
        · rw [r4] at hb; exact o3 b hb
        · rw [r4] at hb; simp only [Option.some.injEq] at hb; exact Or.inr (by omega))
      exact this

end Go.Proofs.Ytmolkkphnehgcaa.Ew

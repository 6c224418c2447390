/- slices.Sort at ints, as a summary: the list is put in order in its place. -/
import Derived.Test.YtfhheeoejncfgaaWr
import Derived.Test.YtfhheeoejncfgaaProg
import Derived.Sort.OwnSortedInts
import Derived.Shelf.SortM.Plain
import Derived.Shelf.SortM.SortNone
set_option linter.unusedVariables false
set_option linter.unusedSimpArgs false
namespace Go.Proofs.Ytfhheeoejncfgaa.Ew
open Go Go.RowKit Go.Sort Go.Proofs

def sK : List K := [.i .i64]
def sRow : Row := .ofKs sK
/-- The numbers of a list, in order. -/
def numsR (l : RL) : List Int := l.map fun r => r.headD 0
def srtR (l : RL) : RL := ((numsR l).mergeSort fun x y => decide (x ≤ y)).map fun z => [z]
noncomputable def sortE (key f ty : Nat) : Ent := ⟨key, f, [.lsn ty sRow], [{ j := 0, ty := ty, tl := some (Tl.lst sRow), cs := [.sc .x] }], [], .tup [], fun _ xs => cd (srtR (dc (env xs 0))), fun xs => ((dc (env xs 0)).length : Int) < 1099511627776⟩

section
variable {w : World} {Im : Nat → Prop}
theorem rowsV_int : ∀ {l : RL} {xs : List Value}, RowsV w Im sRow l xs → xs = (numsR l).map (Value.int .i64) ∧ ∀ z ∈ numsR l, IntKind.i64.wrap z = z
  | [], xs, h => by simp only [RowsV] at h; subst h; exact ⟨rfl, fun z hz => by cases hz⟩
  | r :: l, xs, h => by
    obtain ⟨us, ys, rfl, h2, h3⟩ := h
    obtain ⟨i1, i2⟩ := rowsV_int h3
    obtain ⟨z, zs', vs', rfl, rfl, hz, h4⟩ := h2
    obtain ⟨rfl, rfl⟩ := h4
    refine ⟨?_, fun y hy => ?_⟩
    · rw [i1]; rfl
    · simp only [numsR, List.map_cons, List.mem_cons, List.headD_cons] at hy
      rcases hy with rfl | hy
      · exact hz
      · exact i2 y hy
theorem rowsV_of : ∀ {zs : List Int}, (∀ z ∈ zs, IntKind.i64.wrap z = z) → RowsV w Im sRow (zs.map fun z => [z]) (zs.map (Value.int .i64))
  | [], _ => rfl
  | z :: zs, h => ⟨[.int .i64 z], zs.map (Value.int .i64), rfl, ⟨z, [], [], rfl, rfl, h z (by simp), rfl, rfl⟩, rowsV_of fun y hy => h y (List.mem_cons_of_mem _ hy)⟩
end
theorem srtR_len (l : RL) : (srtR l).length = l.length := by
  unfold srtR numsR
  rw [List.length_map, List.length_mergeSort, List.length_map]

theorem sort_ok {f ty key : Nat} (G : Glob)
    (h0 : ∀ (p : Option Addr) (cap : Nat) (w : World), Calls Try.prog f #[.slice p 0 cap] w fun e w' => e = .returned (.tuple #[]) ∧ w' = w)
    (h1 : ∀ (blk off cap : Nat) (zs : List Int) (w : World), Holds (Value.int .i64) w blk off zs.toArray → blk < w.heap.size → zs.length < 4611686018427387904 →
      Calls Try.prog f #[.slice (some ⟨blk, off, none⟩) zs.length cap] w fun e w' => e = .returned (.tuple #[]) ∧ ∃ n os, w' = grow (putRow (Value.int .i64) (Sort.ahead w n) blk off (zs.mergeSort fun x y => decide (x ≤ y)).toArray) os) :
    EntryOK Try.prog G (sortE key f ty) := by
  intro xs hf hp w M0 Im0 hs hM hG hR
  obtain ⟨a, rfl⟩ : ∃ a, xs = [a] := by
    have h : xs.length = 1 := fits_length hf
    exact List.length_eq_one_iff.1 h
  · skip
    replace hp : ((dc a).length : Int) < 1099511627776 := hp
    have hmem : ((0 : Nat), mkB true, Blk.lst ty sRow true (LEN (.var .x 0)) (.var .x 0)) ∈ (sortE key f ty).pgen.2 := List.mem_cons_self ..
    obtain ⟨b1, b2⟩ := hR.ent _ hmem (by simp)
    obtain ⟨a1, a2, a3⟩ := b1
    have hd : (E.var .x 0).den F0 (env [a]) = a := rfl
    rw [hd] at a1 a2 a3
    simp only [cond_true] at a3
    have hm0 : mutB F0 (env [a]) hs 0 (.lst ty sRow true (LEN (.var .x 0)) (.var .x 0)) = ((hs 0).sl (dc a).length).ownBlock := by simp only [mutB, a2, Int.toNat_natCast]
    have hargs : (SV.concL F0 (env [a]) hs (sortE key f ty).pgen.1).toArray = #[(hs 0).sl (dc a).length] := by
      show #[SV.conc F0 (env [a]) hs (.ls 0 (LEN (.var .x 0)))] = _
      simp only [SV.conc, a2, Int.toNat_natCast]
    rw [hargs]
    obtain ⟨q1, xs', q2, q3⟩ := a3
    obtain ⟨r1, r2⟩ := rowsV_int q3
    obtain ⟨z, hz⟩ : ∃ z, z = cd (srtR (dc a)) := ⟨_, rfl⟩
    have hz1 : env ([a] ++ outsE (sortE key f ty).fn [a] 0 (sortE key f ty).oks) 1 = z := by rw [hz]; rfl
    have hzd : dc z = srtR (dc a) := by rw [hz]; exact dc_cd _
    have hzl : (dc z).length = (dc a).length := by rw [hzd, srtR_len]
    have hln : (numsR (dc a)).length = (dc a).length := List.length_map ..
    have key' : ∀ w' : World, Fr (fun b => ((hs 0).sl (dc a).length).ownBlock = some b) w w' → w'.ownsRow 0 ty 1 ((hs 0).sl (dc a).length) (dc a).length (((numsR (dc a)).mergeSort fun x y => decide (x ≤ y)).map (Value.int .i64)) →
        RelE F0 (env ([a] ++ outsE (sortE key f ty).fn [a] 0 (sortE key f ty).oks)) w M0 Im0 hs (sortE key f ty).oents w' := by
      intro w' hfr hown
      have hT : Fr M0 w w' := ⟨hfr.os, hfr.tape, hfr.output, hfr.size, fun k hk hn => hfr.block k hk fun e => by
        rcases (b2 k (by rw [hm0]; exact e)).1 with h | h
        · exact hn h
        · omega⟩
      have hO : OwL w' Im0 ty sRow (hs 0) (dc z) := by
        refine ⟨by rw [hzl]; exact q1, _, by rw [hzl]; exact hown, ?_⟩
        rw [hzd]
        exact rowsV_of fun y hy => r2 y ((List.mergeSort_perm _ _).mem_iff.1 hy)
      have hl : (LEN (.var .x 1)).den F0 (env ([a] ++ outsE (sortE key f ty).fn [a] 0 (sortE key f ty).oks)) = ((dc z).length : Int) := by
        rw [BI_F0.len]
        have : (E.var .x 1).den F0 (env ([a] ++ outsE (sortE key f ty).fn [a] 0 (sortE key f ty).oks)) = z := hz1
        rw [this]
        exact wrap_len hO.1
      have hd1 : (E.var .x 1).den F0 (env ([a] ++ outsE (sortE key f ty).fn [a] 0 (sortE key f ty).oks)) = z := hz1
      have hoe : (sortE key f ty).oents = [(0, mkB true, .lst ty sRow true (LEN (.var .x 1)) (.var .x 1))] := rfl
      rw [hoe]
      have hmu : mutB F0 (env ([a] ++ outsE (sortE key f ty).fn [a] 0 (sortE key f ty).oks)) hs 0 (.lst ty sRow true (LEN (.var .x 1)) (.var .x 1)) = ((hs 0).sl (dc a).length).ownBlock := by
        simp only [mutB, hl, hzl, Int.toNat_natCast]
      refine ⟨fun x hx _ => ?_, fun x hx y hy _ _ b _ _ => ?_, fun b hb' => Nat.lt_of_lt_of_le (hR.im b hb') hT.size, hT⟩
      · simp only [List.mem_singleton] at hx
        subst hx
        refine ⟨⟨by rw [hd1, hz]; exact isCd_cd _, by rw [hd1]; exact hl, by rw [hd1]; simp only [cond_true]; exact hO⟩, fun b hb' => ?_⟩
        rw [hmu] at hb'
        have := b2 b (by rw [hm0]; exact hb')
        exact ⟨this.1, this.2.1, Nat.lt_of_lt_of_le this.2.2 hT.size⟩
      · simp only [List.mem_singleton] at hx hy
        subst hx; subst hy; rfl
    have fin : ∀ w' : World, RelE F0 (env ([a] ++ outsE (sortE key f ty).fn [a] 0 (sortE key f ty).oks)) w M0 Im0 hs (sortE key f ty).oents w' →
        ∃ (hs' : Nat → Hd) (Im' : Nat → Prop), (∀ j, j < (sortE key f ty).nn → hs' j = hs j) ∧ (∀ b, Im0 b → Im' b) ∧ (∀ b, Im' b → Im0 b ∨ M0 b ∨ w.heap.size ≤ b) ∧
      Ending.returned (.tuple #[]) = .returned ((lastV (sortE key f ty).ogen.1).conc F0 (env ([a] ++ outsE (sortE key f ty).fn [a] 0 (sortE key f ty).oks)) hs') ∧ RelE F0 (env ([a] ++ outsE (sortE key f ty).fn [a] 0 (sortE key f ty).oks)) w M0 Im' hs' (sortE key f ty).oents w' :=
      fun w' h => ⟨hs, Im0, fun _ _ => rfl, fun _ h => h, fun _ h => Or.inl h, rfl, h⟩
    rcases q2.2 with ⟨e1, e2⟩ | ⟨g, cap, cur, hv, _, hg, hnc, hcm, hcs, ht⟩
    · have hl0 : (dc a).length = 0 := e2
      have e3 : (hs 0).sl (dc a).length = .slice none 0 0 := e1
      rw [e3]
      refine (h0 none 0 w).mono ?_
      rintro e w' ⟨rfl, rfl⟩
      refine fin _ (key' _ (Fr.refl _ _) ?_)
      have hn0 : numsR (dc a) = [] := List.length_eq_zero_iff.1 (hln.trans hl0)
      rw [hn0, List.mergeSort_nil]
      have := q2
      rw [r1, hn0] at this
      exact this
    · rw [hv]
      have hgl : g < w.heap.size := (Array.getElem?_eq_some_iff.1 hg).1
      have ht' : cur.toList.take (numsR (dc a)).length = (numsR (dc a)).map (Value.int .i64) := by
        rw [hln, ← r1]
        have : (dc a).length * sRow.size = (dc a).length := Nat.mul_one _
        rw [this] at ht
        exact ht
      have H := h1 g 0 cap (numsR (dc a)) w (holds_of_blockI hg ht') hgl (by omega)
      rw [hln] at H
      refine H.mono ?_
      rintro e w' ⟨rfl, n, os, rfl⟩
      refine fin _ (key' _ ?_ ?_)
      · rw [hv]
        exact Fr.grown (grownBy_sortedI _)
      · have := ownsRow_sortedI (n := n) (os := os) (base := 0) (cap := cap) (ss := numsR (dc a)) (ts := (numsR (dc a)).mergeSort fun x y => decide (x ≤ y)) (List.length_mergeSort _) (Nat.zero_le _) hg (by rw [hln]; exact hnc) hcm (by rw [hcs]; rfl)
        rw [hln] at this
        rw [hv]
        exact this
end Go.Proofs.Ytfhheeoejncfgaa.Ew

/- Layer 17: the queue's functions. -/
import Derived.Test.YtmolkkphnehgcaaQm
import Derived.Test.YtmolkkphnehgcaaWp
set_option linter.unusedVariables false
set_option linter.unusedSimpArgs false
namespace Go.Proofs.Ytmolkkphnehgcaa.Ew
open Go Go.RowKit
noncomputable section
--P Try.prog G0

def qcs : List Sh := [.lt .b 1, i64, .lst 34 tmR true, .mp [.i .i64] [.i .i64] false false]
def qob : Ob := { j := 0, ty := 55, cs := qcs }
def ltm : Sh := .lst 34 tmR true
def QIx (xs : List Int) : Prop := QI (env xs 0) (dc (env xs 1)) (dc (env xs 2))
def hasM (M : RL) (i : Int) : Bool := M.any fun r => r.take [i].length == [i]
def e28 : Ent := ⟨28, 28, [qo], [], [0, 1, 2], .lt .b 0, fun _ _ => 0, fun _ => True⟩
def rightB (i : Int) : Bool := decide (i ≥ 0) && decide (i < 4096)
def e30 : Ent := ⟨30, 30, [i64], [], [], .sc .b, fun _ xs => b2i (rightB (env xs 0)), fun _ => True⟩
def fn31 : Nat → List Int → Int
  | 0, xs => env xs 0
  | 1, xs => bif hasM (dc (env xs 2)) (env xs 3) then cd (delT (env xs 3) (dc (env xs 1))) else env xs 1
  | 2, xs => bif hasM (dc (env xs 2)) (env xs 3) then cd (delR [env xs 3] (dc (env xs 2))) else env xs 2
  | _, xs => b2i (hasM (dc (env xs 2)) (env xs 3))
def e31 : Ent := ⟨31, 31, [qo, i64], [qob], [], .sc .b, fn31, QIx⟩
def c60 : Ctx := ⟨[e33, insertE 32, deleteE 34, cloneE 29], []⟩
def c6 : Ctx := ⟨[e33, e28, e30, insertE 32, deleteE 34, cloneE 29], []⟩

def ob_28 : E := (.lit .b 1)
def es_28 : List E := []
theorem ev_28 : evE Try.prog G0 (tabOf c60.fs) (ltOf c60.ls) 40 10 e28 = some (ob_28, es_28) := by kernel_rfl

def ob_30 : E := (.lit .b 1)
def es_30 : List E := [(.and (.cmp .geq (.var (.i .i64) 0) (.lit (.i .i64) 0)) (.cmp .lss (.var (.i .i64) 0) (.lit (.i .i64) 4096)))]
theorem ev_30 : evE Try.prog G0 (tabOf c60.fs) (ltOf c60.ls) 40 10 e30 = some (ob_30, es_30) := by kernel_rfl

def ob_31 : E := (.and (.or (.not (.app .b 0 8 [(.var .x 2), (.var (.i .i64) 3)])) (.and (.app .b 33 1000000 [(.var (.i .i64) 0), (.var .x 1), (.var .x 2), (.var (.i .i64) 3), (.app (.i .i64) 0 9 [(.var .x 2), (.lit .x 1), (.lit .x 1), (.var (.i .i64) 3)])]) (.app .b 34 1000000 [(.var .x 1), (.app (.i .i64) 33 0 [(.var (.i .i64) 0), (.var .x 1), (.var .x 2), (.var (.i .i64) 3), (.app (.i .i64) 0 9 [(.var .x 2), (.lit .x 1), (.lit .x 1), (.var (.i .i64) 3)])]), (.bin .add .i64 (.app (.i .i64) 33 0 [(.var (.i .i64) 0), (.var .x 1), (.var .x 2), (.var (.i .i64) 3), (.app (.i .i64) 0 9 [(.var .x 2), (.lit .x 1), (.lit .x 1), (.var (.i .i64) 3)])]) (.lit (.i .i64) 1))]))) (.ite (.app .b 0 8 [(.var .x 2), (.var (.i .i64) 3)]) (.app .b 0 8 [(.var .x 2), (.var (.i .i64) 3)]) (.not (.app .b 0 8 [(.var .x 2), (.var (.i .i64) 3)]))))
def es_31 : List E := [(.var (.i .i64) 0), (.ite (.app .b 0 8 [(.var .x 2), (.var (.i .i64) 3)]) (.app .x 34 0 [(.var .x 1), (.app (.i .i64) 33 0 [(.var (.i .i64) 0), (.var .x 1), (.var .x 2), (.var (.i .i64) 3), (.app (.i .i64) 0 9 [(.var .x 2), (.lit .x 1), (.lit .x 1), (.var (.i .i64) 3)])]), (.bin .add .i64 (.app (.i .i64) 33 0 [(.var (.i .i64) 0), (.var .x 1), (.var .x 2), (.var (.i .i64) 3), (.app (.i .i64) 0 9 [(.var .x 2), (.lit .x 1), (.lit .x 1), (.var (.i .i64) 3)])]) (.lit (.i .i64) 1))]) (.var .x 1)), (.ite (.app .b 0 8 [(.var .x 2), (.var (.i .i64) 3)]) (.app .x 0 11 [(.var .x 2), (.var (.i .i64) 3)]) (.var .x 2)), (.app .b 0 8 [(.var .x 2), (.var (.i .i64) 3)])]
theorem ev_31 : evE Try.prog G0 (tabOf c6.fs) (ltOf c6.ls) 40 10 e31 = some (ob_31, es_31) := by kernel_rfl

theorem c6ok0 : c60.OK Try.prog G0 := by
  have h0 : Ctx.OK Try.prog G0 ⟨[cloneE 29], []⟩ := c0ok.addF (clone_ok G0 29) rfl
  have h1 : Ctx.OK Try.prog G0 ⟨[deleteE 34, cloneE 29], []⟩ := h0.addF (delete_ok G0 34) rfl
  have h2 : Ctx.OK Try.prog G0 ⟨[insertE 32, deleteE 34, cloneE 29], []⟩ := h1.addF (insert_ok G0 32) rfl
  exact h2.addF ok33 rfl

theorem ok28 : EntryOK Try.prog G0 e28 := c6ok0.entryP mixed ev_28 _ rfl _ rfl fun xs hf hp => ⟨by simp only [ob_28, ewA, ewL, preC, binI, dvI, shI, cmpB, env, bi, List.headD, List.tail, List.map, Nat.reduceAdd]; rfl, trivial⟩

theorem ok30 : EntryOK Try.prog G0 e30 := c6ok0.entryP mixed ev_30 _ rfl _ rfl fun xs hf hp => by
  match xs, hf with
  | [i], hf =>
    obtain ⟨h0, _⟩ := hf
    simp only [norm_i] at h0
    have w0 : IntKind.i64.wrap 0 = 0 := i64w (by decide) (by decide)
    have w1 : IntKind.i64.wrap 4096 = 4096 := i64w (by decide) (by decide)
    refine ⟨by simp only [ob_30, ewA, ewL, preC, binI, dvI, shI, cmpB, env, bi, List.headD, List.tail, List.map, Nat.reduceAdd]; rfl, ?_, trivial⟩
    simp only [es_30, e30, rightB, ewA, ewL, preC, binI, dvI, shI, cmpB, env, bi, List.headD, List.tail, List.map, Nat.reduceAdd, h0, w0, w1]

theorem c6ok : c6.OK Try.prog G0 := ((c6ok0.addF ok28 rfl).addF ok30 rfl).sub rfl (by simp [c6, c60]) (by simp [c6, c60])

theorem ok31 : EntryOK Try.prog G0 e31 := c6ok.entryP mixed ev_31 _ rfl _ rfl fun xs hf hp => by
  obtain ⟨l, hl, hF⟩ := ctx_F (l0 := c6.l)
  obtain ⟨S, Sp⟩ := hF e33 (by rfl) (by decide)
  obtain ⟨R, Rp⟩ := hF (deleteE 34) (by rfl) (by decide)
  rw [hl]
  match xs, hf with
  | [now, tc, mc, i], hf =>
    obtain ⟨h0, h1, h2, h3, _⟩ := hf
    simp only [norm_i] at h0 h3
    have hq : QI now (dc tc) (dc mc) := hp
    have hlen := hq.len
    have w1 : IntKind.i64.wrap 1 = 1 := i64w (by decide) (by decide)
    have hH : (List.any (dc mc) fun r => List.take [i].length r == [i]) = hasM (dc mc) i := rfl
    cases hh : hasM (dc mc) i
    · refine ⟨?_, ?_, ?_, ?_, ?_, trivial⟩
      · simp only [ob_31, ewA, ewL, preC, binI, dvI, shI, cmpB, env, bi, List.headD, List.tail, List.map, Nat.reduceAdd, h0, h3, hH, hh]; simp
      · simp only [es_31, e31, fn31, ewA, ewL, preC, binI, dvI, shI, cmpB, env, bi, List.headD, List.tail, List.map, Nat.reduceAdd, h0]
      · simp only [es_31, e31, fn31, ewA, ewL, preC, binI, dvI, shI, cmpB, env, bi, List.headD, List.tail, List.map, Nat.reduceAdd, h0, h3, hH, hh, cond_false]
      · simp only [es_31, e31, fn31, ewA, ewL, preC, binI, dvI, shI, cmpB, env, bi, List.headD, List.tail, List.map, Nat.reduceAdd, h0, h3, hH, hh, cond_false]
      · simp only [es_31, e31, fn31, ewA, ewL, preC, binI, dvI, shI, cmpB, env, bi, List.headD, List.tail, List.map, Nat.reduceAdd, h0, h3, hH, hh]
    · obtain ⟨d, hd⟩ := (hq.has i).1 hh
      have hv := hq.val hd (i :: List.replicate 1 0)
      have hwd : IntKind.i64.wrap d = d := fits_get (hq.row _ hd) 1 (.i .i64) rfl
      obtain ⟨k, hk⟩ : ∃ k, k = cnt (dc tc) [i, d] := ⟨_, rfl⟩
      have hkl : k ≤ (dc tc).length := hk ▸ cnt_le _ _
      have hk1 : k < (dc tc).length := by
        obtain ⟨t1, t2⟩ := take_cnt (t := [i, d]) hq.srt
        have hm : [i, d] ∈ (dc tc).drop k := by rw [hk, t2]; exact List.mem_filter.2 ⟨hd, by simp [ltT_irr]⟩
        have := List.length_pos_of_mem hm
        rw [List.length_drop] at this; omega
      have f33 : l.F 33 0 [now, tc, mc, i, d] = (k : Int) := by rw [hk]; exact S 0 rfl _
      have p33 : i2b (K.b.norm (l.F 33 1000000 [now, tc, mc, i, d])) = true := Sp _ ⟨hq.srt, hq.row, by show ((dc tc).length : Int) < cap8; unfold cap8; omega⟩
      have wk : IntKind.i64.wrap (k : Int) = (k : Int) := i64w (by omega) (by omega)
      have wk1 : IntKind.i64.wrap ((k : Int) + 1) = (k : Int) + 1 := i64w (by omega) (by omega)
      have p34 : i2b (K.b.norm (l.F 34 1000000 [tc, (k : Int), (k : Int) + 1])) = true := Rp _ ⟨by show (0 : Int) ≤ (k : Int); omega, by show (k : Int) ≤ (k : Int) + 1; omega, by show (k : Int) + 1 ≤ ((dc tc).length : Int); omega⟩
      have f34 : l.F 34 0 [tc, (k : Int), (k : Int) + 1] = cd (delT i (dc tc)) := by
        rw [← drop_eq hq hd, ← hk]
        exact R 0 rfl _
      refine ⟨?_, ?_, ?_, ?_, ?_, trivial⟩
      · simp only [ob_31, ewA, ewL, preC, binI, dvI, shI, cmpB, env, bi, List.headD, List.tail, List.map, Nat.reduceAdd, h0, h3, hH, hh, hv, hwd, w1, f33, p33, wk, wk1, p34]; rfl
      · simp only [es_31, e31, fn31, ewA, ewL, preC, binI, dvI, shI, cmpB, env, bi, List.headD, List.tail, List.map, Nat.reduceAdd, h0]
      · simp only [es_31, e31, fn31, ewA, ewL, preC, binI, dvI, shI, cmpB, env, bi, List.headD, List.tail, List.map, Nat.reduceAdd, h0, h3, hH, hh, hv, hwd, w1, f33, wk, wk1, f34, cond_true]
      · simp only [es_31, e31, fn31, ewA, ewL, preC, binI, dvI, shI, cmpB, env, bi, List.headD, List.tail, List.map, Nat.reduceAdd, h0, h3, hH, hh, cond_true]
      · simp only [es_31, e31, fn31, ewA, ewL, preC, binI, dvI, shI, cmpB, env, bi, List.headD, List.tail, List.map, Nat.reduceAdd, h0, h3, hH, hh]

end
end Go.Proofs.Ytmolkkphnehgcaa.Ew

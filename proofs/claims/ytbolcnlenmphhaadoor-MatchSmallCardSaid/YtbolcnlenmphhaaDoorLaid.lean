/- Layer 26: the package's variable, as the row's condition lays it; what a summary gives a row. -/
import Derived.Test.YtbolcnlenmphhaaDoorS1
import Derived.Test.YtbolcnlenmphhaaDoorEvL
import Derived.Test.YtbolcnlenmphhaaDoorRows
import Derived.LaidMore
import Derived.Lay
import Derived.SevenTiedAt
import Derived.Stop.Joined
set_option linter.unusedVariables false
namespace Go.Proofs.YtbolcnlenmphhaaDoor
open Go Go.RowKit Ev Go.ChangeShapes Go.WideShapes Go.ChangeAt

theorem own : ownKnob Tryd.prog.godebug = none := by kernel_rfl
abbrev laidL : List (String × DataW Unit) := [("baffle/bafflelaw26.full", Rows.laid_baffle_bafflelaw26_full)]

theorem gok_of_laid {W : World} (h : laidMetH Tryd.prog laidL W) : GOK G0 W := by
  rw [MakeChecks.laidMetH_plain _ _ _ (by kernel_rfl)] at h
  obtain ⟨ps, ⟨g, t, cs, fuel, p, q, hg, ht, hv, hd, _, _⟩, _, _⟩ := h
  obtain rfl := Option.some.inj ((show Tryd.prog.globalNamed "baffle/bafflelaw26.full" = some 0 by kernel_rfl).symm.trans hg)
  obtain rfl := Option.some.inj ((show (Tryd.prog.globals[0]?).map (·.type) = some 27 by kernel_rfl).symm.trans ht)
  obtain ⟨xs, e1, f1, _, a1⟩ := leafOf_ok (P := Tryd.prog) 9 27 [.i .u16, .i .u16] (by kernel_rfl) _ _ _ _ _ _ _ hd
  have hl := fits_length f1
  match xs, hl with
  | [x, y], _ =>
    have e2 : DataW.trod (fun _ => ()) Tryd.prog W 0 (fun _ => true) false fuel 27 [.int .u16 x, .int .u16 y] = some (Rows.laid_baffle_bafflelaw26_full, p) := by
      have : cs.toList = [.int .u16 x, .int .u16 y] := e1
      rw [← this]; exact hd
    obtain ⟨ys, n, _, hx, _, hlen, hf⟩ := DataW.trod_struct (P := Tryd.prog) (t := 27) Tryd.underlying27 e2
    have h0 := hf 0 _ rfl
    have h1 := hf 1 _ rfl
    match ys, hlen with
    | [y0, y1], _ =>
      obtain ⟨z0, c0, d0, _⟩ := DataW.trod_int Tryd.underlying25 h0
      obtain ⟨z1, c1, d1, _⟩ := DataW.trod_int Tryd.underlying25 h1
      simp only [Rows.laid_baffle_bafflelaw26_full, Prod.mk.injEq, DataW.agg.injEq, List.map_cons, List.map_nil, d0, d1, List.cons.injEq, DataW.lit.injEq, Lit.int.injEq, true_and, and_true] at hx
      have k25 : Tryd.prog.cellsOf 25 = 1 := by kernel_rfl
      simp [k25] at c0 c1
      obtain ⟨⟨hz0, hz1⟩, _⟩ := hx
      subst c0 c1 hz0 hz1
      have hcs : cs = #[.int .u16 0, .int .u16 65535] := by
        have : cs.toList = [.int .u16 0, .int .u16 65535] := e1
        cases cs; simpa using this
      subst hcs
      have hb : 0 < W.heap.size := by
        simp only [World.var?, hg, Option.bind_some] at hv
        split at hv
        · rename_i hh
          exact (Array.getElem?_eq_some_iff.1 hh).1
        · cases hv
      intro F ρ b off v hG
      unfold G0 at hG
      split at hG
      · rename_i hb0
        subst hb0
        split at hG
        · rename_i ho
          subst ho
          simp only [Option.some.injEq] at hG; subst hG
          refine ⟨hb, ?_, trivial⟩
          rw [World.var?_cell hg hv 0]
          rfl
        · split at hG
          · rename_i ho
            subst ho
            simp only [Option.some.injEq] at hG; subst hG
            refine ⟨hb, ?_, trivial⟩
            rw [World.var?_cell hg hv 1]
            rfl
          · cases hG
      · cases hG

/-- What the condition's own place says: the witness meets it. -/
theorem laid_wit (os : Os) (args : Array Value) : laidMetH Tryd.prog laidL ((World.laidAll Tryd.prog os laidL).forCall (fun _ _ => 0) ⟨#[], args, []⟩).memory := by
  rw [MakeChecks.laidMetH_plain _ _ _ (by kernel_rfl)]
  exact laidMet_laidAll _ (by kernel_rfl) (by kernel_rfl)

theorem len_of_trodAll {H : Type} {enc : TypeId × Value → H} {P : Program} {w : World} {base : Nat} {spare : Nat → Bool} {held : Bool} : ∀ {ts : List TypeId} {vs : List Value} {ds : List (DataW H)} {ps : List MemPlace}, DataW.TrodAll enc P w base spare held ts vs ds ps → ds.length = ts.length
  | [], [], [], _, _ => rfl
  | [], _ :: _, _, _, h => by simp [DataW.TrodAll] at h
  | [], [], _ :: _, _, h => by simp [DataW.TrodAll] at h
  | _ :: _, [], _, _, h => by simp [DataW.TrodAll] at h
  | _ :: _, _ :: _, [], _, h => by simp [DataW.TrodAll] at h
  | _ :: ts, _ :: vs, _ :: ds, _, h => by
    obtain ⟨_, _, _, h2, _⟩ := h
    simp [len_of_trodAll h2]
section
variable {H : Type} {enc : TypeId × Value → H} {P : Program} {w : World} {base : Nat} {spare : Nat → Bool} {held : Bool} {vs : List Value} {ds : List (DataW H)} {ps : List MemPlace}
theorem ds_len2 {t u : TypeId} (h : DataW.TrodAll enc P w base spare held [t, u] vs ds ps) : ∃ d0 d1 : DataW H, ds = [d0, d1] := by
  have := len_of_trodAll h
  match ds, this with
  | [d0, d1], _ => exact ⟨d0, d1, rfl⟩
theorem ds_len3 {t u x : TypeId} (h : DataW.TrodAll enc P w base spare held [t, u, x] vs ds ps) : ∃ d0 d1 d2 : DataW H, ds = [d0, d1, d2] := by
  have := len_of_trodAll h
  match ds, this with
  | [d0, d1, d2], _ => exact ⟨d0, d1, d2, rfl⟩
end
end Go.Proofs.YtbolcnlenmphhaaDoor

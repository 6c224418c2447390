/- How the memory of named things goes on behind a write or a new thing. -/
import Derived.Test.YtbolcnlenmphhaaDoorWI
set_option linter.unusedVariables false
set_option linter.unusedSimpArgs false
namespace Go.Proofs.YtbolcnlenmphhaaDoor.Ew
open Go Go.RowKit

def upd (ad : Nat → Hd) (n : Nat) (h : Hd) : Nat → Hd := fun k => if k = n then h else ad k

section
variable {P : Program} {F : Fam} {ρ : Nat → Int} {G : Glob} {w0 w w' : World} {M0 Im0 Im Im' T : Nat → Prop} {ad ad' : Nat → Hd} {m m' : Mem}

theorem upd_same (ad : Nat → Hd) (n : Nat) (h : Hd) : upd ad n h n = h := by simp [upd]
theorem upd_other (ad : Nat → Hd) {n k : Nat} (h : Hd) (hk : k ≠ n) : upd ad n h k = ad k := by simp [upd, hk]
theorem upd_al {nm : Nat} (h : (m.at nm).isNone = true) (hd : Hd) : ∀ k, al m k → ad k = upd ad nm hd k := fun k hk => by
  rw [upd_other]
  rintro rfl
  rw [Option.isNone_iff_eq_none] at h
  simp [al, h] at hk

/-- What a name stands for turns; its block may have been written. -/
theorem RelI.turn (hR : RelI F ρ w0 M0 Im ad m w) {n : Nat} {g : E} {x y : Blk} (hn : m.at n = some (g, x)) (hf : Fr T w w') (hT : ∀ b, T b → mutB F ρ ad n x = some b ∧ g.tt F ρ = true)
    (hb : g.tt F ρ = true → BlkOK F ρ Im ad n w' y) (hm : ∀ b, mutB F ρ ad n y = some b → mutB F ρ ad n x = some b) (hok : ∀ ty cs, y = .cells ty cs → SV.okL (al m) cs) :
    RelI F ρ w0 M0 Im ad (m.set n (some (g, y))) w' := by
  have hl := Mem.at_lt hn
  have hTl : ∀ b, T b → ((M0 b ∨ w0.heap.size ≤ b) ∧ ¬ Im b) ∧ b < w.heap.size := fun b t => by
    have := (hR.ent n g x hn (hT b t).2).2 b (hT b t).1
    exact ⟨⟨this.1, this.2.1⟩, this.2.2⟩
  have hIm : ∀ b, Im b → Im b ∧ w'.heap[b]? = w.heap[b]? := fun b hb => ⟨hb, hf.block b (hR.im b hb) fun t => (hTl b t).1.2 hb⟩
  refine ⟨fun k g' z hk hg' => ?_, fun k g' ty cs hk => ?_, fun k k' g1 z1 g2 z2 b h1 h2 h3 h4 h5 h6 => ?_, fun b hb => Nat.lt_of_lt_of_le (hR.im b hb) hf.size, hR.fr.trans hf fun b hb t => ?_⟩
  · by_cases hkn : n = k
    · subst hkn
      rw [Mem.at_set_same hl] at hk
      simp only [Option.some.injEq, Prod.mk.injEq] at hk
      obtain ⟨rfl, rfl⟩ := hk
      refine ⟨hb hg', fun b hbb => ?_⟩
      have := (hR.ent n g x hn hg').2 b (hm b hbb)
      exact ⟨this.1, this.2.1, Nat.lt_of_lt_of_le this.2.2 hf.size⟩
    · rw [Mem.at_set_other hkn] at hk
      obtain ⟨i1, i2⟩ := hR.ent k g' z hk hg'
      refine ⟨i1.fr hIm (fun b hb => hf.block b (i2 b hb).2.2 fun t => hkn (hR.inj n k g x g' z b hn (hT b t).2 hk hg' (hT b t).1 hb)) rfl (fun _ _ _ => rfl), fun b hbb => ?_⟩
      exact ⟨(i2 b hbb).1, (i2 b hbb).2.1, Nat.lt_of_lt_of_le (i2 b hbb).2.2 hf.size⟩
  · by_cases hkn : n = k
    · subst hkn
      rw [Mem.at_set_same hl] at hk
      simp only [Option.some.injEq, Prod.mk.injEq] at hk
      exact SV.okL_mono (fun k hk => (al_set hn k).2 hk) _ (hok ty cs hk.2)
    · rw [Mem.at_set_other hkn] at hk
      exact SV.okL_mono (fun k hk => (al_set hn k).2 hk) _ (hR.ok k g' ty cs hk)
  · have key : ∀ k g' z, (Mem.at (m.set n (some (g, y))) k) = some (g', z) → g'.tt F ρ = true → mutB F ρ ad k z = some b → ∃ z', m.at k = some (g', z') ∧ mutB F ρ ad k z' = some b := fun k g' z hk hg' hb => by
      by_cases hkn : n = k
      · subst hkn
        rw [Mem.at_set_same hl] at hk
        simp only [Option.some.injEq, Prod.mk.injEq] at hk
        obtain ⟨rfl, rfl⟩ := hk
        exact ⟨x, hn, hm b hb⟩
      · rw [Mem.at_set_other hkn] at hk
        exact ⟨z, hk, hb⟩
    obtain ⟨z1', a1, a2⟩ := key k g1 z1 h1 h2 h5
    obtain ⟨z2', b1, b2⟩ := key k' g2 z2 h3 h4 h6
    exact hR.inj k k' g1 z1' g2 z2' b a1 h2 b1 h4 a2 b2
  · rcases (hTl b t).1.1 with h | h
    · exact h
    · omega

/-- A new name; some names die, whose blocks may have been written. -/
theorem RelI.put (hR : RelI F ρ w0 M0 Im ad m w) {ns : List Nat} {nm : Nat} {g : E} {y : Blk} {hd : Hd} (hf : Fr T w w')
    (hT : ∀ b, T b → b < w.heap.size → ∃ n ∈ ns, ∃ g' x, m.at n = some (g', x) ∧ g'.tt F ρ = true ∧ mutB F ρ ad n x = some b)
    (h1 : nm < m.length) (h2 : (m.at nm).isNone = true) (hb : BlkOK F ρ Im (upd ad nm hd) nm w' y)
    (hm : ∀ b, mutB F ρ (upd ad nm hd) nm y = some b → b < w'.heap.size ∧ (w.heap.size ≤ b ∨ ∃ n ∈ ns, ∃ g' x, m.at n = some (g', x) ∧ g'.tt F ρ = true ∧ mutB F ρ ad n x = some b))
    (hok : ∀ ty cs, y = .cells ty cs → SV.okL (al m) cs) : RelI F ρ w0 M0 Im (upd ad nm hd) ((killL m ns).set nm (some (g, y))) w' := by
  have hTl : ∀ b, (∃ n ∈ ns, ∃ g' x, m.at n = some (g', x) ∧ g'.tt F ρ = true ∧ mutB F ρ ad n x = some b) → (M0 b ∨ w0.heap.size ≤ b) ∧ ¬ Im b ∧ b < w.heap.size := fun b ⟨n, _, g', x, h3, h4, h5⟩ => (hR.ent n g' x h3 h4).2 b h5
  have hIm : ∀ b, Im b → Im b ∧ w'.heap[b]? = w.heap[b]? := fun b hb => ⟨hb, hf.block b (hR.im b hb) fun t => (hTl b (hT b t (hR.im b hb))).2.1 hb⟩
  have hlk : nm < (killL m ns).length := by rw [killL_len]; exact h1
  have hal : ∀ k, al m k → al ((killL m ns).set nm (some (g, y))) k := fun k hk => al_set_new hlk k ((killL_al ns m k).2 hk)
  have hcase : ∀ k g' z, Mem.at ((killL m ns).set nm (some (g, y))) k = some (g', z) → (k = nm ∧ g' = g ∧ z = y) ∨ (k ≠ nm ∧ (z = .dead ∨ (m.at k = some (g', z) ∧ k ∉ ns))) := fun k g' z hk => by
    by_cases hkn : nm = k
    · subst hkn
      rw [Mem.at_set_same hlk] at hk
      simp only [Option.some.injEq, Prod.mk.injEq] at hk
      exact Or.inl ⟨rfl, hk.1.symm, hk.2.symm⟩
    · rw [Mem.at_set_other hkn] at hk
      exact Or.inr ⟨fun e => hkn e.symm, killL_at hk⟩
  have hw0 := hR.fr.size
  refine ⟨fun k g' z hk hg' => ?_, fun k g' ty cs hk => ?_, fun k k' g1 z1 g2 z2 b a1 a2 a3 a4 a5 a6 => ?_, fun b hb => Nat.lt_of_lt_of_le (hR.im b hb) hf.size, hR.fr.trans hf fun b hb t => ?_⟩
  · rcases hcase k g' z hk with ⟨rfl, rfl, rfl⟩ | ⟨hne, rfl | ⟨hk', hns⟩⟩
    · refine ⟨hb, fun b hbb => ?_⟩
      obtain ⟨m1, m2⟩ := hm b hbb
      rcases m2 with m2 | m2
      · exact ⟨Or.inr (by omega), fun hi => by have := hR.im b hi; omega, m1⟩
      · exact ⟨(hTl b m2).1, (hTl b m2).2.1, m1⟩
    · exact ⟨trivial, fun b hbb => by simp [mutB] at hbb⟩
    · obtain ⟨i1, i2⟩ := hR.ent k g' z hk' hg'
      refine ⟨i1.fr hIm (fun b hbb => hf.block b (i2 b hbb).2.2 fun t => ?_) (upd_other ad hd hne) (fun ty cs e => ?_), fun b hbb => ?_⟩
      · obtain ⟨n, hn, g'', x, e1, e2, e3⟩ := hT b t (i2 b hbb).2.2
        have := hR.inj n k g'' x g' z b e1 e2 hk' hg' e3 hbb
        subst this
        exact hns hn
      · subst e
        exact (SV.concL_congr (upd_al h2 hd) cs (hR.ok k g' ty cs hk')).symm
      · rw [mutB_congr (upd_other ad hd hne)] at hbb
        exact ⟨(i2 b hbb).1, (i2 b hbb).2.1, Nat.lt_of_lt_of_le (i2 b hbb).2.2 hf.size⟩
  · rcases hcase k g' _ hk with ⟨rfl, _, hy⟩ | ⟨hne, hd' | ⟨hk', _⟩⟩
    · exact SV.okL_mono hal _ (hok ty cs hy.symm)
    · cases hd'
    · exact SV.okL_mono hal _ (hR.ok k g' ty cs hk')
  · have new : ∀ k' g2 z2, Mem.at ((killL m ns).set nm (some (g, y))) k' = some (g2, z2) → g2.tt F ρ = true → mutB F ρ (upd ad nm hd) k' z2 = some b → mutB F ρ (upd ad nm hd) nm y = some b → k' = nm := fun k' g2 z2 a3 a4 a6 hyb => by
      rcases hcase k' g2 z2 a3 with ⟨rfl, _, _⟩ | ⟨hne, rfl | ⟨hk', hns⟩⟩
      · rfl
      · simp [mutB] at a6
      · exfalso
        rw [mutB_congr (upd_other ad hd hne)] at a6
        have hlt := ((hR.ent k' g2 z2 hk' a4).2 b a6).2.2
        rcases (hm b hyb).2 with h | ⟨n, hn, g'', x, e1, e2, e3⟩
        · omega
        · have := hR.inj n k' g'' x g2 z2 b e1 e2 hk' a4 e3 a6
          subst this
          exact hns hn
    rcases hcase k g1 z1 a1 with ⟨rfl, _, rfl⟩ | ⟨hne, rfl | ⟨hk1, _⟩⟩
    · exact (new k' g2 z2 a3 a4 a6 a5).symm
    · simp [mutB] at a5
    · rcases hcase k' g2 z2 a3 with ⟨rfl, _, rfl⟩ | ⟨hne', rfl | ⟨hk2, _⟩⟩
      · exact new k g1 z1 a1 a2 a5 a6
      · simp [mutB] at a6
      · rw [mutB_congr (upd_other ad hd hne)] at a5
        rw [mutB_congr (upd_other ad hd hne')] at a6
        exact hR.inj k k' g1 z1 g2 z2 b hk1 a2 hk2 a4 a5 a6
  · have := (hTl b (hT b t (by omega))).1
    rcases this with h | h
    · exact h
    · omega

theorem Rel.turn (hR : Rel F ρ w0 M0 Im0 ad m w) {n : Nat} {g : E} {x y : Blk} (hn : m.at n = some (g, x)) (hf : Fr T w w') (hT : ∀ b, T b → mutB F ρ ad n x = some b ∧ g.tt F ρ = true)
    (hb : ∀ Im, RelI F ρ w0 M0 Im ad m w → g.tt F ρ = true → BlkOK F ρ Im ad n w' y) (hm : ∀ b, mutB F ρ ad n y = some b → mutB F ρ ad n x = some b) (hok : ∀ ty cs, y = .cells ty cs → SV.okL (al m) cs) :
    Rel F ρ w0 M0 Im0 ad (m.set n (some (g, y))) w' := by
  obtain ⟨h0, Im, h1, h2, hI⟩ := hR
  exact ⟨h0, Im, h1, h2, hI.turn hn hf hT (hb Im hI) hm hok⟩

theorem Ext.set (ad : Nat → Hd) {n : Nat} {x y} (hn : m.at n = some x) : Ext ad ad m (m.set n (some y)) := ⟨fun _ _ => rfl, fun k hk => (al_set hn k).2 hk⟩
theorem Ext.put {ns : List Nat} {nm : Nat} {y} (hd : Hd) (h1 : nm < m.length) (h2 : (m.at nm).isNone = true) : Ext ad (upd ad nm hd) m ((killL m ns).set nm (some y)) :=
  ⟨upd_al h2 hd, fun k hk => al_set_new (by rw [killL_len]; exact h1) k ((killL_al ns m k).2 hk)⟩
theorem al_put {ns : List Nat} {nm : Nat} {y} (h1 : nm < m.length) : al ((killL m ns).set nm (some y)) nm := by
  simp [al, Mem.at_set_same (m := killL m ns) (by rw [killL_len]; exact h1)]
end
end Go.Proofs.YtbolcnlenmphhaaDoor.Ew

/- What each described operation does to the memory of named things, and that it tells what the operation does to the world. -/
set_option linter.unusedVariables false
set_option linter.unusedSimpArgs false
namespace Go.Proofs.YtbolcnlenmphhaaDoor.Ew
open Go Go.RowKit

/-! ### blocks of cells -/
def blkC (m : Mem) (n : Nat) : Option (E × Nat × List SV) :=
  match m.at n with
  | some (g, .cells ty cs) => if g.kind = .b then some (g, ty, cs) else none
  | _ => none
def rdC (cs : List SV) (off sz : Nat) (ag : Bool) : Option SV :=
  bif ag then (if off + sz ≤ cs.length then some (.agg ((cs.drop off).take sz)) else none) else cs[off]?
def rdsC (cs : List SV) (off str sz : Nat) (ag : Bool) : Nat → Nat → Option (List SV)
  | 0, _ => some []
  | c + 1, j => match rdC cs (off + j * str) sz ag, rdsC cs off str sz ag c (j + 1) with
    | some v, some l => some (v :: l)
    | _, _ => none
def wrC (old : List SV) (off : Nat) (cs : List SV) : Option (List SV) := if off + cs.length ≤ old.length then some (splice old off cs) else none
def wrsC (e : E) (off str : Nat) (cs : List SV) : Nat → Nat → List SV → Option (List SV)
  | 0, _, old => some old
  | c + 1, j, old => if off + j * str + cs.length ≤ old.length then
      wrsC e off str cs c (j + 1) (splice old (off + j * str) (mergeL (mkCmp .eql e (.lit (.i .i64) j)) cs ((old.drop (off + j * str)).take cs.length)))
    else none
def rdG (G : Glob) (b : Nat) : Nat → Nat → Option (List SV)
  | _, 0 => some []
  | off, n + 1 => match G b off, rdG G b (off + 1) n with
    | some v, some l => some (v :: l)
    | _, _ => none

def apply (G : Glob) (m : Mem) (nm : Nat) : D → Option (E × SV × Mem)
  | .val v => some (mkB true, v, m)
  | .ld n off sz ag => match blkC m n with
    | some (g, _, cs) => (rdC cs off sz ag).map fun v => (g, v, m)
    | none => none
  | .ldi n off str cnt e sz ag => match blkC m n with
    | some (g, _, cs) => if cnt < 100000 then (rdsC cs off str sz ag cnt 0).map fun l => (g, sel e 0 l, m) else none
    | none => none
  | .ldg b off sz ag => bif ag then (rdG G b off sz).map fun l => (mkB true, .agg l, m) else (G b off).map fun v => (mkB true, v, m)
  | .st n off vs => match blkC m n with
    | some (g, ty, cs) => (wrC cs off vs).map fun cs' => (g, .und, m.set n (some (g, .cells ty cs')))
    | none => none
  | .sti n off str cnt e vs => match blkC m n with
    | some (g, ty, cs) => if cnt < 100000 then (wrsC e off str vs cnt 0 cs).map fun cs' => (g, .und, m.set n (some (g, .cells ty cs'))) else none
    | none => none
  | .new ty cs sl => if nm < m.length ∧ (m.at nm).isNone = true then some (mkB true, match sl with | none => .ptr nm 0 | some len => .sl nm 0 len len, m.set nm (some (mkB true, .cells ty cs))) else none
  | .call .. => none

/-! ### lists -/
def rowKs : Row → Option (List K)
  | .nil => some []
  | .c k r => (rowKs r).map (k :: ·)
  | .ls .. => none
/-- The rows of a list that is written out. -/
def chainR : Nat → E → Option (List (List E))
  | 0, _ => none
  | _ + 1, .app .x 0 2 [] => some []
  | n + 1, .app .x 0 3 (c :: es) => (chainR n c).map fun l => es :: l
  | _, _ => none
def cel (k : K) (c i : E) (j : Nat) : E :=
  match i.lit? with
  | some n => match chainR 1000 c with
    | some l => match (l.reverse[n.toNat]?).bind (·[j]?) with
      | some e => if e.kind = k ∧ e.sound = true then e else CEL k c i j
      | none => CEL k c i j
    | none => CEL k c i j
  | none => CEL k c i j
/-- The cells of one row of a list. -/
def celS (c i : E) : List K → Nat → List SV
  | [], _ => []
  | k :: ks, j => .sc (cel k c i j) :: celS c i ks (j + 1)
/-- Zero's cells, all of them numbers. -/
def zeroK (P : Program) (e : Nat) (ks : List K) : Bool :=
  match P.info? e with
  | some i => match i.zero with
    | some z => z.cells.size == ks.length && (List.range ks.length).all fun j => match z.cells[j]?, ks[j]? with
      | some (.bool b), some .b => !b
      | some (.int k n), some (.i k') => decide (k = k') && n == 0
      | _, _ => false
    | none => false
  | none => false
def applyX (P : Program) (G : Glob) (m : Mem) (nm : Nat) : X → Option (E × SV × Mem)
  | .old d => apply G m nm d
  | .len x => match tyL m x with
    | some (ty, row) => (viewL m ty row x).map fun V => (V.g, .sc V.le, m)
    | none => (viewL m 0 .nil x).map fun V => (V.g, .sc V.le, m)
  | .lde n str i o sz ag => match m.at n with
    | some (g, .lst _ row _ le c) => match rowKs row with
      | some ks => if g.kind = .b ∧ str = ks.length then
          (rdC (celS c i ks 0) o sz ag).map fun v => (mkAnd g (inB i le), v, m)
        else none
      | none => none
    | _ => none
  | .ste n str i o cs => match m.at n with
    | some (g, .lst ty row true le c) => match rowKs row with
      | some ks => match scs ((ks.drop o).take cs.length) cs with
        | some es => if g.kind = .b ∧ str = ks.length ∧ o + cs.length ≤ ks.length then some (mkAnd g (inB i le), .und, m.set n (some (g, .lst ty row true le (.app .x 0 6 (c :: i :: .lit .x o :: es))))) else none
        | none => none
      | none => none
    | _ => none
  | .app t e rt x y => match (match tyL m x with
      | some (_, row) => rowKs row
      | none => leafOf P 20 e) with
    | some ks => match viewL m e (Row.ofKs ks) x, infoOf P e with
      | some V, some (size, bytes) =>
        if size = ks.length ∧ V.own = true ∧ elemOf P t = some e ∧ nm < m.length ∧ (m.at nm).isNone = true then
          match y with
          | .sl m2 0 len _ => match blkC m m2 with
            | some (g2, _, cs) => if cs.length = len * ks.length then (snocs ks len cs V.c).map fun c' =>
                (mkAnd (mkAnd V.g g2) (mkCmp .leq (.app .x 0 0 [c']) (.lit .x (capOf bytes))), .ls nm (LEN c'), (killL m V.ns).set nm (some (mkB true, .lst e (Row.ofKs ks) true (LEN c') c')))
              else none
            | none => none
          | y => match viewL m e (Row.ofKs ks) y with
            | some V2 => some (mkAnd (mkAnd V.g V2.g) (mkCmp .leq (.app .x 0 0 [.app .x 0 4 [V.c, V2.c]]) (.lit .x (capOf bytes))), .ls nm (LEN (.app .x 0 4 [V.c, V2.c])),
                (killL m V.ns).set nm (some (mkB true, .lst e (Row.ofKs ks) true (LEN (.app .x 0 4 [V.c, V2.c])) (.app .x 0 4 [V.c, V2.c]))))
            | none => none
        else none
      | _, _ => none
    | none => none
  | .sub t e x lo hi => match tyL m x with
    | some (_, row) => match viewL m e row x with
      | some V0 => match viewL (shareL m V0.ns) e row x with
        | some V => if V.sh = true ∧ elemOf P t = some e ∧ szOf P e = some row.size ∧ nm < m.length ∧ ((shareL m V0.ns).at nm).isNone = true ∧ (∀ q, lo = some q → q.kind = .i .i64) ∧ (∀ q, hi = some q → q.kind = .i .i64) then
            let l := lo.getD (.lit (.i .i64) 0)
            let h := hi.getD V.le
            let c' := E.app .x 0 5 [V.c, l, h]
            some (mkAnd V.g (mkAnd (mkCmp .geq l (.lit (.i .i64) 0)) (mkAnd (mkCmp .leq l h) (mkCmp .leq h V.le))), .ls nm (LEN c'), (shareL m V0.ns).set nm (some (mkB true, .lst e row false (LEN c') c')))
          else none
        | none => none
      | none => none
    | none => none
  | .mk t e n c => match leafOf P 20 e, infoOf P e with
    | some ks, some (size, bytes) => if n.same c = true ∧ n.kind = .i .i64 ∧ elemOf P t = some e ∧ size = ks.length ∧ zeroK P e ks = true ∧ nm < m.length ∧ (m.at nm).isNone = true then
        let c' := E.app .x 0 7 (n :: ks.map fun k => .lit k 0)
        some (mkAnd (mkCmp .geq n (.lit (.i .i64) 0)) (mkCmp .leq n (.lit .x (capOf bytes))), .ls nm (LEN c'), m.set nm (some (mkB true, .lst e (Row.ofKs ks) true (LEN c') c')))
      else none
    | _, _ => none
  | .bl e ks cs len => match snocs ks len cs NILL, infoOf P e with
    | some c', some (size, bytes) => if size = ks.length ∧ (len : Int) ≤ capOf bytes ∧ nm < m.length ∧ (m.at nm).isNone = true then
        some (mkB true, .ls nm (.lit (.i .i64) len), m.set nm (some (mkB true, .lst e (Row.ofKs ks) true (.lit (.i .i64) len) c')))
      else none
    | _, _ => none

section
variable {P : Program} {F : Fam} {ρ : Nat → Int} {G : Glob} {w0 w w' : World} {M0 Im0 Im Im' T : Nat → Prop} {ad ad' : Nat → Hd} {m m' : Mem}

theorem blkC_spec {n : Nat} {g : E} {ty : Nat} {cs : List SV} (h : blkC m n = some (g, ty, cs)) : m.at n = some (g, .cells ty cs) ∧ g.kind = .b := by
  unfold blkC at h
  split at h
  · rename_i g' ty' cs' hn
    split at h
    · rename_i hk
      simp only [Option.some.injEq, Prod.mk.injEq] at h
      obtain ⟨rfl, rfl, rfl⟩ := h
      exact ⟨hn, hk⟩
    · cases h
  · cases h

theorem ldSem_agg {b off : Nat} {cs : List Value} (h : ∀ j v, cs[j]? = some v → w.cell? ⟨b, off + j, none⟩ = some v) : ldSem P w b off cs.length true = .ok (.value (.agg cs.toArray)) w := by
  have := run_loadCells_list (P := P) w ⟨b, off, none⟩ cs (fun j v hj => by rw [Addr.add_none]; exact h j v hj)
  simp [ldSem, this]
theorem ldSem_one {b off : Nat} {v : Value} (sz : Nat) (h : w.cell? ⟨b, off, none⟩ = some v) : ldSem P w b off sz false = .ok (.value v) w := by
  simp [ldSem, h]

/-- Cells that are told are read as told. -/
theorem rdC_run {b : Nat} {cs : List SV} {base off sz : Nat} {ag : Bool} {v : SV} (hc : ∀ j u, (SV.concL F ρ ad cs)[j]? = some u → w.cell? ⟨b, base + j, none⟩ = some u) (h : rdC cs off sz ag = some v) :
    ldSem P w b (base + off) sz ag = .ok (.value (v.conc F ρ ad)) w ∧ ∀ p, SV.okL p cs → v.ok p := by
  unfold rdC at h
  cases ag with
  | true =>
    simp only [cond_true] at h
    split at h
    · rename_i hl
      simp only [Option.some.injEq] at h; subst h
      have hlen : ((SV.concL F ρ ad cs).drop off |>.take sz).length = sz := by rw [concL_eq]; simp; omega
      have hr := ldSem_agg (P := P) (w := w) (b := b) (off := base + off) (cs := (SV.concL F ρ ad cs).drop off |>.take sz) (fun j v hj => by
        rw [List.getElem?_take] at hj
        split at hj
        · rw [List.getElem?_drop] at hj
          have := hc _ _ hj
          rwa [← Nat.add_assoc] at this
        · cases hj)
      rw [hlen] at hr
      refine ⟨?_, fun p hp => ?_⟩
      · rw [hr]
        simp only [SV.conc, concL_eq, List.map_take, List.map_drop]
      · simp only [SV.ok]; exact okL_take (okL_drop hp _) _
    · cases h
  | false =>
    simp only [cond_false] at h
    refine ⟨ldSem_one sz ?_, fun p hp => okL_get hp h⟩
    exact hc off _ (by rw [concL_eq]; simp [h])

theorem rdsC_spec {cs : List SV} {off str sz : Nat} {ag : Bool} : ∀ {c j : Nat} {l : List SV}, rdsC cs off str sz ag c j = some l → l.length = c ∧ ∀ i v, l[i]? = some v → rdC cs (off + (j + i) * str) sz ag = some v
  | 0, j, l, h => by simp [rdsC] at h; subst h; simp
  | c + 1, j, l, h => by
    simp only [rdsC] at h
    split at h
    · rename_i v r h1 h2
      simp only [Option.some.injEq] at h; subst h
      obtain ⟨i1, i2⟩ := rdsC_spec h2
      refine ⟨by simp [i1], fun i u hu => ?_⟩
      cases i with
      | zero => simp at hu; subst hu; exact h1
      | succ i => simp at hu; have := i2 i u hu; rwa [show j + 1 + i = j + (i + 1) by omega] at this
    · cases h

theorem rdG_spec (hG : GOK G Im0 w) {b : Nat} : ∀ {n off : Nat} {l : List SV}, rdG G b off n = some l → l.length = n ∧ (∀ p, SV.okL p l) ∧
    (∀ j v, (SV.concL F ρ ad l)[j]? = some v → w.cell? ⟨b, off + j, none⟩ = some v)
  | 0, off, l, h => by simp [rdG] at h; subst h; exact ⟨rfl, fun _ => trivial, by simp [SV.concL]⟩
  | n + 1, off, l, h => by
    simp only [rdG] at h
    split at h
    · rename_i v r h1 h2
      simp only [Option.some.injEq] at h; subst h
      obtain ⟨i1, i2, i3⟩ := rdG_spec hG h2
      obtain ⟨_, g1, g2, g3⟩ := hG F ρ b off v h1
      refine ⟨by simp [i1], fun p => ⟨SV.ok_mono (fun _ f => f.elim) v g3, i2 p⟩, fun j u hu => ?_⟩
      cases j with
      | zero =>
        simp only [SV.concL, List.getElem?_cons_zero, Option.some.injEq] at hu
        subst hu
        rw [Nat.add_zero, g2, SV.conc_congr (ad' := ad) (p := fun _ => False) (fun _ f => f.elim) v g3]
      | succ j =>
        simp only [SV.concL, List.getElem?_cons_succ] at hu
        have := i3 j u hu
        rwa [show off + 1 + j = off + (j + 1) by omega] at this
    · cases h

theorem stSem_run {b off : Nat} {c : Array Value} {ty : TypeId} {vs : List Value} (h : w.heap[b]? = some (.cells c ty (0, 0))) (hl : off + vs.length ≤ c.size) (h1 : ∀ v ∈ vs, v.oneCell' = true) :
    stSem P w b off vs = .ok .skip (w.setRow b (c.toList.take off ++ vs ++ c.toList.drop (off + vs.length)).toArray) := by
  have := run_storeCells_at P b off ty vs 0 c w h (by simpa using hl) h1
  simp [stSem, this]

theorem concL_splice (cs vs : List SV) (off : Nat) : SV.concL F ρ ad (splice cs off vs) = (SV.concL F ρ ad cs).take off ++ SV.concL F ρ ad vs ++ (SV.concL F ρ ad cs).drop (off + (SV.concL F ρ ad vs).length) := by
  simp [splice, concL_eq, List.map_take, List.map_drop]
theorem ones_conc {cs : List SV} (h : cs.all SV.one = true) : ∀ v ∈ SV.concL F ρ ad cs, v.oneCell' = true := by
  intro v hv
  rw [concL_eq] at hv
  obtain ⟨s, hs, rfl⟩ := List.mem_map.1 hv
  exact SV.one_conc (List.all_eq_true.1 h s hs)
theorem splice_self (l : List SV) (off n : Nat) (h : off + n ≤ l.length) : splice l off ((l.drop off).take n) = l := by
  unfold splice
  have e : ((l.drop off).take n).length = n := by simp; omega
  rw [e, List.append_assoc, ← List.drop_drop, List.take_append_drop, List.take_append_drop]

/-- A write into cells that are told. -/
theorem wrC_run {b ty : Nat} {cs vs cs' : List SV} {off : Nat} (hh : w.heap[b]? = some (.cells (SV.concL F ρ ad cs).toArray ty (0, 0))) (h : wrC cs off vs = some cs') (h1 : vs.all SV.one = true) :
    stSem P w b off (SV.concL F ρ ad vs) = .ok .skip (w.setRow b (SV.concL F ρ ad cs').toArray) ∧ (w.setRow b (SV.concL F ρ ad cs').toArray).heap[b]? = some (.cells (SV.concL F ρ ad cs').toArray ty (0, 0)) ∧ ∀ p, SV.okL p cs → SV.okL p vs → SV.okL p cs' := by
  unfold wrC at h
  split at h
  · rename_i hl
    simp only [Option.some.injEq] at h; subst h
    have hs := stSem_run (P := P) (off := off) (vs := SV.concL F ρ ad vs) hh (by simp only [concL_eq, List.size_toArray, List.length_map]; exact hl) (ones_conc h1)
    refine ⟨?_, setRow_heap w b _ _ _ _ hh, fun p hp hv => splice_ok hp hv⟩
    rw [hs, concL_splice]
  · cases h

theorem wrsC_run {e : E} {off str b ty : Nat} {vs : List SV} (h1 : vs.all SV.one = true) : ∀ (c j : Nat) (cs cs' : List SV) (w : World), j + c < 1000000 → w.heap[b]? = some (.cells (SV.concL F ρ ad cs).toArray ty (0, 0)) →
    wrsC e off str vs c j cs = some cs' →
    (∀ p, SV.okL p cs → SV.okL p vs → SV.okL p cs') ∧
    ((e.den F ρ < j ∨ ((j : Int) + c ≤ e.den F ρ)) → SV.concL F ρ ad cs' = SV.concL F ρ ad cs) ∧
    ((j : Int) ≤ e.den F ρ → e.den F ρ < j + c → stSem P w b (off + (e.den F ρ).toNat * str) (SV.concL F ρ ad vs) = .ok .skip (w.setRow b (SV.concL F ρ ad cs').toArray))
  | 0, j, cs, cs', w, hj, hh, h => by
    simp only [wrsC, Option.some.injEq] at h; subst h
    exact ⟨fun _ h _ => h, fun _ => rfl, fun h1 h2 => by simp at h2; omega⟩
  | c + 1, j, cs, cs', w, hj, hh, h => by
    simp only [wrsC] at h
    split at h
    · rename_i hl
      have hcmp := mkCmp_spec .eql e (.lit (.i .i64) (j : Int)) F ρ
      have hjd : (E.lit (.i .i64) (j : Int)).den F ρ = j := by
        simp only [E.den, K.norm, IntKind.wrap, IntKind.signed, IntKind.bits]
        simp
        split <;> omega
      rw [hjd] at hcmp
      have hlen : vs.length = ((cs.drop (off + j * str)).take vs.length).length := by simp; omega
      have hmc := mergeL_conc (F := F) (ρ := ρ) (ad := ad) hcmp.2 vs ((cs.drop (off + j * str)).take vs.length) hlen
      have hoks : ∀ p, SV.okL p cs → SV.okL p vs → SV.okL p (splice cs (off + j * str) (mergeL (mkCmp .eql e (.lit (.i .i64) (j : Int))) vs ((cs.drop (off + j * str)).take vs.length))) := fun p hp hv =>
        splice_ok hp (mergeL_ok vs ((cs.drop (off + j * str)).take vs.length) hv (okL_take (okL_drop hp _) _))
      by_cases he : e.den F ρ = j
      · have ht : cmpB .eql (e.den F ρ) (j : Int) = true := by simp [cmpB, he]
        rw [hcmp.1, ht] at hmc
        simp only [cond_true] at hmc
        have hsp : SV.concL F ρ ad (splice cs (off + j * str) (mergeL (mkCmp .eql e (.lit (.i .i64) (j : Int))) vs ((cs.drop (off + j * str)).take vs.length))) = SV.concL F ρ ad (splice cs (off + j * str) vs) := by
          rw [concL_splice, concL_splice, hmc]
        obtain ⟨r1, r2, r3⟩ := wrC_run (P := P) (vs := vs) (off := off + j * str) (cs' := splice cs (off + j * str) vs) hh (by simp [wrC, hl]) h1
        rw [← hsp] at r1 r2
        obtain ⟨i1, i2, _⟩ := wrsC_run h1 c (j + 1) _ cs' _ (by omega) r2 h
        refine ⟨fun p hp hv => i1 p (hoks p hp hv) hv, fun hx => by exfalso; simp at hx; omega, fun _ _ => ?_⟩
        rw [i2 (Or.inl (by rw [he]; push_cast; omega)), he]
        simpa using r1
      · have ht : cmpB .eql (e.den F ρ) (j : Int) = false := by simp [cmpB, he]
        rw [hcmp.1, ht] at hmc
        simp only [cond_false] at hmc
        have hsp : SV.concL F ρ ad (splice cs (off + j * str) (mergeL (mkCmp .eql e (.lit (.i .i64) (j : Int))) vs ((cs.drop (off + j * str)).take vs.length))) = SV.concL F ρ ad cs := by
          rw [concL_splice, hmc, ← concL_splice, splice_self cs _ _ hl]
        obtain ⟨i1, i2, i3⟩ := wrsC_run h1 c (j + 1) _ cs' w (by omega) (by rw [hsp]; exact hh) h
        refine ⟨fun p hp hv => i1 p (hoks p hp hv) hv, fun hx => (i2 ?_).trans hsp, fun h1 h2 => i3 (by push_cast; omega) (by push_cast at h2 ⊢; omega)⟩
        rcases hx with hx | hx
        · left; push_cast; omega
        · right; push_cast at hx ⊢; omega
    · cases h

/-- What an operation's run comes to: a value, or nothing ('undef'). -/
def Came (r : Result Next) (v : Value) (w' : World) : Prop := r = .ok (.value v) w' ∨ (r = .ok .skip w' ∧ v = undef)

def Done (F : Fam) (ρ : Nat → Int) (w0 : World) (M0 Im0 : Nat → Prop) (ad : Nat → Hd) (m m' : Mem) (r : Result Next) (v : SV) : Prop :=
  ∃ ad' w', Came r (v.conc F ρ ad') w' ∧ Rel F ρ w0 M0 Im0 ad' m' w' ∧ Ext ad ad' m m' ∧ v.ok (al m')

theorem GOK.now (hG : GOK G Im0 w0) (hR : Rel F ρ w0 M0 Im0 ad m w) : GOK G Im0 w := by
  obtain ⟨hM, Im, h1, h2, hI⟩ := hR
  exact hG.fr hM hI.fr fun b hb => hb

theorem apply_sound (hG : GOK G Im0 w0) (hR : Rel F ρ w0 M0 Im0 ad m w) {d : D} {nm : Nat} {g : E} {v : SV} {m' : Mem} (hg : d.good F ρ (al m)) (h : apply G m nm d = some (g, v, m')) :
    g.kind = .b ∧ (g.tt F ρ = true → Done F ρ w0 M0 Im0 ad m m' (d.run P F ρ ad w) v) := by
  have cells : ∀ {n g ty cs}, m.at n = some (g, .cells ty cs) → g.tt F ρ = true → w.heap[(ad n).blk]? = some (.cells (SV.concL F ρ ad cs).toArray ty (0, 0)) ∧ SV.okL (al m) cs := fun {n g ty cs} hn hg => by
    obtain ⟨hM, Im, h1, h2, hI⟩ := hR
    exact ⟨(hI.ent n g _ hn hg).1, hI.ok n g ty cs hn⟩
  have hcell : ∀ {b : Nat} {cs : List SV} {ty : Nat}, w.heap[b]? = some (.cells (SV.concL F ρ ad cs).toArray ty (0, 0)) → ∀ j u, (SV.concL F ρ ad cs)[j]? = some u → w.cell? ⟨b, 0 + j, none⟩ = some u := fun {b cs ty} hh j u hu => by
    rw [Nat.zero_add, cell_of_heap hh]; simpa using hu
  cases d with
  | val u =>
    simp only [apply, Option.some.injEq, Prod.mk.injEq] at h
    obtain ⟨rfl, rfl, rfl⟩ := h
    exact ⟨rfl, fun _ => ⟨ad, w, Or.inl rfl, hR, Ext.refl _ _, hg⟩⟩
  | ld n off sz ag =>
    simp only [apply] at h
    split at h
    · rename_i g' ty cs hb
      obtain ⟨u, h1, h2⟩ := Option.map_eq_some_iff.1 h
      simp only [Prod.mk.injEq] at h2
      obtain ⟨rfl, rfl, rfl⟩ := h2
      obtain ⟨b1, b2⟩ := blkC_spec hb
      refine ⟨b2, fun ht => ?_⟩
      obtain ⟨c1, c2⟩ := cells b1 ht
      obtain ⟨i1, i2⟩ := rdC_run (P := P) (base := 0) (hcell c1) h1
      rw [Nat.zero_add] at i1
      exact ⟨ad, w, Or.inl i1, hR, Ext.refl _ _, i2 _ c2⟩
    · cases h
  | ldi n off str cnt e sz ag =>
    simp only [apply] at h
    split at h
    · rename_i g' ty cs hb
      split at h
      · rename_i hcnt
        obtain ⟨l, h1, h2⟩ := Option.map_eq_some_iff.1 h
        simp only [Prod.mk.injEq] at h2
        obtain ⟨rfl, rfl, rfl⟩ := h2
        obtain ⟨b1, b2⟩ := blkC_spec hb
        refine ⟨b2, fun ht => ?_⟩
        obtain ⟨c1, c2⟩ := cells b1 ht
        obtain ⟨p1, p2⟩ := rdsC_spec h1
        obtain ⟨g1, g2, g3⟩ := hg
        obtain ⟨u, s1, s2⟩ := sel_conc (F := F) (ρ := ρ) (ad := ad) (e := e) l 0 (by omega) (by simpa using g3) (by rw [p1]; omega)
        have hr := p2 _ _ s1
        simp only [Nat.zero_add, Nat.sub_zero] at hr
        obtain ⟨i1, i2⟩ := rdC_run (P := P) (base := 0) (hcell c1) hr
        rw [Nat.zero_add] at i1
        refine ⟨ad, w, Or.inl ?_, hR, Ext.refl _ _, ?_⟩
        · rw [s2]; exact i1
        · refine sel_ok _ _ ?_
          rw [okL_iff]
          intro x hx
          obtain ⟨i, hi⟩ := List.getElem?_of_mem hx
          exact (rdC_run (P := P) (base := 0) (hcell c1) (p2 i x hi)).2 _ c2
      · cases h
    · cases h
  | ldg b off sz ag =>
    have hG' := hG.now hR
    cases ag with
    | true =>
      simp only [apply, cond_true] at h
      obtain ⟨l, h1, h2⟩ := Option.map_eq_some_iff.1 h
      simp only [Prod.mk.injEq] at h2
      obtain ⟨rfl, rfl, rfl⟩ := h2
      obtain ⟨i1, i2, i3⟩ := rdG_spec (F := F) (ρ := ρ) (ad := ad) hG' h1
      refine ⟨rfl, fun _ => ⟨ad, w, Or.inl ?_, hR, Ext.refl _ _, by simpa [SV.ok] using i2 (al m)⟩⟩
      have := ldSem_agg (P := P) (w := w) (b := b) (off := off) (cs := SV.concL F ρ ad l) i3
      have hl : (SV.concL F ρ ad l).length = sz := by rw [concL_eq]; simpa using i1
      rw [hl] at this
      exact this
    | false =>
      simp only [apply, cond_false] at h
      obtain ⟨u, h1, h2⟩ := Option.map_eq_some_iff.1 h
      simp only [Prod.mk.injEq] at h2
      obtain ⟨rfl, rfl, rfl⟩ := h2
      obtain ⟨_, g1, g2, g3⟩ := hG' F ρ b off u h1
      refine ⟨rfl, fun _ => ⟨ad, w, Or.inl ?_, hR, Ext.refl _ _, SV.ok_mono (fun _ f => f.elim) u g3⟩⟩
      refine ldSem_one sz ?_
      rw [g2, SV.conc_congr (ad' := ad) (p := fun _ => False) (fun _ f => f.elim) u g3]
  | st n off vs =>
    simp only [apply] at h
    split at h
    · rename_i g' ty cs hb
      obtain ⟨cs', h1, h2⟩ := Option.map_eq_some_iff.1 h
      simp only [Prod.mk.injEq] at h2
      obtain ⟨rfl, rfl, rfl⟩ := h2
      obtain ⟨b1, b2⟩ := blkC_spec hb
      refine ⟨b2, fun ht => ?_⟩
      obtain ⟨c1, c2⟩ := cells b1 ht
      obtain ⟨r1, r2, r3⟩ := wrC_run (P := P) c1 h1 hg.2.2
      refine ⟨ad, _, Or.inr ⟨r1, rfl⟩, hR.turn b1 (Fr.setRow _ _) (fun b hb => ⟨by rw [hb]; rfl, ht⟩) (fun Im _ _ => r2) (fun b hb => hb) (fun ty' cs'' e => ?_), Ext.set ad b1, trivial⟩
      simp only [Blk.cells.injEq] at e
      obtain ⟨_, rfl⟩ := e
      exact r3 _ c2 hg.2.1
    · cases h
  | sti n off str cnt e vs =>
    simp only [apply] at h
    split at h
    · rename_i g' ty cs hb
      split at h
      · rename_i hcnt
        obtain ⟨cs', h1, h2⟩ := Option.map_eq_some_iff.1 h
        simp only [Prod.mk.injEq] at h2
        obtain ⟨rfl, rfl, rfl⟩ := h2
        obtain ⟨b1, b2⟩ := blkC_spec hb
        refine ⟨b2, fun ht => ?_⟩
        obtain ⟨c1, c2⟩ := cells b1 ht
        obtain ⟨g1, g2, g3, g4, g5⟩ := hg
        obtain ⟨r1, _, r3⟩ := wrsC_run (P := P) g3 cnt 0 cs cs' w (by omega) c1 h1
        have r := r3 (by simpa using g5) (by omega)
        refine ⟨ad, _, Or.inr ⟨r, rfl⟩, hR.turn b1 (Fr.setRow _ _) (fun b hb => ⟨by rw [hb]; rfl, ht⟩) (fun Im _ _ => setRow_heap w _ _ _ _ _ c1) (fun b hb => hb) (fun ty' cs'' e => ?_), Ext.set ad b1, trivial⟩
        simp only [Blk.cells.injEq] at e
        obtain ⟨_, rfl⟩ := e
        exact r1 _ c2 g2
      · cases h
    · cases h
  | new ty cs sl =>
    simp only [apply] at h
    split at h
    · rename_i hc
      simp only [Option.some.injEq, Prod.mk.injEq] at h
      obtain ⟨rfl, rfl, rfl⟩ := h
      refine ⟨rfl, fun _ => ?_⟩
      have hcg : SV.concL F ρ (upd ad nm ⟨w.heap.size, 0, 0, false, undef⟩) cs = SV.concL F ρ ad cs := (SV.concL_congr (upd_al hc.2 _) cs hg.1).symm
      have hnew : (w.alloc (.cells (SV.concL F ρ ad cs).toArray ty)).heap[w.heap.size]? = some (.cells (SV.concL F ρ ad cs).toArray ty (0, 0)) := (MapKept.heap_alloc w _).1
      refine ⟨upd ad nm ⟨w.heap.size, 0, 0, false, undef⟩, w.alloc (.cells (SV.concL F ρ ad cs).toArray ty), Or.inl ?_, ?_, ?_, ?_⟩
      · cases sl <;> simp [D.run, SV.conc, upd_same]
      · obtain ⟨hM, Im, h1, h2, hI⟩ := hR
        refine ⟨hM, Im, h1, h2, hI.put (ns := []) (T := fun _ => False) (Fr.alloc _ _ _) (fun b hb => hb.elim) hc.1 hc.2 ?_ (fun b hb => ?_) (fun ty' cs' e => ?_)⟩
        · simp only [BlkOK, upd_same, hcg]; exact hnew
        · simp only [mutB, upd_same, Option.some.injEq] at hb
          subst hb
          exact ⟨by simp, Or.inl (Nat.le_refl _)⟩
        · simp only [Blk.cells.injEq] at e
          obtain ⟨_, rfl⟩ := e
          exact hg.1
      · exact Ext.put (ns := []) _ hc.1 hc.2
      · have := al_put (m := m) (ns := []) (nm := nm) (y := (mkB true, Blk.cells ty cs)) hc.1
        cases sl <;> exact this
    · cases h
  | call f args => simp [apply] at h
end
end Go.Proofs.YtbolcnlenmphhaaDoor.Ew

/- That the described operations on lists tell what the operations do to the world. -/
set_option linter.unusedVariables false
set_option linter.unusedSimpArgs false
namespace Go.Proofs.YtbolcnlenmphhaaDoor.Ew
open Go Go.RowKit

section
variable {P : Program} {F : Fam} {ρ : Nat → Int} {G : Glob} {w0 w w' : World} {M0 Im0 Im Im' T : Nat → Prop} {ad ad' : Nat → Hd} {m m' : Mem} {q : Row} {ks : List K}

/-! ### rows of numbers alone -/
theorem rowKs_ofKs : ∀ ks : List K, rowKs (Row.ofKs ks) = some ks
  | [] => rfl
  | k :: ks => by simp [Row.ofKs, rowKs, rowKs_ofKs ks]
theorem rowKs_eq : ∀ {q : Row} {ks : List K}, rowKs q = some ks → q = Row.ofKs ks
  | .nil, ks, h => by simp [rowKs] at h; subst h; rfl
  | .c k r, ks, h => by
    simp only [rowKs] at h
    obtain ⟨ks', h1, rfl⟩ := Option.map_eq_some_iff.1 h
    rw [rowKs_eq h1]; rfl
  | .ls .., ks, h => by simp [rowKs] at h
theorem ofKs_size : ∀ ks : List K, (Row.ofKs ks).size = ks.length
  | [] => rfl
  | k :: ks => by simp [Row.ofKs, Row.size, ofKs_size ks]
theorem RowV_ks : ∀ {ks : List K} {zs : List Int} {vs : List Value}, RowV w Im (Row.ofKs ks) zs vs ↔ fits ks zs ∧ vs = numV ks zs
  | [], zs, vs => by
    simp only [Row.ofKs, RowV]
    constructor
    · rintro ⟨rfl, rfl⟩; exact ⟨trivial, rfl⟩
    · rintro ⟨h1, h2⟩
      cases zs with
      | nil => exact ⟨rfl, h2⟩
      | cons _ _ => exact h1.elim
  | k :: ks, zs, vs => by
    simp only [Row.ofKs, RowV]
    constructor
    · rintro ⟨z, zs', vs', rfl, rfl, h3, h4⟩
      obtain ⟨i1, i2⟩ := RowV_ks.1 h4
      exact ⟨⟨h3, i1⟩, by simp [numV, i2]⟩
    · rintro ⟨h1, h2⟩
      cases zs with
      | nil => exact h1.elim
      | cons z zs => exact ⟨z, zs, numV ks zs, rfl, by rw [h2]; rfl, h1.1, RowV_ks.2 ⟨h1.2, rfl⟩⟩
theorem numV_len {ks : List K} {zs : List Int} (h : fits ks zs) : (numV ks zs).length = ks.length := by simp [numV, fits_length h]

theorem fits_append {ks ls : List K} {xs ys : List Int} (h : fits ks xs) (h' : fits ls ys) : fits (ks ++ ls) (xs ++ ys) := by
  induction ks generalizing xs with
  | nil => cases xs with
    | nil => exact h'
    | cons _ _ => exact h.elim
  | cons k ks ih => cases xs with
    | nil => exact h.elim
    | cons x xs => exact ⟨h.1, ih h.2⟩
theorem fits_take : ∀ {ks : List K} {xs : List Int} (n : Nat), fits ks xs → fits (ks.take n) (xs.take n)
  | [], [], n, _ => by simp [fits]
  | [], _ :: _, _, h => h.elim
  | _ :: _, [], _, h => h.elim
  | k :: ks, x :: xs, 0, _ => by simp [fits]
  | k :: ks, x :: xs, n + 1, h => by simp only [List.take_succ_cons]; exact ⟨h.1, fits_take n h.2⟩
theorem fits_drop : ∀ {ks : List K} {xs : List Int} (n : Nat), fits ks xs → fits (ks.drop n) (xs.drop n)
  | [], [], n, _ => by simp [fits]
  | [], _ :: _, _, h => h.elim
  | _ :: _, [], _, h => h.elim
  | k :: ks, x :: xs, 0, h => h
  | k :: ks, x :: xs, n + 1, h => by simp only [List.drop_succ_cons]; exact fits_drop n h.2
theorem numV_append {ks ls : List K} {xs ys : List Int} (h : fits ks xs) : numV (ks ++ ls) (xs ++ ys) = numV ks xs ++ numV ls ys := by
  unfold numV
  rw [List.zipWith_append (by simp [fits_length h])]
theorem numV_take (ks : List K) (xs : List Int) (n : Nat) : (numV ks xs).take n = numV (ks.take n) (xs.take n) := by simp [numV, List.take_zipWith]
theorem numV_drop (ks : List K) (xs : List Int) (n : Nat) : (numV ks xs).drop n = numV (ks.drop n) (xs.drop n) := by simp [numV, List.drop_zipWith]
/-- A segment of a row is replaced. -/
theorem fits_splR {zs es : List Int} {o : Nat} (h : fits ks zs) (he : fits ((ks.drop o).take es.length) es) (hl : o + es.length ≤ ks.length) :
    fits ks (splR zs o es) ∧ numV ks (splR zs o es) = (numV ks zs).take o ++ numV ((ks.drop o).take es.length) es ++ (numV ks zs).drop (o + es.length) := by
  have e : ks = ks.take o ++ (ks.drop o).take es.length ++ ks.drop (o + es.length) := by
    rw [List.append_assoc, ← List.drop_drop, List.take_append_drop, List.take_append_drop]
  have f1 := fits_take o h
  have f2 := fits_drop (o + es.length) h
  unfold splR
  refine ⟨?_, ?_⟩
  · have := fits_append (fits_append f1 he) f2
    rwa [← e] at this
  · have := numV_append (ys := zs.drop (o + es.length)) (ls := ks.drop (o + es.length)) (fits_append f1 he)
    rw [← e, numV_append f1] at this
    rw [this, numV_take, numV_drop]

/-! ### cells of a row as expressions -/
theorem celS_len (c i : E) : ∀ (ks : List K) (j : Nat), (celS c i ks j).length = ks.length
  | [], _ => rfl
  | k :: ks, j => by simp [celS, celS_len c i ks (j + 1)]
theorem celS_ok (c i : E) (p : Nat → Prop) : ∀ (ks : List K) (j : Nat), SV.okL p (celS c i ks j)
  | [], _ => trivial
  | k :: ks, j => ⟨trivial, celS_ok c i p ks (j + 1)⟩
theorem CEL_den (hB : BI F) (k : K) (c i : E) (j : Nat) : (CEL k c i j).den F ρ = k.norm (((dc (c.den F ρ)).getD (i.den F ρ).toNat []).getD j 0) := by
  simp only [CEL, E.den, E.denL, K.norm]
  rw [hB]
  simp [bi, K.norm]
theorem den_app0 (hB : BI F) (k : K) (j : Nat) (as : List E) : (E.app k 0 j as).den F ρ = k.norm (bi j (as.map (E.den F ρ))) := by
  simp only [E.den, denL_eq]
  rw [hB]

theorem chainR_spec (hB : BI F) (ρ : Nat → Int) : ∀ (n : Nat) {c : E} {l : List (List E)}, chainR n c = some l → dc (c.den F ρ) = (l.reverse.map fun es => es.map (E.den F ρ))
  | 0, c, l, h => by simp [chainR] at h
  | n + 1, c, l, h => by
    unfold chainR at h
    split at h
    · rename_i heq; cases heq
    · simp only [Option.some.injEq] at h; subst h
      have : (NILL).den F ρ = cd [] := hB.nil
      show dc ((NILL).den F ρ) = _
      rw [this, dc_cd]; rfl
    · rename_i n' c0 es heq
      cases heq
      obtain ⟨l0, h0, rfl⟩ := Option.map_eq_some_iff.1 h
      rw [den_app0 hB]
      simp only [List.map_cons, bi, K.norm, dc_cd, chainR_spec hB ρ n h0, List.reverse_cons, List.map_append, List.map_nil]
    · cases h
theorem cel_val (hB : BI F) (k : K) (c i : E) (j : Nat) : (cel k c i j).val F ρ = (CEL k c i j).val F ρ := by
  unfold cel
  split
  · rename_i n hn
    split
    · rename_i l hl
      split
      · rename_i e he
        split
        · rename_i hc
          obtain ⟨es, h1, h2⟩ := Option.bind_eq_some_iff.1 he
          have hd := chainR_spec hB ρ _ hl
          rw [← val_of_kind, ← val_of_kind, show (CEL k c i j).kind = k from rfl, hc.1, CEL_den hB, hd, E.lit?_den hn]
          have h3 : ((l.reverse.map fun es => es.map (E.den F ρ)).getD n.toNat []).getD j 0 = e.den F ρ := by
            simp only [List.getD, List.getElem?_map, h1, h2, Option.map_some, Option.getD_some]
          rw [h3]
          have := E.den_norm F ρ e hc.2
          rw [hc.1] at this
          rw [this]
        · rfl
      · rfl
    · rfl
  · rfl
theorem celS_conc (hB : BI F) {c i : E} {r : List Int} (hr : (dc (c.den F ρ)).getD (i.den F ρ).toNat [] = r) : ∀ (ks : List K) (j : Nat) (zs : List Int), fits ks zs → (∀ t, r.getD (j + t) 0 = zs.getD t 0) →
    SV.concL F ρ ad (celS c i ks j) = numV ks zs
  | [], _, zs, h, _ => by cases zs with
    | nil => rfl
    | cons _ _ => exact h.elim
  | k :: ks, j, zs, h, hz => by
    cases zs with
    | nil => exact h.elim
    | cons z zs =>
      have h0 := hz 0
      simp only [Nat.add_zero, List.getD_cons_zero] at h0
      simp only [celS, SV.concL, SV.conc, numV, List.zipWith_cons_cons]
      have hv : (cel k c i j).val F ρ = k.val z := by
        rw [cel_val hB, ← val_of_kind]
        show k.val _ = _
        rw [CEL_den hB, hr, h0, h.1]
      rw [hv, celS_conc hB hr ks (j + 1) zs h.2 fun t => by have := hz (t + 1); simpa [Nat.add_assoc, Nat.add_comm 1 t] using this]
      rfl

theorem scs_spec (F : Fam) (ρ : Nat → Int) (ad : Nat → Hd) : ∀ {ks : List K} {cs : List SV} {es : List E}, scs ks cs = some es →
    fits ks (es.map (E.den F ρ)) ∧ SV.concL F ρ ad cs = numV ks (es.map (E.den F ρ)) ∧ es.length = cs.length
  | [], [], es, h => by simp [scs] at h; subst h; exact ⟨trivial, rfl, rfl⟩
  | [], _ :: _, es, h => by simp [scs] at h
  | _ :: _, [], es, h => by simp [scs] at h
  | k :: ks, v :: cs, es, h => by
    cases v with
    | sc e =>
      simp only [scs] at h
      split at h
      · rename_i hk
        obtain ⟨rfl, hs⟩ := hk
        obtain ⟨es', h1, rfl⟩ := Option.map_eq_some_iff.1 h
        obtain ⟨i1, i2, i3⟩ := scs_spec F ρ ad h1
        refine ⟨⟨E.den_norm F ρ e hs, i1⟩, ?_, by simp [i3]⟩
        simp [SV.concL, SV.conc, numV, i2, val_of_kind]
      · cases h
    | _ => simp [scs] at h

theorem snocs_spec (hB : BI F) : ∀ {n : Nat} {cs : List SV} {c c' : E}, snocs ks n cs c = some c' → isCd (c.den F ρ) → c.kind = .x → ∃ rows : RL, c'.den F ρ = cd (dc (c.den F ρ) ++ rows) ∧ c'.kind = .x ∧ rows.length = n ∧ RowsV w Im (Row.ofKs ks) rows (SV.concL F ρ ad cs)
  | 0, cs, c, c', h, hc, hk => by
    simp only [snocs] at h
    split at h
    · rename_i hl
      simp only [Option.some.injEq] at h; subst h
      have : cs = [] := List.eq_nil_of_length_eq_zero hl
      subst this
      exact ⟨[], by rw [List.append_nil]; exact hc.symm, hk, rfl, rfl⟩
    · cases h
  | n + 1, cs, c, c', h, hc, hk => by
    simp only [snocs] at h
    split at h
    · rename_i es hes
      obtain ⟨i1, i2, i3⟩ := scs_spec F ρ ad hes
      have hd : (E.app .x 0 3 (c :: es)).den F ρ = cd (dc (c.den F ρ) ++ [es.map (E.den F ρ)]) := by
        rw [den_app0 hB]; rfl
      obtain ⟨rows, r1, r2, r3, r4⟩ := snocs_spec hB (n := n) h (by rw [hd]; exact isCd_cd _) rfl
      refine ⟨es.map (E.den F ρ) :: rows, ?_, r2, by simp [r3], ?_⟩
      · rw [r1, hd, dc_cd, List.append_assoc]; rfl
      · refine ⟨numV ks (es.map (E.den F ρ)), SV.concL F ρ ad (cs.drop ks.length), ?_, RowV_ks.2 ⟨i1, rfl⟩, r4⟩
        rw [← i2, concL_eq, concL_eq, concL_eq, List.map_take, List.map_drop, List.take_append_drop]
    · cases h

/-- The rows of a list in memory, one behind the other. -/
theorem flatL {b : Nat} : ∀ {l : RL} {o : Nat}, (∀ i r', l[i]? = some r' → ∃ us, RowV w Im q r' us ∧ ∀ j u, us[j]? = some u → w.cell? ⟨b, o + i * q.size + j, none⟩ = some u) →
    ∃ xs, RowsV w Im q l xs ∧ ∀ j u, xs[j]? = some u → w.cell? ⟨b, o + j, none⟩ = some u
  | [], o, h => ⟨[], rfl, fun j u hj => by simp at hj⟩
  | r :: l, o, h => by
    obtain ⟨us, u1, u2⟩ := h 0 r (by simp)
    obtain ⟨xs, x1, x2⟩ := flatL (l := l) (o := o + q.size) fun i r' hi => by
      obtain ⟨vs, v1, v2⟩ := h (i + 1) r' (by simpa using hi)
      refine ⟨vs, v1, fun j u hu => ?_⟩
      have := v2 j u hu
      rw [Nat.succ_mul] at this
      rwa [show o + q.size + i * q.size + j = o + (i * q.size + q.size) + j by omega]
    refine ⟨us ++ xs, ⟨us, xs, rfl, u1, x1⟩, fun j u hj => ?_⟩
    have hl := u1.len.1
    by_cases hjl : j < us.length
    · rw [List.getElem?_append_left hjl] at hj
      have := u2 j u hj
      simpa using this
    · rw [List.getElem?_append_right (by omega)] at hj
      have := x2 _ u hj
      rwa [hl, show o + q.size + (j - q.size) = o + j by omega] at this

theorem infoOf_spec {e size bytes : Nat} (h : infoOf P e = some (size, bytes)) : ∃ i z, P.info? e = some i ∧ i.zero = some z ∧ i.size = size ∧ i.bytes = bytes ∧ z.cells.size = size ∧ 0 < size := by
  unfold infoOf at h
  obtain ⟨i, h1, h2⟩ := Option.bind_eq_some_iff.1 h
  obtain ⟨z, h3, h4⟩ := Option.bind_eq_some_iff.1 h2
  split at h4
  · rename_i hc
    simp only [Option.some.injEq, Prod.mk.injEq] at h4
    obtain ⟨rfl, rfl⟩ := h4
    exact ⟨i, z, h1, h3, rfl, rfl, hc.1, hc.2⟩
  · cases h4
theorem capOf_spec {n bytes : Nat} (h : (n : Int) ≤ capOf bytes) : n * bytes ≤ 140737488355328 ∧ n ≤ maxLen := by
  have h' : n ≤ capOf bytes := by omega
  unfold capOf at h'
  have h1 : n * max bytes 1 ≤ 140737488355328 := by
    have := (Nat.le_div_iff_mul_le (by omega)).1 h'
    exact this
  have h2 : n * bytes ≤ n * max bytes 1 := Nat.mul_le_mul_left _ (by omega)
  have h3 : n * 1 ≤ n * max bytes 1 := Nat.mul_le_mul_left _ (by omega)
  simp only [maxLen]
  omega
theorem wrap_len {n : Nat} (h : n ≤ maxLen) : IntKind.i64.wrap (n : Int) = n := by
  simp only [maxLen] at h
  simp only [IntKind.wrap, IntKind.signed, IntKind.bits]
  simp
  split <;> omega

theorem setRow_Fr {n : Nat} (v : Value) : ∀ b, v.ownBlock = some b → True := fun _ _ => trivial

theorem seg_lemma {α : Type} (cl V us : List α) (A s o N : Nat) (h : us = ((cl.take N).drop A).take s) (h1 : o + V.length ≤ s) (h2 : A + s ≤ N) (h3 : N ≤ cl.length) :
    (cl.take (A + o) ++ V ++ cl.drop (A + o + V.length)).take N = (cl.take N).take A ++ (us.take o ++ V ++ us.drop (o + V.length)) ++ (cl.take N).drop (A + s) := by
  have hul : us.length = s := by rw [h]; simp; omega
  have e1 : (cl.take N).take A = cl.take A := by rw [List.take_take]; congr 1; omega
  have e2 : cl.take (A + o) = cl.take A ++ us.take o := by
    rw [h, List.take_take, List.drop_take, List.take_take, ← List.take_add]
    congr 2
    omega
  rw [e1, e2]
  have e3 : (cl.drop (A + o + V.length)).take (N - (A + o + V.length)) = us.drop (o + V.length) ++ (cl.take N).drop (A + s) := by
    rw [h, ← List.drop_take]
    apply List.ext_getElem?
    intro j
    simp only [List.getElem?_append, List.getElem?_drop, List.getElem?_take, List.length_drop, List.length_take]
    split <;> split <;> (try split) <;> (try split) <;> first | rfl | omega | (congr 1; omega)
  have l1 : (cl.take A).length = A := by simp; omega
  have l2 : (us.take o).length = o := by simp; omega
  have lX : (cl.take A ++ us.take o ++ V).length = A + o + V.length := by rw [List.length_append, List.length_append, l1, l2]
  rw [List.take_append, List.take_of_length_le (by rw [lX]; omega), lX, e3]
  simp

/-- A write into a row of a list of the call's own. -/
theorem OwL.set {ty : Nat} {hd : Hd} {l : RL} (ho : OwL w Im ty (Row.ofKs ks) hd l) {i o : Nat} {es : List Int} {z : List Int} (hz : l[i]? = some z) (he : fits ((ks.drop o).take es.length) es) (hl : o + es.length ≤ ks.length) :
    ∃ w', stSem P w hd.blk (hd.off + i * ks.length + o) (numV ((ks.drop o).take es.length) es) = .ok .skip w' ∧ Fr (fun b => (hd.sl l.length).ownBlock = some b) w w' ∧
      (∀ w1, Fr (fun b => (hd.sl l.length).ownBlock = some b) w w1 → w1 = w' → (∀ b, Im b → w1.heap[b]? = w.heap[b]?) → OwL w1 Im ty (Row.ofKs ks) hd (l.set i (splR z o es))) := by
  obtain ⟨h1, xs, h2, h3⟩ := ho
  have hi : i < l.length := (List.getElem?_eq_some_iff.1 hz).1
  have hsz := ofKs_size ks
  rcases h2.2 with ⟨hn, hl0⟩ | ⟨g, cap, cur, e, k1, k2, k3, k4, k5, k6⟩
  · omega
  · have hg : (hd.sl l.length).ownBlock = some g := by rw [e]; rfl
    have hgb := Hd.own_blk hg
    subst hgb
    have hoff : hd.off = 0 ∧ hd.cap = cap := by
      unfold Hd.sl at e
      cases hnn : hd.nil && l.length == 0
      · rw [hnn] at e; simp at e; exact e
      · rw [hnn] at e; simp at e
    rw [hsz] at k5 k6
    have hx := h3.len
    rw [hsz] at hx
    have hnl := numV_len he
    have hvl : (numV ((ks.drop o).take es.length) es).length = es.length := by rw [hnl]; simp; omega
    have hmul : i * ks.length + ks.length ≤ l.length * ks.length := by
      have : (i + 1) * ks.length ≤ l.length * ks.length := Nat.mul_le_mul_right _ hi
      rwa [Nat.succ_mul] at this
    have hcap : l.length * ks.length ≤ cap * ks.length := Nat.mul_le_mul_right _ k3
    have hones : ∀ v ∈ numV ((ks.drop o).take es.length) es, v.oneCell' = true := fun v hv => RowV.one (w := w) (Im := Im) (RowV_ks.2 ⟨he, rfl⟩) v hv
    have hst := stSem_run (P := P) (off := i * ks.length + o) (vs := numV ((ks.drop o).take es.length) es) k2 (by rw [hvl, k5]; omega) hones
    rw [hoff.1, Nat.zero_add]
    refine ⟨_, hst, ?_, ?_⟩
    · exact (Fr.setRow _ _).mono fun b hb => by rw [hb]; exact hg
    · rintro w1 hf rfl hIm
      obtain ⟨us, u1, u2⟩ := h3.get i z hz
      obtain ⟨f1, f2⟩ := RowV_ks.1 u1
      obtain ⟨s1, s2⟩ := fits_splR f1 he hl
      refine ⟨by simpa using h1, _, ⟨?_, .inr ⟨hd.blk, cap, _, ?_, k1, setRow_heap w hd.blk cur _ ty _ k2, by simpa using k3, k4, ?_, rfl⟩⟩, ?_⟩
      · rw [hsz, List.length_set, List.length_take]
        simp only [List.length_append, List.length_take, List.length_drop, Array.length_toList, List.length_set, hsz]
        rw [hvl, k5]
        omega
      · rw [List.length_set]; exact e
      · rw [hsz]
        simp only [List.size_toArray, List.length_append, List.length_take, List.length_drop, Array.length_toList]
        rw [hvl, k5]
        omega
      · have hset := RowsV.set (w := w) (Im := Im) h3 i (splR z o es) (numV ks (splR z o es)) hi (RowV_ks.2 ⟨s1, rfl⟩)
        rw [hsz] at hset
        have hxs : xs = xs.take (i * ks.length) ++ us ++ xs.drop (i * ks.length + ks.length) := by
          have hul := u1.len.1
          rw [hsz] at hul
          apply List.ext_getElem?
          intro j
          by_cases hj1 : j < i * ks.length
          · rw [List.append_assoc, List.getElem?_append_left (by simp; omega), List.getElem?_take, if_pos hj1]
          · by_cases hj2 : j < i * ks.length + ks.length
            · have hlt : j - i * ks.length < us.length := by omega
              have := u2 (j - i * ks.length) us[j - i * ks.length] (by simp [hlt])
              rw [hsz, show i * ks.length + (j - i * ks.length) = j by omega] at this
              rw [this, List.append_assoc, List.getElem?_append_right (by simp; omega), List.getElem?_append_left (by simp; omega)]
              have e1 : j - (List.take (i * ks.length) xs).length = j - i * ks.length := by simp; omega
              rw [e1]
              simp [hlt]
            · rw [List.getElem?_append_right (by simp; omega), List.getElem?_drop]
              congr 1
              simp
              omega
        have hfin : ((cur.toList.take (i * ks.length + o) ++ numV ((ks.drop o).take es.length) es ++ cur.toList.drop (i * ks.length + o + (numV ((ks.drop o).take es.length) es).length)).toArray.toList.take ((l.set i (splR z o es)).length * (Row.ofKs ks).size)) =
            xs.take (i * ks.length) ++ numV ks (splR z o es) ++ xs.drop (i * ks.length + ks.length) := by
          have hul := u1.len.1
          rw [hsz] at hul
          have hus : us = ((cur.toList.take (l.length * ks.length)).drop (i * ks.length)).take ks.length := by
            apply List.ext_getElem?
            intro j
            by_cases hj : j < ks.length
            · have := u2 j us[j] (by simp [hul, hj])
              rw [hsz, ← k6] at this
              rw [List.getElem?_take, if_pos hj, List.getElem?_drop, this]
              simp [hul, hj]
            · rw [List.getElem?_eq_none (by omega), List.getElem?_eq_none (by simp; omega)]
          have hseg := seg_lemma cur.toList (numV ((ks.drop o).take es.length) es) us (i * ks.length) ks.length o (l.length * ks.length) hus (by rw [hvl]; exact hl) hmul (by have e : cur.toList.length = cur.size := Array.length_toList; omega)
          rw [hvl] at hseg
          rw [s2, ← f2, hsz, List.length_set, ← k6, hvl]
          exact hseg
        rw [hfin]
        exact hset.fr fun b hb => ⟨hb, hIm b hb⟩
end
end Go.Proofs.YtbolcnlenmphhaaDoor.Ew

/- Layer 17: QueueSmall. -/
import Derived.Test.YtmolkkphnehgcaaRc
set_option linter.unusedVariables false
set_option linter.unusedSimpArgs false
namespace Go.Proofs.Ytmolkkphnehgcaa.Ew
open Go Go.RowKit
noncomputable section
--P Try.prog G0

def intK : List K := [.i .i64]
def ints : Sh := .lst 3 (Row.ofKs intK) false
def pA : List Bool := [true,true,false,true,false]
def pB : List Bool := [true,true,true,false,true,false]
def pC : List Bool := [true,true,true,false,true,false,false,true,true,false,false,true,true,false]
def preSA (xs : List Int) : Prop := (dc (env xs 0)).length = 10 ∧ rowsOK actK (dc (env xs 0)) ∧ 0 ≤ env xs 1 ∧ env xs 1 ≤ 1000
def muSA (xs : List Int) : Nat := (1000 - env xs 1).toNat
def leSA : LEnt := ⟨⟨9210, 999999, [.lt .b 0, acts, i64], [], [0], .tup [.lt .b 0], fun _ _ => 0, preSA⟩, [0, 1, 29], [0], [2, 3] ++ (List.range 31).map (· + 29), [.ex 0], 166, [1]⟩
def preSC (xs : List Int) : Prop := rowsOK intK (dc (env xs 1)) ∧ env xs 2 = ((dc (env xs 1)).length : Int) ∧ 0 ≤ env xs 3 ∧ env xs 3 ≤ env xs 2
def muSC (xs : List Int) : Nat := (env xs 2 - env xs 3).toNat
def leSC : LEnt := ⟨⟨9211, 999999, [.lt .b 0, i64, ints, i64, i64], [], [0], .tup [.lt .b 0], fun _ _ => 0, preSC⟩, [0, 5, 66, 67, 68], [0], 7 :: (List.range 26).map (· + 68), [.ex 4], 166, [66]⟩
def preSB (xs : List Int) : Prop := rowsOK intK (dc (env xs 0)) ∧ env xs 1 = ((dc (env xs 0)).length : Int) ∧ 0 ≤ env xs 2 ∧ env xs 2 ≤ env xs 1
def muSB (xs : List Int) : Nat := (env xs 1 - env xs 2).toNat
def leSB : LEnt := ⟨⟨9212, 999999, [.lt .b 0, ints, i64, i64], [], [0], .tup [.lt .b 0], fun _ _ => 0, preSB⟩, [0, 60, 61, 62], [0], [5, 7] ++ (List.range 33).map (· + 62), [.ex 2], 166, [60]⟩
def nP : Sh := .nul .nP
def zq : Sh := .obj 55 [.lt .b 0, i64, .nul .nS, .nul .nM]
def T0 : List Int → Prop := fun _ => True
def z0 : Nat → List Int → Int := fun _ _ => 0
def e22n : Ent := ⟨122, 22, [nP, i64], [], [], .lt (.i .i64) 1, z0, T0⟩
def e17n : Ent := ⟨117, 17, [nP], [], [], .lt (.i .i64) 0, z0, T0⟩
def e19n : Ent := ⟨119, 19, [nP], [], [], .lt (.i .i64) 0, z0, T0⟩
def e14n : Ent := ⟨114, 14, [nP], [], [], .nul .nS, z0, T0⟩
def e21z : Ent := ⟨221, 21, [zq, i64, i64], [], [0], .lt (.i .i64) 1, z0, T0⟩
def e22z : Ent := ⟨222, 22, [zq, i64], [], [0], .lt (.i .i64) 1, z0, T0⟩
def e17z : Ent := ⟨217, 17, [zq], [], [0], .lt (.i .i64) 0, z0, T0⟩
def e19z : Ent := ⟨219, 19, [zq], [], [0], .lt (.i .i64) 0, z0, T0⟩
def e14z : Ent := ⟨214, 14, [zq], [], [0], .nul .nS, z0, T0⟩
def e10 : Ent := ⟨10, 10, [], [], [], .lt .b 1, fun _ _ => 0, fun _ => True⟩
def cW0 : Ctx := ⟨[e26], []⟩
def cW1 : Ctx := ⟨[e26], [(10, pC, leSC)]⟩
def cW2 : Ctx := ⟨[e12, e21n, e22n, e17n, e19n, e14n, e21z, e22z, e17z, e19z, e14z], [(10, pA, leSA), (10, pB, leSB)]⟩

def ob_LSA : E := (.and (.or (.not (.cmp .lss (.var (.i .i64) 1) (.lit (.i .i64) 1000))) (.and (.and (.and (.cmp .geq (.dv .rem .i64 (.var (.i .i64) 1) 10) (.lit (.i .i64) 0)) (.cmp .lss (.dv .rem .i64 (.var (.i .i64) 1) 10) (.app (.i .i64) 0 0 [(.var .x 0)]))) (.and (.and (.cmp .geq (.dv .rem .i64 (.var (.i .i64) 1) 10) (.lit (.i .i64) 0)) (.cmp .lss (.dv .rem .i64 (.var (.i .i64) 1) 10) (.app (.i .i64) 0 0 [(.var .x 0)]))) (.and (.and (.cmp .geq (.dv .rem .i64 (.dv .quo .i64 (.var (.i .i64) 1) 10) 10) (.lit (.i .i64) 0)) (.cmp .lss (.dv .rem .i64 (.dv .quo .i64 (.var (.i .i64) 1) 10) 10) (.app (.i .i64) 0 0 [(.var .x 0)]))) (.and (.and (.cmp .geq (.dv .rem .i64 (.dv .quo .i64 (.var (.i .i64) 1) 10) 10) (.lit (.i .i64) 0)) (.cmp .lss (.dv .rem .i64 (.dv .quo .i64 (.var (.i .i64) 1) 10) 10) (.app (.i .i64) 0 0 [(.var .x 0)]))) (.and (.cmp .geq (.dv .quo .i64 (.var (.i .i64) 1) 100) (.lit (.i .i64) 0)) (.cmp .lss (.dv .quo .i64 (.var (.i .i64) 1) 100) (.app (.i .i64) 0 0 [(.var .x 0)]))))))) (.and (.and (.cmp .geq (.dv .rem .i64 (.var (.i .i64) 1) 3) (.lit (.i .i64) 0)) (.cmp .lss (.dv .rem .i64 (.var (.i .i64) 1) 3) (.lit (.i .i64) 3))) (.and (.and (.cmp .geq (.dv .rem .i64 (.var (.i .i64) 1) 3) (.lit (.i .i64) 0)) (.cmp .lss (.dv .rem .i64 (.var (.i .i64) 1) 3) (.lit (.i .i64) 3))) (.app .b 26 1000000 [(.app (.i .i64) 0 1 [(.app .x 0 3 [(.app .x 0 3 [(.app .x 0 3 [(.app .x 0 2 []), (.lit (.i .i64) 0)]), (.lit (.i .i64) 7)]), (.lit (.i .i64) 1099511627774)]), (.dv .rem .i64 (.var (.i .i64) 1) 3), (.lit .x 0)]), (.app .x 0 3 [(.app .x 0 3 [(.app .x 0 3 [(.app .x 0 3 [(.app .x 0 3 [(.app .x 0 2 []), (.app (.i .u8) 0 1 [(.var .x 0), (.dv .rem .i64 (.var (.i .i64) 1) 10), (.lit .x 0)]), (.app (.i .i64) 0 1 [(.var .x 0), (.dv .rem .i64 (.var (.i .i64) 1) 10), (.lit .x 1)]), (.app (.i .i64) 0 1 [(.var .x 0), (.dv .rem .i64 (.var (.i .i64) 1) 10), (.lit .x 2)])]), (.app (.i .u8) 0 1 [(.var .x 0), (.dv .rem .i64 (.dv .quo .i64 (.var (.i .i64) 1) 10) 10), (.lit .x 0)]), (.app (.i .i64) 0 1 [(.var .x 0), (.dv .rem .i64 (.dv .quo .i64 (.var (.i .i64) 1) 10) 10), (.lit .x 1)]), (.app (.i .i64) 0 1 [(.var .x 0), (.dv .rem .i64 (.dv .quo .i64 (.var (.i .i64) 1) 10) 10), (.lit .x 2)])]), (.app (.i .u8) 0 1 [(.var .x 0), (.dv .quo .i64 (.var (.i .i64) 1) 100), (.lit .x 0)]), (.app (.i .i64) 0 1 [(.var .x 0), (.dv .quo .i64 (.var (.i .i64) 1) 100), (.lit .x 1)]), (.app (.i .i64) 0 1 [(.var .x 0), (.dv .quo .i64 (.var (.i .i64) 1) 100), (.lit .x 2)])]), (.lit (.i .u8) 5), (.lit (.i .i64) 0), (.lit (.i .i64) 0)]), (.lit (.i .u8) 5), (.lit (.i .i64) 0), (.lit (.i .i64) 0)])]))))) (.or (.not (.cmp .lss (.var (.i .i64) 1) (.lit (.i .i64) 1000))) (.app .b 9210 1000000 [(.var .x 0), (.bin .add .i64 (.var (.i .i64) 1) (.lit (.i .i64) 1))])))
def es_LSA : List E := []
theorem ev_LSA : evL Try.prog G0 (tabOf cW0.fs) (evFn Try.prog G0 (tabOf cW0.fs) (ltOf cW0.ls) 40 10) 40 (subL cW0.ls 10 pA) leSA (bodyAt Try.prog 10 pA) = some (ob_LSA, es_LSA) := by kernel_rfl

def ob_LSC : E := (.and (.or (.not (.cmp .lss (.var (.i .i64) 3) (.var (.i .i64) 2))) (.and (.and (.cmp .geq (.var (.i .i64) 3) (.lit (.i .i64) 0)) (.cmp .lss (.var (.i .i64) 3) (.app (.i .i64) 0 0 [(.var .x 1)]))) (.app .b 26 1000000 [(.var (.i .i64) 0), (.app .x 0 3 [(.app .x 0 3 [(.app .x 0 3 [(.app .x 0 3 [(.app .x 0 3 [(.app .x 0 3 [(.app .x 0 3 [(.app .x 0 3 [(.app .x 0 3 [(.app .x 0 2 []), (.lit (.i .u8) 7), (.lit (.i .i64) 0), (.app (.i .i64) 0 1 [(.var .x 1), (.var (.i .i64) 3), (.lit .x 0)])]), (.lit (.i .u8) 7), (.lit (.i .i64) 4095), (.app (.i .i64) 0 1 [(.var .x 1), (.var (.i .i64) 3), (.lit .x 0)])]), (.lit (.i .u8) 7), (.lit (.i .i64) 4096), (.app (.i .i64) 0 1 [(.var .x 1), (.var (.i .i64) 3), (.lit .x 0)])]), (.lit (.i .u8) 7), (.lit (.i .i64) (-1)), (.app (.i .i64) 0 1 [(.var .x 1), (.var (.i .i64) 3), (.lit .x 0)])]), (.lit (.i .u8) 7), (.app (.i .i64) 0 1 [(.var .x 1), (.var (.i .i64) 3), (.lit .x 0)]), (.lit (.i .i64) 3)]), (.lit (.i .u8) 7), (.app (.i .i64) 0 1 [(.var .x 1), (.var (.i .i64) 3), (.lit .x 0)]), (.lit (.i .i64) 2)]), (.lit (.i .u8) 7), (.app (.i .i64) 0 1 [(.var .x 1), (.var (.i .i64) 3), (.lit .x 0)]), (.lit (.i .i64) 1)]), (.lit (.i .u8) 5), (.lit (.i .i64) 0), (.lit (.i .i64) 0)]), (.lit (.i .u8) 7), (.app (.i .i64) 0 1 [(.var .x 1), (.var (.i .i64) 3), (.lit .x 0)]), (.lit (.i .i64) 7)])]))) (.or (.not (.cmp .lss (.var (.i .i64) 3) (.var (.i .i64) 2))) (.app .b 9211 1000000 [(.var (.i .i64) 0), (.var .x 1), (.var (.i .i64) 2), (.bin .add .i64 (.var (.i .i64) 3) (.lit (.i .i64) 1))])))
def es_LSC : List E := []
theorem ev_LSC : evL Try.prog G0 (tabOf cW0.fs) (evFn Try.prog G0 (tabOf cW0.fs) (ltOf cW0.ls) 40 10) 40 (subL cW0.ls 10 pC) leSC (bodyAt Try.prog 10 pC) = some (ob_LSC, es_LSC) := by kernel_rfl

def ob_LSB : E := (.and (.or (.not (.cmp .lss (.var (.i .i64) 2) (.var (.i .i64) 1))) (.and (.and (.cmp .geq (.var (.i .i64) 2) (.lit (.i .i64) 0)) (.cmp .lss (.var (.i .i64) 2) (.app (.i .i64) 0 0 [(.var .x 0)]))) (.app .b 9211 1000000 [(.app (.i .i64) 0 1 [(.var .x 0), (.var (.i .i64) 2), (.lit .x 0)]), (.app .x 0 3 [(.app .x 0 3 [(.app .x 0 3 [(.app .x 0 3 [(.app .x 0 3 [(.app .x 0 3 [(.app .x 0 3 [(.app .x 0 3 [(.app .x 0 3 [(.app .x 0 3 [(.app .x 0 3 [(.app .x 0 3 [(.app .x 0 3 [(.app .x 0 3 [(.app .x 0 3 [(.app .x 0 3 [(.app .x 0 3 [(.app .x 0 3 [(.app .x 0 3 [(.app .x 0 2 []), (.lit (.i .i64) (-9223372036854775808))]), (.lit (.i .i64) (-2))]), (.lit (.i .i64) (-1))]), (.lit (.i .i64) 0)]), (.lit (.i .i64) 1)]), (.lit (.i .i64) 9)]), (.lit (.i .i64) 10)]), (.lit (.i .i64) 11)]), (.lit (.i .i64) 12)]), (.lit (.i .i64) 2147483648)]), (.lit (.i .i64) 2147483649)]), (.lit (.i .i64) 2147483657)]), (.lit (.i .i64) 2147483658)]), (.lit (.i .i64) 2147483659)]), (.lit (.i .i64) 1099511627776)]), (.lit (.i .i64) 1101659111424)]), (.lit (.i .i64) 1101659111425)]), (.lit (.i .i64) 9223372036854775806)]), (.lit (.i .i64) 9223372036854775807)]), (.lit (.i .i64) 19), (.lit (.i .i64) 0)]))) (.or (.not (.cmp .lss (.var (.i .i64) 2) (.var (.i .i64) 1))) (.app .b 9212 1000000 [(.var .x 0), (.var (.i .i64) 1), (.bin .add .i64 (.var (.i .i64) 2) (.lit (.i .i64) 1))])))
def es_LSB : List E := []
theorem ev_LSB : evL Try.prog G0 (tabOf cW1.fs) (evFn Try.prog G0 (tabOf cW1.fs) (ltOf cW1.ls) 40 10) 40 (subL cW1.ls 10 pB) leSB (bodyAt Try.prog 10 pB) = some (ob_LSB, es_LSB) := by kernel_rfl

def ob_22n : E := (.lit .b 1)
def es_22n : List E := []
theorem ev_22n : evE Try.prog G0 (tabOf cR0.fs) (ltOf cR0.ls) 40 10 e22n = some (ob_22n, es_22n) := by kernel_rfl

def ob_17n : E := (.lit .b 1)
def es_17n : List E := []
theorem ev_17n : evE Try.prog G0 (tabOf cR0.fs) (ltOf cR0.ls) 40 10 e17n = some (ob_17n, es_17n) := by kernel_rfl

def ob_19n : E := (.lit .b 1)
def es_19n : List E := []
theorem ev_19n : evE Try.prog G0 (tabOf cR0.fs) (ltOf cR0.ls) 40 10 e19n = some (ob_19n, es_19n) := by kernel_rfl

def ob_14n : E := (.lit .b 1)
def es_14n : List E := []
theorem ev_14n : evE Try.prog G0 (tabOf cR0.fs) (ltOf cR0.ls) 40 10 e14n = some (ob_14n, es_14n) := by kernel_rfl

def ob_21z : E := (.lit .b 1)
def es_21z : List E := []
theorem ev_21z : evE Try.prog G0 (tabOf cR0.fs) (ltOf cR0.ls) 40 10 e21z = some (ob_21z, es_21z) := by kernel_rfl

def ob_22z : E := (.lit .b 1)
def es_22z : List E := []
theorem ev_22z : evE Try.prog G0 (tabOf cR0.fs) (ltOf cR0.ls) 40 10 e22z = some (ob_22z, es_22z) := by kernel_rfl

def ob_17z : E := (.lit .b 1)
def es_17z : List E := []
theorem ev_17z : evE Try.prog G0 (tabOf cR0.fs) (ltOf cR0.ls) 40 10 e17z = some (ob_17z, es_17z) := by kernel_rfl

def ob_19z : E := (.lit .b 1)
def es_19z : List E := []
theorem ev_19z : evE Try.prog G0 (tabOf cR0.fs) (ltOf cR0.ls) 40 10 e19z = some (ob_19z, es_19z) := by kernel_rfl

def ob_14z : E := (.lit .b 1)
def es_14z : List E := []
theorem ev_14z : evE Try.prog G0 (tabOf cR0.fs) (ltOf cR0.ls) 40 10 e14z = some (ob_14z, es_14z) := by kernel_rfl

def ob_10 : E := (.and (.app .b 9210 1000000 [(.app .x 0 3 [(.app .x 0 3 [(.app .x 0 3 [(.app .x 0 3 [(.app .x 0 3 [(.app .x 0 3 [(.app .x 0 3 [(.app .x 0 3 [(.app .x 0 3 [(.app .x 0 3 [(.app .x 0 2 []), (.lit (.i .u8) 0), (.lit (.i .i64) 1), (.lit (.i .i64) 0)]), (.lit (.i .u8) 0), (.lit (.i .i64) 2), (.lit (.i .i64) 0)]), (.lit (.i .u8) 0), (.lit (.i .i64) 1), (.lit (.i .i64) 1)]), (.lit (.i .u8) 0), (.lit (.i .i64) 0), (.lit (.i .i64) 2)]), (.lit (.i .u8) 4), (.lit (.i .i64) 1), (.lit (.i .i64) 0)]), (.lit (.i .u8) 5), (.lit (.i .i64) 0), (.lit (.i .i64) 0)]), (.lit (.i .u8) 6), (.lit (.i .i64) 0), (.lit (.i .i64) 2)]), (.lit (.i .u8) 6), (.lit (.i .i64) 0), (.lit (.i .i64) 0)]), (.lit (.i .u8) 7), (.lit (.i .i64) 4095), (.lit (.i .i64) 2147483648)]), (.lit (.i .u8) 7), (.lit (.i .i64) 4096), (.lit (.i .i64) 12)]), (.lit (.i .i64) 0)]) (.and (.app .b 9212 1000000 [(.app .x 0 3 [(.app .x 0 3 [(.app .x 0 3 [(.app .x 0 3 [(.app .x 0 3 [(.app .x 0 3 [(.app .x 0 3 [(.app .x 0 3 [(.app .x 0 3 [(.app .x 0 2 []), (.lit (.i .i64) (-9223372036854775808))]), (.lit (.i .i64) (-1))]), (.lit (.i .i64) 0)]), (.lit (.i .i64) 1)]), (.lit (.i .i64) 10)]), (.lit (.i .i64) 1099511627775)]), (.lit (.i .i64) 1099511627776)]), (.lit (.i .i64) 1099511627777)]), (.lit (.i .i64) 9223372036854775807)]), (.lit (.i .i64) 9), (.lit (.i .i64) 0)]) (.and (.and (.and (.app .b 119 1000000 []) (.and (.app .b 121 1000000 [(.lit (.i .i64) 0), (.lit (.i .i64) 1)]) (.and (.app .b 122 1000000 [(.lit (.i .i64) (-1))]) (.and (.app .b 117 1000000 []) (.and (.app .b 119 1000000 []) (.app .b 114 1000000 [])))))) (.and (.app .b 219 1000000 [(.lit (.i .i64) 0)]) (.and (.app .b 221 1000000 [(.lit (.i .i64) 0), (.lit (.i .i64) 0), (.lit (.i .i64) 1)]) (.and (.app .b 222 1000000 [(.lit (.i .i64) 0), (.lit (.i .i64) (-1))]) (.and (.app .b 217 1000000 [(.lit (.i .i64) 0)]) (.and (.app .b 219 1000000 [(.lit (.i .i64) 0)]) (.app .b 214 1000000 [(.lit (.i .i64) 0)]))))))) (.app .b 12 1000000 []))))
def es_10 : List E := []
theorem ev_10 : evE Try.prog G0 (tabOf cW2.fs) (ltOf cW2.ls) 40 10 e10 = some (ob_10, es_10) := by kernel_rfl

theorem ok22n : EntryOK Try.prog G0 e22n := cR0ok.entryP mixed ev_22n _ rfl _ rfl fun _ _ _ => ⟨rfl, trivial⟩

theorem ok17n : EntryOK Try.prog G0 e17n := cR0ok.entryP mixed ev_17n _ rfl _ rfl fun _ _ _ => ⟨rfl, trivial⟩

theorem ok19n : EntryOK Try.prog G0 e19n := cR0ok.entryP mixed ev_19n _ rfl _ rfl fun _ _ _ => ⟨rfl, trivial⟩

theorem ok14n : EntryOK Try.prog G0 e14n := cR0ok.entryP mixed ev_14n _ rfl _ rfl fun _ _ _ => ⟨rfl, trivial⟩

theorem ok21z : EntryOK Try.prog G0 e21z := cR0ok.entryP mixed ev_21z _ rfl _ rfl fun _ _ _ => ⟨rfl, trivial⟩

theorem ok22z : EntryOK Try.prog G0 e22z := cR0ok.entryP mixed ev_22z _ rfl _ rfl fun _ _ _ => ⟨rfl, trivial⟩

theorem ok17z : EntryOK Try.prog G0 e17z := cR0ok.entryP mixed ev_17z _ rfl _ rfl fun _ _ _ => ⟨rfl, trivial⟩

theorem ok19z : EntryOK Try.prog G0 e19z := cR0ok.entryP mixed ev_19z _ rfl _ rfl fun _ _ _ => ⟨rfl, trivial⟩

theorem ok14z : EntryOK Try.prog G0 e14z := cR0ok.entryP mixed ev_14z _ rfl _ rfl fun _ _ _ => ⟨rfl, trivial⟩

theorem fitsW (x y z : Int) : fits actK [IntKind.u8.wrap x, IntKind.i64.wrap y, IntKind.i64.wrap z] := ⟨K.norm_norm (.i .u8) x, K.norm_norm (.i .i64) y, K.norm_norm (.i .i64) z, trivial⟩

theorem pre26 {now : Int} {rows : RL} (h : ∀ r ∈ rows, fits actK r) (hl : rows.length ≤ 60) : e26.pre [now, cd rows] := by
  show rowsOK actK (dc (cd rows)) ∧ ((dc (cd rows)).length : Int) ≤ 60
  rw [dc_cd]; exact ⟨h, by omega⟩

def okI (l : RL) : Bool := l.all fun r => match r with | [x] => decide (IntKind.i64.wrap x = x) | _ => false
theorem rowsI {l : RL} (h : okI l = true) : rowsOK intK (dc (cd l)) := by
  rw [dc_cd]
  intro r hr
  have := List.all_eq_true.1 h r hr
  match r, this with
  | [x], this => exact ⟨of_decide_eq_true this, trivial⟩

theorem cW0ok : cW0.OK Try.prog G0 := Ctx.OK.nil.addF ok26 rfl

set_option maxHeartbeats 4000000 in
theorem loSA : ItemOK Try.prog G0 10 pA leSA := by
  refine cW0ok.loopP mixed muSA rfl ?_ ev_LSA _ rfl _ rfl ?_
  · exact ⟨_, _, _, Try.func10, rfl, rfl⟩
  intro n xs hf hp hmu
  obtain ⟨l, hl, hS, hF⟩ := self_P leSA muSA n cW0.l (by decide)
  show ob_LSA.tt (Tabs.F (enL leSA muSA n :: cW0.l)) _ = true ∧ outsP leSA.ent.fn _ (Tabs.F (enL leSA muSA n :: cW0.l)) _ _ _ _
  rw [hl]
  have P26 := (hF e26 (by rfl) (by decide) (by decide)).2
  replace P26 : ∀ xs, (i2b (K.b.norm (l.F 26 1000000 xs)) = true) = _ := P26
  have P9210 := hS.2
  replace P9210 : ∀ xs, (i2b (K.b.norm (l.F 9210 1000000 xs)) = true) = _ := P9210
  obtain ⟨c, i, rfl⟩ := two_of (fits_length hf)
  obtain ⟨h0, h1, _⟩ := hf
  simp only [norm_i, norm_x] at h1
  obtain ⟨p1, p2, p3, p4⟩ := hp
  simp only [ewA, ewL, preC, binI, dvI, shI, cmpB, env, bi, List.headD, List.tail, List.map, Nat.reduceAdd] at p1 p2 p3 p4 hmu
  have e2 : leSA.ent.pre = preSA := rfl
  refine ⟨?_, trivial⟩
  by_cases hlt : i < 1000
  · have t1 : i.tmod 10 = i % 10 := Int.tmod_eq_emod_of_nonneg p3
    have t2 : IntKind.i64.wrap (i.tdiv 10) = i / 10 := by rw [Int.tdiv_eq_ediv_of_nonneg p3]; exact i64w (by omega) (by omega)
    have t3 : (i / 10).tmod 10 = i / 10 % 10 := Int.tmod_eq_emod_of_nonneg (by omega)
    have t4 : IntKind.i64.wrap (i.tdiv 100) = i / 100 := by rw [Int.tdiv_eq_ediv_of_nonneg p3]; exact i64w (by omega) (by omega)
    have t5 : i.tmod 3 = i % 3 := Int.tmod_eq_emod_of_nonneg p3
    simp (disch := omega) only [ob_LSA, ewA, ewL, preC, binI, dvI, shI, cmpB, env, bi, List.headD, List.tail, List.map, Nat.reduceAdd, ewB, ewM, if_true, if_false, implies_true, forall_const, ne_eq, reduceCtorEq, Int.reduceEq, Int.reduceLT, Int.reduceLE, Int.reduceToNat, Int.reduceAdd, Int.reduceSub, Int.reduceMul, Int.reduceNeg, Int.reduceBEq, Nat.reduceLT, Nat.reduceEqDiff, P26, P9210, h1, hlt, p1, e2, t1, t2, t3, t4, t5]
    refine ⟨⟨⟨⟨by omega, by omega⟩, ⟨by omega, by omega⟩, ⟨by omega, by omega⟩, ⟨by omega, by omega⟩, by omega, by omega⟩, ⟨by omega, by omega⟩, ⟨by omega, by omega⟩, pre26 (fun r hr => ?_) (by simp)⟩, ⟨p1, p2, by show 0 ≤ i + 1; omega, by show i + 1 ≤ 1000; omega⟩, by simp only [muSA, ewA, ewL, preC, binI, dvI, shI, cmpB, env, bi, List.headD, List.tail, List.map, Nat.reduceAdd] at hmu ⊢; omega⟩
    simp only [List.mem_cons, List.not_mem_nil, or_false] at hr
    rcases hr with rfl | rfl | rfl | rfl | rfl <;> first | exact fitsW _ _ _ | exact ⟨rfl, rfl, rfl, trivial⟩
  · simp (disch := omega) only [ob_LSA, ewA, ewL, preC, binI, dvI, shI, cmpB, env, bi, List.headD, List.tail, List.map, Nat.reduceAdd, ewB, ewM, if_true, if_false, implies_true, forall_const, ne_eq, reduceCtorEq, Int.reduceEq, Int.reduceLT, Int.reduceLE, Int.reduceToNat, Int.reduceAdd, Int.reduceSub, Int.reduceMul, Int.reduceNeg, Int.reduceBEq, Nat.reduceLT, Nat.reduceEqDiff, P26, P9210, h1, hlt, p1, e2]

set_option maxHeartbeats 4000000 in
theorem loSC : ItemOK Try.prog G0 10 pC leSC := by
  refine cW0ok.loopP mixed muSC rfl ?_ ev_LSC _ rfl _ rfl ?_
  · exact ⟨_, _, _, Try.func10, rfl, rfl⟩
  intro n xs hf hp hmu
  obtain ⟨l, hl, hS, hF⟩ := self_P leSC muSC n cW0.l (by decide)
  show ob_LSC.tt (Tabs.F (enL leSC muSC n :: cW0.l)) _ = true ∧ outsP leSC.ent.fn _ (Tabs.F (enL leSC muSC n :: cW0.l)) _ _ _ _
  rw [hl]
  have P26 := (hF e26 (by rfl) (by decide) (by decide)).2
  replace P26 : ∀ xs, (i2b (K.b.norm (l.F 26 1000000 xs)) = true) = _ := P26
  have P9211 := hS.2
  replace P9211 : ∀ xs, (i2b (K.b.norm (l.F 9211 1000000 xs)) = true) = _ := P9211
  match xs, hf with
  | [now, c, m, i], hf =>
    obtain ⟨h0, h1, h2, h3, _⟩ := hf
    simp only [norm_i, norm_x] at h0 h2 h3
    obtain ⟨p1, p2, p3, p4⟩ := hp
    simp only [ewA, ewL, preC, binI, dvI, shI, cmpB, env, bi, List.headD, List.tail, List.map, Nat.reduceAdd] at p1 p2 p3 p4 hmu
    have e2 : leSC.ent.pre = preSC := rfl
    have hm := i64r h2
    refine ⟨?_, trivial⟩
    by_cases hlt : i < m
    · obtain ⟨r, hr, hrf, hrm, hrd⟩ := row_at p1 p3 (by omega)
      match r, hrf with
      | [d], hrf =>
        obtain ⟨k0, _⟩ := hrf
        simp only [norm_i] at k0
        simp (disch := omega) only [ob_LSC, ewA, ewL, preC, binI, dvI, shI, cmpB, env, bi, List.headD, List.tail, List.map, Nat.reduceAdd, ewB, ewM, if_true, if_false, implies_true, forall_const, ne_eq, reduceCtorEq, Int.reduceEq, Int.reduceLT, Int.reduceLE, Int.reduceToNat, Int.reduceAdd, Int.reduceSub, Int.reduceMul, Int.reduceNeg, Int.reduceBEq, Nat.reduceLT, Nat.reduceEqDiff, P26, P9211, h0, h2, h3, hlt, hr, k0, e2]
        refine ⟨⟨⟨p3, by omega⟩, pre26 (fun r hr => ?_) (by simp)⟩, ⟨p1, p2, by show 0 ≤ i + 1; omega, by show i + 1 ≤ m; omega⟩, by simp only [muSC, ewA, ewL, preC, binI, dvI, shI, cmpB, env, bi, List.headD, List.tail, List.map, Nat.reduceAdd] at hmu ⊢; omega⟩
        simp only [List.mem_cons, List.not_mem_nil, or_false] at hr
        rcases hr with rfl | rfl | rfl | rfl | rfl | rfl | rfl | rfl | rfl <;> first | exact ⟨rfl, rfl, k0, trivial⟩ | exact ⟨rfl, k0, rfl, trivial⟩ | exact ⟨rfl, rfl, rfl, trivial⟩
    · simp (disch := omega) only [ob_LSC, ewA, ewL, preC, binI, dvI, shI, cmpB, env, bi, List.headD, List.tail, List.map, Nat.reduceAdd, ewB, ewM, if_true, if_false, implies_true, forall_const, ne_eq, reduceCtorEq, Int.reduceEq, Int.reduceLT, Int.reduceLE, Int.reduceToNat, Int.reduceAdd, Int.reduceSub, Int.reduceMul, Int.reduceNeg, Int.reduceBEq, Nat.reduceLT, Nat.reduceEqDiff, P26, P9211, h0, h2, h3, hlt, e2]

theorem cW1ok : cW1.OK Try.prog G0 := cW0ok.addL loSC rfl

set_option maxHeartbeats 4000000 in
theorem loSB : ItemOK Try.prog G0 10 pB leSB := by
  refine cW1ok.loopP mixed muSB rfl ?_ ev_LSB _ rfl _ rfl ?_
  · exact ⟨_, _, _, Try.func10, rfl, rfl⟩
  intro n xs hf hp hmu
  obtain ⟨l, hl, hS, hF⟩ := self_P leSB muSB n cW1.l (by decide)
  show ob_LSB.tt (Tabs.F (enL leSB muSB n :: cW1.l)) _ = true ∧ outsP leSB.ent.fn _ (Tabs.F (enL leSB muSB n :: cW1.l)) _ _ _ _
  rw [hl]
  have P9211 := (hF leSC.ent (by rfl) (by decide) (by decide)).2
  replace P9211 : ∀ xs, (i2b (K.b.norm (l.F 9211 1000000 xs)) = true) = _ := P9211
  have P9212 := hS.2
  replace P9212 : ∀ xs, (i2b (K.b.norm (l.F 9212 1000000 xs)) = true) = _ := P9212
  match xs, hf with
  | [c, m, i], hf =>
    obtain ⟨h0, h1, h2, _⟩ := hf
    simp only [norm_i, norm_x] at h1 h2
    obtain ⟨p1, p2, p3, p4⟩ := hp
    simp only [ewA, ewL, preC, binI, dvI, shI, cmpB, env, bi, List.headD, List.tail, List.map, Nat.reduceAdd] at p1 p2 p3 p4 hmu
    have e2 : leSB.ent.pre = preSB := rfl
    have hm := i64r h1
    refine ⟨?_, trivial⟩
    by_cases hlt : i < m
    · obtain ⟨r, hr, hrf, hrm, hrd⟩ := row_at p1 p3 (by omega)
      match r, hrf with
      | [d], hrf =>
        obtain ⟨k0, _⟩ := hrf
        simp only [norm_i] at k0
        simp (disch := omega) only [ob_LSB, ewA, ewL, preC, binI, dvI, shI, cmpB, env, bi, List.headD, List.tail, List.map, Nat.reduceAdd, ewB, ewM, if_true, if_false, implies_true, forall_const, ne_eq, reduceCtorEq, Int.reduceEq, Int.reduceLT, Int.reduceLE, Int.reduceToNat, Int.reduceAdd, Int.reduceSub, Int.reduceMul, Int.reduceNeg, Int.reduceBEq, Nat.reduceLT, Nat.reduceEqDiff, P9211, P9212, h1, h2, hlt, hr, k0, e2]
        refine ⟨⟨⟨p3, by omega⟩, ⟨?_, ?_, by show (0 : Int) ≤ 0; omega, by show (0 : Int) ≤ 19; omega⟩⟩, ⟨p1, p2, by show 0 ≤ i + 1; omega, by show i + 1 ≤ m; omega⟩, by simp only [muSB, ewA, ewL, preC, binI, dvI, shI, cmpB, env, bi, List.headD, List.tail, List.map, Nat.reduceAdd] at hmu ⊢; omega⟩
        · exact rowsI (by kernel_rfl)
        · show (19 : Int) = ((dc (cd _)).length : Int); rw [dc_cd]; rfl
    · simp (disch := omega) only [ob_LSB, ewA, ewL, preC, binI, dvI, shI, cmpB, env, bi, List.headD, List.tail, List.map, Nat.reduceAdd, ewB, ewM, if_true, if_false, implies_true, forall_const, ne_eq, reduceCtorEq, Int.reduceEq, Int.reduceLT, Int.reduceLE, Int.reduceToNat, Int.reduceAdd, Int.reduceSub, Int.reduceMul, Int.reduceNeg, Int.reduceBEq, Nat.reduceLT, Nat.reduceEqDiff, P9211, P9212, h1, h2, hlt, e2]

theorem cW2ok : cW2.OK Try.prog G0 := by
  have h1 : Ctx.OK Try.prog G0 ⟨cW2.fs, []⟩ := ((((((((((Ctx.OK.nil.addF ok14z rfl).addF ok19z rfl).addF ok17z rfl).addF ok22z rfl).addF ok21z rfl).addF ok14n rfl).addF ok19n rfl).addF ok17n rfl).addF ok22n rfl).addF ok21n rfl).addF ok12 rfl
  have h2 : Ctx.OK Try.prog G0 ⟨e26 :: cW2.fs, [(10, pC, leSC)]⟩ := (h1.addF ok26 rfl).addL loSC rfl
  exact ((h1.addL loSB rfl).addL loSA rfl)

theorem ok10 : EntryOK Try.prog G0 e10 := cW2ok.entryP mixed ev_10 _ rfl _ rfl fun xs hf hp => by
  obtain ⟨l, hl, hF⟩ := ctx_P (l0 := cW2.l)
  show ob_10.tt cW2.l.F _ = true ∧ outsP e10.fn _ cW2.l.F _ _ _ _
  rw [hl]
  have P12 := (hF e12 (by rfl) (by decide)).2
  replace P12 : ∀ xs, (i2b (K.b.norm (l.F 12 1000000 xs)) = true) = _ := P12
  have P114 := (hF e14n (by rfl) (by decide)).2
  replace P114 : ∀ xs, (i2b (K.b.norm (l.F 114 1000000 xs)) = true) = _ := P114
  have P117 := (hF e17n (by rfl) (by decide)).2
  replace P117 : ∀ xs, (i2b (K.b.norm (l.F 117 1000000 xs)) = true) = _ := P117
  have P119 := (hF e19n (by rfl) (by decide)).2
  replace P119 : ∀ xs, (i2b (K.b.norm (l.F 119 1000000 xs)) = true) = _ := P119
  have P121 := (hF e21n (by rfl) (by decide)).2
  replace P121 : ∀ xs, (i2b (K.b.norm (l.F 121 1000000 xs)) = true) = _ := P121
  have P122 := (hF e22n (by rfl) (by decide)).2
  replace P122 : ∀ xs, (i2b (K.b.norm (l.F 122 1000000 xs)) = true) = _ := P122
  have P214 := (hF e14z (by rfl) (by decide)).2
  replace P214 : ∀ xs, (i2b (K.b.norm (l.F 214 1000000 xs)) = true) = _ := P214
  have P217 := (hF e17z (by rfl) (by decide)).2
  replace P217 : ∀ xs, (i2b (K.b.norm (l.F 217 1000000 xs)) = true) = _ := P217
  have P219 := (hF e19z (by rfl) (by decide)).2
  replace P219 : ∀ xs, (i2b (K.b.norm (l.F 219 1000000 xs)) = true) = _ := P219
  have P221 := (hF e21z (by rfl) (by decide)).2
  replace P221 : ∀ xs, (i2b (K.b.norm (l.F 221 1000000 xs)) = true) = _ := P221
  have P222 := (hF e22z (by rfl) (by decide)).2
  replace P222 : ∀ xs, (i2b (K.b.norm (l.F 222 1000000 xs)) = true) = _ := P222
  have P9210 := (hF leSA.ent (by rfl) (by decide)).2
  replace P9210 : ∀ xs, (i2b (K.b.norm (l.F 9210 1000000 xs)) = true) = _ := P9210
  have P9212 := (hF leSB.ent (by rfl) (by decide)).2
  replace P9212 : ∀ xs, (i2b (K.b.norm (l.F 9212 1000000 xs)) = true) = _ := P9212
  refine ⟨?_, trivial⟩
  simp (disch := omega) only [ob_10, ewA, ewL, preC, binI, dvI, shI, cmpB, env, bi, List.headD, List.tail, List.map, Nat.reduceAdd, ewB, ewM, if_true, if_false, implies_true, forall_const, ne_eq, reduceCtorEq, Int.reduceEq, Int.reduceLT, Int.reduceLE, Int.reduceToNat, Int.reduceAdd, Int.reduceSub, Int.reduceMul, Int.reduceNeg, Int.reduceBEq, Nat.reduceLT, Nat.reduceEqDiff, P12, P114, P117, P119, P121, P122, P214, P217, P219, P221, P222, P9210, P9212]
  refine ⟨⟨?_, ?_, by show (0 : Int) ≤ 0; omega, by show (0 : Int) ≤ 1000; omega⟩, ⟨?_, ?_, by show (0 : Int) ≤ 0; omega, by show (0 : Int) ≤ 9; omega⟩, ⟨⟨trivial, trivial, trivial, trivial, trivial, trivial⟩, trivial, trivial, trivial, trivial, trivial, trivial⟩, trivial⟩
  · show (dc (cd _)).length = 10; rw [dc_cd]; rfl
  · show rowsOK actK (dc (cd _)); rw [dc_cd]
    intro r hr
    simp only [List.mem_cons, List.not_mem_nil, or_false] at hr
    rcases hr with rfl | rfl | rfl | rfl | rfl | rfl | rfl | rfl | rfl | rfl <;> exact ⟨rfl, rfl, rfl, trivial⟩
  · exact rowsI (by kernel_rfl)
  · show (9 : Int) = ((dc (cd _)).length : Int); rw [dc_cd]; rfl

end
end Go.Proofs.Ytmolkkphnehgcaa.Ew

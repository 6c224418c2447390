/- Layer 18: the wheel's inner functions. -/
import Derived.Test.YtfhheeoejncfgaaChecked
import Derived.Test.YtfhheeoejncfgaaHa
import Derived.Test.YtfhheeoejncfgaaWr
set_option linter.unusedVariables false
set_option linter.unusedSimpArgs false
namespace Go.Proofs.Ytfhheeoejncfgaa.Ew
open Go Go.RowKit
noncomputable section
--P Try.prog G0

def G0 : Glob := fun _ _ => none
def i64 : Sh := .sc (.i .i64)
def bS : Sh := .sc .b
def k5 : List K := [.i .i64, .i .i64, .i .i64, .i .i64, .i .i64]
def k3 : List K := [.i .i64, .i .i64, .i .i64]
def ltm : Sh := .lst 79 (Row.ofKs k5) true
def wsh : Sh := .seg 74 k3 [i64, i64, i64, i64, ltm]
def wob : Ob := { j := 0, ty := 74, tl := some k3, cs := [.sc .x, i64, i64, i64, i64, ltm] }
def pin : Sh := .pin 0 5 3
def z0 : Nat → List Int → Int := fun _ _ => 0
def T0 : List Int → Prop := fun _ => True
/-- The block of a level of a time. -/
def blk (k t : Int) : Int := t / 256 ^ k.toNat
def fn71 (_ : Nat) (xs : List Int) : Int := blk (env xs 0) (env xs 1)
def e71 : Ent := ⟨71, 71, [i64, i64], [], [], i64, fn71, fun xs => 0 ≤ env xs 0 ∧ env xs 0 ≤ 4⟩
def T5 (xs : List Int) : RL := dc (env xs 5)
def S3 (xs : List Int) : RL := dc (env xs 0)
def nowW (xs : List Int) : Int := env xs 1
def locI (now : Int) (T : RL) (i : Nat) : Int := if gC T i 4 ≤ now then 2048 else gC T i 0 * 512 + gC T i 1
def ofOK (now : Int) (T : RL) (i : Nat) : Prop := now < gC T i 4 → 0 ≤ gC T i 0 ∧ gC T i 0 < 4 ∧ 0 ≤ gC T i 1 ∧ gC T i 1 < 512
/-- Rows of the right kinds that hold these lists. -/
structure WL (S T le : Int) (Q : Nat → List Nat) : Prop where
  rS : rowsOK k3 (dc S)
  rT : rowsOK k5 (dc T)
  ct : 0 < (dc T).length ∧ (dc T).length ≤ 4096
  lk : Lk (dc T) (dc S) Q (dc T).length
  le : 0 ≤ le ∧ le ≤ 4096
def WLx (xs : List Int) : Prop := ∃ Q, WL (env xs 0) (env xs 5) (env xs 3) Q
def lenT (xs : List Int) : Int := ((dc (env xs 5)).length : Int)
def e46 : Ent := ⟨46, 46, [wsh], [], [0, 1], .lt .b 0, z0, fun xs => 0 < lenT xs ∧ lenT xs ≤ 4096⟩
def e47 : Ent := ⟨47, 47, [wsh, i64], [], [0, 1], bS, fun _ xs => b2i (decide (0 ≤ env xs 6) && decide (env xs 6 < lenT xs)), fun xs => 0 < lenT xs ∧ lenT xs ≤ 4096⟩
def idW (xs : List Int) : Nat := (env xs 6).toNat
def pre69 (xs : List Int) : Prop := rowsOK k5 (T5 xs) ∧ (T5 xs).length ≤ 4096 ∧ 0 ≤ env xs 6 ∧ env xs 6 < lenT xs ∧ ofOK (nowW xs) (T5 xs) (idW xs)
def e69 : Ent := ⟨69, 69, [wsh, i64], [], [0, 1], pin, fun _ xs => locI (nowW xs) (T5 xs) (idW xs), pre69⟩
def lvF (now d : Int) : Int := if blk 1 d ≤ blk 1 now + 1 then 0 else if blk 2 d ≤ blk 2 now + 1 then 1 else if blk 3 d ≤ blk 3 now + 1 then 2 else 3
def fn70 (j : Nat) (xs : List Int) : Int := match j with
  | 0 => lvF (nowW xs) (env xs 6)
  | _ => blk (lvF (nowW xs) (env xs 6)) (env xs 6) % 512
def pre70 (xs : List Int) : Prop := 0 ≤ nowW xs ∧ nowW xs ≤ 1099511627776 ∧ 0 ≤ env xs 6 ∧ env xs 6 ≤ 1101659111424
def e70 : Ent := ⟨70, 70, [wsh, i64], [], [0, 1], .agg [i64, i64], fn70, pre70⟩
def fn48 (j : Nat) (xs : List Int) : Int := match j with
  | 0 => cd (dropS (S3 xs) (locI (nowW xs) (T5 xs) (idW xs)).toNat (gC (T5 xs) (idW xs) 2) (gC (T5 xs) (idW xs) 3))
  | 1 => env xs 1
  | 2 => env xs 2
  | 3 => env xs 3 - 1
  | 4 => env xs 4
  | _ => cd (dropT (T5 xs) (idW xs))
/-- The timer is in the list where it is looked for. -/
def pre48 (xs : List Int) : Prop := ∃ Q, WL (env xs 0) (env xs 5) (env xs 3) Q ∧ 0 ≤ env xs 6 ∧ env xs 6 < lenT xs ∧ ofOK (nowW xs) (T5 xs) (idW xs) ∧ idW xs ∈ Q (locI (nowW xs) (T5 xs) (idW xs)).toNat
def e48 : Ent := ⟨48, 48, [wsh, i64], [wob], [], .tup [], fn48, pre48⟩
/-- The list of a deadline. -/
def kW (now d : Int) : Int := if d ≤ now then 2048 else lvF now d * 512 + blk (lvF now d) d % 512
def fn49 (j : Nat) (xs : List Int) : Int := match j with
  | 0 => cd (putS (S3 xs) (kW (nowW xs) (env xs 7)).toNat (idW xs))
  | 1 => env xs 1
  | 2 => env xs 2
  | 3 => env xs 3 + 1
  | 4 => env xs 4
  | _ => cd (putT (T5 xs) (idW xs) (lvF (nowW xs) (env xs 7)) (blk (lvF (nowW xs) (env xs 7)) (env xs 7) % 512) (env xs 7) (gC (S3 xs) (kW (nowW xs) (env xs 7)).toNat 1))
def pre49 (xs : List Int) : Prop := ∃ Q, WL (env xs 0) (env xs 5) (env xs 3) Q ∧ 0 ≤ env xs 6 ∧ env xs 6 < lenT xs ∧ (∀ m, idW xs ∉ Q m) ∧ (0 ≤ nowW xs ∧ nowW xs ≤ 1099511627776) ∧ 0 ≤ env xs 7 ∧ env xs 7 ≤ 1101659111424
def e49 : Ent := ⟨49, 49, [wsh, i64, i64], [wob], [], .tup [], fn49, pre49⟩
def fn50 (j : Nat) (xs : List Int) : Int := match j with
  | 0 => if gC (S3 xs) (idW xs) 2 = 0 then env xs 0 else cd (joinS (S3 xs) (idW xs))
  | 1 => env xs 1
  | 2 => env xs 2
  | 3 => env xs 3
  | 4 => env xs 4
  | _ => if gC (S3 xs) (idW xs) 2 = 0 then env xs 5 else cd (joinT (T5 xs) (gC (S3 xs) (idW xs) 0) (gC (S3 xs) 2048 1))
def pre50 (xs : List Int) : Prop := ∃ Q, WL (env xs 0) (env xs 5) (env xs 3) Q ∧ 0 ≤ env xs 6 ∧ env xs 6 < 2048
def e50 : Ent := ⟨50, 50, [wsh, pin], [wob], [], .tup [], fn50, pre50⟩
def wK (k now : Int) : Nat := (k * 512 + (blk k now + 1) % 512).toNat
def wtF (S : RL) (now : Int) : Int := if 0 < gC S (wK 1 now) 2 then gC S (wK 1 now) 0 else if 0 < gC S (wK 2 now) 2 then gC S (wK 2 now) 0 else if 0 < gC S (wK 3 now) 2 then gC S (wK 3 now) 0 else 0
def e51 : Ent := ⟨51, 51, [wsh], [], [0, 1], i64, fun _ xs => wtF (S3 xs) (nowW xs), fun xs => rowsOK k3 (S3 xs) ∧ (S3 xs).length = 2049 ∧ 0 ≤ nowW xs ∧ nowW xs ≤ 1099511627776⟩
def cA : Ctx := ⟨[], []⟩
def cB : Ctx := ⟨[e71], []⟩
def cC : Ctx := ⟨[e69, e70], []⟩

def ob_71 : E := (.cmp .geq (.bin .mul .i64 (.lit (.i .i64) 8) (.var (.i .i64) 0)) (.lit (.i .i64) 0))
def es_71 : List E := [(.sh .shr .i64 (.var (.i .i64) 1) (.bin .mul .i64 (.lit (.i .i64) 8) (.var (.i .i64) 0)))]
theorem ev_71 : evE Try.prog G0 (tabOf cA.fs) (ltOf cA.ls) 40 10 e71 = some (ob_71, es_71) := by kernel_rfl

def ob_46 : E := (.not (.cmp .eql (.app (.i .i64) 0 0 [(.var .x 5)]) (.lit (.i .i64) 0)))
def es_46 : List E := []
theorem ev_46 : evE Try.prog G0 (tabOf cA.fs) (ltOf cA.ls) 40 10 e46 = some (ob_46, es_46) := by kernel_rfl

def ob_47 : E := (.lit .b 1)
def es_47 : List E := [(.and (.cmp .geq (.var (.i .i64) 6) (.lit (.i .i64) 0)) (.cmp .lss (.var (.i .i64) 6) (.app (.i .i64) 0 0 [(.var .x 5)])))]
theorem ev_47 : evE Try.prog G0 (tabOf cA.fs) (ltOf cA.ls) 40 10 e47 = some (ob_47, es_47) := by kernel_rfl

def q_69_0 : E := (.and (.cmp .geq (.var (.i .i64) 6) (.lit (.i .i64) 0)) (.cmp .lss (.var (.i .i64) 6) (.app (.i .i64) 0 0 [(.var .x 5)])))
def q_69_1 : E := (.cmp .leq (.app (.i .i64) 0 1 [(.var .x 5), (.var (.i .i64) 6), (.lit .x 4)]) (.var (.i .i64) 1))
def q_69_2 : E := (.cmp .geq (.app (.i .i64) 0 1 [(.var .x 5), (.var (.i .i64) 6), (.lit .x 0)]) (.lit (.i .i64) 0))
def ob_69 : E := (.and q_69_0 (.and q_69_0 (.or q_69_1 (.and q_69_0 (.and q_69_0 (.and (.and q_69_2 (.cmp .lss (.app (.i .i64) 0 1 [(.var .x 5), (.var (.i .i64) 6), (.lit .x 0)]) (.lit (.i .i64) 4))) (.and (.and q_69_2 (.cmp .lss (.app (.i .i64) 0 1 [(.var .x 5), (.var (.i .i64) 6), (.lit .x 0)]) (.lit (.i .i64) 1000000000))) (.and (.cmp .geq (.app (.i .i64) 0 1 [(.var .x 5), (.var (.i .i64) 6), (.lit .x 1)]) (.lit (.i .i64) 0)) (.cmp .lss (.app (.i .i64) 0 1 [(.var .x 5), (.var (.i .i64) 6), (.lit .x 1)]) (.lit (.i .i64) 512))))))))))
def es_69 : List E := [(.ite q_69_1 (.lit (.i .i64) 2048) (.bin .add .i64 (.bin .mul .i64 (.app (.i .i64) 0 1 [(.var .x 5), (.var (.i .i64) 6), (.lit .x 0)]) (.lit (.i .i64) 512)) (.app (.i .i64) 0 1 [(.var .x 5), (.var (.i .i64) 6), (.lit .x 1)])))]
theorem ev_69 : evE Try.prog G0 (tabOf cA.fs) (ltOf cA.ls) 40 10 e69 = some (ob_69, es_69) := by kernel_rfl

def q_70_0 : E := (.cmp .gtr (.app (.i .i64) 71 0 [(.lit (.i .i64) 1), (.var (.i .i64) 6)]) (.bin .add .i64 (.app (.i .i64) 71 0 [(.lit (.i .i64) 1), (.var (.i .i64) 1)]) (.lit (.i .i64) 1)))
def q_70_1 : E := (.not q_70_0)
def q_70_2 : E := (.cmp .gtr (.app (.i .i64) 71 0 [(.lit (.i .i64) 2), (.var (.i .i64) 6)]) (.bin .add .i64 (.app (.i .i64) 71 0 [(.lit (.i .i64) 2), (.var (.i .i64) 1)]) (.lit (.i .i64) 1)))
def q_70_3 : E := (.not q_70_2)
def q_70_4 : E := (.cmp .gtr (.app (.i .i64) 71 0 [(.lit (.i .i64) 3), (.var (.i .i64) 6)]) (.bin .add .i64 (.app (.i .i64) 71 0 [(.lit (.i .i64) 3), (.var (.i .i64) 1)]) (.lit (.i .i64) 1)))
def q_70_5 : E := (.not q_70_4)
def q_70_6 : E := (.ite q_70_1 (.lit (.i .i64) 0) (.ite q_70_3 (.lit (.i .i64) 1) (.ite q_70_5 (.lit (.i .i64) 2) (.lit (.i .i64) 3))))
def ob_70 : E := (.and (.and (.and (.app .b 71 1000000 [(.lit (.i .i64) 1), (.var (.i .i64) 6)]) (.app .b 71 1000000 [(.lit (.i .i64) 1), (.var (.i .i64) 1)])) (.or q_70_1 (.and (.and (.app .b 71 1000000 [(.lit (.i .i64) 2), (.var (.i .i64) 6)]) (.app .b 71 1000000 [(.lit (.i .i64) 2), (.var (.i .i64) 1)])) (.or q_70_3 (.and (.app .b 71 1000000 [(.lit (.i .i64) 3), (.var (.i .i64) 6)]) (.app .b 71 1000000 [(.lit (.i .i64) 3), (.var (.i .i64) 1)])))))) (.or (.not (.or q_70_1 (.and q_70_0 (.or q_70_3 (.and q_70_2 (.or q_70_5 q_70_4)))))) (.app .b 71 1000000 [q_70_6, (.var (.i .i64) 6)])))
def es_70 : List E := [q_70_6, (.dv .rem .i64 (.app (.i .i64) 71 0 [q_70_6, (.var (.i .i64) 6)]) 512)]
theorem ev_70 : evE Try.prog G0 (tabOf cB.fs) (ltOf cB.ls) 40 10 e70 = some (ob_70, es_70) := by kernel_rfl

def q_48_0 : E := (.and (.cmp .geq (.var (.i .i64) 6) (.lit (.i .i64) 0)) (.cmp .lss (.var (.i .i64) 6) (.app (.i .i64) 0 0 [(.var .x 5)])))
def q_48_1 : E := (.cmp .gtr (.app (.i .i64) 0 1 [(.var .x 5), (.var (.i .i64) 6), (.lit .x 2)]) (.lit (.i .i64) 0))
def q_48_2 : E := (.bin .sub .i64 (.app (.i .i64) 0 1 [(.var .x 5), (.var (.i .i64) 6), (.lit .x 2)]) (.lit (.i .i64) 1))
def q_48_3 : E := (.app (.i .i64) 69 0 [(.var .x 0), (.var (.i .i64) 1), (.var (.i .i64) 2), (.var (.i .i64) 3), (.var (.i .i64) 4), (.var .x 5), (.var (.i .i64) 6)])
def q_48_4 : E := (.cmp .geq q_48_3 (.lit (.i .i64) 0))
def q_48_5 : E := (.and q_48_4 (.cmp .lss q_48_3 (.lit (.i .i64) 1000000000)))
def q_48_6 : E := (.ite q_48_1 (.app .x 0 6 [(.var .x 5), q_48_2, (.lit .x 3), (.app (.i .i64) 0 1 [(.var .x 5), (.var (.i .i64) 6), (.lit .x 3)])]) (.var .x 5))
def q_48_7 : E := (.app (.i .i64) 0 1 [q_48_6, (.var (.i .i64) 6), (.lit .x 3)])
def q_48_8 : E := (.cmp .gtr q_48_7 (.lit (.i .i64) 0))
def q_48_9 : E := (.bin .sub .i64 q_48_7 (.lit (.i .i64) 1))
def q_48_10 : E := (.ite q_48_1 (.var .x 0) (.app .x 0 6 [(.var .x 0), q_48_3, (.lit .x 0), (.app (.i .i64) 0 1 [(.var .x 5), (.var (.i .i64) 6), (.lit .x 3)])]))
def q_48_11 : E := (.app (.i .i64) 0 1 [q_48_6, (.var (.i .i64) 6), (.lit .x 2)])
def q_48_12 : E := (.ite q_48_8 q_48_10 (.app .x 0 6 [q_48_10, q_48_3, (.lit .x 1), q_48_11]))
def ob_48 : E := (.and (.and (.app .b 69 1000000 [(.var .x 0), (.var (.i .i64) 1), (.var (.i .i64) 2), (.var (.i .i64) 3), (.var (.i .i64) 4), (.var .x 5), (.var (.i .i64) 6)]) q_48_0) (.and (.and q_48_0 (.and (.or (.not q_48_1) (.and q_48_0 (.and q_48_0 (.and (.cmp .geq q_48_2 (.lit (.i .i64) 0)) (.cmp .lss q_48_2 (.app (.i .i64) 0 0 [(.var .x 5)])))))) (.or q_48_1 (.and q_48_0 (.and q_48_5 (.and q_48_4 (.cmp .lss q_48_3 (.app (.i .i64) 0 0 [(.var .x 0)])))))))) (.and (.and q_48_0 (.and (.or (.not q_48_8) (.and q_48_0 (.and q_48_0 (.and (.cmp .geq q_48_9 (.lit (.i .i64) 0)) (.cmp .lss q_48_9 (.app (.i .i64) 0 0 [(.var .x 5)])))))) (.or q_48_8 (.and q_48_0 (.and q_48_5 (.and q_48_4 (.cmp .lss q_48_3 (.app (.i .i64) 0 0 [q_48_10])))))))) (.and (.and q_48_5 (.and q_48_4 (.cmp .lss q_48_3 (.app (.i .i64) 0 0 [q_48_12])))) q_48_0))))
def es_48 : List E := [(.app .x 0 6 [q_48_12, q_48_3, (.lit .x 2), (.bin .sub .i64 (.app (.i .i64) 0 1 [q_48_12, q_48_3, (.lit .x 2)]) (.lit (.i .i64) 1))]), (.var (.i .i64) 1), (.var (.i .i64) 2), (.bin .sub .i64 (.var (.i .i64) 3) (.lit (.i .i64) 1)), (.var (.i .i64) 4), (.app .x 0 6 [(.ite q_48_8 (.app .x 0 6 [q_48_6, q_48_9, (.lit .x 2), q_48_11]) q_48_6), (.var (.i .i64) 6), (.lit .x 0), (.lit (.i .i64) 0), (.lit (.i .i64) 0), (.lit (.i .i64) 0), (.lit (.i .i64) 0), (.lit (.i .i64) 0)])]
theorem ev_48 : evE Try.prog G0 (tabOf cC.fs) (ltOf cC.ls) 40 10 e48 = some (ob_48, es_48) := by kernel_rfl

def q_49_0 : E := (.and (.cmp .geq (.var (.i .i64) 6) (.lit (.i .i64) 0)) (.cmp .lss (.var (.i .i64) 6) (.app (.i .i64) 0 0 [(.var .x 5)])))
def q_49_1 : E := (.app .x 0 6 [(.app .x 0 6 [(.var .x 5), (.var (.i .i64) 6), (.lit .x 0), (.app (.i .i64) 70 0 [(.var .x 0), (.var (.i .i64) 1), (.var (.i .i64) 2), (.var (.i .i64) 3), (.var (.i .i64) 4), (.var .x 5), (.var (.i .i64) 7)]), (.app (.i .i64) 70 1 [(.var .x 0), (.var (.i .i64) 1), (.var (.i .i64) 2), (.var (.i .i64) 3), (.var (.i .i64) 4), (.var .x 5), (.var (.i .i64) 7)])]), (.var (.i .i64) 6), (.lit .x 4), (.var (.i .i64) 7)])
def q_49_2 : E := (.app (.i .i64) 69 0 [(.var .x 0), (.var (.i .i64) 1), (.var (.i .i64) 2), (.var (.i .i64) 3), (.var (.i .i64) 4), q_49_1, (.var (.i .i64) 6)])
def q_49_3 : E := (.cmp .geq q_49_2 (.lit (.i .i64) 0))
def q_49_4 : E := (.and q_49_3 (.cmp .lss q_49_2 (.lit (.i .i64) 1000000000)))
def q_49_5 : E := (.and q_49_4 (.and q_49_3 (.cmp .lss q_49_2 (.app (.i .i64) 0 0 [(.var .x 0)]))))
def q_49_6 : E := (.app (.i .i64) 0 1 [(.var .x 0), q_49_2, (.lit .x 1)])
def q_49_7 : E := (.cmp .gtr q_49_6 (.lit (.i .i64) 0))
def q_49_8 : E := (.bin .sub .i64 q_49_6 (.lit (.i .i64) 1))
def q_49_9 : E := (.ite q_49_7 (.var .x 0) (.app .x 0 6 [(.var .x 0), q_49_2, (.lit .x 0), (.bin .add .i64 (.var (.i .i64) 6) (.lit (.i .i64) 1))]))
def q_49_10 : E := (.app .x 0 6 [q_49_9, q_49_2, (.lit .x 1), (.bin .add .i64 (.var (.i .i64) 6) (.lit (.i .i64) 1))])
def q_49_11 : E := (.app .x 0 6 [(.app .x 0 6 [q_49_1, (.var (.i .i64) 6), (.lit .x 2), q_49_6]), (.var (.i .i64) 6), (.lit .x 3), (.lit (.i .i64) 0)])
def ob_49 : E := (.and q_49_0 (.and (.and (.app .b 70 1000000 [(.var .x 0), (.var (.i .i64) 1), (.var (.i .i64) 2), (.var (.i .i64) 3), (.var (.i .i64) 4), (.var .x 5), (.var (.i .i64) 7)]) q_49_0) (.and (.app .b 69 1000000 [(.var .x 0), (.var (.i .i64) 1), (.var (.i .i64) 2), (.var (.i .i64) 3), (.var (.i .i64) 4), q_49_1, (.var (.i .i64) 6)]) (.and (.and q_49_5 q_49_0) (.and (.and q_49_5 (.and (.or (.not q_49_7) (.and q_49_5 (.and (.cmp .geq q_49_8 (.lit (.i .i64) 0)) (.cmp .lss q_49_8 (.app (.i .i64) 0 0 [(.var .x 5)]))))) (.or q_49_7 q_49_5))) (.and (.and q_49_4 (.and q_49_3 (.cmp .lss q_49_2 (.app (.i .i64) 0 0 [q_49_9])))) (.and q_49_4 (.and q_49_3 (.cmp .lss q_49_2 (.app (.i .i64) 0 0 [q_49_10]))))))))))
def es_49 : List E := [(.app .x 0 6 [q_49_10, q_49_2, (.lit .x 2), (.bin .add .i64 (.app (.i .i64) 0 1 [q_49_10, q_49_2, (.lit .x 2)]) (.lit (.i .i64) 1))]), (.var (.i .i64) 1), (.var (.i .i64) 2), (.bin .add .i64 (.var (.i .i64) 3) (.lit (.i .i64) 1)), (.var (.i .i64) 4), (.ite q_49_7 (.app .x 0 6 [q_49_11, q_49_8, (.lit .x 3), (.bin .add .i64 (.var (.i .i64) 6) (.lit (.i .i64) 1))]) q_49_11)]
theorem ev_49 : evE Try.prog G0 (tabOf cC.fs) (ltOf cC.ls) 40 10 e49 = some (ob_49, es_49) := by kernel_rfl

def q_50_0 : E := (.and (.cmp .geq (.var (.i .i64) 6) (.lit (.i .i64) 0)) (.cmp .lss (.var (.i .i64) 6) (.lit (.i .i64) 1000000000)))
def q_50_1 : E := (.and q_50_0 (.and (.cmp .geq (.var (.i .i64) 6) (.lit (.i .i64) 0)) (.cmp .lss (.var (.i .i64) 6) (.app (.i .i64) 0 0 [(.var .x 0)]))))
def q_50_2 : E := (.cmp .eql (.app (.i .i64) 0 1 [(.var .x 0), (.var (.i .i64) 6), (.lit .x 2)]) (.lit (.i .i64) 0))
def q_50_3 : E := (.cmp .gtr (.app (.i .i64) 0 1 [(.var .x 0), (.lit (.i .i64) 2048), (.lit .x 1)]) (.lit (.i .i64) 0))
def q_50_4 : E := (.bin .sub .i64 (.app (.i .i64) 0 1 [(.var .x 0), (.lit (.i .i64) 2048), (.lit .x 1)]) (.lit (.i .i64) 1))
def q_50_5 : E := (.ite q_50_3 (.var .x 0) (.app .x 0 6 [(.var .x 0), (.lit (.i .i64) 2048), (.lit .x 0), (.app (.i .i64) 0 1 [(.var .x 0), (.var (.i .i64) 6), (.lit .x 0)])]))
def q_50_6 : E := (.app (.i .i64) 0 0 [q_50_5])
def q_50_7 : E := (.and q_50_0 (.and (.cmp .geq (.var (.i .i64) 6) (.lit (.i .i64) 0)) (.cmp .lss (.var (.i .i64) 6) q_50_6)))
def q_50_8 : E := (.cmp .lss (.lit (.i .i64) 2048) q_50_6)
def q_50_9 : E := (.bin .sub .i64 (.app (.i .i64) 0 1 [q_50_5, (.var (.i .i64) 6), (.lit .x 0)]) (.lit (.i .i64) 1))
def q_50_10 : E := (.app .x 0 6 [q_50_5, (.lit (.i .i64) 2048), (.lit .x 1), (.app (.i .i64) 0 1 [q_50_5, (.var (.i .i64) 6), (.lit .x 1)])])
def q_50_11 : E := (.app (.i .i64) 0 0 [q_50_10])
def q_50_12 : E := (.cmp .lss (.lit (.i .i64) 2048) q_50_11)
def q_50_13 : E := (.app .x 0 6 [q_50_10, (.lit (.i .i64) 2048), (.lit .x 2), (.bin .add .i64 (.app (.i .i64) 0 1 [q_50_10, (.lit (.i .i64) 2048), (.lit .x 2)]) (.app (.i .i64) 0 1 [q_50_10, (.var (.i .i64) 6), (.lit .x 2)]))])
def ob_50 : E := (.and q_50_1 (.or q_50_2 (.and (.and (.cmp .lss (.lit (.i .i64) 2048) (.app (.i .i64) 0 0 [(.var .x 0)])) (.and (.or (.not q_50_3) (.and (.cmp .lss (.lit (.i .i64) 2048) (.app (.i .i64) 0 0 [(.var .x 0)])) (.and q_50_1 (.and (.cmp .geq q_50_4 (.lit (.i .i64) 0)) (.cmp .lss q_50_4 (.app (.i .i64) 0 0 [(.var .x 5)])))))) (.or q_50_3 (.and q_50_1 (.cmp .lss (.lit (.i .i64) 2048) (.app (.i .i64) 0 0 [(.var .x 0)])))))) (.and (.and q_50_7 (.and q_50_8 (.and (.cmp .geq q_50_9 (.lit (.i .i64) 0)) (.cmp .lss q_50_9 (.app (.i .i64) 0 0 [(.var .x 5)]))))) (.and (.and q_50_7 q_50_8) (.and (.and q_50_12 (.and (.and q_50_0 (.and (.cmp .geq (.var (.i .i64) 6) (.lit (.i .i64) 0)) (.cmp .lss (.var (.i .i64) 6) q_50_11))) q_50_12)) (.and q_50_0 (.and (.cmp .geq (.var (.i .i64) 6) (.lit (.i .i64) 0)) (.cmp .lss (.var (.i .i64) 6) (.app (.i .i64) 0 0 [q_50_13]))))))))))
def es_50 : List E := [(.ite q_50_2 (.var .x 0) (.app .x 0 6 [q_50_13, (.var (.i .i64) 6), (.lit .x 0), (.lit (.i .i64) 0), (.lit (.i .i64) 0), (.lit (.i .i64) 0)])), (.var (.i .i64) 1), (.var (.i .i64) 2), (.var (.i .i64) 3), (.var (.i .i64) 4), (.ite q_50_2 (.var .x 5) (.app .x 0 6 [(.ite q_50_3 (.app .x 0 6 [(.var .x 5), q_50_4, (.lit .x 3), (.app (.i .i64) 0 1 [(.var .x 0), (.var (.i .i64) 6), (.lit .x 0)])]) (.var .x 5)), q_50_9, (.lit .x 2), (.app (.i .i64) 0 1 [q_50_5, (.lit (.i .i64) 2048), (.lit .x 1)])]))]
theorem ev_50 : evE Try.prog G0 (tabOf cC.fs) (ltOf cC.ls) 40 10 e50 = some (ob_50, es_50) := by kernel_rfl

def q_51_0 : E := (.dv .rem .i64 (.bin .add .i64 (.app (.i .i64) 71 0 [(.lit (.i .i64) 1), (.var (.i .i64) 1)]) (.lit (.i .i64) 1)) 512)
def q_51_1 : E := (.cmp .geq q_51_0 (.lit (.i .i64) 0))
def q_51_2 : E := (.bin .add .i64 q_51_0 (.lit (.i .i64) 512))
def q_51_3 : E := (.cmp .gtr (.app (.i .i64) 0 1 [(.var .x 0), q_51_2, (.lit .x 2)]) (.lit (.i .i64) 0))
def q_51_4 : E := (.dv .rem .i64 (.bin .add .i64 (.app (.i .i64) 71 0 [(.lit (.i .i64) 2), (.var (.i .i64) 1)]) (.lit (.i .i64) 1)) 512)
def q_51_5 : E := (.cmp .geq q_51_4 (.lit (.i .i64) 0))
def q_51_6 : E := (.bin .add .i64 q_51_4 (.lit (.i .i64) 1024))
def q_51_7 : E := (.cmp .gtr (.app (.i .i64) 0 1 [(.var .x 0), q_51_6, (.lit .x 2)]) (.lit (.i .i64) 0))
def q_51_8 : E := (.dv .rem .i64 (.bin .add .i64 (.app (.i .i64) 71 0 [(.lit (.i .i64) 3), (.var (.i .i64) 1)]) (.lit (.i .i64) 1)) 512)
def q_51_9 : E := (.cmp .geq q_51_8 (.lit (.i .i64) 0))
def q_51_10 : E := (.bin .add .i64 q_51_8 (.lit (.i .i64) 1536))
def ob_51 : E := (.and (.and (.app .b 71 1000000 [(.lit (.i .i64) 1), (.var (.i .i64) 1)]) (.and (.and q_51_1 (.cmp .lss q_51_0 (.lit (.i .i64) 512))) (.and (.and q_51_1 (.cmp .lss q_51_0 (.lit (.i .i64) 1000000000))) (.and (.cmp .geq q_51_2 (.lit (.i .i64) 0)) (.cmp .lss q_51_2 (.app (.i .i64) 0 0 [(.var .x 0)])))))) (.or q_51_3 (.and (.and (.app .b 71 1000000 [(.lit (.i .i64) 2), (.var (.i .i64) 1)]) (.and (.and q_51_5 (.cmp .lss q_51_4 (.lit (.i .i64) 512))) (.and (.and q_51_5 (.cmp .lss q_51_4 (.lit (.i .i64) 1000000000))) (.and (.cmp .geq q_51_6 (.lit (.i .i64) 0)) (.cmp .lss q_51_6 (.app (.i .i64) 0 0 [(.var .x 0)])))))) (.or q_51_7 (.and (.app .b 71 1000000 [(.lit (.i .i64) 3), (.var (.i .i64) 1)]) (.and (.and q_51_9 (.cmp .lss q_51_8 (.lit (.i .i64) 512))) (.and (.and q_51_9 (.cmp .lss q_51_8 (.lit (.i .i64) 1000000000))) (.and (.cmp .geq q_51_10 (.lit (.i .i64) 0)) (.cmp .lss q_51_10 (.app (.i .i64) 0 0 [(.var .x 0)]))))))))))
def es_51 : List E := [(.ite (.or q_51_3 (.and (.not q_51_3) (.or q_51_7 (.and (.not q_51_7) (.cmp .gtr (.app (.i .i64) 0 1 [(.var .x 0), q_51_10, (.lit .x 2)]) (.lit (.i .i64) 0)))))) (.ite q_51_3 (.app (.i .i64) 0 1 [(.var .x 0), q_51_2, (.lit .x 0)]) (.ite q_51_7 (.app (.i .i64) 0 1 [(.var .x 0), q_51_6, (.lit .x 0)]) (.app (.i .i64) 0 1 [(.var .x 0), q_51_10, (.lit .x 0)]))) (.lit (.i .i64) 0))]
theorem ev_51 : evE Try.prog G0 (tabOf cB.fs) (ltOf cB.ls) 40 10 e51 = some (ob_51, es_51) := by kernel_rfl

theorem mixed : Try.prog.follows Departure.mixedOrders = true := by kernel_rfl

theorem cAok : cA.OK Try.prog G0 := Ctx.OK.nil

theorem ok71 : EntryOK Try.prog G0 e71 := cAok.entryP mixed ev_71 _ rfl _ rfl fun xs hf hp => by
  obtain ⟨l, hl, hF⟩ := ctx_P (l0 := cA.l)
  show ob_71.tt cA.l.F _ = true ∧ outsP e71.fn _ cA.l.F _ _ _ _
  rw [hl]
  obtain ⟨k, t, rfl⟩ : ∃ a b, xs = [a, b] := by
    have := fits_length hf
    match xs, this with
    | [a, b], _ => exact ⟨a, b, rfl⟩
  obtain ⟨h0, h1, _⟩ := hf
  simp only [norm_i] at h0 h1
  obtain ⟨p1, p2⟩ := hp
  simp only [ewA, ewL, preC, binI, dvI, shI, cmpB, env, bi, List.headD, List.tail, List.map, Nat.reduceAdd] at p1 p2
  have hm := i64r h1
  refine ⟨?_, ?_, trivial⟩
  · simp (disch := omega) only [ob_71, ewA, ewL, preC, binI, dvI, shI, cmpB, env, bi, List.headD, List.tail, List.map, Nat.reduceAdd, ewB, ewM, if_true, if_false, implies_true, forall_const, ne_eq, reduceCtorEq, Int.reduceEq, Int.reduceLT, Int.reduceLE, Int.reduceToNat, Int.reduceAdd, Int.reduceSub, Int.reduceMul, Int.reduceNeg, Int.reduceBEq, Nat.reduceLT, Nat.reduceEqDiff, h0, h1]
    omega
  · simp (disch := omega) only [es_71, e71, fn71, ewA, ewL, preC, binI, dvI, shI, cmpB, env, bi, List.headD, List.tail, List.map, Nat.reduceAdd, ewB, ewM, if_true, if_false, implies_true, forall_const, ne_eq, reduceCtorEq, Int.reduceEq, Int.reduceLT, Int.reduceLE, Int.reduceToNat, Int.reduceAdd, Int.reduceSub, Int.reduceMul, Int.reduceNeg, Int.reduceBEq, Nat.reduceLT, Nat.reduceEqDiff, h0, h1]
    have hpow : (256 : Int) ^ k.toNat = 2 ^ (8 * k).toNat := by
      rw [show (8 * k).toNat = 8 * k.toNat by omega, Int.pow_mul]; rfl
    have hpos : (0 : Int) < 2 ^ (8 * k).toNat := Int.pow_pos (by decide)
    rw [show min (8 * k).toNat IntKind.i64.bits = (8 * k).toNat by simp only [IntKind.bits]; omega, Int.fdiv_eq_ediv_of_nonneg _ (Int.le_of_lt hpos), blk, hpow]
    generalize (2 : Int) ^ (8 * k).toNat = q at hpos ⊢
    have g1 : t / q ≤ 9223372036854775807 := by
      by_cases ht : 0 ≤ t
      · have := Int.ediv_le_self q ht; omega
      · have : t / q < 0 := Int.ediv_neg_of_neg_of_pos (by omega) hpos; omega
    have g2 : -9223372036854775808 ≤ t / q := (Int.le_ediv_iff_mul_le hpos).2 (by
      have : (9223372036854775808 : Int) * 1 ≤ 9223372036854775808 * q := Int.mul_le_mul_of_nonneg_left (by omega) (by decide)
      rw [Int.neg_mul]; omega)
    exact i64w g2 g1

theorem fits7 {xs : List Int} {k : K} (h : fits [.x, .i .i64, .i .i64, .i .i64, .i .i64, .x, k] xs) : ∃ S now bu le mo T i, xs = [S, now, bu, le, mo, T, i] := by
  have := fits_length h
  match xs, this with
  | [a, b, c, d, e, f, g], _ => exact ⟨_, _, _, _, _, _, _, rfl⟩
theorem fits6 {xs : List Int} (h : fits [.x, .i .i64, .i .i64, .i .i64, .i .i64, .x] xs) : ∃ S now bu le mo T, xs = [S, now, bu, le, mo, T] := by
  have := fits_length h
  match xs, this with
  | [a, b, c, d, e, f], _ => exact ⟨_, _, _, _, _, _, rfl⟩
theorem rowsC {ks : List K} {T : RL} (h : rowsOK ks T) {i j : Nat} (hi : i < T.length) (hj : ks[j]? = some (.i .i64)) : IntKind.i64.wrap (gC T i j) = gC T i j := by
  have := fits_get (h _ (List.getElem_mem hi)) j _ hj
  unfold gC
  rw [show T.getD i [] = T[i] by simp [List.getD, hi]]
  exact this

theorem rows_set {ks : List K} {T : RL} {i j : Nat} {vs : List Int} (h : rowsOK ks T) (hi : i < T.length) (hv : fits ks (splR (T.getD i []) j vs)) : rowsOK ks (setC T i j vs) := fun r hr => by
  unfold setC at hr
  rcases List.mem_or_eq_of_mem_set hr with h1 | rfl
  · exact h r h1
  · exact hv

theorem rows_setC {ks : List K} {T : RL} {i j : Nat} {vs : List Int} (h : rowsOK ks T) (hi : i < T.length) (hv : fits ((ks.drop j).take vs.length) vs) (hl : j + vs.length ≤ ks.length) : rowsOK ks (setC T i j vs) :=
  rows_set h hi (fits_splR (by rw [show T.getD i [] = T[i] by simp [List.getD, hi]]; exact h _ (List.getElem_mem hi)) hv hl).1

theorem ok46 : EntryOK Try.prog G0 e46 := cAok.entryP mixed ev_46 _ rfl _ rfl fun xs hf hp => by
  obtain ⟨l, hl, hF⟩ := ctx_P (l0 := cA.l)
  show ob_46.tt cA.l.F _ = true ∧ outsP e46.fn _ cA.l.F _ _ _ _
  rw [hl]
  obtain ⟨S, now, bu, le, mo, T, rfl⟩ := fits6 hf
  obtain ⟨p1, p2⟩ := hp
  simp only [lenT, ewA, ewL, preC, binI, dvI, shI, cmpB, env, bi, List.headD, List.tail, List.map, Nat.reduceAdd] at p1 p2
  refine ⟨?_, trivial⟩
  simp (disch := omega) only [ob_46, ewA, ewL, preC, binI, dvI, shI, cmpB, env, bi, List.headD, List.tail, List.map, Nat.reduceAdd, ewB, ewM, if_true, if_false, implies_true, forall_const, ne_eq, reduceCtorEq, Int.reduceEq, Int.reduceLT, Int.reduceLE, Int.reduceToNat, Int.reduceAdd, Int.reduceSub, Int.reduceMul, Int.reduceNeg, Int.reduceBEq, Nat.reduceLT, Nat.reduceEqDiff]
  omega

theorem ok47 : EntryOK Try.prog G0 e47 := cAok.entryP mixed ev_47 _ rfl _ rfl fun xs hf hp => by
  obtain ⟨l, hl, hF⟩ := ctx_P (l0 := cA.l)
  show ob_47.tt cA.l.F _ = true ∧ outsP e47.fn _ cA.l.F _ _ _ _
  rw [hl]
  obtain ⟨S, now, bu, le, mo, T, i, rfl⟩ := fits7 hf
  obtain ⟨h0, h1, h2, h3, h4, h5, h6, _⟩ := hf
  simp only [norm_i, norm_x] at h6
  obtain ⟨p1, p2⟩ := hp
  simp only [lenT, ewA, ewL, preC, binI, dvI, shI, cmpB, env, bi, List.headD, List.tail, List.map, Nat.reduceAdd] at p1 p2
  refine ⟨?_, ?_, trivial⟩
  · simp (disch := omega) only [ob_47, ewA, ewL, preC, binI, dvI, shI, cmpB, env, bi, List.headD, List.tail, List.map, Nat.reduceAdd, ewB, ewM, if_true, if_false, implies_true, forall_const, ne_eq, reduceCtorEq, Int.reduceEq, Int.reduceLT, Int.reduceLE, Int.reduceToNat, Int.reduceAdd, Int.reduceSub, Int.reduceMul, Int.reduceNeg, Int.reduceBEq, Nat.reduceLT, Nat.reduceEqDiff]
  · simp (disch := omega) only [es_47, e47, lenT, ewA, ewL, preC, binI, dvI, shI, cmpB, env, bi, List.headD, List.tail, List.map, Nat.reduceAdd, ewB, ewM, if_true, if_false, implies_true, forall_const, ne_eq, reduceCtorEq, Int.reduceEq, Int.reduceLT, Int.reduceLE, Int.reduceToNat, Int.reduceAdd, Int.reduceSub, Int.reduceMul, Int.reduceNeg, Int.reduceBEq, Nat.reduceLT, Nat.reduceEqDiff, h6]

theorem ok69 : EntryOK Try.prog G0 e69 := cAok.entryP mixed ev_69 _ rfl _ rfl fun xs hf hp => by
  obtain ⟨l, hl, hF⟩ := ctx_P (l0 := cA.l)
  show ob_69.tt cA.l.F _ = true ∧ outsP e69.fn _ cA.l.F _ _ _ _
  rw [hl]
  obtain ⟨S, now, bu, le, mo, T, i, rfl⟩ := fits7 hf
  obtain ⟨h0, h1, h2, h3, h4, h5, h6, _⟩ := hf
  simp only [norm_i, norm_x] at h1 h6
  obtain ⟨p1, p2, p3, p4, p5⟩ := hp
  simp only [lenT, T5, S3, nowW, idW, ewA, ewL, preC, binI, dvI, shI, cmpB, env, bi, List.headD, List.tail, List.map, Nat.reduceAdd] at p1 p2 p3 p4 p5
  have hl : i.toNat < (dc T).length := by omega
  have c0 := rowsC p1 (j := 0) hl rfl
  have c1 := rowsC p1 (j := 1) hl rfl
  have c4 := rowsC p1 (j := 4) hl rfl
  simp only [gC] at c0 c1 c4 p5
  simp only [ofOK, gC] at p5
  refine ⟨?_, ?_, trivial⟩
  · simp (disch := omega) only [ob_69, q_69_0, q_69_1, q_69_2, ewA, ewL, preC, binI, dvI, shI, cmpB, env, bi, List.headD, List.tail, List.map, Nat.reduceAdd, ewB, ewM, if_true, if_false, implies_true, forall_const, ne_eq, reduceCtorEq, Int.reduceEq, Int.reduceLT, Int.reduceLE, Int.reduceToNat, Int.reduceAdd, Int.reduceSub, Int.reduceMul, Int.reduceNeg, Int.reduceBEq, Nat.reduceLT, Nat.reduceEqDiff, h1, h6, c0, c1, c4]
    exact ⟨⟨p3, p4⟩, ⟨p3, p4⟩, fun h => ⟨⟨p3, p4⟩, ⟨p3, p4⟩, ⟨(p5 h).1, (p5 h).2.1⟩, ⟨(p5 h).1, by have := (p5 h).2.1; omega⟩, (p5 h).2.2.1, (p5 h).2.2.2⟩⟩
  · simp (disch := omega) only [es_69, q_69_0, q_69_1, q_69_2, e69, locI, T5, nowW, idW, gC, ewA, ewL, preC, binI, dvI, shI, cmpB, env, bi, List.headD, List.tail, List.map, Nat.reduceAdd, ewB, ewM, if_true, if_false, implies_true, forall_const, ne_eq, reduceCtorEq, Int.reduceEq, Int.reduceLT, Int.reduceLE, Int.reduceToNat, Int.reduceAdd, Int.reduceSub, Int.reduceMul, Int.reduceNeg, Int.reduceBEq, Nat.reduceLT, Nat.reduceEqDiff, h1, h6, c0, c1, c4]

theorem blk_rng {t : Int} (k : Int) (h : 0 ≤ t) : 0 ≤ blk k t ∧ blk k t ≤ t := by
  have hp : (0 : Int) < 256 ^ k.toNat := Int.pow_pos (by decide)
  exact ⟨Int.ediv_nonneg h (Int.le_of_lt hp), Int.ediv_le_self _ h⟩

theorem cBok : cB.OK Try.prog G0 := Ctx.OK.nil.addF ok71 rfl

set_option maxHeartbeats 4000000 in
theorem ok70 : EntryOK Try.prog G0 e70 := cBok.entryP mixed ev_70 _ rfl _ rfl fun xs hf hp => by
  obtain ⟨l, hl, hF⟩ := ctx_P (l0 := cB.l)
  show ob_70.tt cB.l.F _ = true ∧ outsP e70.fn _ cB.l.F _ _ _ _
  rw [hl]
  have F71 := FC (k := 71) rfl (hF e71 (by rfl) (by decide))
  have hSS := F71
  obtain ⟨S, now, bu, le, mo, T, d, rfl⟩ := fits7 hf
  obtain ⟨h0, h1, h2, h3, h4, h5, h6, _⟩ := hf
  simp only [norm_i, norm_x] at h1 h6
  obtain ⟨p1, p2, p3, p4⟩ := hp
  simp only [nowW, ewA, ewL, preC, binI, dvI, shI, cmpB, env, bi, List.headD, List.tail, List.map, Nat.reduceAdd] at p1 p2 p3 p4
  have f : ∀ k t, e71.fn 0 [k, t] = blk k t := fun _ _ => rfl
  have n1 := blk_rng 1 p1
  have n2 := blk_rng 2 p1
  have n3 := blk_rng 3 p1
  have d1 := blk_rng 1 p3
  have d2 := blk_rng 2 p3
  have d3 := blk_rng 3 p3
  have y : ∀ t, e71.pre [1, t] ∧ e71.pre [2, t] ∧ e71.pre [3, t] ∧ e71.pre [0, t] := fun t => ⟨⟨by show (0 : Int) ≤ 1; decide, by show (1 : Int) ≤ 4; decide⟩, ⟨by show (0 : Int) ≤ 2; decide, by show (2 : Int) ≤ 4; decide⟩, ⟨by show (0 : Int) ≤ 3; decide, by show (3 : Int) ≤ 4; decide⟩, ⟨by show (0 : Int) ≤ 0; decide, by show (0 : Int) ≤ 4; decide⟩⟩
  refine ⟨?_, ?_, ?_, trivial⟩
  · simp (disch := omega) only [ob_70, q_70_0, q_70_1, q_70_2, q_70_3, q_70_4, q_70_5, q_70_6, ewA, ewL, preC, binI, dvI, shI, cmpB, env, bi, List.headD, List.tail, List.map, Nat.reduceAdd, ewB, ewM, if_true, if_false, implies_true, forall_const, ne_eq, reduceCtorEq, Int.reduceEq, Int.reduceLT, Int.reduceLE, Int.reduceToNat, Int.reduceAdd, Int.reduceSub, Int.reduceMul, Int.reduceNeg, Int.reduceBEq, Nat.reduceLT, Nat.reduceEqDiff, hSS, h1, h6, f]
    refine ⟨⟨⟨(y d).1, (y now).1⟩, fun _ => ⟨⟨(y d).2.1, (y now).2.1⟩, fun _ => ⟨(y d).2.2.1, (y now).2.2.1⟩⟩⟩, fun _ => ?_⟩
    split
    · exact (y d).2.2.2
    · split
      · exact (y d).1
      · split
        · exact (y d).2.1
        · exact (y d).2.2.1
  · simp (disch := omega) only [es_70, q_70_0, q_70_1, q_70_2, q_70_3, q_70_4, q_70_5, q_70_6, e70, fn70, lvF, nowW, ewA, ewL, preC, binI, dvI, shI, cmpB, env, bi, List.headD, List.tail, List.map, Nat.reduceAdd, ewB, ewM, if_true, if_false, implies_true, forall_const, ne_eq, reduceCtorEq, Int.reduceEq, Int.reduceLT, Int.reduceLE, Int.reduceToNat, Int.reduceAdd, Int.reduceSub, Int.reduceMul, Int.reduceNeg, Int.reduceBEq, Nat.reduceLT, Nat.reduceEqDiff, hSS, h1, h6, f]
  · simp (disch := omega) only [es_70, q_70_0, q_70_1, q_70_2, q_70_3, q_70_4, q_70_5, q_70_6, e70, fn70, lvF, nowW, ewA, ewL, preC, binI, dvI, shI, cmpB, env, bi, List.headD, List.tail, List.map, Nat.reduceAdd, ewB, ewM, if_true, if_false, implies_true, forall_const, ne_eq, reduceCtorEq, Int.reduceEq, Int.reduceLT, Int.reduceLE, Int.reduceToNat, Int.reduceAdd, Int.reduceSub, Int.reduceMul, Int.reduceNeg, Int.reduceBEq, Nat.reduceLT, Nat.reduceEqDiff, hSS, h1, h6, f]
    have hb : ∀ k, 0 ≤ blk k d ∧ blk k d ≤ d := fun k => blk_rng k p3
    obtain ⟨Z, hZ⟩ : ∃ Z, Z = blk (if blk 1 d ≤ blk 1 now + 1 then 0 else if blk 2 d ≤ blk 2 now + 1 then 1 else if blk 3 d ≤ blk 3 now + 1 then 2 else 3) d := ⟨_, rfl⟩
    have hZr : 0 ≤ Z ∧ Z ≤ d := hZ ▸ hb _
    rw [← hZ, show IntKind.i64.wrap Z = Z from i64w (by omega) (by omega), Int.tmod_eq_emod_of_nonneg hZr.1]

theorem cCok : cC.OK Try.prog G0 := (Ctx.OK.nil.addF ok70 rfl).addF ok69 rfl

theorem headP_le {l : List Nat} {c : Nat} (h : ∀ a ∈ l, a < c) : headP l ≤ c := by
  cases l with
  | nil => simp [headP]
  | cons a r => have := h a (by simp); simp only [headP]; omega
theorem lastP_le {l : List Nat} {c : Nat} (h : ∀ a ∈ l, a < c) : lastP l ≤ c := headP_le (fun a ha => h a (by simpa using ha))
theorem gC_def (l : RL) (n j : Nat) : (l.getD n []).getD j 0 = gC l n j := rfl
theorem setC_def (l : RL) (i j : Nat) (vs : List Int) : l.set i (splR (l.getD i []) j vs) = setC l i j vs := rfl
theorem locI_rng {now : Int} {T : RL} {i : Nat} (h : ofOK now T i) : 0 ≤ locI now T i ∧ locI now T i < 2049 := by
  unfold locI
  by_cases hc : gC T i 4 ≤ now
  · rw [if_pos hc]; omega
  · rw [if_neg hc]; have := h (by omega); omega

theorem nodup_len : ∀ {c : Nat} {l : List Nat}, l.Nodup → (∀ a ∈ l, a < c) → l.length ≤ c
  | 0, l, _, hl => by
    cases l with
    | nil => simp
    | cons a r => have := hl a (by simp); omega
  | c + 1, l, h, hl => by
    have h1 := nodup_len (c := c) (l := l.erase c) (h.erase c) fun a ha => by
      have := (List.Nodup.mem_erase_iff h).1 ha
      have := hl a this.2
      omega
    rw [List.length_erase] at h1
    split at h1 <;> omega

set_option maxHeartbeats 8000000 in
theorem ok48 : EntryOK Try.prog G0 e48 := cCok.entryP mixed ev_48 _ rfl _ rfl fun xs hf hp => by
  obtain ⟨l, hl, hF⟩ := ctx_P (l0 := cC.l)
  show ob_48.tt cC.l.F _ = true ∧ outsP e48.fn _ cC.l.F _ _ _ _
  rw [hl]
  have F69 := FC (k := 69) rfl (hF e69 (by rfl) (by decide))
  have hSS := F69
  obtain ⟨S, now, bu, le, mo, T, i, rfl⟩ := fits7 hf
  obtain ⟨h0, h1, h2, h3, h4, h5, h6, _⟩ := hf
  simp only [norm_i, norm_x] at h1 h2 h3 h4 h6
  obtain ⟨Q, p1, p2, p3, p4, p5⟩ := hp
  simp only [lenT, T5, S3, nowW, idW, ewA, ewL, preC, binI, dvI, shI, cmpB, env, bi, List.headD, List.tail, List.map, Nat.reduceAdd] at p1 p2 p3 p4 p5
  have hle := p1.le
  have hct := p1.ct
  obtain ⟨A, B, hq⟩ := List.append_of_mem p5
  obtain ⟨c1, c2⟩ := p1.lk.ch _ _ _ _ hq
  obtain ⟨n, hn⟩ : ∃ n, n = i.toNat := ⟨_, rfl⟩
  have hl : n < (dc T).length := by omega
  have w2 := rowsC p1.rT (j := 2) hl rfl
  have w3 := rowsC p1.rT (j := 3) hl rfl
  have hL : e69.fn 0 [S, now, bu, le, mo, T, i] = locI now (dc T) n := by rw [hn]; rfl
  have hy : e69.pre [S, now, bu, le, mo, T, i] := ⟨p1.rT, p1.ct.2, p2, p3, p4⟩
  rw [← hn] at c1 c2 hq p5 p4
  have hLr := locI_rng p4
  have hnd := p1.lk.nd (locI now (dc T) n).toNat
  rw [hq] at hnd
  have hin : ∀ a, a ∈ A ∨ a ∈ B → a < (dc T).length := fun a ha => p1.lk.qc (locI now (dc T) n).toNat a (by rw [hq]; rcases ha with h | h <;> simp [h])
  have hPr : 0 ≤ gC (dc T) n 2 ∧ gC (dc T) n 2 ≤ ((dc T).length : Int) := by rw [c1]; exact ⟨lastP_nonneg _, lastP_le fun a ha => hin a (Or.inl ha)⟩
  have hXr : 0 ≤ gC (dc T) n 3 ∧ gC (dc T) n 3 ≤ ((dc T).length : Int) := by rw [c2]; exact ⟨headP_nonneg _, headP_le fun a ha => hin a (Or.inr ha)⟩
  have hne : ((gC (dc T) n 2 - 1).toNat : Int) ≠ n ∨ gC (dc T) n 2 = 0 := by
    by_cases h0 : gC (dc T) n 2 = 0
    · exact Or.inr h0
    · refine Or.inl fun e => ?_
      have : lastP A = (n : Int) + 1 := by rw [← c1]; omega
      have hA := lastP_mem this
      obtain ⟨_, _, n3⟩ := List.nodup_append.1 hnd
      exact n3 n hA n (by simp) rfl
  have g2 : 0 < gC (dc T) n 2 → gC (setC (dc T) (gC (dc T) n 2 - 1).toNat 3 [gC (dc T) n 3]) n 2 = gC (dc T) n 2 := fun h => by
    rw [p1.lk.tw.c1 (by omega) (by decide), if_neg (by omega)]
  have g3 : 0 < gC (dc T) n 2 → gC (setC (dc T) (gC (dc T) n 2 - 1).toNat 3 [gC (dc T) n 3]) n 3 = gC (dc T) n 3 := fun h => by
    rw [p1.lk.tw.c1 (by omega) (by decide), if_neg (by omega)]
  have hS := p1.lk.sw.1
  have hK : (locI now (dc T) n).toNat < 2049 := by omega
  have hcr : 1 ≤ gC (dc S) (locI now (dc T) n).toNat 2 ∧ gC (dc S) (locI now (dc T) n).toNat 2 ≤ 4096 := by
    rw [(p1.lk.hd _ hK).2.2, hq]
    have h1 := nodup_len (p1.lk.nd (locI now (dc T) n).toNat) fun a ha => p1.lk.qc _ a ha
    rw [hq] at h1
    simp only [List.length_append, List.length_cons] at h1 ⊢
    omega
  have u0 : ∀ v, gC (setC (dc S) (locI now (dc T) n).toNat 0 [v]) (locI now (dc T) n).toNat 2 = gC (dc S) (locI now (dc T) n).toNat 2 := fun v => by rw [p1.lk.sw.c1 hK (by decide), if_neg (by omega)]
  have u1 : ∀ v, gC (setC (dc S) (locI now (dc T) n).toNat 1 [v]) (locI now (dc T) n).toNat 2 = gC (dc S) (locI now (dc T) n).toNat 2 := fun v => by rw [p1.lk.sw.c1 hK (by decide), if_neg (by omega)]
  have u2 : ∀ v w, gC (setC (setC (dc S) (locI now (dc T) n).toNat 0 [v]) (locI now (dc T) n).toNat 1 [w]) (locI now (dc T) n).toNat 2 = gC (dc S) (locI now (dc T) n).toNat 2 := fun v w => by rw [(p1.lk.sw.set hK (by simp)).c1 hK (by decide), if_neg (by omega), u0]
  by_cases hP : 0 < gC (dc T) n 2 <;> by_cases hX : 0 < gC (dc T) n 3 <;> refine ⟨?_, ?_, ?_, ?_, ?_, ?_, ?_, trivial⟩
  all_goals simp (disch := omega) only [ob_48, q_48_0, q_48_1, q_48_2, q_48_3, q_48_4, q_48_5, q_48_6, q_48_7, q_48_8, q_48_9, q_48_10, q_48_11, q_48_12, es_48, e48, fn48, S3, T5, nowW, idW, ewA, ewL, preC, binI, dvI, shI, cmpB, env, bi, List.headD, List.tail, List.map, Nat.reduceAdd, ewB, ewM, if_true, if_false, implies_true, forall_const, ne_eq, reduceCtorEq, Int.reduceEq, Int.reduceLT, Int.reduceLE, Int.reduceToNat, Int.reduceAdd, Int.reduceSub, Int.reduceMul, Int.reduceNeg, Int.reduceBEq, Nat.reduceLT, Nat.reduceEqDiff, hSS, h1, h2, h3, h4, h6, hL, ← hn, gC_def, setC_def, w2, w3, hP, hX, g2, g3, hy, setC_len, hS, u0, u1, u2]
  all_goals first | omega | simp only [dropS, hP, hX, if_true, if_false, u0, u1, u2] | simp only [dropT, hP, hX, if_true, if_false]

theorem fits8 {xs : List Int} {k m : K} (h : fits [.x, .i .i64, .i .i64, .i .i64, .i .i64, .x, k, m] xs) : ∃ S now bu le mo T i d, xs = [S, now, bu, le, mo, T, i, d] := by
  have := fits_length h
  match xs, this with
  | [a, b, c, d, e, f, g, h], _ => exact ⟨_, _, _, _, _, _, _, _, rfl⟩
theorem lvF_rng (now d : Int) : 0 ≤ lvF now d ∧ lvF now d ≤ 3 := by
  unfold lvF
  repeat' split
  all_goals omega
theorem kW_rng (now d : Int) : 0 ≤ kW now d ∧ kW now d < 2049 := by
  unfold kW
  have := lvF_rng now d
  split <;> omega

set_option maxHeartbeats 8000000 in
theorem ok49 : EntryOK Try.prog G0 e49 := cCok.entryP mixed ev_49 _ rfl _ rfl fun xs hf hp => by
  obtain ⟨l, hl, hF⟩ := ctx_P (l0 := cC.l)
  show ob_49.tt cC.l.F _ = true ∧ outsP e49.fn _ cC.l.F _ _ _ _
  rw [hl]
  have F69 := FC (k := 69) rfl (hF e69 (by rfl) (by decide))
  have F70 := FC (k := 70) rfl (hF e70 (by rfl) (by decide))
  have hSS := And.intro F69 F70
  obtain ⟨S, now, bu, le, mo, T, i, d, rfl⟩ := fits8 hf
  obtain ⟨h0, h1, h2, h3, h4, h5, h6, h7, _⟩ := hf
  simp only [norm_i, norm_x] at h1 h2 h3 h4 h6 h7
  obtain ⟨Q, p1, p2, p3, p4, p5, p6⟩ := hp
  simp only [lenT, T5, S3, nowW, idW, ewA, ewL, preC, binI, dvI, shI, cmpB, env, bi, List.headD, List.tail, List.map, Nat.reduceAdd] at p1 p2 p3 p4 p5 p6
  have hle := p1.le
  have hct := p1.ct
  obtain ⟨n, hn⟩ : ∃ n, n = i.toNat := ⟨_, rfl⟩
  have hl : n < (dc T).length := by omega
  have hlv := lvF_rng now d
  have hb := blk_rng (lvF now d) p6.1
  have hk := kW_rng now d
  obtain ⟨lv, elv⟩ : ∃ lv, lv = lvF now d := ⟨_, rfl⟩
  obtain ⟨ix, eix⟩ : ∃ ix, ix = blk (lvF now d) d % 512 := ⟨_, rfl⟩
  have hix : 0 ≤ ix ∧ ix < 512 := by omega
  have f0 : e70.fn 0 [S, now, bu, le, mo, T, d] = lv := elv.symm
  have f1 : e70.fn 1 [S, now, bu, le, mo, T, d] = ix := eix.symm
  have y70 : e70.pre [S, now, bu, le, mo, T, d] := ⟨p5.1, p5.2, p6⟩
  rw [← elv] at hlv
  have wt1 := p1.lk.tw.set (vs := [lv, ix]) (j := 0) hl (by simp)
  have wt2 := wt1.set (vs := [d]) (j := 4) hl (by simp)
  have r4 : gC (setC (setC (dc T) n 0 [lv, ix]) n 4 [d]) n 4 = d := by rw [wt1.c1 hl (by decide), if_pos ⟨rfl, rfl⟩]
  have r0 : gC (setC (setC (dc T) n 0 [lv, ix]) n 4 [d]) n 0 = lv := by rw [wt1.c1 hl (by decide), if_neg (by omega), p1.lk.tw.c hl (by simp), if_pos ⟨rfl, by decide, by simp⟩]; rfl
  have r1 : gC (setC (setC (dc T) n 0 [lv, ix]) n 4 [d]) n 1 = ix := by rw [wt1.c1 hl (by decide), if_neg (by omega), p1.lk.tw.c hl (by simp), if_pos ⟨rfl, by decide, by simp⟩]; rfl
  have hL : e69.fn 0 [S, now, bu, le, mo, cd (setC (setC (dc T) n 0 [lv, ix]) n 4 [d]), i] = kW now d := by
    show locI now (dc (cd _)) i.toNat = _
    rw [dc_cd, ← hn]
    unfold locI kW
    rw [r4, r0, r1, elv, eix]
  have rT1 : rowsOK k5 (setC (setC (dc T) n 0 [lv, ix]) n 4 [d]) := by
    refine rows_setC (rows_setC p1.rT hl ?_ (by simp [k5])) (by rw [setC_len]; exact hl) ?_ (by simp [k5])
    · exact ⟨i64w (by omega) (by omega), i64w (by omega) (by omega), trivial⟩
    · exact ⟨h7, trivial⟩
  have eix' : blk lv d % 512 = ix := by rw [elv]; exact eix.symm
  have hy : e69.pre [S, now, bu, le, mo, cd (setC (setC (dc T) n 0 [lv, ix]) n 4 [d]), i] := by
    show rowsOK k5 (dc (cd _)) ∧ (dc (cd _)).length ≤ 4096 ∧ 0 ≤ i ∧ i < ((dc (cd _)).length : Int) ∧ ofOK now (dc (cd _)) i.toNat
    rw [dc_cd, setC_len, setC_len, ← hn]
    exact ⟨rT1, hct.2, p2, p3, fun _ => by rw [r0, r1]; omega⟩
  obtain ⟨K, hK⟩ : ∃ K, K = (kW now d).toNat := ⟨_, rfl⟩
  have hK9 : K < 2049 := by omega
  have hS := p1.lk.sw.1
  obtain ⟨a0, a1, a2⟩ := p1.lk.hd K hK9
  have hla : 0 ≤ gC (dc S) K 1 ∧ gC (dc S) K 1 ≤ ((dc T).length : Int) := by rw [a1]; exact ⟨lastP_nonneg _, lastP_le fun a ha => p1.lk.qc _ a ha⟩
  have hcr : 0 ≤ gC (dc S) K 2 ∧ gC (dc S) K 2 ≤ 4096 := by
    rw [a2]
    have h1 := nodup_len (p1.lk.nd K) fun a ha => p1.lk.qc _ a ha
    omega
  have u0 : ∀ v, gC (setC (dc S) K 0 [v]) K 2 = gC (dc S) K 2 := fun v => by rw [p1.lk.sw.c1 hK9 (by decide), if_neg (by omega)]
  have u1 : ∀ v, gC (setC (dc S) K 1 [v]) K 2 = gC (dc S) K 2 := fun v => by rw [p1.lk.sw.c1 hK9 (by decide), if_neg (by omega)]
  have u2 : ∀ v w, gC (setC (setC (dc S) K 0 [v]) K 1 [w]) K 2 = gC (dc S) K 2 := fun v w => by rw [(p1.lk.sw.set hK9 (by simp)).c1 hK9 (by decide), if_neg (by omega), u0]
  have wla : IntKind.i64.wrap (gC (dc S) K 1) = gC (dc S) K 1 := i64w (by omega) (by omega)
  have e1 : ((n : Nat) : Int) = i := by omega
  by_cases hP : 0 < gC (dc S) K 1 <;> refine ⟨?_, ?_, ?_, ?_, ?_, ?_, ?_, trivial⟩
  all_goals simp (disch := omega) only [ob_49, q_49_0, q_49_1, q_49_2, q_49_3, q_49_4, q_49_5, q_49_6, q_49_7, q_49_8, q_49_9, q_49_10, q_49_11, es_49, e49, fn49, S3, T5, nowW, idW, ewA, ewL, preC, binI, dvI, shI, cmpB, env, bi, List.headD, List.tail, List.map, Nat.reduceAdd, ewB, ewM, if_true, if_false, implies_true, forall_const, ne_eq, reduceCtorEq, Int.reduceEq, Int.reduceLT, Int.reduceLE, Int.reduceToNat, Int.reduceAdd, Int.reduceSub, Int.reduceMul, Int.reduceNeg, Int.reduceBEq, Nat.reduceLT, Nat.reduceEqDiff, hSS, h1, h2, h3, h4, h6, h7, f0, f1, y70, ← hn, gC_def, setC_def, hL, hy, ← hK, hP, setC_len, hS, u0, u1, u2, wla, ← elv, ← eix]
  all_goals first | omega | simp only [putS, hP, if_true, if_false, u0, u1, u2, e1] | simp only [putT, hP, if_true, if_false, e1, eix']

set_option maxHeartbeats 8000000 in
theorem ok50 : EntryOK Try.prog G0 e50 := cCok.entryP mixed ev_50 _ rfl _ rfl fun xs hf hp => by
  obtain ⟨l, hl, hF⟩ := ctx_P (l0 := cC.l)
  show ob_50.tt cC.l.F _ = true ∧ outsP e50.fn _ cC.l.F _ _ _ _
  rw [hl]
  obtain ⟨S, now, bu, le, mo, T, i, rfl⟩ := fits7 hf
  obtain ⟨h0, h1, h2, h3, h4, h5, h6, _⟩ := hf
  simp only [norm_i, norm_x] at h1 h2 h3 h4 h6
  obtain ⟨Q, p1, p2, p3⟩ := hp
  simp only [ewA, ewL, preC, binI, dvI, shI, cmpB, env, bi, List.headD, List.tail, List.map, Nat.reduceAdd] at p1 p2 p3
  have hle := p1.le
  have hct := p1.ct
  obtain ⟨n, hn⟩ : ∃ n, n = i.toNat := ⟨_, rfl⟩
  have hn8 : n < 2048 := by omega
  have hS := p1.lk.sw.1
  obtain ⟨a0, a1, a2⟩ := p1.lk.hd n (by omega)
  obtain ⟨b0, b1, b2⟩ := p1.lk.hd 2048 (by omega)
  have bnd : ∀ k, (Q k).length ≤ (dc T).length := fun k => nodup_len (p1.lk.nd k) fun a ha => p1.lk.qc _ a ha
  have q0 : 0 ≤ gC (dc S) n 0 ∧ gC (dc S) n 0 ≤ ((dc T).length : Int) := by rw [a0]; exact ⟨headP_nonneg _, headP_le fun a ha => p1.lk.qc _ a ha⟩
  have q1 : 0 ≤ gC (dc S) n 1 ∧ gC (dc S) n 1 ≤ ((dc T).length : Int) := by rw [a1]; exact ⟨lastP_nonneg _, lastP_le fun a ha => p1.lk.qc _ a ha⟩
  have q2 : 0 ≤ gC (dc S) n 2 ∧ gC (dc S) n 2 ≤ 4096 := by rw [a2]; have := bnd n; omega
  have q3 : 0 ≤ gC (dc S) 2048 1 ∧ gC (dc S) 2048 1 ≤ ((dc T).length : Int) := by rw [b1]; exact ⟨lastP_nonneg _, lastP_le fun a ha => p1.lk.qc _ a ha⟩
  have q4 : 0 ≤ gC (dc S) 2048 2 ∧ gC (dc S) 2048 2 ≤ 4096 := by rw [b2]; have := bnd 2048; omega
  have q5 : gC (dc S) n 2 ≠ 0 → 0 < gC (dc S) n 0 := fun h => by
    rw [a2] at h
    rw [a0]
    cases hq : Q n with
    | nil => rw [hq] at h; exact absurd rfl h
    | cons a r => simp only [headP]; omega
  have hb := p1.lk.sw
  have v0 : ∀ v j, gC (setC (dc S) 2048 0 [v]) n j = gC (dc S) n j := fun v j => by rw [hb.c1 (by omega) (by decide), if_neg (by omega)]
  have w0 : ∀ v, Wid (setC (dc S) 2048 0 [v]) 2049 3 := fun v => hb.set (by omega) (by simp)
  have v1 : ∀ v, gC (setC (dc S) 2048 0 [v]) 2048 1 = gC (dc S) 2048 1 := fun v => by rw [hb.c1 (by omega) (by decide), if_neg (by omega)]
  have x1 : ∀ v j, gC (setC (dc S) 2048 1 [v]) n j = gC (dc S) n j := fun v j => by rw [hb.c1 (by omega) (by decide), if_neg (by omega)]
  have x2 : ∀ v, gC (setC (dc S) 2048 1 [v]) 2048 2 = gC (dc S) 2048 2 := fun v => by rw [hb.c1 (by omega) (by decide), if_neg (by omega)]
  have y1 : ∀ u v j, gC (setC (setC (dc S) 2048 0 [u]) 2048 1 [v]) n j = gC (dc S) n j := fun u v j => by rw [(w0 u).c1 (by omega) (by decide), if_neg (by omega), v0]
  have y2 : ∀ u v, gC (setC (setC (dc S) 2048 0 [u]) 2048 1 [v]) 2048 2 = gC (dc S) 2048 2 := fun u v => by rw [(w0 u).c1 (by omega) (by decide), if_neg (by omega), hb.c1 (by omega) (by decide), if_neg (by omega)]
  by_cases hc : gC (dc S) n 2 = 0
  · refine ⟨?_, ?_, ?_, ?_, ?_, ?_, ?_, trivial⟩
    all_goals simp (disch := omega) only [ob_50, q_50_0, q_50_1, q_50_2, q_50_3, q_50_4, q_50_5, q_50_6, q_50_7, q_50_8, q_50_9, q_50_10, q_50_11, q_50_12, q_50_13, es_50, e50, fn50, S3, T5, nowW, idW, ewA, ewL, preC, binI, dvI, shI, cmpB, env, bi, List.headD, List.tail, List.map, Nat.reduceAdd, ewB, ewM, if_true, if_false, implies_true, forall_const, ne_eq, reduceCtorEq, Int.reduceEq, Int.reduceLT, Int.reduceLE, Int.reduceToNat, Int.reduceAdd, Int.reduceSub, Int.reduceMul, Int.reduceNeg, Int.reduceBEq, Nat.reduceLT, Nat.reduceEqDiff, h1, h2, h3, h4, h6, ← hn, gC_def, setC_def, hc, setC_len, hS]
    all_goals omega
  · by_cases hP : 0 < gC (dc S) 2048 1 <;> refine ⟨?_, ?_, ?_, ?_, ?_, ?_, ?_, trivial⟩
    all_goals simp (disch := omega) only [ob_50, q_50_0, q_50_1, q_50_2, q_50_3, q_50_4, q_50_5, q_50_6, q_50_7, q_50_8, q_50_9, q_50_10, q_50_11, q_50_12, q_50_13, es_50, e50, fn50, S3, T5, nowW, idW, ewA, ewL, preC, binI, dvI, shI, cmpB, env, bi, List.headD, List.tail, List.map, Nat.reduceAdd, ewB, ewM, if_true, if_false, implies_true, forall_const, ne_eq, reduceCtorEq, Int.reduceEq, Int.reduceLT, Int.reduceLE, Int.reduceToNat, Int.reduceAdd, Int.reduceSub, Int.reduceMul, Int.reduceNeg, Int.reduceBEq, Nat.reduceLT, Nat.reduceEqDiff, h1, h2, h3, h4, h6, ← hn, gC_def, setC_def, hc, hP, setC_len, hS, v0, v1, x1, x2, y1, y2]
    all_goals first | omega | simp only [joinS, hP, if_true, if_false, v0, v1, x1, x2, y1, y2] | simp only [joinT, hP, if_true, if_false]

theorem wK_lt {k now : Int} (h : 0 ≤ k) (h3 : k ≤ 3) : wK k now < 2048 := by unfold wK; omega
set_option maxHeartbeats 8000000 in
theorem ok51 : EntryOK Try.prog G0 e51 := cBok.entryP mixed ev_51 _ rfl _ rfl fun xs hf hp => by
  obtain ⟨l, hl, hF⟩ := ctx_P (l0 := cB.l)
  show ob_51.tt cB.l.F _ = true ∧ outsP e51.fn _ cB.l.F _ _ _ _
  rw [hl]
  have F71 := FC (k := 71) rfl (hF e71 (by rfl) (by decide))
  have hSS := F71
  obtain ⟨S, now, bu, le, mo, T, rfl⟩ := fits6 hf
  obtain ⟨h0, h1, h2, h3, h4, h5, _⟩ := hf
  simp only [norm_i, norm_x] at h1 h2 h3 h4
  obtain ⟨p1, p2, p3, p4⟩ := hp
  simp only [S3, nowW, ewA, ewL, preC, binI, dvI, shI, cmpB, env, bi, List.headD, List.tail, List.map, Nat.reduceAdd] at p1 p2 p3 p4
  have f : ∀ k t, e71.fn 0 [k, t] = blk k t := fun _ _ => rfl
  have n1 := blk_rng 1 p3
  have n2 := blk_rng 2 p3
  have n3 := blk_rng 3 p3
  have y1 : e71.pre [1, now] := ⟨by show (0 : Int) ≤ 1; decide, by show (1 : Int) ≤ 4; decide⟩
  have y2 : e71.pre [2, now] := ⟨by show (0 : Int) ≤ 2; decide, by show (2 : Int) ≤ 4; decide⟩
  have y3 : e71.pre [3, now] := ⟨by show (0 : Int) ≤ 3; decide, by show (3 : Int) ≤ 4; decide⟩
  have t1 : (blk 1 now + 1).tmod 512 = (blk 1 now + 1) % 512 := Int.tmod_eq_emod_of_nonneg (by omega)
  have t2 : (blk 2 now + 1).tmod 512 = (blk 2 now + 1) % 512 := Int.tmod_eq_emod_of_nonneg (by omega)
  have t3 : (blk 3 now + 1).tmod 512 = (blk 3 now + 1) % 512 := Int.tmod_eq_emod_of_nonneg (by omega)
  have cw : ∀ k j, k < 2049 → j < 3 → IntKind.i64.wrap (gC (dc S) k j) = gC (dc S) k j := fun k j hk hj => by
    match j, hj with
    | 0, _ | 1, _ | 2, _ => exact rowsC p1 (by omega) rfl
  refine ⟨?_, ?_, trivial⟩
  · simp (disch := omega) only [ob_51, q_51_0, q_51_1, q_51_2, q_51_3, q_51_4, q_51_5, q_51_6, q_51_7, q_51_8, q_51_9, q_51_10, ewA, ewL, preC, binI, dvI, shI, cmpB, env, bi, List.headD, List.tail, List.map, Nat.reduceAdd, ewB, ewM, if_true, if_false, implies_true, forall_const, ne_eq, reduceCtorEq, Int.reduceEq, Int.reduceLT, Int.reduceLE, Int.reduceToNat, Int.reduceAdd, Int.reduceSub, Int.reduceMul, Int.reduceNeg, Int.reduceBEq, Nat.reduceLT, Nat.reduceEqDiff, hSS, h1, f, y1, y2, y3, t1, t2, t3, gC_def, cw, p2]
    omega
  · simp (disch := omega) only [es_51, q_51_0, q_51_1, q_51_2, q_51_3, q_51_4, q_51_5, q_51_6, q_51_7, q_51_8, q_51_9, q_51_10, e51, wtF, wK, S3, nowW, ewA, ewL, preC, binI, dvI, shI, cmpB, env, bi, List.headD, List.tail, List.map, Nat.reduceAdd, ewB, ewM, if_true, if_false, implies_true, forall_const, ne_eq, reduceCtorEq, Int.reduceEq, Int.reduceLT, Int.reduceLE, Int.reduceToNat, Int.reduceAdd, Int.reduceSub, Int.reduceMul, Int.reduceNeg, Int.reduceBEq, Nat.reduceLT, Nat.reduceEqDiff, hSS, h1, f, y1, y2, y3, t1, t2, t3, gC_def, cw, p2]
    rw [Int.add_comm 512, Int.add_comm 1024, Int.add_comm 1536]
    have g1 := cw ((blk 1 now + 1) % 512 + 512).toNat 0 (by omega) (by decide)
    have g2 := cw ((blk 2 now + 1) % 512 + 1024).toNat 0 (by omega) (by decide)
    have g3 := cw ((blk 3 now + 1) % 512 + 1536).toNat 0 (by omega) (by decide)
    by_cases c1 : 0 < gC (dc S) ((blk 1 now + 1) % 512 + 512).toNat 2
    · rw [if_pos c1, if_pos (fun h => absurd c1 (by omega)), if_pos c1, g1]
    · rw [if_neg c1]
      by_cases c2 : 0 < gC (dc S) ((blk 2 now + 1) % 512 + 1024).toNat 2
      · rw [if_pos c2, if_pos (fun _ => ⟨by omega, fun h => absurd c2 (by omega)⟩), if_neg c1, if_pos c2, g2]
      · rw [if_neg c2]
        by_cases c3 : 0 < gC (dc S) ((blk 3 now + 1) % 512 + 1536).toNat 2
        · rw [if_pos c3, if_pos (fun _ => ⟨by omega, fun _ => ⟨by omega, c3⟩⟩), if_neg c1, if_neg c2, g3]
        · rw [if_neg c3, if_neg (fun h => c3 ((h (by omega)).2 (by omega)).2)]; rfl

end
end Go.Proofs.Ytfhheeoejncfgaa.Ew

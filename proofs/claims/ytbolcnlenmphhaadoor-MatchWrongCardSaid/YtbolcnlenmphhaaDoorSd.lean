/- Layer 26: MatchWrong. Printed by a program from the evaluator's own output; the lemmas by hand. -/
import Derived.Test.YtbolcnlenmphhaaDoorSc
set_option linter.unusedVariables false
set_option linter.unusedSimpArgs false
namespace Go.Proofs.YtbolcnlenmphhaaDoor
open Go Go.RowKit Ev


theorem V24 (X : Nat → Int) (p0 p1 p2 p3 p4 p5 p6 p7 p8 p9 p10 p11 p12 p13 p14 p15 p16 p17 p18 p19 : Int) : T18.F 24 1 [X 0, X 1, X 2, X 3, X 4, X 5, X 6, X 7, X 8, X 9, X 10, X 11, X 12, p0, p1, p2, p3, p4, p5, p6, p7, p8, p9, p10, p11, p12, p13, p14, p15, p16, p17, p18, p19] = bif !rightS X then 260 else bif !goodP p0 p1 then 261 else 0 := rfl
theorem bad18 : ∀ k : Nat, k < 256 → (bitsI .or .u8 18 (k : Int) == 1 || bitsI .or .u8 18 (k : Int) == 6 || bitsI .or .u8 18 (k : Int) == 17) = false := by decide +kernel


theorem bad4 : ∀ k : Nat, k < 32 → pR (bitsI .or .u32 (shI .shl .u32 1 k) 2147483648) (IntKind.wrap .u8 (31 - (k : Int))) = false := by decide +kernel
theorem bad8 : ∀ k : Nat, k < 64 → sub8 4 (bitsI .andNot .u8 (k : Int) 4) = false := by decide +kernel
theorem bad7 : ∀ k : Nat, k < 256 → bitsI .or .u8 (k : Int) 64 > 63 := by decide +kernel

def c10x0 : List E :=
  [(.var (.i .u8) 0), (.var (.i .u8) 1), (.var (.i .u8) 2), (.var (.i .u8) 3), (.var (.i .u8) 4), (.var (.i .u8) 5), (.var (.i .u8) 6), (.var (.i .u8) 7), (.var (.i .u8) 8), (.var (.i .u8) 9), (.var (.i .u8) 10), (.var (.i .u8) 11), (.var .b
    12)]
def c10x1 : E :=
  (.ite (.cmp .eql (.dv .rem .u8 (.var (.i .u8) 13) 10) (.lit (.i .u8) 0)) (.ite (.cmp .gtr (.lit (.i .u8) 3) (.var (.i .u8) 14)) (.lit (.i .u8) 3) (.var (.i .u8) 14)) (.app (.i .u8) 13 0 c10x0))
def c10x2 : E :=
  (.ite (.cmp .eql (.dv .rem .u8 (.var (.i .u8) 13) 10) (.lit (.i .u8) 8)) (.app (.i .u8) 13 1 c10x0) (.lit (.i .u8) 1))
def c10x3 : E :=
  (.ite (.cmp .eql (.dv .rem .u8 (.var (.i .u8) 13) 10) (.lit (.i .u8) 6)) (.lit (.i .u8) 0) (.ite (.cmp .eql (.dv .rem .u8 (.var (.i .u8) 13) 10) (.lit (.i .u8) 7)) (.app (.i .u8) 13 1 c10x0) c10x2))
def c10x4 : E :=
  (.ite (.cmp .eql (.dv .rem .u8 (.var (.i .u8) 13) 10) (.lit (.i .u8) 4)) (.app (.i .u8) 13 1 c10x0) (.ite (.cmp .eql (.dv .rem .u8 (.var (.i .u8) 13) 10) (.lit (.i .u8) 5)) (.lit (.i .u8) 17) c10x3))
def c10x5 : E :=
  (.ite (.cmp .eql (.dv .rem .u8 (.var (.i .u8) 13) 10) (.lit (.i .u8) 2)) (.bin .add .u8 (.lit (.i .u8) 2) (.dv .rem .u8 (.var (.i .u8) 14) 4)) (.ite (.cmp .eql (.dv .rem .u8 (.var (.i .u8) 13) 10) (.lit (.i .u8) 3)) (.app (.i .u8) 13 1
    c10x0) c10x4))
def c10x6 : E :=
  (.ite (.cmp .eql (.dv .rem .u8 (.var (.i .u8) 13) 10) (.lit (.i .u8) 1)) (.ite (.cmp .gtr (.lit (.i .u8) 18) (.var (.i .u8) 14)) (.lit (.i .u8) 18) (.var (.i .u8) 14)) c10x5)
def c10x7 : E :=
  (.ite (.cmp .eql (.dv .rem .u8 (.var (.i .u8) 13) 10) (.lit (.i .u8) 8)) (.bin .andNot .u8 (.dv .rem .u8 (.var (.i .u8) 14) 64) (.lit (.i .u8) 4)) (.bin .add .u8 (.lit (.i .u8) 1) (.dv .rem .u8 (.var (.i .u8) 14) 63)))
def c10x8 : E :=
  (.ite (.cmp .eql (.dv .rem .u8 (.var (.i .u8) 13) 10) (.lit (.i .u8) 7)) (.bin .or .u8 (.var (.i .u8) 14) (.lit (.i .u8) 64)) c10x7)
def c10x9 : E :=
  (.ite (.cmp .eql (.dv .rem .u8 (.var (.i .u8) 13) 10) (.lit (.i .u8) 5)) (.lit (.i .u8) 0) (.ite (.cmp .eql (.dv .rem .u8 (.var (.i .u8) 13) 10) (.lit (.i .u8) 6)) (.lit (.i .u8) 0) c10x8))
def c10x10 : E :=
  (.ite (.cmp .eql (.dv .rem .u8 (.var (.i .u8) 13) 10) (.lit (.i .u8) 3)) (.app (.i .u8) 13 2 c10x0) (.ite (.cmp .eql (.dv .rem .u8 (.var (.i .u8) 13) 10) (.lit (.i .u8) 4)) (.app (.i .u8) 13 2 c10x0) c10x9))
def c10x11 : E :=
  (.ite (.cmp .eql (.dv .rem .u8 (.var (.i .u8) 13) 10) (.lit (.i .u8) 1)) (.app (.i .u8) 13 2 c10x0) (.ite (.cmp .eql (.dv .rem .u8 (.var (.i .u8) 13) 10) (.lit (.i .u8) 2)) (.app (.i .u8) 13 2 c10x0) c10x10))
def c10x12 : E :=
  (.ite (.cmp .eql (.dv .rem .u8 (.var (.i .u8) 13) 10) (.lit (.i .u8) 7)) (.app (.i .u8) 13 3 c10x0) (.ite (.cmp .eql (.dv .rem .u8 (.var (.i .u8) 13) 10) (.lit (.i .u8) 8)) (.lit (.i .u8) 4) (.lit (.i .u8) 0)))
def c10x13 : E :=
  (.ite (.cmp .eql (.dv .rem .u8 (.var (.i .u8) 13) 10) (.lit (.i .u8) 5)) (.lit (.i .u8) 0) (.ite (.cmp .eql (.dv .rem .u8 (.var (.i .u8) 13) 10) (.lit (.i .u8) 6)) (.lit (.i .u8) 0) c10x12))
def c10x14 : E :=
  (.ite (.cmp .eql (.dv .rem .u8 (.var (.i .u8) 13) 10) (.lit (.i .u8) 3)) (.app (.i .u8) 13 3 c10x0) (.ite (.cmp .eql (.dv .rem .u8 (.var (.i .u8) 13) 10) (.lit (.i .u8) 4)) (.app (.i .u8) 13 3 c10x0) c10x13))
def c10x15 : E :=
  (.ite (.cmp .eql (.dv .rem .u8 (.var (.i .u8) 13) 10) (.lit (.i .u8) 1)) (.app (.i .u8) 13 3 c10x0) (.ite (.cmp .eql (.dv .rem .u8 (.var (.i .u8) 13) 10) (.lit (.i .u8) 2)) (.app (.i .u8) 13 3 c10x0) c10x14))
def c10x16 : E :=
  (.ite (.cmp .eql (.dv .rem .u8 (.var (.i .u8) 13) 10) (.lit (.i .u8) 3)) (.ite (.cmp .gtr (.lit (.i .u8) 33) (.var (.i .u8) 14)) (.lit (.i .u8) 33) (.var (.i .u8) 14)) (.app (.i .u8) 13 5 c10x0))
def c10x17 : E :=
  (.ite (.cmp .eql (.dv .rem .u8 (.var (.i .u8) 13) 10) (.lit (.i .u8) 1)) (.app (.i .u8) 13 5 c10x0) (.ite (.cmp .eql (.dv .rem .u8 (.var (.i .u8) 13) 10) (.lit (.i .u8) 2)) (.app (.i .u8) 13 5 c10x0) c10x16))
def c10x18 : E :=
  (.bin .or .u32 (.sh .shl .u32 (.lit (.i .u32) 1) (.dv .rem .u8 (.var (.i .u8) 14) 32)) (.lit (.i .u32) 2147483648))
def c10x19 : E :=
  (.ite (.cmp .eql (.dv .rem .u8 (.var (.i .u8) 13) 10) (.lit (.i .u8) 3)) (.app (.i .u32) 13 6 c10x0) (.ite (.cmp .eql (.dv .rem .u8 (.var (.i .u8) 13) 10) (.lit (.i .u8) 4)) c10x18 (.app (.i .u32) 13 6 c10x0)))
def c10x20 : E :=
  (.ite (.cmp .eql (.dv .rem .u8 (.var (.i .u8) 13) 10) (.lit (.i .u8) 1)) (.app (.i .u32) 13 6 c10x0) (.ite (.cmp .eql (.dv .rem .u8 (.var (.i .u8) 13) 10) (.lit (.i .u8) 2)) (.app (.i .u32) 13 6 c10x0) c10x19))
def c10x21 : E :=
  (.ite (.cmp .eql (.dv .rem .u8 (.var (.i .u8) 13) 10) (.lit (.i .u8) 4)) (.bin .sub .u8 (.lit (.i .u8) 31) (.dv .rem .u8 (.var (.i .u8) 14) 32)) (.app (.i .u8) 13 7 c10x0))
def c10x22 : E :=
  (.ite (.cmp .eql (.dv .rem .u8 (.var (.i .u8) 13) 10) (.lit (.i .u8) 2)) (.app (.i .u8) 13 7 c10x0) (.ite (.cmp .eql (.dv .rem .u8 (.var (.i .u8) 13) 10) (.lit (.i .u8) 3)) (.app (.i .u8) 13 7 c10x0) c10x21))
def c10x23 : E :=
  (.ite (.cmp .eql (.dv .rem .u8 (.var (.i .u8) 13) 10) (.lit (.i .u8) 0)) (.app (.i .u8) 13 7 c10x0) (.ite (.cmp .eql (.dv .rem .u8 (.var (.i .u8) 13) 10) (.lit (.i .u8) 1)) (.app (.i .u8) 13 7 c10x0) c10x22))
def c10x24 : E :=
  (.ite (.cmp .eql (.dv .rem .u8 (.var (.i .u8) 13) 10) (.lit (.i .u8) 8)) (.app (.i .u16) 13 8 c10x0) (.lit (.i .u16) 0))
def c10x25 : E :=
  (.ite (.cmp .eql (.dv .rem .u8 (.var (.i .u8) 13) 10) (.lit (.i .u8) 6)) (.lit (.i .u16) 0) (.ite (.cmp .eql (.dv .rem .u8 (.var (.i .u8) 13) 10) (.lit (.i .u8) 7)) (.app (.i .u16) 13 8 c10x0) c10x24))
def c10x26 : E :=
  (.ite (.cmp .eql (.dv .rem .u8 (.var (.i .u8) 13) 10) (.lit (.i .u8) 5)) (.bin .add .u16 (.conv .u16 (.var (.i .u8) 14)) (.lit (.i .u16) 1)) c10x25)
def c10x27 : E :=
  (.ite (.cmp .eql (.dv .rem .u8 (.var (.i .u8) 13) 10) (.lit (.i .u8) 3)) (.app (.i .u16) 13 8 c10x0) (.ite (.cmp .eql (.dv .rem .u8 (.var (.i .u8) 13) 10) (.lit (.i .u8) 4)) (.app (.i .u16) 13 8 c10x0) c10x26))
def c10x28 : E :=
  (.ite (.cmp .eql (.dv .rem .u8 (.var (.i .u8) 13) 10) (.lit (.i .u8) 1)) (.app (.i .u16) 13 8 c10x0) (.ite (.cmp .eql (.dv .rem .u8 (.var (.i .u8) 13) 10) (.lit (.i .u8) 2)) (.app (.i .u16) 13 8 c10x0) c10x27))
def c10x29 : E :=
  (.ite (.cmp .eql (.dv .rem .u8 (.var (.i .u8) 13) 10) (.lit (.i .u8) 8)) (.app (.i .u16) 13 9 c10x0) (.lit (.i .u16) 65535))
def c10x30 : E :=
  (.ite (.cmp .eql (.dv .rem .u8 (.var (.i .u8) 13) 10) (.lit (.i .u8) 6)) (.lit (.i .u16) 65535) (.ite (.cmp .eql (.dv .rem .u8 (.var (.i .u8) 13) 10) (.lit (.i .u8) 7)) (.app (.i .u16) 13 9 c10x0) c10x29))
def c10x31 : E :=
  (.ite (.cmp .eql (.dv .rem .u8 (.var (.i .u8) 13) 10) (.lit (.i .u8) 5)) (.conv .u16 (.var (.i .u8) 14)) c10x30)
def c10x32 : E :=
  (.ite (.cmp .eql (.dv .rem .u8 (.var (.i .u8) 13) 10) (.lit (.i .u8) 3)) (.app (.i .u16) 13 9 c10x0) (.ite (.cmp .eql (.dv .rem .u8 (.var (.i .u8) 13) 10) (.lit (.i .u8) 4)) (.app (.i .u16) 13 9 c10x0) c10x31))
def c10x33 : E :=
  (.ite (.cmp .eql (.dv .rem .u8 (.var (.i .u8) 13) 10) (.lit (.i .u8) 1)) (.app (.i .u16) 13 9 c10x0) (.ite (.cmp .eql (.dv .rem .u8 (.var (.i .u8) 13) 10) (.lit (.i .u8) 2)) (.app (.i .u16) 13 9 c10x0) c10x32))
def c10x34 : E :=
  (.ite (.cmp .eql (.dv .rem .u8 (.var (.i .u8) 13) 10) (.lit (.i .u8) 8)) (.app (.i .u16) 13 10 c10x0) (.lit (.i .u16) 0))
def c10x35 : E :=
  (.ite (.cmp .eql (.dv .rem .u8 (.var (.i .u8) 13) 10) (.lit (.i .u8) 6)) (.lit (.i .u16) 0) (.ite (.cmp .eql (.dv .rem .u8 (.var (.i .u8) 13) 10) (.lit (.i .u8) 7)) (.app (.i .u16) 13 10 c10x0) c10x34))
def c10x36 : E :=
  (.ite (.cmp .eql (.dv .rem .u8 (.var (.i .u8) 13) 10) (.lit (.i .u8) 4)) (.app (.i .u16) 13 10 c10x0) (.ite (.cmp .eql (.dv .rem .u8 (.var (.i .u8) 13) 10) (.lit (.i .u8) 5)) (.app (.i .u16) 13 10 c10x0) c10x35))
def c10x37 : E :=
  (.ite (.cmp .eql (.dv .rem .u8 (.var (.i .u8) 13) 10) (.lit (.i .u8) 2)) (.app (.i .u16) 13 10 c10x0) (.ite (.cmp .eql (.dv .rem .u8 (.var (.i .u8) 13) 10) (.lit (.i .u8) 3)) (.app (.i .u16) 13 10 c10x0) c10x36))
def c10x38 : E :=
  (.ite (.cmp .eql (.dv .rem .u8 (.var (.i .u8) 13) 10) (.lit (.i .u8) 0)) (.app (.i .u16) 13 10 c10x0) (.ite (.cmp .eql (.dv .rem .u8 (.var (.i .u8) 13) 10) (.lit (.i .u8) 1)) (.app (.i .u16) 13 10 c10x0) c10x37))
def c10x39 : E :=
  (.ite (.cmp .eql (.dv .rem .u8 (.var (.i .u8) 13) 10) (.lit (.i .u8) 8)) (.app (.i .u16) 13 11 c10x0) (.lit (.i .u16) 65535))
def c10x40 : E :=
  (.ite (.cmp .eql (.dv .rem .u8 (.var (.i .u8) 13) 10) (.lit (.i .u8) 6)) (.conv .u16 (.var (.i .u8) 14)) (.ite (.cmp .eql (.dv .rem .u8 (.var (.i .u8) 13) 10) (.lit (.i .u8) 7)) (.app (.i .u16) 13 11 c10x0) c10x39))
def c10x41 : E :=
  (.ite (.cmp .eql (.dv .rem .u8 (.var (.i .u8) 13) 10) (.lit (.i .u8) 4)) (.app (.i .u16) 13 11 c10x0) (.ite (.cmp .eql (.dv .rem .u8 (.var (.i .u8) 13) 10) (.lit (.i .u8) 5)) (.app (.i .u16) 13 11 c10x0) c10x40))
def c10x42 : E :=
  (.ite (.cmp .eql (.dv .rem .u8 (.var (.i .u8) 13) 10) (.lit (.i .u8) 2)) (.app (.i .u16) 13 11 c10x0) (.ite (.cmp .eql (.dv .rem .u8 (.var (.i .u8) 13) 10) (.lit (.i .u8) 3)) (.app (.i .u16) 13 11 c10x0) c10x41))
def c10x43 : E :=
  (.ite (.cmp .eql (.dv .rem .u8 (.var (.i .u8) 13) 10) (.lit (.i .u8) 0)) (.app (.i .u16) 13 11 c10x0) (.ite (.cmp .eql (.dv .rem .u8 (.var (.i .u8) 13) 10) (.lit (.i .u8) 1)) (.app (.i .u16) 13 11 c10x0) c10x42))
def c10x44 : List E :=
  [c10x1, (.ite (.cmp .eql (.dv .rem .u8 (.var (.i .u8) 13) 10) (.lit (.i .u8) 0)) (.app (.i .u8) 13 1 c10x0) c10x6), (.ite (.cmp .eql (.dv .rem .u8 (.var (.i .u8) 13) 10) (.lit (.i .u8) 0)) (.app (.i .u8) 13 2 c10x0) c10x11), (.ite (.cmp
    .eql (.dv .rem .u8 (.var (.i .u8) 13) 10) (.lit (.i .u8) 0)) (.app (.i .u8) 13 3 c10x0) c10x15), (.app (.i .u32) 13 4 c10x0), (.ite (.cmp .eql (.dv .rem .u8 (.var (.i .u8) 13) 10) (.lit (.i .u8) 0)) (.app (.i .u8) 13 5 c10x0) c10x17), (.ite
    (.cmp .eql (.dv .rem .u8 (.var (.i .u8) 13) 10) (.lit (.i .u8) 0)) (.app (.i .u32) 13 6 c10x0) c10x20), c10x23, (.ite (.cmp .eql (.dv .rem .u8 (.var (.i .u8) 13) 10) (.lit (.i .u8) 0)) (.app (.i .u16) 13 8 c10x0) c10x28), (.ite (.cmp .eql
    (.dv .rem .u8 (.var (.i .u8) 13) 10) (.lit (.i .u8) 0)) (.app (.i .u16) 13 9 c10x0) c10x33), c10x38, c10x43, (.app .b 13 12 c10x0), (.lit (.i .u8) 9), (.app (.i .u8) 16 1 c10x0), (.app (.i .u32) 16 2 c10x0), (.app (.i .u32) 16 3 c10x0),
    (.app (.i .u16) 16 4 c10x0), (.app (.i .u16) 16 5 c10x0), (.app (.i .u8) 16 6 c10x0), (.app (.i .u8) 16 7 c10x0), (.app (.i .u8) 16 8 c10x0), (.app (.i .u8) 16 9 c10x0), (.app (.i .u32) 16 10 c10x0), (.app (.i .u32) 16 11 c10x0), (.app (.i
    .i64) 16 12 c10x0), (.app (.i .i64) 16 13 c10x0), (.app (.i .u8) 16 14 c10x0), (.app (.i .u32) 16 15 c10x0), (.app (.i .u32) 16 16 c10x0), (.app (.i .u16) 16 17 c10x0), (.app (.i .u16) 16 18 c10x0), (.app (.i .u8) 16 19 c10x0)]
def c10x45 : List E :=
  [c10x1, (.ite (.cmp .eql (.dv .rem .u8 (.var (.i .u8) 13) 10) (.lit (.i .u8) 0)) (.app (.i .u8) 13 1 c10x0) c10x6), (.ite (.cmp .eql (.dv .rem .u8 (.var (.i .u8) 13) 10) (.lit (.i .u8) 0)) (.app (.i .u8) 13 2 c10x0) c10x11), (.ite (.cmp
    .eql (.dv .rem .u8 (.var (.i .u8) 13) 10) (.lit (.i .u8) 0)) (.app (.i .u8) 13 3 c10x0) c10x15), (.app (.i .u32) 13 4 c10x0), (.ite (.cmp .eql (.dv .rem .u8 (.var (.i .u8) 13) 10) (.lit (.i .u8) 0)) (.app (.i .u8) 13 5 c10x0) c10x17), (.ite
    (.cmp .eql (.dv .rem .u8 (.var (.i .u8) 13) 10) (.lit (.i .u8) 0)) (.app (.i .u32) 13 6 c10x0) c10x20), c10x23, (.ite (.cmp .eql (.dv .rem .u8 (.var (.i .u8) 13) 10) (.lit (.i .u8) 0)) (.app (.i .u16) 13 8 c10x0) c10x28), (.ite (.cmp .eql
    (.dv .rem .u8 (.var (.i .u8) 13) 10) (.lit (.i .u8) 0)) (.app (.i .u16) 13 9 c10x0) c10x33), c10x38, c10x43, (.app .b 13 12 c10x0)]
def c10x46 : List E :=
  [(.app (.i .u8) 13 0 c10x0), (.app (.i .u8) 13 1 c10x0), (.app (.i .u8) 13 2 c10x0), (.app (.i .u8) 13 3 c10x0), (.app (.i .u32) 13 4 c10x0), (.app (.i .u8) 13 5 c10x0), (.app (.i .u32) 13 6 c10x0), (.app (.i .u8) 13 7 c10x0), (.app (.i
    .u16) 13 8 c10x0), (.app (.i .u16) 13 9 c10x0), (.app (.i .u16) 13 10 c10x0), (.app (.i .u16) 13 11 c10x0), (.app .b 13 12 c10x0), c10x1, (.ite (.cmp .eql (.dv .rem .u8 (.var (.i .u8) 13) 10) (.lit (.i .u8) 0)) (.app (.i .u8) 13 1 c10x0)
    c10x6), (.ite (.cmp .eql (.dv .rem .u8 (.var (.i .u8) 13) 10) (.lit (.i .u8) 0)) (.app (.i .u8) 13 2 c10x0) c10x11), (.ite (.cmp .eql (.dv .rem .u8 (.var (.i .u8) 13) 10) (.lit (.i .u8) 0)) (.app (.i .u8) 13 3 c10x0) c10x15), (.app (.i
    .u32) 13 4 c10x0), (.ite (.cmp .eql (.dv .rem .u8 (.var (.i .u8) 13) 10) (.lit (.i .u8) 0)) (.app (.i .u8) 13 5 c10x0) c10x17), (.ite (.cmp .eql (.dv .rem .u8 (.var (.i .u8) 13) 10) (.lit (.i .u8) 0)) (.app (.i .u32) 13 6 c10x0) c10x20),
    c10x23, (.ite (.cmp .eql (.dv .rem .u8 (.var (.i .u8) 13) 10) (.lit (.i .u8) 0)) (.app (.i .u16) 13 8 c10x0) c10x28), (.ite (.cmp .eql (.dv .rem .u8 (.var (.i .u8) 13) 10) (.lit (.i .u8) 0)) (.app (.i .u16) 13 9 c10x0) c10x33), c10x38,
    c10x43, (.app .b 13 12 c10x0)]
def c10x47 : List E :=
  [c10x1, (.ite (.cmp .eql (.dv .rem .u8 (.var (.i .u8) 13) 10) (.lit (.i .u8) 0)) (.app (.i .u8) 13 1 c10x0) c10x6), (.ite (.cmp .eql (.dv .rem .u8 (.var (.i .u8) 13) 10) (.lit (.i .u8) 0)) (.app (.i .u8) 13 2 c10x0) c10x11), (.ite (.cmp
    .eql (.dv .rem .u8 (.var (.i .u8) 13) 10) (.lit (.i .u8) 0)) (.app (.i .u8) 13 3 c10x0) c10x15), (.app (.i .u32) 13 4 c10x0), (.ite (.cmp .eql (.dv .rem .u8 (.var (.i .u8) 13) 10) (.lit (.i .u8) 0)) (.app (.i .u8) 13 5 c10x0) c10x17), (.ite
    (.cmp .eql (.dv .rem .u8 (.var (.i .u8) 13) 10) (.lit (.i .u8) 0)) (.app (.i .u32) 13 6 c10x0) c10x20), c10x23, (.ite (.cmp .eql (.dv .rem .u8 (.var (.i .u8) 13) 10) (.lit (.i .u8) 0)) (.app (.i .u16) 13 8 c10x0) c10x28), (.ite (.cmp .eql
    (.dv .rem .u8 (.var (.i .u8) 13) 10) (.lit (.i .u8) 0)) (.app (.i .u16) 13 9 c10x0) c10x33), c10x38, c10x43, (.app .b 13 12 c10x0), (.app (.i .u8) 13 0 c10x0), (.app (.i .u8) 13 1 c10x0), (.app (.i .u8) 13 2 c10x0), (.app (.i .u8) 13 3
    c10x0), (.app (.i .u32) 13 4 c10x0), (.app (.i .u8) 13 5 c10x0), (.app (.i .u32) 13 6 c10x0), (.app (.i .u8) 13 7 c10x0), (.app (.i .u16) 13 8 c10x0), (.app (.i .u16) 13 9 c10x0), (.app (.i .u16) 13 10 c10x0), (.app (.i .u16) 13 11 c10x0),
    (.app .b 13 12 c10x0)]
def es10 : List E :=
  [(.and (.not (.or (.cmp .neq (.app (.i .i64) 24 1 c10x44) (.lit (.i .i64) 260)) (.and (.not (.cmp .neq (.app (.i .i64) 24 1 c10x44) (.lit (.i .i64) 260))) (.or (.cmp .neq (.app (.i .i64) 19 20 c10x45) (.lit (.i .i64) 260)) (.and (.not (.cmp
    .neq (.app (.i .i64) 19 20 c10x45) (.lit (.i .i64) 260))) (.or (.cmp .neq (.app (.i .i64) 14 1 c10x46) (.lit (.i .i64) 260)) (.and (.not (.cmp .neq (.app (.i .i64) 14 1 c10x46) (.lit (.i .i64) 260))) (.or (.cmp .neq (.app (.i .i64) 14 1
    c10x47) (.lit (.i .i64) 260)) (.and (.not (.cmp .neq (.app (.i .i64) 14 1 c10x47) (.lit (.i .i64) 260))) (.or (.cmp .neq (.app (.i .i64) 20 20 c10x47) (.lit (.i .i64) 260)) (.and (.not (.cmp .neq (.app (.i .i64) 20 20 c10x47) (.lit (.i
    .i64) 260))) (.cmp .neq (.app (.i .i64) 15 13 c10x46) (.lit (.i .i64) 260))))))))))))) (.and (.and (.and (.not (.app .b 17 0 c10x45)) (.app .b 17 0 [(.app (.i .u8) 13 0 c10x0), (.app (.i .u8) 13 1 c10x0), (.app (.i .u8) 13 2 c10x0), (.app
    (.i .u8) 13 3 c10x0), (.app (.i .u32) 13 4 c10x0), (.app (.i .u8) 13 5 c10x0), (.app (.i .u32) 13 6 c10x0), (.app (.i .u8) 13 7 c10x0), (.app (.i .u16) 13 8 c10x0), (.app (.i .u16) 13 9 c10x0), (.app (.i .u16) 13 10 c10x0), (.app (.i .u16)
    13 11 c10x0), (.app .b 13 12 c10x0)])) (.cmp .eql (.app (.i .i64) 24 1 [(.app (.i .u8) 13 0 c10x0), (.app (.i .u8) 13 1 c10x0), (.app (.i .u8) 13 2 c10x0), (.app (.i .u8) 13 3 c10x0), (.app (.i .u32) 13 4 c10x0), (.app (.i .u8) 13 5 c10x0),
    (.app (.i .u32) 13 6 c10x0), (.app (.i .u8) 13 7 c10x0), (.app (.i .u16) 13 8 c10x0), (.app (.i .u16) 13 9 c10x0), (.app (.i .u16) 13 10 c10x0), (.app (.i .u16) 13 11 c10x0), (.app .b 13 12 c10x0), (.ite (.cmp .gtr (.lit (.i .u8) 2) (.var
    (.i .u8) 14)) (.lit (.i .u8) 2) (.var (.i .u8) 14)), (.app (.i .u8) 16 1 c10x0), (.app (.i .u32) 16 2 c10x0), (.app (.i .u32) 16 3 c10x0), (.app (.i .u16) 16 4 c10x0), (.app (.i .u16) 16 5 c10x0), (.app (.i .u8) 16 6 c10x0), (.app (.i .u8)
    16 7 c10x0), (.app (.i .u8) 16 8 c10x0), (.app (.i .u8) 16 9 c10x0), (.app (.i .u32) 16 10 c10x0), (.app (.i .u32) 16 11 c10x0), (.app (.i .i64) 16 12 c10x0), (.app (.i .i64) 16 13 c10x0), (.app (.i .u8) 16 14 c10x0), (.app (.i .u32) 16 15
    c10x0), (.app (.i .u32) 16 16 c10x0), (.app (.i .u16) 16 17 c10x0), (.app (.i .u16) 16 18 c10x0), (.app (.i .u8) 16 19 c10x0)]) (.lit (.i .i64) 261))) (.cmp .eql (.app (.i .i64) 24 1 [(.app (.i .u8) 13 0 c10x0), (.app (.i .u8) 13 1 c10x0),
    (.app (.i .u8) 13 2 c10x0), (.app (.i .u8) 13 3 c10x0), (.app (.i .u32) 13 4 c10x0), (.app (.i .u8) 13 5 c10x0), (.app (.i .u32) 13 6 c10x0), (.app (.i .u8) 13 7 c10x0), (.app (.i .u16) 13 8 c10x0), (.app (.i .u16) 13 9 c10x0), (.app (.i
    .u16) 13 10 c10x0), (.app (.i .u16) 13 11 c10x0), (.app .b 13 12 c10x0), (.app (.i .u8) 16 0 c10x0), (.bin .or .u8 (.lit (.i .u8) 18) (.var (.i .u8) 14)), (.app (.i .u32) 16 2 c10x0), (.app (.i .u32) 16 3 c10x0), (.app (.i .u16) 16 4
    c10x0), (.app (.i .u16) 16 5 c10x0), (.app (.i .u8) 16 6 c10x0), (.app (.i .u8) 16 7 c10x0), (.app (.i .u8) 16 8 c10x0), (.app (.i .u8) 16 9 c10x0), (.app (.i .u32) 16 10 c10x0), (.app (.i .u32) 16 11 c10x0), (.app (.i .i64) 16 12 c10x0),
    (.app (.i .i64) 16 13 c10x0), (.app (.i .u8) 16 14 c10x0), (.app (.i .u32) 16 15 c10x0), (.app (.i .u32) 16 16 c10x0), (.app (.i .u16) 16 17 c10x0), (.app (.i .u16) 16 18 c10x0), (.app (.i .u8) 16 19 c10x0)]) (.lit (.i .i64) 261))))]
def en10' : Entry := ⟨10, 10, [.a smallK, .s (.i .u8), .s (.i .u8)], .one (.s (.b)), fnOf T18 es10⟩
theorem ok10' : EntryOK Tryd.prog G0 en10' := evE_ok (N := 200) (n := 20) (by kernel_rfl) tok18 (by kernel_rfl)
def en10 : Entry := ⟨10, 10, [.a smallK, .s (.i .u8), .s (.i .u8)], .one (.s (.b)), fun _ _ => 1⟩
theorem lem10 : ∀ xs, fits (allKs en10'.ps) xs → outsE en10'.fn xs 0 en10'.rs.ks = outsE en10.fn xs 0 en10.rs.ks := by
  intro xs hx
  replace hx : fits [.i .u8, .i .u8, .i .u8, .i .u8, .i .u8, .i .u8, .i .u8, .i .u8, .i .u8, .i .u8, .i .u8, .i .u8, .b, .i .u8, .i .u8] xs := hx
  obtain ⟨a0, r0, rfl, h0, y0⟩ := fits_cons hx
  obtain ⟨a1, r1, rfl, h1, y1⟩ := fits_cons y0
  obtain ⟨a2, r2, rfl, h2, y2⟩ := fits_cons y1
  obtain ⟨a3, r3, rfl, h3, y3⟩ := fits_cons y2
  obtain ⟨a4, r4, rfl, h4, y4⟩ := fits_cons y3
  obtain ⟨a5, r5, rfl, h5, y5⟩ := fits_cons y4
  obtain ⟨a6, r6, rfl, h6, y6⟩ := fits_cons y5
  obtain ⟨a7, r7, rfl, h7, y7⟩ := fits_cons y6
  obtain ⟨a8, r8, rfl, h8, y8⟩ := fits_cons y7
  obtain ⟨a9, r9, rfl, h9, y9⟩ := fits_cons y8
  obtain ⟨a10, r10, rfl, h10, y10⟩ := fits_cons y9
  obtain ⟨a11, r11, rfl, h11, y11⟩ := fits_cons y10
  obtain ⟨a12, r12, rfl, h12, y12⟩ := fits_cons y11
  obtain ⟨a13, r13, rfl, h13, y13⟩ := fits_cons y12
  obtain ⟨a14, r14, rfl, h14, y14⟩ := fits_cons y13
  obtain rfl := fits_nil y14
  clear hx y0 y1 y2 y3 y4 y5 y6 y7 y8 y9 y10 y11 y12 y13 y14
  refine outs_one ?_
  show fnOf T18 es10 0 [a0, a1, a2, a3, a4, a5, a6, a7, a8, a9, a10, a11, a12, a13, a14] = 1
  obtain ⟨A, eA⟩ : ∃ A : Nat → Int, A = fun j => fnOf T28 es13 j [a0, a1, a2, a3, a4, a5, a6, a7, a8, a9, a10, a11, a12] := ⟨_, rfl⟩
  have mA := made_rl (show fits smallK [a0, a1, a2, a3, a4, a5, a6, a7, a8, a9, a10, a11, a12] from ⟨h0, h1, h2, h3, h4, h5, h6, h7, h8, h9, h10, h11, h12, trivial⟩)
  have rA : Rl A := by rw [eA]; exact mA.1
  have bA : K.norm .b (A 12) = A 12 := by rw [eA]; exact mA.2
  have FA : ∀ j, T18.F 13 j [a0, a1, a2, a3, a4, a5, a6, a7, a8, a9, a10, a11, a12] = A j := fun j => by rw [eA]; rfl
  have NA := rA.i.nrm
  clear mA eA
  have gP := pkt_good (show fits smallK [a0, a1, a2, a3, a4, a5, a6, a7, a8, a9, a10, a11, a12] from ⟨h0, h1, h2, h3, h4, h5, h6, h7, h8, h9, h10, h11, h12, trivial⟩)
  have q13 := rng8 h13
  have q14 := rng8 h14
  obtain ⟨B, eB⟩ : ∃ B : Nat → Int, B = fun i => E.den T18.F (fun i => [a0, a1, a2, a3, a4, a5, a6, a7, a8, a9, a10, a11, a12, a13, a14].getD i 0) (c10x45.getD i (mkB false)) := ⟨_, rfl⟩
  have d0 : E.denL T18.F (fun i => [a0, a1, a2, a3, a4, a5, a6, a7, a8, a9, a10, a11, a12, a13, a14].getD i 0) c10x0 = [a0, a1, a2, a3, a4, a5, a6, a7, a8, a9, a10, a11, a12] := by simp only [c10x0, fnOf, E.den, E.denL, binI, dvI, shI, cmpB, List.getD_cons_zero, List.getD_cons_succ, i2b_b2i, norm_b2i, h0, h1, h2, h3, h4, h5, h6, h7, h8, h9, h10, h11, h12]
  obtain ⟨w0, w1, w2⟩ := tm8 q13 (n := 10) (by omega) (by omega)
  have bad : rightS B = false := by
    rw [Bool.eq_false_iff]
    intro hh
    have hR := (rightS_iff B).1 hh
    obtain ⟨w, hw⟩ := Int.eq_ofNat_of_zero_le w0
    match w, (show w < 10 by omega) with
    | 0, _ =>
      replace hw : a13.tmod 10 = 0 := hw
      have e0 : B 0 = max a14 3 := by
        rw [eB]
        show E.den T18.F (fun i => [a0, a1, a2, a3, a4, a5, a6, a7, a8, a9, a10, a11, a12, a13, a14].getD i 0) (c10x45.getD 0 (mkB false)) = _
        simp only [c10x45, c10x1, c10x2, c10x3, c10x4, c10x5, c10x6, c10x7, c10x8, c10x9, c10x10, c10x11, c10x12, c10x13, c10x14, c10x15, c10x16, c10x17, c10x18, c10x19, c10x20, c10x21, c10x22, c10x23, c10x24, c10x25, c10x26, c10x27, c10x28, c10x29, c10x30, c10x31, c10x32, c10x33, c10x34, c10x35, c10x36, c10x37, c10x38, c10x39, c10x40, c10x41, c10x42, c10x43, fnOf, E.den, E.denL, binI, dvI, shI, cmpB, List.getD_cons_zero, List.getD_cons_succ, i2b_b2i, norm_b2i, h13, hw, h14, d0, FA, NA.n0, NA.n1, NA.n2, NA.n3, NA.n4, NA.n5, NA.n6, NA.n7, NA.n8, NA.n9, NA.n10, NA.n11, bA, show K.norm (.i .u8) 0 = 0 from rfl, show K.norm (.i .u8) 1 = 1 from rfl, show K.norm (.i .u8) 2 = 2 from rfl, show K.norm (.i .u8) 3 = 3 from rfl, show K.norm (.i .u8) 4 = 4 from rfl, show K.norm (.i .u8) 5 = 5 from rfl, show K.norm (.i .u8) 6 = 6 from rfl, show K.norm (.i .u8) 7 = 7 from rfl, show K.norm (.i .u8) 8 = 8 from rfl, show K.norm (.i .u8) 9 = 9 from rfl, show K.norm (.i .u8) 17 = 17 from rfl, show K.norm (.i .u8) 18 = 18 from rfl, show K.norm (.i .u8) 31 = 31 from rfl, show K.norm (.i .u8) 32 = 32 from rfl, show K.norm (.i .u8) 33 = 33 from rfl, show K.norm (.i .u8) 63 = 63 from rfl, show K.norm (.i .u8) 64 = 64 from rfl, show K.norm (.i .u8) 26 = 26 from rfl, show K.norm (.i .u16) 0 = 0 from rfl, show K.norm (.i .u16) 1 = 1 from rfl, show K.norm (.i .u16) 65535 = 65535 from rfl, show K.norm (.i .u32) 0 = 0 from rfl, show K.norm (.i .u32) 1 = 1 from rfl, show K.norm (.i .u32) 2147483648 = 2147483648 from rfl, Int.reduceBEq, cond_true, cond_false, bif_max, bif_min]
      have := hR.side
      omega
    | 1, _ =>
      replace hw : a13.tmod 10 = 1 := hw
      have e1 : B 1 = max a14 18 := by
        rw [eB]
        show E.den T18.F (fun i => [a0, a1, a2, a3, a4, a5, a6, a7, a8, a9, a10, a11, a12, a13, a14].getD i 0) (c10x45.getD 1 (mkB false)) = _
        simp only [c10x45, c10x1, c10x2, c10x3, c10x4, c10x5, c10x6, c10x7, c10x8, c10x9, c10x10, c10x11, c10x12, c10x13, c10x14, c10x15, c10x16, c10x17, c10x18, c10x19, c10x20, c10x21, c10x22, c10x23, c10x24, c10x25, c10x26, c10x27, c10x28, c10x29, c10x30, c10x31, c10x32, c10x33, c10x34, c10x35, c10x36, c10x37, c10x38, c10x39, c10x40, c10x41, c10x42, c10x43, fnOf, E.den, E.denL, binI, dvI, shI, cmpB, List.getD_cons_zero, List.getD_cons_succ, i2b_b2i, norm_b2i, h13, hw, h14, d0, FA, NA.n0, NA.n1, NA.n2, NA.n3, NA.n4, NA.n5, NA.n6, NA.n7, NA.n8, NA.n9, NA.n10, NA.n11, bA, show K.norm (.i .u8) 0 = 0 from rfl, show K.norm (.i .u8) 1 = 1 from rfl, show K.norm (.i .u8) 2 = 2 from rfl, show K.norm (.i .u8) 3 = 3 from rfl, show K.norm (.i .u8) 4 = 4 from rfl, show K.norm (.i .u8) 5 = 5 from rfl, show K.norm (.i .u8) 6 = 6 from rfl, show K.norm (.i .u8) 7 = 7 from rfl, show K.norm (.i .u8) 8 = 8 from rfl, show K.norm (.i .u8) 9 = 9 from rfl, show K.norm (.i .u8) 17 = 17 from rfl, show K.norm (.i .u8) 18 = 18 from rfl, show K.norm (.i .u8) 31 = 31 from rfl, show K.norm (.i .u8) 32 = 32 from rfl, show K.norm (.i .u8) 33 = 33 from rfl, show K.norm (.i .u8) 63 = 63 from rfl, show K.norm (.i .u8) 64 = 64 from rfl, show K.norm (.i .u8) 26 = 26 from rfl, show K.norm (.i .u16) 0 = 0 from rfl, show K.norm (.i .u16) 1 = 1 from rfl, show K.norm (.i .u16) 65535 = 65535 from rfl, show K.norm (.i .u32) 0 = 0 from rfl, show K.norm (.i .u32) 1 = 1 from rfl, show K.norm (.i .u32) 2147483648 = 2147483648 from rfl, Int.reduceBEq, cond_true, cond_false, bif_max, bif_min]
      have := hR.proto
      omega
    | 2, _ =>
      replace hw : a13.tmod 10 = 2 := hw
      have e1 : B 1 = IntKind.wrap .u8 (2 + a14.tmod 4) := by
        rw [eB]
        show E.den T18.F (fun i => [a0, a1, a2, a3, a4, a5, a6, a7, a8, a9, a10, a11, a12, a13, a14].getD i 0) (c10x45.getD 1 (mkB false)) = _
        simp only [c10x45, c10x1, c10x2, c10x3, c10x4, c10x5, c10x6, c10x7, c10x8, c10x9, c10x10, c10x11, c10x12, c10x13, c10x14, c10x15, c10x16, c10x17, c10x18, c10x19, c10x20, c10x21, c10x22, c10x23, c10x24, c10x25, c10x26, c10x27, c10x28, c10x29, c10x30, c10x31, c10x32, c10x33, c10x34, c10x35, c10x36, c10x37, c10x38, c10x39, c10x40, c10x41, c10x42, c10x43, fnOf, E.den, E.denL, binI, dvI, shI, cmpB, List.getD_cons_zero, List.getD_cons_succ, i2b_b2i, norm_b2i, h13, hw, h14, d0, FA, NA.n0, NA.n1, NA.n2, NA.n3, NA.n4, NA.n5, NA.n6, NA.n7, NA.n8, NA.n9, NA.n10, NA.n11, bA, show K.norm (.i .u8) 0 = 0 from rfl, show K.norm (.i .u8) 1 = 1 from rfl, show K.norm (.i .u8) 2 = 2 from rfl, show K.norm (.i .u8) 3 = 3 from rfl, show K.norm (.i .u8) 4 = 4 from rfl, show K.norm (.i .u8) 5 = 5 from rfl, show K.norm (.i .u8) 6 = 6 from rfl, show K.norm (.i .u8) 7 = 7 from rfl, show K.norm (.i .u8) 8 = 8 from rfl, show K.norm (.i .u8) 9 = 9 from rfl, show K.norm (.i .u8) 17 = 17 from rfl, show K.norm (.i .u8) 18 = 18 from rfl, show K.norm (.i .u8) 31 = 31 from rfl, show K.norm (.i .u8) 32 = 32 from rfl, show K.norm (.i .u8) 33 = 33 from rfl, show K.norm (.i .u8) 63 = 63 from rfl, show K.norm (.i .u8) 64 = 64 from rfl, show K.norm (.i .u8) 26 = 26 from rfl, show K.norm (.i .u16) 0 = 0 from rfl, show K.norm (.i .u16) 1 = 1 from rfl, show K.norm (.i .u16) 65535 = 65535 from rfl, show K.norm (.i .u32) 0 = 0 from rfl, show K.norm (.i .u32) 1 = 1 from rfl, show K.norm (.i .u32) 2147483648 = 2147483648 from rfl, Int.reduceBEq, cond_true, cond_false, bif_max, bif_min]
      have := hR.proto
      have := tm8 q14 (n := 4) (by omega) (by omega)
      rw [wrap8] at e1
      omega
    | 3, _ =>
      replace hw : a13.tmod 10 = 3 := hw
      have e5 : B 5 = max a14 33 := by
        rw [eB]
        show E.den T18.F (fun i => [a0, a1, a2, a3, a4, a5, a6, a7, a8, a9, a10, a11, a12, a13, a14].getD i 0) (c10x45.getD 5 (mkB false)) = _
        simp only [c10x45, c10x1, c10x2, c10x3, c10x4, c10x5, c10x6, c10x7, c10x8, c10x9, c10x10, c10x11, c10x12, c10x13, c10x14, c10x15, c10x16, c10x17, c10x18, c10x19, c10x20, c10x21, c10x22, c10x23, c10x24, c10x25, c10x26, c10x27, c10x28, c10x29, c10x30, c10x31, c10x32, c10x33, c10x34, c10x35, c10x36, c10x37, c10x38, c10x39, c10x40, c10x41, c10x42, c10x43, fnOf, E.den, E.denL, binI, dvI, shI, cmpB, List.getD_cons_zero, List.getD_cons_succ, i2b_b2i, norm_b2i, h13, hw, h14, d0, FA, NA.n0, NA.n1, NA.n2, NA.n3, NA.n4, NA.n5, NA.n6, NA.n7, NA.n8, NA.n9, NA.n10, NA.n11, bA, show K.norm (.i .u8) 0 = 0 from rfl, show K.norm (.i .u8) 1 = 1 from rfl, show K.norm (.i .u8) 2 = 2 from rfl, show K.norm (.i .u8) 3 = 3 from rfl, show K.norm (.i .u8) 4 = 4 from rfl, show K.norm (.i .u8) 5 = 5 from rfl, show K.norm (.i .u8) 6 = 6 from rfl, show K.norm (.i .u8) 7 = 7 from rfl, show K.norm (.i .u8) 8 = 8 from rfl, show K.norm (.i .u8) 9 = 9 from rfl, show K.norm (.i .u8) 17 = 17 from rfl, show K.norm (.i .u8) 18 = 18 from rfl, show K.norm (.i .u8) 31 = 31 from rfl, show K.norm (.i .u8) 32 = 32 from rfl, show K.norm (.i .u8) 33 = 33 from rfl, show K.norm (.i .u8) 63 = 63 from rfl, show K.norm (.i .u8) 64 = 64 from rfl, show K.norm (.i .u8) 26 = 26 from rfl, show K.norm (.i .u16) 0 = 0 from rfl, show K.norm (.i .u16) 1 = 1 from rfl, show K.norm (.i .u16) 65535 = 65535 from rfl, show K.norm (.i .u32) 0 = 0 from rfl, show K.norm (.i .u32) 1 = 1 from rfl, show K.norm (.i .u32) 2147483648 = 2147483648 from rfl, Int.reduceBEq, cond_true, cond_false, bif_max, bif_min]
      have := (pR_div hR.src).1
      omega
    | 4, _ =>
      replace hw : a13.tmod 10 = 4 := hw
      have e6 : B 6 = bitsI .or .u32 (shI .shl .u32 1 (a14.tmod 32)) 2147483648 := by
        rw [eB]
        show E.den T18.F (fun i => [a0, a1, a2, a3, a4, a5, a6, a7, a8, a9, a10, a11, a12, a13, a14].getD i 0) (c10x45.getD 6 (mkB false)) = _
        simp only [c10x45, c10x1, c10x2, c10x3, c10x4, c10x5, c10x6, c10x7, c10x8, c10x9, c10x10, c10x11, c10x12, c10x13, c10x14, c10x15, c10x16, c10x17, c10x18, c10x19, c10x20, c10x21, c10x22, c10x23, c10x24, c10x25, c10x26, c10x27, c10x28, c10x29, c10x30, c10x31, c10x32, c10x33, c10x34, c10x35, c10x36, c10x37, c10x38, c10x39, c10x40, c10x41, c10x42, c10x43, fnOf, E.den, E.denL, binI, dvI, shI, cmpB, List.getD_cons_zero, List.getD_cons_succ, i2b_b2i, norm_b2i, h13, hw, h14, d0, FA, NA.n0, NA.n1, NA.n2, NA.n3, NA.n4, NA.n5, NA.n6, NA.n7, NA.n8, NA.n9, NA.n10, NA.n11, bA, show K.norm (.i .u8) 0 = 0 from rfl, show K.norm (.i .u8) 1 = 1 from rfl, show K.norm (.i .u8) 2 = 2 from rfl, show K.norm (.i .u8) 3 = 3 from rfl, show K.norm (.i .u8) 4 = 4 from rfl, show K.norm (.i .u8) 5 = 5 from rfl, show K.norm (.i .u8) 6 = 6 from rfl, show K.norm (.i .u8) 7 = 7 from rfl, show K.norm (.i .u8) 8 = 8 from rfl, show K.norm (.i .u8) 9 = 9 from rfl, show K.norm (.i .u8) 17 = 17 from rfl, show K.norm (.i .u8) 18 = 18 from rfl, show K.norm (.i .u8) 31 = 31 from rfl, show K.norm (.i .u8) 32 = 32 from rfl, show K.norm (.i .u8) 33 = 33 from rfl, show K.norm (.i .u8) 63 = 63 from rfl, show K.norm (.i .u8) 64 = 64 from rfl, show K.norm (.i .u8) 26 = 26 from rfl, show K.norm (.i .u16) 0 = 0 from rfl, show K.norm (.i .u16) 1 = 1 from rfl, show K.norm (.i .u16) 65535 = 65535 from rfl, show K.norm (.i .u32) 0 = 0 from rfl, show K.norm (.i .u32) 1 = 1 from rfl, show K.norm (.i .u32) 2147483648 = 2147483648 from rfl, Int.reduceBEq, cond_true, cond_false, bif_max, bif_min]
      have e7 : B 7 = IntKind.wrap .u8 (31 - a14.tmod 32) := by
        rw [eB]
        show E.den T18.F (fun i => [a0, a1, a2, a3, a4, a5, a6, a7, a8, a9, a10, a11, a12, a13, a14].getD i 0) (c10x45.getD 7 (mkB false)) = _
        simp only [c10x45, c10x1, c10x2, c10x3, c10x4, c10x5, c10x6, c10x7, c10x8, c10x9, c10x10, c10x11, c10x12, c10x13, c10x14, c10x15, c10x16, c10x17, c10x18, c10x19, c10x20, c10x21, c10x22, c10x23, c10x24, c10x25, c10x26, c10x27, c10x28, c10x29, c10x30, c10x31, c10x32, c10x33, c10x34, c10x35, c10x36, c10x37, c10x38, c10x39, c10x40, c10x41, c10x42, c10x43, fnOf, E.den, E.denL, binI, dvI, shI, cmpB, List.getD_cons_zero, List.getD_cons_succ, i2b_b2i, norm_b2i, h13, hw, h14, d0, FA, NA.n0, NA.n1, NA.n2, NA.n3, NA.n4, NA.n5, NA.n6, NA.n7, NA.n8, NA.n9, NA.n10, NA.n11, bA, show K.norm (.i .u8) 0 = 0 from rfl, show K.norm (.i .u8) 1 = 1 from rfl, show K.norm (.i .u8) 2 = 2 from rfl, show K.norm (.i .u8) 3 = 3 from rfl, show K.norm (.i .u8) 4 = 4 from rfl, show K.norm (.i .u8) 5 = 5 from rfl, show K.norm (.i .u8) 6 = 6 from rfl, show K.norm (.i .u8) 7 = 7 from rfl, show K.norm (.i .u8) 8 = 8 from rfl, show K.norm (.i .u8) 9 = 9 from rfl, show K.norm (.i .u8) 17 = 17 from rfl, show K.norm (.i .u8) 18 = 18 from rfl, show K.norm (.i .u8) 31 = 31 from rfl, show K.norm (.i .u8) 32 = 32 from rfl, show K.norm (.i .u8) 33 = 33 from rfl, show K.norm (.i .u8) 63 = 63 from rfl, show K.norm (.i .u8) 64 = 64 from rfl, show K.norm (.i .u8) 26 = 26 from rfl, show K.norm (.i .u16) 0 = 0 from rfl, show K.norm (.i .u16) 1 = 1 from rfl, show K.norm (.i .u16) 65535 = 65535 from rfl, show K.norm (.i .u32) 0 = 0 from rfl, show K.norm (.i .u32) 1 = 1 from rfl, show K.norm (.i .u32) 2147483648 = 2147483648 from rfl, Int.reduceBEq, cond_true, cond_false, bif_max, bif_min]
      have := hR.dst
      obtain ⟨z0, z1, _⟩ := tm8 q14 (n := 32) (by omega) (by omega)
      obtain ⟨z, hz⟩ := Int.eq_ofNat_of_zero_le z0
      rw [e6, e7, hz, bad4 z (by omega)] at this
      cases this
    | 5, _ =>
      replace hw : a13.tmod 10 = 5 := hw
      have e1 : B 1 = 17 := by
        rw [eB]
        show E.den T18.F (fun i => [a0, a1, a2, a3, a4, a5, a6, a7, a8, a9, a10, a11, a12, a13, a14].getD i 0) (c10x45.getD 1 (mkB false)) = _
        simp only [c10x45, c10x1, c10x2, c10x3, c10x4, c10x5, c10x6, c10x7, c10x8, c10x9, c10x10, c10x11, c10x12, c10x13, c10x14, c10x15, c10x16, c10x17, c10x18, c10x19, c10x20, c10x21, c10x22, c10x23, c10x24, c10x25, c10x26, c10x27, c10x28, c10x29, c10x30, c10x31, c10x32, c10x33, c10x34, c10x35, c10x36, c10x37, c10x38, c10x39, c10x40, c10x41, c10x42, c10x43, fnOf, E.den, E.denL, binI, dvI, shI, cmpB, List.getD_cons_zero, List.getD_cons_succ, i2b_b2i, norm_b2i, h13, hw, h14, d0, FA, NA.n0, NA.n1, NA.n2, NA.n3, NA.n4, NA.n5, NA.n6, NA.n7, NA.n8, NA.n9, NA.n10, NA.n11, bA, show K.norm (.i .u8) 0 = 0 from rfl, show K.norm (.i .u8) 1 = 1 from rfl, show K.norm (.i .u8) 2 = 2 from rfl, show K.norm (.i .u8) 3 = 3 from rfl, show K.norm (.i .u8) 4 = 4 from rfl, show K.norm (.i .u8) 5 = 5 from rfl, show K.norm (.i .u8) 6 = 6 from rfl, show K.norm (.i .u8) 7 = 7 from rfl, show K.norm (.i .u8) 8 = 8 from rfl, show K.norm (.i .u8) 9 = 9 from rfl, show K.norm (.i .u8) 17 = 17 from rfl, show K.norm (.i .u8) 18 = 18 from rfl, show K.norm (.i .u8) 31 = 31 from rfl, show K.norm (.i .u8) 32 = 32 from rfl, show K.norm (.i .u8) 33 = 33 from rfl, show K.norm (.i .u8) 63 = 63 from rfl, show K.norm (.i .u8) 64 = 64 from rfl, show K.norm (.i .u8) 26 = 26 from rfl, show K.norm (.i .u16) 0 = 0 from rfl, show K.norm (.i .u16) 1 = 1 from rfl, show K.norm (.i .u16) 65535 = 65535 from rfl, show K.norm (.i .u32) 0 = 0 from rfl, show K.norm (.i .u32) 1 = 1 from rfl, show K.norm (.i .u32) 2147483648 = 2147483648 from rfl, Int.reduceBEq, cond_true, cond_false, bif_max, bif_min]
      have e8 : B 8 = IntKind.wrap .u16 (IntKind.wrap .u16 a14 + 1) := by
        rw [eB]
        show E.den T18.F (fun i => [a0, a1, a2, a3, a4, a5, a6, a7, a8, a9, a10, a11, a12, a13, a14].getD i 0) (c10x45.getD 8 (mkB false)) = _
        simp only [c10x45, c10x1, c10x2, c10x3, c10x4, c10x5, c10x6, c10x7, c10x8, c10x9, c10x10, c10x11, c10x12, c10x13, c10x14, c10x15, c10x16, c10x17, c10x18, c10x19, c10x20, c10x21, c10x22, c10x23, c10x24, c10x25, c10x26, c10x27, c10x28, c10x29, c10x30, c10x31, c10x32, c10x33, c10x34, c10x35, c10x36, c10x37, c10x38, c10x39, c10x40, c10x41, c10x42, c10x43, fnOf, E.den, E.denL, binI, dvI, shI, cmpB, List.getD_cons_zero, List.getD_cons_succ, i2b_b2i, norm_b2i, h13, hw, h14, d0, FA, NA.n0, NA.n1, NA.n2, NA.n3, NA.n4, NA.n5, NA.n6, NA.n7, NA.n8, NA.n9, NA.n10, NA.n11, bA, show K.norm (.i .u8) 0 = 0 from rfl, show K.norm (.i .u8) 1 = 1 from rfl, show K.norm (.i .u8) 2 = 2 from rfl, show K.norm (.i .u8) 3 = 3 from rfl, show K.norm (.i .u8) 4 = 4 from rfl, show K.norm (.i .u8) 5 = 5 from rfl, show K.norm (.i .u8) 6 = 6 from rfl, show K.norm (.i .u8) 7 = 7 from rfl, show K.norm (.i .u8) 8 = 8 from rfl, show K.norm (.i .u8) 9 = 9 from rfl, show K.norm (.i .u8) 17 = 17 from rfl, show K.norm (.i .u8) 18 = 18 from rfl, show K.norm (.i .u8) 31 = 31 from rfl, show K.norm (.i .u8) 32 = 32 from rfl, show K.norm (.i .u8) 33 = 33 from rfl, show K.norm (.i .u8) 63 = 63 from rfl, show K.norm (.i .u8) 64 = 64 from rfl, show K.norm (.i .u8) 26 = 26 from rfl, show K.norm (.i .u16) 0 = 0 from rfl, show K.norm (.i .u16) 1 = 1 from rfl, show K.norm (.i .u16) 65535 = 65535 from rfl, show K.norm (.i .u32) 0 = 0 from rfl, show K.norm (.i .u32) 1 = 1 from rfl, show K.norm (.i .u32) 2147483648 = 2147483648 from rfl, Int.reduceBEq, cond_true, cond_false, bif_max, bif_min]
      have e9 : B 9 = IntKind.wrap .u16 a14 := by
        rw [eB]
        show E.den T18.F (fun i => [a0, a1, a2, a3, a4, a5, a6, a7, a8, a9, a10, a11, a12, a13, a14].getD i 0) (c10x45.getD 9 (mkB false)) = _
        simp only [c10x45, c10x1, c10x2, c10x3, c10x4, c10x5, c10x6, c10x7, c10x8, c10x9, c10x10, c10x11, c10x12, c10x13, c10x14, c10x15, c10x16, c10x17, c10x18, c10x19, c10x20, c10x21, c10x22, c10x23, c10x24, c10x25, c10x26, c10x27, c10x28, c10x29, c10x30, c10x31, c10x32, c10x33, c10x34, c10x35, c10x36, c10x37, c10x38, c10x39, c10x40, c10x41, c10x42, c10x43, fnOf, E.den, E.denL, binI, dvI, shI, cmpB, List.getD_cons_zero, List.getD_cons_succ, i2b_b2i, norm_b2i, h13, hw, h14, d0, FA, NA.n0, NA.n1, NA.n2, NA.n3, NA.n4, NA.n5, NA.n6, NA.n7, NA.n8, NA.n9, NA.n10, NA.n11, bA, show K.norm (.i .u8) 0 = 0 from rfl, show K.norm (.i .u8) 1 = 1 from rfl, show K.norm (.i .u8) 2 = 2 from rfl, show K.norm (.i .u8) 3 = 3 from rfl, show K.norm (.i .u8) 4 = 4 from rfl, show K.norm (.i .u8) 5 = 5 from rfl, show K.norm (.i .u8) 6 = 6 from rfl, show K.norm (.i .u8) 7 = 7 from rfl, show K.norm (.i .u8) 8 = 8 from rfl, show K.norm (.i .u8) 9 = 9 from rfl, show K.norm (.i .u8) 17 = 17 from rfl, show K.norm (.i .u8) 18 = 18 from rfl, show K.norm (.i .u8) 31 = 31 from rfl, show K.norm (.i .u8) 32 = 32 from rfl, show K.norm (.i .u8) 33 = 33 from rfl, show K.norm (.i .u8) 63 = 63 from rfl, show K.norm (.i .u8) 64 = 64 from rfl, show K.norm (.i .u8) 26 = 26 from rfl, show K.norm (.i .u16) 0 = 0 from rfl, show K.norm (.i .u16) 1 = 1 from rfl, show K.norm (.i .u16) 65535 = 65535 from rfl, show K.norm (.i .u32) 0 = 0 from rfl, show K.norm (.i .u32) 1 = 1 from rfl, show K.norm (.i .u32) 2147483648 = 2147483648 from rfl, Int.reduceBEq, cond_true, cond_false, bif_max, bif_min]
      have := ports_le hR.sp
      rw [e8, e9, wrap16, wrap16] at this
      omega
    | 6, _ =>
      replace hw : a13.tmod 10 = 6 := hw
      have e1 : B 1 = 0 := by
        rw [eB]
        show E.den T18.F (fun i => [a0, a1, a2, a3, a4, a5, a6, a7, a8, a9, a10, a11, a12, a13, a14].getD i 0) (c10x45.getD 1 (mkB false)) = _
        simp only [c10x45, c10x1, c10x2, c10x3, c10x4, c10x5, c10x6, c10x7, c10x8, c10x9, c10x10, c10x11, c10x12, c10x13, c10x14, c10x15, c10x16, c10x17, c10x18, c10x19, c10x20, c10x21, c10x22, c10x23, c10x24, c10x25, c10x26, c10x27, c10x28, c10x29, c10x30, c10x31, c10x32, c10x33, c10x34, c10x35, c10x36, c10x37, c10x38, c10x39, c10x40, c10x41, c10x42, c10x43, fnOf, E.den, E.denL, binI, dvI, shI, cmpB, List.getD_cons_zero, List.getD_cons_succ, i2b_b2i, norm_b2i, h13, hw, h14, d0, FA, NA.n0, NA.n1, NA.n2, NA.n3, NA.n4, NA.n5, NA.n6, NA.n7, NA.n8, NA.n9, NA.n10, NA.n11, bA, show K.norm (.i .u8) 0 = 0 from rfl, show K.norm (.i .u8) 1 = 1 from rfl, show K.norm (.i .u8) 2 = 2 from rfl, show K.norm (.i .u8) 3 = 3 from rfl, show K.norm (.i .u8) 4 = 4 from rfl, show K.norm (.i .u8) 5 = 5 from rfl, show K.norm (.i .u8) 6 = 6 from rfl, show K.norm (.i .u8) 7 = 7 from rfl, show K.norm (.i .u8) 8 = 8 from rfl, show K.norm (.i .u8) 9 = 9 from rfl, show K.norm (.i .u8) 17 = 17 from rfl, show K.norm (.i .u8) 18 = 18 from rfl, show K.norm (.i .u8) 31 = 31 from rfl, show K.norm (.i .u8) 32 = 32 from rfl, show K.norm (.i .u8) 33 = 33 from rfl, show K.norm (.i .u8) 63 = 63 from rfl, show K.norm (.i .u8) 64 = 64 from rfl, show K.norm (.i .u8) 26 = 26 from rfl, show K.norm (.i .u16) 0 = 0 from rfl, show K.norm (.i .u16) 1 = 1 from rfl, show K.norm (.i .u16) 65535 = 65535 from rfl, show K.norm (.i .u32) 0 = 0 from rfl, show K.norm (.i .u32) 1 = 1 from rfl, show K.norm (.i .u32) 2147483648 = 2147483648 from rfl, Int.reduceBEq, cond_true, cond_false, bif_max, bif_min]
      have e10 : B 10 = 0 := by
        rw [eB]
        show E.den T18.F (fun i => [a0, a1, a2, a3, a4, a5, a6, a7, a8, a9, a10, a11, a12, a13, a14].getD i 0) (c10x45.getD 10 (mkB false)) = _
        simp only [c10x45, c10x1, c10x2, c10x3, c10x4, c10x5, c10x6, c10x7, c10x8, c10x9, c10x10, c10x11, c10x12, c10x13, c10x14, c10x15, c10x16, c10x17, c10x18, c10x19, c10x20, c10x21, c10x22, c10x23, c10x24, c10x25, c10x26, c10x27, c10x28, c10x29, c10x30, c10x31, c10x32, c10x33, c10x34, c10x35, c10x36, c10x37, c10x38, c10x39, c10x40, c10x41, c10x42, c10x43, fnOf, E.den, E.denL, binI, dvI, shI, cmpB, List.getD_cons_zero, List.getD_cons_succ, i2b_b2i, norm_b2i, h13, hw, h14, d0, FA, NA.n0, NA.n1, NA.n2, NA.n3, NA.n4, NA.n5, NA.n6, NA.n7, NA.n8, NA.n9, NA.n10, NA.n11, bA, show K.norm (.i .u8) 0 = 0 from rfl, show K.norm (.i .u8) 1 = 1 from rfl, show K.norm (.i .u8) 2 = 2 from rfl, show K.norm (.i .u8) 3 = 3 from rfl, show K.norm (.i .u8) 4 = 4 from rfl, show K.norm (.i .u8) 5 = 5 from rfl, show K.norm (.i .u8) 6 = 6 from rfl, show K.norm (.i .u8) 7 = 7 from rfl, show K.norm (.i .u8) 8 = 8 from rfl, show K.norm (.i .u8) 9 = 9 from rfl, show K.norm (.i .u8) 17 = 17 from rfl, show K.norm (.i .u8) 18 = 18 from rfl, show K.norm (.i .u8) 31 = 31 from rfl, show K.norm (.i .u8) 32 = 32 from rfl, show K.norm (.i .u8) 33 = 33 from rfl, show K.norm (.i .u8) 63 = 63 from rfl, show K.norm (.i .u8) 64 = 64 from rfl, show K.norm (.i .u8) 26 = 26 from rfl, show K.norm (.i .u16) 0 = 0 from rfl, show K.norm (.i .u16) 1 = 1 from rfl, show K.norm (.i .u16) 65535 = 65535 from rfl, show K.norm (.i .u32) 0 = 0 from rfl, show K.norm (.i .u32) 1 = 1 from rfl, show K.norm (.i .u32) 2147483648 = 2147483648 from rfl, Int.reduceBEq, cond_true, cond_false, bif_max, bif_min]
      have e11 : B 11 = IntKind.wrap .u16 a14 := by
        rw [eB]
        show E.den T18.F (fun i => [a0, a1, a2, a3, a4, a5, a6, a7, a8, a9, a10, a11, a12, a13, a14].getD i 0) (c10x45.getD 11 (mkB false)) = _
        simp only [c10x45, c10x1, c10x2, c10x3, c10x4, c10x5, c10x6, c10x7, c10x8, c10x9, c10x10, c10x11, c10x12, c10x13, c10x14, c10x15, c10x16, c10x17, c10x18, c10x19, c10x20, c10x21, c10x22, c10x23, c10x24, c10x25, c10x26, c10x27, c10x28, c10x29, c10x30, c10x31, c10x32, c10x33, c10x34, c10x35, c10x36, c10x37, c10x38, c10x39, c10x40, c10x41, c10x42, c10x43, fnOf, E.den, E.denL, binI, dvI, shI, cmpB, List.getD_cons_zero, List.getD_cons_succ, i2b_b2i, norm_b2i, h13, hw, h14, d0, FA, NA.n0, NA.n1, NA.n2, NA.n3, NA.n4, NA.n5, NA.n6, NA.n7, NA.n8, NA.n9, NA.n10, NA.n11, bA, show K.norm (.i .u8) 0 = 0 from rfl, show K.norm (.i .u8) 1 = 1 from rfl, show K.norm (.i .u8) 2 = 2 from rfl, show K.norm (.i .u8) 3 = 3 from rfl, show K.norm (.i .u8) 4 = 4 from rfl, show K.norm (.i .u8) 5 = 5 from rfl, show K.norm (.i .u8) 6 = 6 from rfl, show K.norm (.i .u8) 7 = 7 from rfl, show K.norm (.i .u8) 8 = 8 from rfl, show K.norm (.i .u8) 9 = 9 from rfl, show K.norm (.i .u8) 17 = 17 from rfl, show K.norm (.i .u8) 18 = 18 from rfl, show K.norm (.i .u8) 31 = 31 from rfl, show K.norm (.i .u8) 32 = 32 from rfl, show K.norm (.i .u8) 33 = 33 from rfl, show K.norm (.i .u8) 63 = 63 from rfl, show K.norm (.i .u8) 64 = 64 from rfl, show K.norm (.i .u8) 26 = 26 from rfl, show K.norm (.i .u16) 0 = 0 from rfl, show K.norm (.i .u16) 1 = 1 from rfl, show K.norm (.i .u16) 65535 = 65535 from rfl, show K.norm (.i .u32) 0 = 0 from rfl, show K.norm (.i .u32) 1 = 1 from rfl, show K.norm (.i .u32) 2147483648 = 2147483648 from rfl, Int.reduceBEq, cond_true, cond_false, bif_max, bif_min]
      have := hR.dp
      rw [e1, e10, e11] at this
      have e : (decide (True)) = true := rfl
      have h9 : ((0 : Int) == 0 && IntKind.wrap .u16 a14 == 65535) = true := this
      rw [wrap16] at h9
      simp only [Bool.and_eq_true, beq_iff_eq] at h9
      omega
    | 7, _ =>
      replace hw : a13.tmod 10 = 7 := hw
      have e2 : B 2 = bitsI .or .u8 a14 64 := by
        rw [eB]
        show E.den T18.F (fun i => [a0, a1, a2, a3, a4, a5, a6, a7, a8, a9, a10, a11, a12, a13, a14].getD i 0) (c10x45.getD 2 (mkB false)) = _
        simp only [c10x45, c10x1, c10x2, c10x3, c10x4, c10x5, c10x6, c10x7, c10x8, c10x9, c10x10, c10x11, c10x12, c10x13, c10x14, c10x15, c10x16, c10x17, c10x18, c10x19, c10x20, c10x21, c10x22, c10x23, c10x24, c10x25, c10x26, c10x27, c10x28, c10x29, c10x30, c10x31, c10x32, c10x33, c10x34, c10x35, c10x36, c10x37, c10x38, c10x39, c10x40, c10x41, c10x42, c10x43, fnOf, E.den, E.denL, binI, dvI, shI, cmpB, List.getD_cons_zero, List.getD_cons_succ, i2b_b2i, norm_b2i, h13, hw, h14, d0, FA, NA.n0, NA.n1, NA.n2, NA.n3, NA.n4, NA.n5, NA.n6, NA.n7, NA.n8, NA.n9, NA.n10, NA.n11, bA, show K.norm (.i .u8) 0 = 0 from rfl, show K.norm (.i .u8) 1 = 1 from rfl, show K.norm (.i .u8) 2 = 2 from rfl, show K.norm (.i .u8) 3 = 3 from rfl, show K.norm (.i .u8) 4 = 4 from rfl, show K.norm (.i .u8) 5 = 5 from rfl, show K.norm (.i .u8) 6 = 6 from rfl, show K.norm (.i .u8) 7 = 7 from rfl, show K.norm (.i .u8) 8 = 8 from rfl, show K.norm (.i .u8) 9 = 9 from rfl, show K.norm (.i .u8) 17 = 17 from rfl, show K.norm (.i .u8) 18 = 18 from rfl, show K.norm (.i .u8) 31 = 31 from rfl, show K.norm (.i .u8) 32 = 32 from rfl, show K.norm (.i .u8) 33 = 33 from rfl, show K.norm (.i .u8) 63 = 63 from rfl, show K.norm (.i .u8) 64 = 64 from rfl, show K.norm (.i .u8) 26 = 26 from rfl, show K.norm (.i .u16) 0 = 0 from rfl, show K.norm (.i .u16) 1 = 1 from rfl, show K.norm (.i .u16) 65535 = 65535 from rfl, show K.norm (.i .u32) 0 = 0 from rfl, show K.norm (.i .u32) 1 = 1 from rfl, show K.norm (.i .u32) 2147483648 = 2147483648 from rfl, Int.reduceBEq, cond_true, cond_false, bif_max, bif_min]
      have := hR.mask
      obtain ⟨z, hz⟩ := Int.eq_ofNat_of_zero_le q14.1
      have h9 := bad7 z (by omega)
      rw [e2, hz] at this
      omega
    | 8, _ =>
      replace hw : a13.tmod 10 = 8 := hw
      have e2 : B 2 = bitsI .andNot .u8 (a14.tmod 64) 4 := by
        rw [eB]
        show E.den T18.F (fun i => [a0, a1, a2, a3, a4, a5, a6, a7, a8, a9, a10, a11, a12, a13, a14].getD i 0) (c10x45.getD 2 (mkB false)) = _
        simp only [c10x45, c10x1, c10x2, c10x3, c10x4, c10x5, c10x6, c10x7, c10x8, c10x9, c10x10, c10x11, c10x12, c10x13, c10x14, c10x15, c10x16, c10x17, c10x18, c10x19, c10x20, c10x21, c10x22, c10x23, c10x24, c10x25, c10x26, c10x27, c10x28, c10x29, c10x30, c10x31, c10x32, c10x33, c10x34, c10x35, c10x36, c10x37, c10x38, c10x39, c10x40, c10x41, c10x42, c10x43, fnOf, E.den, E.denL, binI, dvI, shI, cmpB, List.getD_cons_zero, List.getD_cons_succ, i2b_b2i, norm_b2i, h13, hw, h14, d0, FA, NA.n0, NA.n1, NA.n2, NA.n3, NA.n4, NA.n5, NA.n6, NA.n7, NA.n8, NA.n9, NA.n10, NA.n11, bA, show K.norm (.i .u8) 0 = 0 from rfl, show K.norm (.i .u8) 1 = 1 from rfl, show K.norm (.i .u8) 2 = 2 from rfl, show K.norm (.i .u8) 3 = 3 from rfl, show K.norm (.i .u8) 4 = 4 from rfl, show K.norm (.i .u8) 5 = 5 from rfl, show K.norm (.i .u8) 6 = 6 from rfl, show K.norm (.i .u8) 7 = 7 from rfl, show K.norm (.i .u8) 8 = 8 from rfl, show K.norm (.i .u8) 9 = 9 from rfl, show K.norm (.i .u8) 17 = 17 from rfl, show K.norm (.i .u8) 18 = 18 from rfl, show K.norm (.i .u8) 31 = 31 from rfl, show K.norm (.i .u8) 32 = 32 from rfl, show K.norm (.i .u8) 33 = 33 from rfl, show K.norm (.i .u8) 63 = 63 from rfl, show K.norm (.i .u8) 64 = 64 from rfl, show K.norm (.i .u8) 26 = 26 from rfl, show K.norm (.i .u16) 0 = 0 from rfl, show K.norm (.i .u16) 1 = 1 from rfl, show K.norm (.i .u16) 65535 = 65535 from rfl, show K.norm (.i .u32) 0 = 0 from rfl, show K.norm (.i .u32) 1 = 1 from rfl, show K.norm (.i .u32) 2147483648 = 2147483648 from rfl, Int.reduceBEq, cond_true, cond_false, bif_max, bif_min]
      have e3 : B 3 = 4 := by
        rw [eB]
        show E.den T18.F (fun i => [a0, a1, a2, a3, a4, a5, a6, a7, a8, a9, a10, a11, a12, a13, a14].getD i 0) (c10x45.getD 3 (mkB false)) = _
        simp only [c10x45, c10x1, c10x2, c10x3, c10x4, c10x5, c10x6, c10x7, c10x8, c10x9, c10x10, c10x11, c10x12, c10x13, c10x14, c10x15, c10x16, c10x17, c10x18, c10x19, c10x20, c10x21, c10x22, c10x23, c10x24, c10x25, c10x26, c10x27, c10x28, c10x29, c10x30, c10x31, c10x32, c10x33, c10x34, c10x35, c10x36, c10x37, c10x38, c10x39, c10x40, c10x41, c10x42, c10x43, fnOf, E.den, E.denL, binI, dvI, shI, cmpB, List.getD_cons_zero, List.getD_cons_succ, i2b_b2i, norm_b2i, h13, hw, h14, d0, FA, NA.n0, NA.n1, NA.n2, NA.n3, NA.n4, NA.n5, NA.n6, NA.n7, NA.n8, NA.n9, NA.n10, NA.n11, bA, show K.norm (.i .u8) 0 = 0 from rfl, show K.norm (.i .u8) 1 = 1 from rfl, show K.norm (.i .u8) 2 = 2 from rfl, show K.norm (.i .u8) 3 = 3 from rfl, show K.norm (.i .u8) 4 = 4 from rfl, show K.norm (.i .u8) 5 = 5 from rfl, show K.norm (.i .u8) 6 = 6 from rfl, show K.norm (.i .u8) 7 = 7 from rfl, show K.norm (.i .u8) 8 = 8 from rfl, show K.norm (.i .u8) 9 = 9 from rfl, show K.norm (.i .u8) 17 = 17 from rfl, show K.norm (.i .u8) 18 = 18 from rfl, show K.norm (.i .u8) 31 = 31 from rfl, show K.norm (.i .u8) 32 = 32 from rfl, show K.norm (.i .u8) 33 = 33 from rfl, show K.norm (.i .u8) 63 = 63 from rfl, show K.norm (.i .u8) 64 = 64 from rfl, show K.norm (.i .u8) 26 = 26 from rfl, show K.norm (.i .u16) 0 = 0 from rfl, show K.norm (.i .u16) 1 = 1 from rfl, show K.norm (.i .u16) 65535 = 65535 from rfl, show K.norm (.i .u32) 0 = 0 from rfl, show K.norm (.i .u32) 1 = 1 from rfl, show K.norm (.i .u32) 2147483648 = 2147483648 from rfl, Int.reduceBEq, cond_true, cond_false, bif_max, bif_min]
      have := hR.want
      obtain ⟨z0, z1, _⟩ := tm8 q14 (n := 64) (by omega) (by omega)
      obtain ⟨z, hz⟩ := Int.eq_ofNat_of_zero_le z0
      rw [e2, e3, hz, bad8 z (by omega)] at this
      cases this
    | 9, _ =>
      replace hw : a13.tmod 10 = 9 := hw
      have e1 : B 1 = 1 := by
        rw [eB]
        show E.den T18.F (fun i => [a0, a1, a2, a3, a4, a5, a6, a7, a8, a9, a10, a11, a12, a13, a14].getD i 0) (c10x45.getD 1 (mkB false)) = _
        simp only [c10x45, c10x1, c10x2, c10x3, c10x4, c10x5, c10x6, c10x7, c10x8, c10x9, c10x10, c10x11, c10x12, c10x13, c10x14, c10x15, c10x16, c10x17, c10x18, c10x19, c10x20, c10x21, c10x22, c10x23, c10x24, c10x25, c10x26, c10x27, c10x28, c10x29, c10x30, c10x31, c10x32, c10x33, c10x34, c10x35, c10x36, c10x37, c10x38, c10x39, c10x40, c10x41, c10x42, c10x43, fnOf, E.den, E.denL, binI, dvI, shI, cmpB, List.getD_cons_zero, List.getD_cons_succ, i2b_b2i, norm_b2i, h13, hw, h14, d0, FA, NA.n0, NA.n1, NA.n2, NA.n3, NA.n4, NA.n5, NA.n6, NA.n7, NA.n8, NA.n9, NA.n10, NA.n11, bA, show K.norm (.i .u8) 0 = 0 from rfl, show K.norm (.i .u8) 1 = 1 from rfl, show K.norm (.i .u8) 2 = 2 from rfl, show K.norm (.i .u8) 3 = 3 from rfl, show K.norm (.i .u8) 4 = 4 from rfl, show K.norm (.i .u8) 5 = 5 from rfl, show K.norm (.i .u8) 6 = 6 from rfl, show K.norm (.i .u8) 7 = 7 from rfl, show K.norm (.i .u8) 8 = 8 from rfl, show K.norm (.i .u8) 9 = 9 from rfl, show K.norm (.i .u8) 17 = 17 from rfl, show K.norm (.i .u8) 18 = 18 from rfl, show K.norm (.i .u8) 31 = 31 from rfl, show K.norm (.i .u8) 32 = 32 from rfl, show K.norm (.i .u8) 33 = 33 from rfl, show K.norm (.i .u8) 63 = 63 from rfl, show K.norm (.i .u8) 64 = 64 from rfl, show K.norm (.i .u8) 26 = 26 from rfl, show K.norm (.i .u16) 0 = 0 from rfl, show K.norm (.i .u16) 1 = 1 from rfl, show K.norm (.i .u16) 65535 = 65535 from rfl, show K.norm (.i .u32) 0 = 0 from rfl, show K.norm (.i .u32) 1 = 1 from rfl, show K.norm (.i .u32) 2147483648 = 2147483648 from rfl, Int.reduceBEq, cond_true, cond_false, bif_max, bif_min]
      have e2 : B 2 = IntKind.wrap .u8 (1 + a14.tmod 63) := by
        rw [eB]
        show E.den T18.F (fun i => [a0, a1, a2, a3, a4, a5, a6, a7, a8, a9, a10, a11, a12, a13, a14].getD i 0) (c10x45.getD 2 (mkB false)) = _
        simp only [c10x45, c10x1, c10x2, c10x3, c10x4, c10x5, c10x6, c10x7, c10x8, c10x9, c10x10, c10x11, c10x12, c10x13, c10x14, c10x15, c10x16, c10x17, c10x18, c10x19, c10x20, c10x21, c10x22, c10x23, c10x24, c10x25, c10x26, c10x27, c10x28, c10x29, c10x30, c10x31, c10x32, c10x33, c10x34, c10x35, c10x36, c10x37, c10x38, c10x39, c10x40, c10x41, c10x42, c10x43, fnOf, E.den, E.denL, binI, dvI, shI, cmpB, List.getD_cons_zero, List.getD_cons_succ, i2b_b2i, norm_b2i, h13, hw, h14, d0, FA, NA.n0, NA.n1, NA.n2, NA.n3, NA.n4, NA.n5, NA.n6, NA.n7, NA.n8, NA.n9, NA.n10, NA.n11, bA, show K.norm (.i .u8) 0 = 0 from rfl, show K.norm (.i .u8) 1 = 1 from rfl, show K.norm (.i .u8) 2 = 2 from rfl, show K.norm (.i .u8) 3 = 3 from rfl, show K.norm (.i .u8) 4 = 4 from rfl, show K.norm (.i .u8) 5 = 5 from rfl, show K.norm (.i .u8) 6 = 6 from rfl, show K.norm (.i .u8) 7 = 7 from rfl, show K.norm (.i .u8) 8 = 8 from rfl, show K.norm (.i .u8) 9 = 9 from rfl, show K.norm (.i .u8) 17 = 17 from rfl, show K.norm (.i .u8) 18 = 18 from rfl, show K.norm (.i .u8) 31 = 31 from rfl, show K.norm (.i .u8) 32 = 32 from rfl, show K.norm (.i .u8) 33 = 33 from rfl, show K.norm (.i .u8) 63 = 63 from rfl, show K.norm (.i .u8) 64 = 64 from rfl, show K.norm (.i .u8) 26 = 26 from rfl, show K.norm (.i .u16) 0 = 0 from rfl, show K.norm (.i .u16) 1 = 1 from rfl, show K.norm (.i .u16) 65535 = 65535 from rfl, show K.norm (.i .u32) 0 = 0 from rfl, show K.norm (.i .u32) 1 = 1 from rfl, show K.norm (.i .u32) 2147483648 = 2147483648 from rfl, Int.reduceBEq, cond_true, cond_false, bif_max, bif_min]
      have := hR.flags
      have := tm8 q14 (n := 63) (by omega) (by omega)
      rw [wrap8] at e2
      omega
  obtain ⟨P, eP⟩ : ∃ P : Nat → Int, P = fun j => fnOf T13 es16 j [a0, a1, a2, a3, a4, a5, a6, a7, a8, a9, a10, a11, a12] := ⟨_, rfl⟩
  have FP : ∀ j, T18.F 16 j [a0, a1, a2, a3, a4, a5, a6, a7, a8, a9, a10, a11, a12] = P j := fun j => by rw [eP]; rfl
  have l45 : E.denL T18.F (fun i => [a0, a1, a2, a3, a4, a5, a6, a7, a8, a9, a10, a11, a12, a13, a14].getD i 0) c10x45 = [B 0, B 1, B 2, B 3, B 4, B 5, B 6, B 7, B 8, B 9, B 10, B 11, B 12] := by rw [eB]; rfl
  have l46 : E.denL T18.F (fun i => [a0, a1, a2, a3, a4, a5, a6, a7, a8, a9, a10, a11, a12, a13, a14].getD i 0) c10x46 = [K.norm (.i .u8) (T18.F 13 0 (E.denL T18.F (fun i => [a0, a1, a2, a3, a4, a5, a6, a7, a8, a9, a10, a11, a12, a13, a14].getD i 0) c10x0)), K.norm (.i .u8) (T18.F 13 1 (E.denL T18.F (fun i => [a0, a1, a2, a3, a4, a5, a6, a7, a8, a9, a10, a11, a12, a13, a14].getD i 0) c10x0)), K.norm (.i .u8) (T18.F 13 2 (E.denL T18.F (fun i => [a0, a1, a2, a3, a4, a5, a6, a7, a8, a9, a10, a11, a12, a13, a14].getD i 0) c10x0)), K.norm (.i .u8) (T18.F 13 3 (E.denL T18.F (fun i => [a0, a1, a2, a3, a4, a5, a6, a7, a8, a9, a10, a11, a12, a13, a14].getD i 0) c10x0)), K.norm (.i .u32) (T18.F 13 4 (E.denL T18.F (fun i => [a0, a1, a2, a3, a4, a5, a6, a7, a8, a9, a10, a11, a12, a13, a14].getD i 0) c10x0)), K.norm (.i .u8) (T18.F 13 5 (E.denL T18.F (fun i => [a0, a1, a2, a3, a4, a5, a6, a7, a8, a9, a10, a11, a12, a13, a14].getD i 0) c10x0)), K.norm (.i .u32) (T18.F 13 6 (E.denL T18.F (fun i => [a0, a1, a2, a3, a4, a5, a6, a7, a8, a9, a10, a11, a12, a13, a14].getD i 0) c10x0)), K.norm (.i .u8) (T18.F 13 7 (E.denL T18.F (fun i => [a0, a1, a2, a3, a4, a5, a6, a7, a8, a9, a10, a11, a12, a13, a14].getD i 0) c10x0)), K.norm (.i .u16) (T18.F 13 8 (E.denL T18.F (fun i => [a0, a1, a2, a3, a4, a5, a6, a7, a8, a9, a10, a11, a12, a13, a14].getD i 0) c10x0)), K.norm (.i .u16) (T18.F 13 9 (E.denL T18.F (fun i => [a0, a1, a2, a3, a4, a5, a6, a7, a8, a9, a10, a11, a12, a13, a14].getD i 0) c10x0)), K.norm (.i .u16) (T18.F 13 10 (E.denL T18.F (fun i => [a0, a1, a2, a3, a4, a5, a6, a7, a8, a9, a10, a11, a12, a13, a14].getD i 0) c10x0)), K.norm (.i .u16) (T18.F 13 11 (E.denL T18.F (fun i => [a0, a1, a2, a3, a4, a5, a6, a7, a8, a9, a10, a11, a12, a13, a14].getD i 0) c10x0)), K.norm (.b) (T18.F 13 12 (E.denL T18.F (fun i => [a0, a1, a2, a3, a4, a5, a6, a7, a8, a9, a10, a11, a12, a13, a14].getD i 0) c10x0)), B 0, B 1, B 2, B 3, B 4, B 5, B 6, B 7, B 8, B 9, B 10, B 11, B 12] := by rw [eB]; rfl
  have l47 : E.denL T18.F (fun i => [a0, a1, a2, a3, a4, a5, a6, a7, a8, a9, a10, a11, a12, a13, a14].getD i 0) c10x47 = [B 0, B 1, B 2, B 3, B 4, B 5, B 6, B 7, B 8, B 9, B 10, B 11, B 12, K.norm (.i .u8) (T18.F 13 0 (E.denL T18.F (fun i => [a0, a1, a2, a3, a4, a5, a6, a7, a8, a9, a10, a11, a12, a13, a14].getD i 0) c10x0)), K.norm (.i .u8) (T18.F 13 1 (E.denL T18.F (fun i => [a0, a1, a2, a3, a4, a5, a6, a7, a8, a9, a10, a11, a12, a13, a14].getD i 0) c10x0)), K.norm (.i .u8) (T18.F 13 2 (E.denL T18.F (fun i => [a0, a1, a2, a3, a4, a5, a6, a7, a8, a9, a10, a11, a12, a13, a14].getD i 0) c10x0)), K.norm (.i .u8) (T18.F 13 3 (E.denL T18.F (fun i => [a0, a1, a2, a3, a4, a5, a6, a7, a8, a9, a10, a11, a12, a13, a14].getD i 0) c10x0)), K.norm (.i .u32) (T18.F 13 4 (E.denL T18.F (fun i => [a0, a1, a2, a3, a4, a5, a6, a7, a8, a9, a10, a11, a12, a13, a14].getD i 0) c10x0)), K.norm (.i .u8) (T18.F 13 5 (E.denL T18.F (fun i => [a0, a1, a2, a3, a4, a5, a6, a7, a8, a9, a10, a11, a12, a13, a14].getD i 0) c10x0)), K.norm (.i .u32) (T18.F 13 6 (E.denL T18.F (fun i => [a0, a1, a2, a3, a4, a5, a6, a7, a8, a9, a10, a11, a12, a13, a14].getD i 0) c10x0)), K.norm (.i .u8) (T18.F 13 7 (E.denL T18.F (fun i => [a0, a1, a2, a3, a4, a5, a6, a7, a8, a9, a10, a11, a12, a13, a14].getD i 0) c10x0)), K.norm (.i .u16) (T18.F 13 8 (E.denL T18.F (fun i => [a0, a1, a2, a3, a4, a5, a6, a7, a8, a9, a10, a11, a12, a13, a14].getD i 0) c10x0)), K.norm (.i .u16) (T18.F 13 9 (E.denL T18.F (fun i => [a0, a1, a2, a3, a4, a5, a6, a7, a8, a9, a10, a11, a12, a13, a14].getD i 0) c10x0)), K.norm (.i .u16) (T18.F 13 10 (E.denL T18.F (fun i => [a0, a1, a2, a3, a4, a5, a6, a7, a8, a9, a10, a11, a12, a13, a14].getD i 0) c10x0)), K.norm (.i .u16) (T18.F 13 11 (E.denL T18.F (fun i => [a0, a1, a2, a3, a4, a5, a6, a7, a8, a9, a10, a11, a12, a13, a14].getD i 0) c10x0)), K.norm (.b) (T18.F 13 12 (E.denL T18.F (fun i => [a0, a1, a2, a3, a4, a5, a6, a7, a8, a9, a10, a11, a12, a13, a14].getD i 0) c10x0))] := by rw [eB]; rfl
  have l44 : E.denL T18.F (fun i => [a0, a1, a2, a3, a4, a5, a6, a7, a8, a9, a10, a11, a12, a13, a14].getD i 0) c10x44 = [B 0, B 1, B 2, B 3, B 4, B 5, B 6, B 7, B 8, B 9, B 10, B 11, B 12, 9, K.norm (.i .u8) (T18.F 16 1 (E.denL T18.F (fun i => [a0, a1, a2, a3, a4, a5, a6, a7, a8, a9, a10, a11, a12, a13, a14].getD i 0) c10x0)), K.norm (.i .u32) (T18.F 16 2 (E.denL T18.F (fun i => [a0, a1, a2, a3, a4, a5, a6, a7, a8, a9, a10, a11, a12, a13, a14].getD i 0) c10x0)), K.norm (.i .u32) (T18.F 16 3 (E.denL T18.F (fun i => [a0, a1, a2, a3, a4, a5, a6, a7, a8, a9, a10, a11, a12, a13, a14].getD i 0) c10x0)), K.norm (.i .u16) (T18.F 16 4 (E.denL T18.F (fun i => [a0, a1, a2, a3, a4, a5, a6, a7, a8, a9, a10, a11, a12, a13, a14].getD i 0) c10x0)), K.norm (.i .u16) (T18.F 16 5 (E.denL T18.F (fun i => [a0, a1, a2, a3, a4, a5, a6, a7, a8, a9, a10, a11, a12, a13, a14].getD i 0) c10x0)), K.norm (.i .u8) (T18.F 16 6 (E.denL T18.F (fun i => [a0, a1, a2, a3, a4, a5, a6, a7, a8, a9, a10, a11, a12, a13, a14].getD i 0) c10x0)), K.norm (.i .u8) (T18.F 16 7 (E.denL T18.F (fun i => [a0, a1, a2, a3, a4, a5, a6, a7, a8, a9, a10, a11, a12, a13, a14].getD i 0) c10x0)), K.norm (.i .u8) (T18.F 16 8 (E.denL T18.F (fun i => [a0, a1, a2, a3, a4, a5, a6, a7, a8, a9, a10, a11, a12, a13, a14].getD i 0) c10x0)), K.norm (.i .u8) (T18.F 16 9 (E.denL T18.F (fun i => [a0, a1, a2, a3, a4, a5, a6, a7, a8, a9, a10, a11, a12, a13, a14].getD i 0) c10x0)), K.norm (.i .u32) (T18.F 16 10 (E.denL T18.F (fun i => [a0, a1, a2, a3, a4, a5, a6, a7, a8, a9, a10, a11, a12, a13, a14].getD i 0) c10x0)), K.norm (.i .u32) (T18.F 16 11 (E.denL T18.F (fun i => [a0, a1, a2, a3, a4, a5, a6, a7, a8, a9, a10, a11, a12, a13, a14].getD i 0) c10x0)), K.norm (.i .i64) (T18.F 16 12 (E.denL T18.F (fun i => [a0, a1, a2, a3, a4, a5, a6, a7, a8, a9, a10, a11, a12, a13, a14].getD i 0) c10x0)), K.norm (.i .i64) (T18.F 16 13 (E.denL T18.F (fun i => [a0, a1, a2, a3, a4, a5, a6, a7, a8, a9, a10, a11, a12, a13, a14].getD i 0) c10x0)), K.norm (.i .u8) (T18.F 16 14 (E.denL T18.F (fun i => [a0, a1, a2, a3, a4, a5, a6, a7, a8, a9, a10, a11, a12, a13, a14].getD i 0) c10x0)), K.norm (.i .u32) (T18.F 16 15 (E.denL T18.F (fun i => [a0, a1, a2, a3, a4, a5, a6, a7, a8, a9, a10, a11, a12, a13, a14].getD i 0) c10x0)), K.norm (.i .u32) (T18.F 16 16 (E.denL T18.F (fun i => [a0, a1, a2, a3, a4, a5, a6, a7, a8, a9, a10, a11, a12, a13, a14].getD i 0) c10x0)), K.norm (.i .u16) (T18.F 16 17 (E.denL T18.F (fun i => [a0, a1, a2, a3, a4, a5, a6, a7, a8, a9, a10, a11, a12, a13, a14].getD i 0) c10x0)), K.norm (.i .u16) (T18.F 16 18 (E.denL T18.F (fun i => [a0, a1, a2, a3, a4, a5, a6, a7, a8, a9, a10, a11, a12, a13, a14].getD i 0) c10x0)), K.norm (.i .u8) (T18.F 16 19 (E.denL T18.F (fun i => [a0, a1, a2, a3, a4, a5, a6, a7, a8, a9, a10, a11, a12, a13, a14].getD i 0) c10x0))] := by rw [eB]; rfl
  simp only [d0, FA, FP, NA.n0, NA.n1, NA.n2, NA.n3, NA.n4, NA.n5, NA.n6, NA.n7, NA.n8, NA.n9, NA.n10, NA.n11, bA] at l44 l46 l47
  simp only [es10, fnOf, E.den, E.denL, binI, dvI, shI, cmpB, List.getD_cons_zero, List.getD_cons_succ, i2b_b2i, norm_b2i, l44, l45, l46, l47, d0, FA, FP, NA.n0, NA.n1, NA.n2, NA.n3, NA.n4, NA.n5, NA.n6, NA.n7, NA.n8, NA.n9, NA.n10, NA.n11, bA, h14, show K.norm (.i .u8) 0 = 0 from rfl, show K.norm (.i .u8) 1 = 1 from rfl, show K.norm (.i .u8) 2 = 2 from rfl, show K.norm (.i .u8) 3 = 3 from rfl, show K.norm (.i .u8) 4 = 4 from rfl, show K.norm (.i .u8) 5 = 5 from rfl, show K.norm (.i .u8) 6 = 6 from rfl, show K.norm (.i .u8) 7 = 7 from rfl, show K.norm (.i .u8) 8 = 8 from rfl, show K.norm (.i .u8) 9 = 9 from rfl, show K.norm (.i .u8) 17 = 17 from rfl, show K.norm (.i .u8) 18 = 18 from rfl, show K.norm (.i .u8) 31 = 31 from rfl, show K.norm (.i .u8) 32 = 32 from rfl, show K.norm (.i .u8) 33 = 33 from rfl, show K.norm (.i .u8) 63 = 63 from rfl, show K.norm (.i .u8) 64 = 64 from rfl, show K.norm (.i .u8) 26 = 26 from rfl, show K.norm (.i .u16) 0 = 0 from rfl, show K.norm (.i .u16) 1 = 1 from rfl, show K.norm (.i .u16) 65535 = 65535 from rfl, show K.norm (.i .u32) 0 = 0 from rfl, show K.norm (.i .u32) 1 = 1 from rfl, show K.norm (.i .u32) 2147483648 = 2147483648 from rfl, bif_max]
  have g1 : goodP (max a14 2) (K.norm (.i .u8) (P 1)) = false := by
    unfold goodP
    rw [decide_eq_false (by omega)]; rfl
  have g2 : goodP (K.norm (.i .u8) (P 0)) (bitsI .or .u8 18 a14) = false := by
    obtain ⟨z, hz⟩ := Int.eq_ofNat_of_zero_le q14.1
    unfold goodP
    rw [hz, bad18 z (by omega), Bool.and_false]
  have x1 : winE A B = 260 := by unfold winE; rw [bad, Bool.and_false]; rfl
  have x2 : winE B A = 260 := by unfold winE; rw [bad, Bool.false_and]; rfl
  have x3 : samO B 20 = 260 := by unfold samO; rw [bad]; rfl
  have x4 : apO B A 20 = 260 := by unfold apO; rw [bad, Bool.false_and]; rfl
  have x5 : comO A B 13 = 260 := by show comE A B = 260; unfold comE; rw [bad, Bool.and_false]; rfl
  simp only [V24 A, V24 B, W17 A, W17 B, V14 A B, V14 B A, W19 B 20 (by decide), W20 B A 20 (by decide), W15 A B 13 (by decide), bad, rA.right, g1, g2, x1, x2, x3, x4, x5, i2b_b2i, norm_b2i, beq_self_eq_true, bne_self_eq_false, Bool.not_true, Bool.not_false, Bool.or_self, Bool.or_false, Bool.false_or, Bool.and_self, Bool.true_and, Bool.and_true, Bool.false_and, Bool.and_false, Bool.true_or, Bool.or_true, cond_true, cond_false]
  rfl
theorem ok10 : EntryOK Tryd.prog G0 en10 := ok10'.congr lem10
def T10 : Tabs := en10 :: T18
theorem tok10 : TabsOK Tryd.prog G0 T10 := .cons ok10 tok18

end Go.Proofs.YtbolcnlenmphhaaDoor

/- Layer 26: MatchSmall: what 'changed' does. -/
import Derived.Test.YtbolcnlenmphhaaDoorS7
import Derived.Test.YtbolcnlenmphhaaDoorWad
set_option linter.unusedVariables false
set_option linter.unusedSimpArgs false
namespace Go.Proofs.YtbolcnlenmphhaaDoor
open Go Go.RowKit Ev

def fk23 (j : Nat) : K := ruleK.getD j .b
def ik23 (j : Nat) : IntKind := match fk23 j with | .i k => k | .b => .i64
def es23 (k : Nat) : List E := (List.range 13).map fun j => bif j == k then (bif j == 12 then .not (.var .b 12) else .conv (ik23 j) (.var (.i .i64) 13)) else .var (fk23 j) j
def en23 (k : Nat) : Entry := ⟨23, 23, [.a ruleK, .l (.i .i64) k, .s (.i .i64)], .one (.a ruleK), fnOf [] (es23 k)⟩
theorem ok23_0 : EntryOK Tryd.prog G0 (en23 0) := evE_ok (N := 200) (n := 20) (by kernel_rfl) (TabsOK.nil _ _) (by kernel_rfl)
theorem ok23_1 : EntryOK Tryd.prog G0 (en23 1) := evE_ok (N := 200) (n := 20) (by kernel_rfl) (TabsOK.nil _ _) (by kernel_rfl)
theorem ok23_2 : EntryOK Tryd.prog G0 (en23 2) := evE_ok (N := 200) (n := 20) (by kernel_rfl) (TabsOK.nil _ _) (by kernel_rfl)
theorem ok23_3 : EntryOK Tryd.prog G0 (en23 3) := evE_ok (N := 200) (n := 20) (by kernel_rfl) (TabsOK.nil _ _) (by kernel_rfl)
theorem ok23_4 : EntryOK Tryd.prog G0 (en23 4) := evE_ok (N := 200) (n := 20) (by kernel_rfl) (TabsOK.nil _ _) (by kernel_rfl)
theorem ok23_5 : EntryOK Tryd.prog G0 (en23 5) := evE_ok (N := 200) (n := 20) (by kernel_rfl) (TabsOK.nil _ _) (by kernel_rfl)
theorem ok23_6 : EntryOK Tryd.prog G0 (en23 6) := evE_ok (N := 200) (n := 20) (by kernel_rfl) (TabsOK.nil _ _) (by kernel_rfl)
theorem ok23_7 : EntryOK Tryd.prog G0 (en23 7) := evE_ok (N := 200) (n := 20) (by kernel_rfl) (TabsOK.nil _ _) (by kernel_rfl)
theorem ok23_8 : EntryOK Tryd.prog G0 (en23 8) := evE_ok (N := 200) (n := 20) (by kernel_rfl) (TabsOK.nil _ _) (by kernel_rfl)
theorem ok23_9 : EntryOK Tryd.prog G0 (en23 9) := evE_ok (N := 200) (n := 20) (by kernel_rfl) (TabsOK.nil _ _) (by kernel_rfl)
theorem ok23_10 : EntryOK Tryd.prog G0 (en23 10) := evE_ok (N := 200) (n := 20) (by kernel_rfl) (TabsOK.nil _ _) (by kernel_rfl)
theorem ok23_11 : EntryOK Tryd.prog G0 (en23 11) := evE_ok (N := 200) (n := 20) (by kernel_rfl) (TabsOK.nil _ _) (by kernel_rfl)
theorem ok23_12 : EntryOK Tryd.prog G0 (en23 12) := evE_ok (N := 200) (n := 20) (by kernel_rfl) (TabsOK.nil _ _) (by kernel_rfl)
end Go.Proofs.YtbolcnlenmphhaaDoor

/-
  NARROWER THAN 'FOR EVERY INPUT', by the rows' own cells (each row's printed sentence says how): CompileFinds: laid · CompileOrder: laid · CompileTells: laid · CompileSmall: laid · CompileClasses: laid · CompileWrong: laid · CompileMore: laid · CompileFirst: laid.
  DERIVED. THE GIVEN ROWS OF THIS SEAT. 8 by the template 'for every input the law returns true; each argument reads behind the call as it read before'; 0 by the template 'total and deterministic' (their statements: YtgpflpbldeflhaaDoorTotals.lean).
  GIVEN WITH THE SEED: the statements are not yours to turn. If you find one false, say at which input.
  Laid BY PROGRAM, IN A SANDBOX (cutbox-rows.mjs): the forced cells as the released guide's own fill.sh prints them over the translation 22eabebbee869166… (all of the seat's roots in one cut). By AI agents, Wed Nov 11 2026. No macro, syntax, notation, axiom, sorry.
-/
import Derived.Test.YtgpflpbldeflhaaDoorChecked
import GoSem.Claim
import GoSem.ClaimJoined
import GoSem.ClaimMapViews
import Derived.JoinedTies
import Derived.KernelRfl
namespace Go.Proofs.YtgpflpbldeflhaaDoor
/- THE CELL 'sum', in the pinned program and in every row, IS THE sha256 OF THE DUMP (.gsa) THAT YtgpflpbldeflhaaDoorProg.lean LOADS. Nothing in Lean hashes anything: it is a label: what it is worth is what the hold of that sum in a sandbox is worth. -/
noncomputable def Tryd.pinned : Pinned := { name := "ytgpflpbldeflhaadoor", sum := "22eabebbee8691667f7b38144c3df3a168cb2c1cc1b0db39faaa3e5ceece0912", checked := Tryd.checked }
namespace Rows
def none {H : Type} : Left H := { results := [], args := [] }

/- WHAT THE LISTED PACKAGE-LEVEL VARIABLES READ AS WHEN THE CALL BEGINS. Each datum BY PROGRAM (the guide's laid-datum.mjs) off the statement by which the dump's own 'gosem.cut.vars' lays the variable. In a bare row this is a premise. The card (YtgpflpbldeflhaaDoorCards.lean) ties it to the program's text. -/
def laid_baffle_compile_lasts {H : Type} : DataW H := .agg [.lit (.int .u32 1), .lit (.int .u32 2), .lit (.int .u32 4294967295), .lit (.int .u32 4294967295), .lit (.int .u32 65535), .lit (.int .u32 65535), .lit (.int .u32 63)]
def laid_baffle_compile_protocols {H : Type} : DataW H := .agg [.lit (.int .u8 1), .lit (.int .u8 6), .lit (.int .u8 17)]
def laid_baffle_bafflelaw26_full {H : Type} : DataW H := .agg [.lit (.int .u16 0), .lit (.int .u16 65535)]

/-- 'bafflelaw28.CompileFinds': WHATEVER THE INPUT: true; the input reads as it did. -/
def compileFindsSpec : ChangeSpec := { name := "compileFinds", fn := fun _ => fun
  | [d1, d2, d3] => { results := [.lit (.bool true)], args := [d1, d2, d3] }
  | _ => none }
def compileFindsRow : OpenClaim := { program := "ytgpflpbldeflhaadoor", sum := "22eabebbee8691667f7b38144c3df3a168cb2c1cc1b0db39faaa3e5ceece0912", func := "baffle/bafflelaw28.CompileFinds", spec := "compileFinds", unfollowed := true, recurses := true, named := ["baffle/compile.lasts", "baffle/compile.protocols"], apart := false, laid := [("baffle/compile.lasts", laid_baffle_compile_lasts), ("baffle/compile.protocols", laid_baffle_compile_protocols)] }
def CompileFindsSaid : Prop := compileFindsRow.holds Tryd.pinned (OpenSpec.ofChange compileFindsSpec)

/-- ITS FALSE NEIGHBOUR: 'it returns false'. Refute it at one input. -/
def compileFindsWrong : ChangeSpec := { name := "compileFinds", fn := fun _ => fun
  | [d1, d2, d3] => { results := [.lit (.bool false)], args := [d1, d2, d3] }
  | _ => none }
def CompileFindsWrongFalsely : Prop := compileFindsRow.holds Tryd.pinned (OpenSpec.ofChange compileFindsWrong)

/-- 'bafflelaw28.CompileOrder': WHATEVER THE INPUT: true; the input reads as it did. -/
def compileOrderSpec : ChangeSpec := { name := "compileOrder", fn := fun _ => fun
  | [d1, d2] => { results := [.lit (.bool true)], args := [d1, d2] }
  | _ => none }
def compileOrderRow : OpenClaim := { program := "ytgpflpbldeflhaadoor", sum := "22eabebbee8691667f7b38144c3df3a168cb2c1cc1b0db39faaa3e5ceece0912", func := "baffle/bafflelaw28.CompileOrder", spec := "compileOrder", unfollowed := true, recurses := true, named := ["baffle/bafflelaw26.full", "baffle/compile.lasts", "baffle/compile.protocols"], apart := false, laid := [("baffle/bafflelaw26.full", laid_baffle_bafflelaw26_full), ("baffle/compile.lasts", laid_baffle_compile_lasts), ("baffle/compile.protocols", laid_baffle_compile_protocols)] }
def CompileOrderSaid : Prop := compileOrderRow.holds Tryd.pinned (OpenSpec.ofChange compileOrderSpec)

/-- ITS FALSE NEIGHBOUR: 'it returns false'. Refute it at one input. -/
def compileOrderWrong : ChangeSpec := { name := "compileOrder", fn := fun _ => fun
  | [d1, d2] => { results := [.lit (.bool false)], args := [d1, d2] }
  | _ => none }
def CompileOrderWrongFalsely : Prop := compileOrderRow.holds Tryd.pinned (OpenSpec.ofChange compileOrderWrong)

/-- 'bafflelaw28.CompileTells': WHATEVER THE INPUT: true; the input reads as it did. -/
def compileTellsSpec : ChangeSpec := { name := "compileTells", fn := fun _ => fun
  | [d1, d2, d3, d4] => { results := [.lit (.bool true)], args := [d1, d2, d3, d4] }
  | _ => none }
def compileTellsRow : OpenClaim := { program := "ytgpflpbldeflhaadoor", sum := "22eabebbee8691667f7b38144c3df3a168cb2c1cc1b0db39faaa3e5ceece0912", func := "baffle/bafflelaw28.CompileTells", spec := "compileTells", unfollowed := true, recurses := true, named := ["baffle/compile.lasts", "baffle/compile.protocols"], apart := false, laid := [("baffle/compile.lasts", laid_baffle_compile_lasts), ("baffle/compile.protocols", laid_baffle_compile_protocols)] }
def CompileTellsSaid : Prop := compileTellsRow.holds Tryd.pinned (OpenSpec.ofChange compileTellsSpec)

/-- ITS FALSE NEIGHBOUR: 'it returns false'. Refute it at one input. -/
def compileTellsWrong : ChangeSpec := { name := "compileTells", fn := fun _ => fun
  | [d1, d2, d3, d4] => { results := [.lit (.bool false)], args := [d1, d2, d3, d4] }
  | _ => none }
def CompileTellsWrongFalsely : Prop := compileTellsRow.holds Tryd.pinned (OpenSpec.ofChange compileTellsWrong)

/-- 'bafflelaw28.CompileSmall': WHATEVER THE INPUT: true; the input reads as it did. -/
def compileSmallSpec : ChangeSpec := { name := "compileSmall", fn := fun _ => fun
  | [] => { results := [.lit (.bool true)], args := [] }
  | _ => none }
def compileSmallRow : OpenClaim := { program := "ytgpflpbldeflhaadoor", sum := "22eabebbee8691667f7b38144c3df3a168cb2c1cc1b0db39faaa3e5ceece0912", func := "baffle/bafflelaw28.CompileSmall", spec := "compileSmall", unfollowed := true, recurses := true, named := ["baffle/compile.lasts", "baffle/compile.protocols"], apart := false, laid := [("baffle/compile.lasts", laid_baffle_compile_lasts), ("baffle/compile.protocols", laid_baffle_compile_protocols)] }
def CompileSmallSaid : Prop := compileSmallRow.holds Tryd.pinned (OpenSpec.ofChange compileSmallSpec)

/-- ITS FALSE NEIGHBOUR: 'it returns false'. Refute it at one input. -/
def compileSmallWrong : ChangeSpec := { name := "compileSmall", fn := fun _ => fun
  | [] => { results := [.lit (.bool false)], args := [] }
  | _ => none }
def CompileSmallWrongFalsely : Prop := compileSmallRow.holds Tryd.pinned (OpenSpec.ofChange compileSmallWrong)

/-- 'bafflelaw28.CompileClasses': WHATEVER THE INPUT: true; the input reads as it did. -/
def compileClassesSpec : ChangeSpec := { name := "compileClasses", fn := fun _ => fun
  | [d] => { results := [.lit (.bool true)], args := [d] }
  | _ => none }
def compileClassesRow : OpenClaim := { program := "ytgpflpbldeflhaadoor", sum := "22eabebbee8691667f7b38144c3df3a168cb2c1cc1b0db39faaa3e5ceece0912", func := "baffle/bafflelaw28.CompileClasses", spec := "compileClasses", unfollowed := true, recurses := true, named := ["baffle/bafflelaw26.full", "baffle/compile.lasts", "baffle/compile.protocols"], apart := false, laid := [("baffle/bafflelaw26.full", laid_baffle_bafflelaw26_full), ("baffle/compile.lasts", laid_baffle_compile_lasts), ("baffle/compile.protocols", laid_baffle_compile_protocols)] }
def CompileClassesSaid : Prop := compileClassesRow.holds Tryd.pinned (OpenSpec.ofChange compileClassesSpec)

/-- ITS FALSE NEIGHBOUR: 'it returns false'. Refute it at one input. -/
def compileClassesWrong : ChangeSpec := { name := "compileClasses", fn := fun _ => fun
  | [d] => { results := [.lit (.bool false)], args := [d] }
  | _ => none }
def CompileClassesWrongFalsely : Prop := compileClassesRow.holds Tryd.pinned (OpenSpec.ofChange compileClassesWrong)

/-- 'bafflelaw28.CompileWrong': WHATEVER THE INPUT: true; the input reads as it did. -/
def compileWrongSpec : ChangeSpec := { name := "compileWrong", fn := fun _ => fun
  | [d1, d2, d3, d4] => { results := [.lit (.bool true)], args := [d1, d2, d3, d4] }
  | _ => none }
def compileWrongRow : OpenClaim := { program := "ytgpflpbldeflhaadoor", sum := "22eabebbee8691667f7b38144c3df3a168cb2c1cc1b0db39faaa3e5ceece0912", func := "baffle/bafflelaw28.CompileWrong", spec := "compileWrong", unfollowed := true, recurses := true, named := ["baffle/bafflelaw26.full", "baffle/compile.lasts", "baffle/compile.protocols"], apart := false, laid := [("baffle/bafflelaw26.full", laid_baffle_bafflelaw26_full), ("baffle/compile.lasts", laid_baffle_compile_lasts), ("baffle/compile.protocols", laid_baffle_compile_protocols)] }
def CompileWrongSaid : Prop := compileWrongRow.holds Tryd.pinned (OpenSpec.ofChange compileWrongSpec)

/-- ITS FALSE NEIGHBOUR: 'it returns false'. Refute it at one input. -/
def compileWrongWrong : ChangeSpec := { name := "compileWrong", fn := fun _ => fun
  | [d1, d2, d3, d4] => { results := [.lit (.bool false)], args := [d1, d2, d3, d4] }
  | _ => none }
def CompileWrongWrongFalsely : Prop := compileWrongRow.holds Tryd.pinned (OpenSpec.ofChange compileWrongWrong)

/-- 'bafflelaw28.CompileMore': WHATEVER THE INPUT: true; the input reads as it did. -/
def compileMoreSpec : ChangeSpec := { name := "compileMore", fn := fun _ => fun
  | [d1, d2, d3, d4] => { results := [.lit (.bool true)], args := [d1, d2, d3, d4] }
  | _ => none }
def compileMoreRow : OpenClaim := { program := "ytgpflpbldeflhaadoor", sum := "22eabebbee8691667f7b38144c3df3a168cb2c1cc1b0db39faaa3e5ceece0912", func := "baffle/bafflelaw28.CompileMore", spec := "compileMore", unfollowed := true, recurses := true, named := ["baffle/bafflelaw26.full", "baffle/compile.lasts", "baffle/compile.protocols"], apart := false, laid := [("baffle/bafflelaw26.full", laid_baffle_bafflelaw26_full), ("baffle/compile.lasts", laid_baffle_compile_lasts), ("baffle/compile.protocols", laid_baffle_compile_protocols)] }
def CompileMoreSaid : Prop := compileMoreRow.holds Tryd.pinned (OpenSpec.ofChange compileMoreSpec)

/-- ITS FALSE NEIGHBOUR: 'it returns false'. Refute it at one input. -/
def compileMoreWrong : ChangeSpec := { name := "compileMore", fn := fun _ => fun
  | [d1, d2, d3, d4] => { results := [.lit (.bool false)], args := [d1, d2, d3, d4] }
  | _ => none }
def CompileMoreWrongFalsely : Prop := compileMoreRow.holds Tryd.pinned (OpenSpec.ofChange compileMoreWrong)

/-- 'bafflelaw28.CompileFirst': WHATEVER THE INPUT: true; the input reads as it did. -/
def compileFirstSpec : ChangeSpec := { name := "compileFirst", fn := fun _ => fun
  | [d1, d2] => { results := [.lit (.bool true)], args := [d1, d2] }
  | _ => none }
def compileFirstRow : OpenClaim := { program := "ytgpflpbldeflhaadoor", sum := "22eabebbee8691667f7b38144c3df3a168cb2c1cc1b0db39faaa3e5ceece0912", func := "baffle/bafflelaw28.CompileFirst", spec := "compileFirst", unfollowed := true, recurses := true, named := ["baffle/bafflelaw26.full", "baffle/compile.lasts", "baffle/compile.protocols"], apart := false, laid := [("baffle/bafflelaw26.full", laid_baffle_bafflelaw26_full), ("baffle/compile.lasts", laid_baffle_compile_lasts), ("baffle/compile.protocols", laid_baffle_compile_protocols)] }
def CompileFirstSaid : Prop := compileFirstRow.holds Tryd.pinned (OpenSpec.ofChange compileFirstSpec)

/-- ITS FALSE NEIGHBOUR: 'it returns false'. Refute it at one input. -/
def compileFirstWrong : ChangeSpec := { name := "compileFirst", fn := fun _ => fun
  | [d1, d2] => { results := [.lit (.bool false)], args := [d1, d2] }
  | _ => none }
def CompileFirstWrongFalsely : Prop := compileFirstRow.holds Tryd.pinned (OpenSpec.ofChange compileFirstWrong)

/- THE SECOND FORM. 'bulk': how many values and letters a reading holds, each counted each time it is reached (what is shared counts as often as it is met; a slice's spare places count too). A statement '..UptoSaid' is the law's where the arguments, and the package variables that the reading takes, are together of bulk at most 1048576: NARROWER than '..Said'. Prove '..Said' where nothing that the law and all that it calls make is longer than what came in: it says more and counts as full. Else prove '..UptoSaid'. A law counts once. -/
mutual
def uptoBulk {H : Type} : DataW H → Nat
  | .lit (.string bytes) => bytes.length + 1
  | .lit _ => 1
  | .nil => 1
  | .ptr d => uptoBulk d + 1
  | .slice elems spare => uptoBulkAll elems + uptoBulkAll spare + 1
  | .agg parts => uptoBulkAll parts + 1
  | .iface _ d => uptoBulk d + 1
  | .map entries => uptoBulkEntries entries + 1
  | .held _ => 1
def uptoBulkAll {H : Type} : List (DataW H) → Nat
  | [] => 0
  | d :: r => uptoBulk d + uptoBulkAll r
def uptoBulkEntries {H : Type} : List (Lit × DataW H) → Nat
  | [] => 0
  | x :: r => uptoBulkEntry x + uptoBulkEntries r
def uptoBulkEntry {H : Type} : Lit × DataW H → Nat
  | (.string bytes, d) => bytes.length + uptoBulk d + 1
  | (_, d) => uptoBulk d + 1
 end
def uptoSmall : (H : Type) → List (DataW H) → Bool := fun _ ds => decide (uptoBulkAll ds ≤ 1048576)
def OpenSpec.upto (s : _root_.Go.ChangeSpec) : _root_.Go.OpenSpec := { _root_.Go.OpenSpec.ofChange s with cond := some uptoSmall }

/-- 'bafflelaw28.CompileFinds', WHERE WHAT IT READS IS OF BULK AT MOST 1048576: true; the input reads as it did. -/
def compileFindsUptoRow : OpenClaim := { program := "ytgpflpbldeflhaadoor", sum := "22eabebbee8691667f7b38144c3df3a168cb2c1cc1b0db39faaa3e5ceece0912", func := "baffle/bafflelaw28.CompileFinds", spec := "compileFinds", unfollowed := true, recurses := true, named := ["baffle/compile.lasts", "baffle/compile.protocols"], apart := false, laid := [("baffle/compile.lasts", laid_baffle_compile_lasts), ("baffle/compile.protocols", laid_baffle_compile_protocols)], narrowed := true }
def CompileFindsUptoSaid : Prop := compileFindsUptoRow.holds Tryd.pinned (OpenSpec.upto compileFindsSpec)

/-- 'bafflelaw28.CompileOrder', WHERE WHAT IT READS IS OF BULK AT MOST 1048576: true; the input reads as it did. -/
def compileOrderUptoRow : OpenClaim := { program := "ytgpflpbldeflhaadoor", sum := "22eabebbee8691667f7b38144c3df3a168cb2c1cc1b0db39faaa3e5ceece0912", func := "baffle/bafflelaw28.CompileOrder", spec := "compileOrder", unfollowed := true, recurses := true, named := ["baffle/bafflelaw26.full", "baffle/compile.lasts", "baffle/compile.protocols"], apart := false, laid := [("baffle/bafflelaw26.full", laid_baffle_bafflelaw26_full), ("baffle/compile.lasts", laid_baffle_compile_lasts), ("baffle/compile.protocols", laid_baffle_compile_protocols)], narrowed := true }
def CompileOrderUptoSaid : Prop := compileOrderUptoRow.holds Tryd.pinned (OpenSpec.upto compileOrderSpec)

/-- 'bafflelaw28.CompileTells', WHERE WHAT IT READS IS OF BULK AT MOST 1048576: true; the input reads as it did. -/
def compileTellsUptoRow : OpenClaim := { program := "ytgpflpbldeflhaadoor", sum := "22eabebbee8691667f7b38144c3df3a168cb2c1cc1b0db39faaa3e5ceece0912", func := "baffle/bafflelaw28.CompileTells", spec := "compileTells", unfollowed := true, recurses := true, named := ["baffle/compile.lasts", "baffle/compile.protocols"], apart := false, laid := [("baffle/compile.lasts", laid_baffle_compile_lasts), ("baffle/compile.protocols", laid_baffle_compile_protocols)], narrowed := true }
def CompileTellsUptoSaid : Prop := compileTellsUptoRow.holds Tryd.pinned (OpenSpec.upto compileTellsSpec)

/-- 'bafflelaw28.CompileSmall', WHERE WHAT IT READS IS OF BULK AT MOST 1048576: true; the input reads as it did. -/
def compileSmallUptoRow : OpenClaim := { program := "ytgpflpbldeflhaadoor", sum := "22eabebbee8691667f7b38144c3df3a168cb2c1cc1b0db39faaa3e5ceece0912", func := "baffle/bafflelaw28.CompileSmall", spec := "compileSmall", unfollowed := true, recurses := true, named := ["baffle/compile.lasts", "baffle/compile.protocols"], apart := false, laid := [("baffle/compile.lasts", laid_baffle_compile_lasts), ("baffle/compile.protocols", laid_baffle_compile_protocols)], narrowed := true }
def CompileSmallUptoSaid : Prop := compileSmallUptoRow.holds Tryd.pinned (OpenSpec.upto compileSmallSpec)

/-- 'bafflelaw28.CompileClasses', WHERE WHAT IT READS IS OF BULK AT MOST 1048576: true; the input reads as it did. -/
def compileClassesUptoRow : OpenClaim := { program := "ytgpflpbldeflhaadoor", sum := "22eabebbee8691667f7b38144c3df3a168cb2c1cc1b0db39faaa3e5ceece0912", func := "baffle/bafflelaw28.CompileClasses", spec := "compileClasses", unfollowed := true, recurses := true, named := ["baffle/bafflelaw26.full", "baffle/compile.lasts", "baffle/compile.protocols"], apart := false, laid := [("baffle/bafflelaw26.full", laid_baffle_bafflelaw26_full), ("baffle/compile.lasts", laid_baffle_compile_lasts), ("baffle/compile.protocols", laid_baffle_compile_protocols)], narrowed := true }
def CompileClassesUptoSaid : Prop := compileClassesUptoRow.holds Tryd.pinned (OpenSpec.upto compileClassesSpec)

/-- 'bafflelaw28.CompileWrong', WHERE WHAT IT READS IS OF BULK AT MOST 1048576: true; the input reads as it did. -/
def compileWrongUptoRow : OpenClaim := { program := "ytgpflpbldeflhaadoor", sum := "22eabebbee8691667f7b38144c3df3a168cb2c1cc1b0db39faaa3e5ceece0912", func := "baffle/bafflelaw28.CompileWrong", spec := "compileWrong", unfollowed := true, recurses := true, named := ["baffle/bafflelaw26.full", "baffle/compile.lasts", "baffle/compile.protocols"], apart := false, laid := [("baffle/bafflelaw26.full", laid_baffle_bafflelaw26_full), ("baffle/compile.lasts", laid_baffle_compile_lasts), ("baffle/compile.protocols", laid_baffle_compile_protocols)], narrowed := true }
def CompileWrongUptoSaid : Prop := compileWrongUptoRow.holds Tryd.pinned (OpenSpec.upto compileWrongSpec)

/-- 'bafflelaw28.CompileMore', WHERE WHAT IT READS IS OF BULK AT MOST 1048576: true; the input reads as it did. -/
def compileMoreUptoRow : OpenClaim := { program := "ytgpflpbldeflhaadoor", sum := "22eabebbee8691667f7b38144c3df3a168cb2c1cc1b0db39faaa3e5ceece0912", func := "baffle/bafflelaw28.CompileMore", spec := "compileMore", unfollowed := true, recurses := true, named := ["baffle/bafflelaw26.full", "baffle/compile.lasts", "baffle/compile.protocols"], apart := false, laid := [("baffle/bafflelaw26.full", laid_baffle_bafflelaw26_full), ("baffle/compile.lasts", laid_baffle_compile_lasts), ("baffle/compile.protocols", laid_baffle_compile_protocols)], narrowed := true }
def CompileMoreUptoSaid : Prop := compileMoreUptoRow.holds Tryd.pinned (OpenSpec.upto compileMoreSpec)

/-- 'bafflelaw28.CompileFirst', WHERE WHAT IT READS IS OF BULK AT MOST 1048576: true; the input reads as it did. -/
def compileFirstUptoRow : OpenClaim := { program := "ytgpflpbldeflhaadoor", sum := "22eabebbee8691667f7b38144c3df3a168cb2c1cc1b0db39faaa3e5ceece0912", func := "baffle/bafflelaw28.CompileFirst", spec := "compileFirst", unfollowed := true, recurses := true, named := ["baffle/bafflelaw26.full", "baffle/compile.lasts", "baffle/compile.protocols"], apart := false, laid := [("baffle/bafflelaw26.full", laid_baffle_bafflelaw26_full), ("baffle/compile.lasts", laid_baffle_compile_lasts), ("baffle/compile.protocols", laid_baffle_compile_protocols)], narrowed := true }
def CompileFirstUptoSaid : Prop := compileFirstUptoRow.holds Tryd.pinned (OpenSpec.upto compileFirstSpec)

end Rows
end Go.Proofs.YtgpflpbldeflhaaDoor

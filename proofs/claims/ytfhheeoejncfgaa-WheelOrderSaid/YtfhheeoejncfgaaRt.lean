/- slices.Sort at ints: the library's contract, and the summary. -/
import Derived.Test.YtfhheeoejncfgaaRs
import Derived.Test.YtfhheeoejncfgaaRl
import Derived.Test.YtfhheeoejncfgaaHb
set_option linter.unusedVariables false
set_option linter.unusedSimpArgs false
namespace Go.Proofs.Ytfhheeoejncfgaa.Ew
open Go Go.RowKit Go.Sort Go.Proofs

noncomputable def e38 : Ent := sortE 38 38 3
theorem ok38 : EntryOK Try.prog G0 e38 :=
  sort_ok _ (fun p cap w => AnyM.slices_Sort_int_none Try.sortA p cap w) (fun blk off cap zs w a b c => AnyM.slices_Sort_int Try.sortA blk off cap zs w a b c)
end Go.Proofs.Ytfhheeoejncfgaa.Ew

/- Counting the cells of regions. -/
import Derived.Test.YtbdmibbpojmkiaaRegMathB
import Derived.Test.YtbdmibbpojmkiaaRegWalks2
namespace Go.Proofs.Ytbdmibbpojmkiaa
set_option linter.unusedSimpArgs false
set_option linter.unusedVariables false
open Go.RowKit Runs Reg
attribute [local go_sem] Kin.cell Kin.frozen Kin.lt0 Kin.lt1 Kin.lt2 Kin.lt3 run_mkf
end Go.Proofs.Ytbdmibbpojmkiaa

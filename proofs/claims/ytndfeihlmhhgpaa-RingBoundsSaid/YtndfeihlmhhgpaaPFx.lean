-- laid by this session's program (wip/myprint.py) out of the kit's print of the translation
import Derived.Test.YtndfeihlmhhgpaaPFx0
import Derived.Test.YtndfeihlmhhgpaaPFx1
namespace Go.Proofs.Ytndfeihlmhhgpaa.PF
open Go.RowKit Go.Proofs.YtndfeihlmhhgpaaW.PrintWords Go.Proofs.YtndfeihlmhhgpaaW.PrintLast Go.Proofs.YtndfeihlmhhgpaaW.PrintMore
attribute [local go_sem] max2_int min2_int max_two min_two max_three min_three max_four min_four   -- for this text's walks alone
set_option linter.unusedVariables false
set_option linter.unusedSimpArgs false

end Go.Proofs.Ytndfeihlmhhgpaa.PF

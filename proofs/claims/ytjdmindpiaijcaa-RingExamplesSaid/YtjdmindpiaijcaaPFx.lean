-- laid by this session's program (wip/myprint.py) out of the kit's print of the translation
import Derived.Test.YtjdmindpiaijcaaPFx0
import Derived.Test.YtjdmindpiaijcaaPFx1
namespace Go.Proofs.Ytjdmindpiaijcaa.PF
open Go.RowKit Go.Proofs.YtjdmindpiaijcaaW.PrintWords Go.Proofs.YtjdmindpiaijcaaW.PrintLast Go.Proofs.YtjdmindpiaijcaaW.PrintMore
attribute [local go_sem] max2_int min2_int max_two min_two max_three min_three max_four min_four   -- for this text's walks alone
set_option linter.unusedVariables false
set_option linter.unusedSimpArgs false

end Go.Proofs.Ytjdmindpiaijcaa.PF

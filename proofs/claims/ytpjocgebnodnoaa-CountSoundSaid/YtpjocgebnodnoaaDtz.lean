import Derived.Test.YtpjocgebnodnoaaDwz
namespace Go.Proofs.Ytpjocgebnodnoaa
open Go.RowKit
set_option linter.unusedVariables false
set_option linter.unusedSimpArgs false
attribute [local go_sem] bne_self_eq_false beq_self_eq_true
end Go.Proofs.Ytpjocgebnodnoaa

/- root.quotient. -/
import Derived.Test.YtlhadociaekkhaaQRootM
import Derived.Test.YtlhadociaekkhaaQPast2
import Derived.Test.YtlhadociaekkhaaQRef2
import Derived.Test.YtlhadociaekkhaaQA
import Derived.Deep.DeepCutAuto
import Derived.WalkMore
import Derived.Deep.LoopGhost
import Derived.Deep.RegionHeld3
import Derived.Deep.RegionWith
import Derived.Outline
namespace Go.Proofs.Ytlhadociaekkhaa
set_option linter.unusedVariables false
open Go.RowKit
theorem isq_0 : isq 0 = 0 := isq_uniq (by omega) (by omega) (by omega)
end Go.Proofs.Ytlhadociaekkhaa

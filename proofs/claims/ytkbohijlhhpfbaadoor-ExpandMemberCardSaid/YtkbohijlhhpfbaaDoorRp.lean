/- The walk through errandref21's Check (printed by gen_check.py), a rule with numbered weekdays. -/
import Derived.Test.YtkbohijlhhpfbaaDoorRn
namespace Go.Proofs.YtkbohijlhhpfbaaDoor.Ra
open Go.RowKit Ru Ut Cw
end Go.Proofs.YtkbohijlhhpfbaaDoor.Ra

/- errandref21's Check walked whole. -/
import Derived.Test.YtkbohijlhhpfbaaDoorRo
import Derived.Test.YtkbohijlhhpfbaaDoorRp
namespace Go.Proofs.YtkbohijlhhpfbaaDoor.Ra
open Go.RowKit Ru Ut Cw
end Go.Proofs.YtkbohijlhhpfbaaDoor.Ra

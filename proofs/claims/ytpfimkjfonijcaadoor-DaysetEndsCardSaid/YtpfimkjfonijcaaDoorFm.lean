/- The law DaysetEnds: both cases. -/
import Derived.Test.YtpfimkjfonijcaaDoorFg
import Derived.Test.YtpfimkjfonijcaaDoorFh
namespace Go.Proofs.YtpfimkjfonijcaaDoor.Da
open Go.RowKit Ru Ut Cw Ra
theorem dends_any (k n : Int) (b : Bool) (w : World) (hT : Tab w) (k0 : 0 ≤ k) (k1 : k ≤ 4294967295) (n0 : 0 ≤ n) (n1 : n ≤ 65535) : Calls Tryd.prog 5 #[.int .u32 k, .int .u16 n, .bool b] w fun e w' => e = .returned (.bool true) ∧ Below w.heap.size w w' := by
  cases b
  · exact ends_month k n w hT k0 k1 n0 n1
  · exact ends_year k n w hT k0 k1 n0 n1
end Go.Proofs.YtpfimkjfonijcaaDoor.Da

/- errandref21's Check walked whole. -/
import Derived.Test.YtkbohijlhhpfbaaGreatDoorVRo
import Derived.Test.YtkbohijlhhpfbaaGreatDoorVRp
namespace Go.Proofs.YtkbohijlhhpfbaaGreatDoor.Ra
open Go.RowKit Ru Ut Cw
theorem rcheckR_any (w : World) (r : R) (sv : Nat → Value) (hL : Lists w r sv) (hn : Short r) (hu : 0 ≤ r.uk ∧ r.uk ≤ 255) (hf : 0 ≤ r.freq) : Calls Tryz.prog 37 #[.agg (ruleC r sv)] w fun e w' => e = .returned (.int .i64 (chkR r)) ∧ Below w.heap.size w w' := by
 by_cases h1 : 6 < r.freq
 ·exact rcheckA_any w r sv hL hn hu (.inl h1)
 by_cases h2 : r.interval < 1 ∨ 1000 < r.interval ∨ r.count < 0 ∨ 1000 < r.count ∨ r.wkst < 0 ∨ 6 < r.wkst
 ·exact rcheckA_any w r sv hL hn hu (.inr (.inl h2))
 by_cases hu0 : untilE r = 0
 ·by_cases hz : errs r = 0
  ·cases hN : numbered r.day
   ·exact rcheckB_any w r sv hL hn hu hf h1 h2 hu0 hz hN
   ·exact rcheckC_any w r sv hL hn hu hf h1 h2 hu0 hz hN
  ·exact rcheckZ_any w r sv hL hn hu h1 h2 hu0 hz
 ·exact rcheckA_any w r sv hL hn hu (.inr (.inr hu0))
end Go.Proofs.YtkbohijlhhpfbaaGreatDoor.Ra

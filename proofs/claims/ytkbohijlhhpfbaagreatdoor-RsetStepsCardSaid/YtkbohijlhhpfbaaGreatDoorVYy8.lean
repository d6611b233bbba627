/- The walk through errandref26's Check: whole (printed by gen_rcheck.py). -/
import Derived.Test.YtkbohijlhhpfbaaGreatDoorVYy6
import Derived.Test.YtkbohijlhhpfbaaGreatDoorVYy5
import Derived.Test.YtkbohijlhhpfbaaGreatDoorVYy7
namespace Go.Proofs.YtkbohijlhhpfbaaGreatDoor.Rs
open Go.RowKit Ru Ut Cw Ra Xp
theorem rcheckS_any (w : World) (s : St) (a : Nat → Option Addr) (c : Nat → Nat) (hL : LS w s (svQ s.rule a c) (.slice (a 13) s.inn.length (c 13)) (.slice (a 14) s.out.length (c 14))) (hW : WS s) :
  Calls Tryz.prog 27 #[.agg (setQ s a c)] w fun e w' => e = .returned (.int .i64 (chkS s)) ∧ Below w.heap.size w w' := by
 by_cases h1 : Mo.chk s.kind s.sec ≠ 0
 ·exact rc1 w s a c hL hW h1
 by_cases h2 : chkR s.rule ≠ 0
 ·exact rc2 w s a c hL hW h1 h2
 by_cases h3 : s.rule.uk ≠ 0 ∧ s.rule.uk ≠ s.kind
 ·exact rc3 w s a c hL hW h1 h2 h3
 by_cases h4 : timed s.rule ∧ s.kind = 1
 ·exact rc4 w s a c hL hW h1 h2 h3 h4
 by_cases h5 : 12 < s.inn.length ∨ 12 < s.out.length
 ·exact rc5 w s a c hL hW h1 h2 h3 h4 h5
 by_cases h6 : alike s.kind s.inn ≠ 0
 ·exact rc6 w s a c hL hW h1 h2 h3 h4 h5 h6
 exact rc7 w s a c hL hW h1 h2 h3 h4 h5 h6
end Go.Proofs.YtkbohijlhhpfbaaGreatDoor.Rs

/- The walks through civil: Day, split, Date, Weekday, Place. -/
import Derived.Test.YtndicgfafdhieaaCw
namespace Go.Proofs.Ytndicgfafdhieaa.Cw
open Go.RowKit
theorem ret_ii {a b c d : Int} (h : a = b) (h' : c = d) : Ending.returned (.tuple #[.int .i64 a, .int .i64 c]) = .returned (.tuple #[.int .i64 b, .int .i64 d]) := by rw [h, h']
theorem split_bd (n : Int) (h1 : 0 ≤ n) (h2 : n ≤ 3652058) : 1 ≤ Civ.splitY n ∧ Civ.splitY n ≤ 9999 ∧ 0 ≤ Civ.splitA n ∧ Civ.splitA n ≤ 365 := by
  have h := Civ.split_spec h1 h2
  have o := Civ.one_bd (Civ.splitY n)
  omega
theorem results_tmp4 {fn : Func} {t u v x : Tmp} (h : fn.results = #[.tmp t, .tmp u, .tmp v, .tmp x]) (tmps : Array Value) (P : Program) (w : World) :
    (results fn tmps).run P w = .ok (.tuple #[tmps.getD t undef, tmps.getD u undef, tmps.getD v undef, tmps.getD x undef]) w := by simp [results, h]
theorem ret_4 {a b c d a' b' c' d' : Int} (h1 : a = a') (h2 : b = b') (h3 : c = c') (h4 : d = d') : Ending.returned (.tuple #[.int .i64 a, .int .i64 b, .int .i64 c, .int .i64 d]) = .returned (.tuple #[.int .i64 a', .int .i64 b', .int .i64 c', .int .i64 d']) := by rw [h1, h2, h3, h4]
end Go.Proofs.Ytndicgfafdhieaa.Cw

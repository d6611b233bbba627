/- The walk through dayset's about. -/
import Derived.Test.YtpfimkjfonijcaaDoorDc
import Derived.Deep.RegionWith
namespace Go.Proofs.YtpfimkjfonijcaaDoor.Da
open Go.RowKit Ru Ut Cw Ra
def factsC (f : Dy.F) : Array Value := #[.int .i64 f.day, .int .i64 f.month, .int .i64 f.date, .int .i64 f.weekday, .int .i64 f.inMonth, .int .i64 f.inYear, .int .i64 f.place, .int .i64 f.n0, .int .i64 f.n1, .int .i64 f.n2, .int .i64 f.n3]
def factsV (f : Dy.F) : Value := .agg (factsC f)
theorem ret_vb {a b : Value} {c d : Bool} (h : a = b) (h' : c = d) : Ending.returned (.tuple #[a, .bool c]) = .returned (.tuple #[b, .bool d]) := by rw [h, h']
set_option maxHeartbeats 2000000 in
set_option maxRecDepth 100000 in
theorem about_no (n : Int) (w : World) (hT : Tab w) (h : Civ.isDay n = false) : Calls Tryd.prog 22 #[.int .i64 n] w fun e w' => e = .returned (.tuple #[factsV (Dy.about n), .bool (Civ.isDay n)]) ∧ Below w.heap.size w w' := by
  have F := fun w hT => date_any n w hT
  have hE : Civ.dateE n = 8 := by unfold Civ.dateE; rw [if_neg (by rw [h]; decide)]
  rw [hE] at F
  have FH := Lib.hid F
  have HT := Lib.hid hT
  have ha := Lib.hid (show factsV (Dy.about n) = .agg #[.int .i64 0, .int .i64 0, .int .i64 0, .int .i64 0, .int .i64 0, .int .i64 0, .int .i64 0, .int .i64 0, .int .i64 0, .int .i64 0, .int .i64 0] by unfold Dy.about; rw [if_neg (by rw [h]; decide)]; rfl)
  have hn := Lib.hid h
  clear F hE hT h
  go_enter Tryd.func22, Tryd.ntmps22
  go_wp2_with (first | (go_at_call 17; refine (FH.out _ (HT.out.later (by (repeat' (first | assumption | exact Below.refl _ _ | apply Below.next_alloc | apply Below.drew | (apply Below.next; rotate_left; assumption)))))).mono ?_; rintro e w' ⟨rfl, rfl⟩))
  refine bodyPost_ret (v := .tuple #[.agg #[.int .i64 0, .int .i64 0, .int .i64 0, .int .i64 0, .int .i64 0, .int .i64 0, .int .i64 0, .int .i64 0, .int .i64 0, .int .i64 0, .int .i64 0], .bool false]) (by simp [results, Tryd.results22, go_sem]) rfl ?_
  exact ⟨ret_vb ha.out.symm hn.out.symm, by (repeat' (first | assumption | exact Below.refl _ _ | apply Below.next_alloc | apply Below.drew | (apply Below.next; rotate_left; assumption)))⟩
end Go.Proofs.YtpfimkjfonijcaaDoor.Da

/- The seconds of a stretch: the walks through timeset's within and Of. -/
import Derived.Test.YtkbohijlhhpfbaaGreatDoorTg
import Derived.Test.YtkbohijlhhpfbaaGreatDoorTf
namespace Go.Proofs.YtkbohijlhhpfbaaGreatDoor.Tm
open Go.RowKit Go.Shelf Ru Ut Cw Ra
def hourL (r : R) (start : Int) : List Int := chL (chAll r.hour (toldH r) 24) (chList r.hour (toldH r) (start % 86400 / 3600))
def minL (r : R) (start : Int) : List Int := chL (chAll r.min (toldM r) 60) (chList r.min (toldM r) (start % 86400 / 60 % 60))
def secL (r : R) (start : Int) : List Int := chL (chAll r.sec (toldS r) 60) (chList r.sec (toldS r) (start % 60))
theorem ints_slice {w : World} {v : Value} {l : List Int} (h : Ints w v l) : ∃ a c, v = .slice a l.length c := by
  rcases h with ⟨rfl, a, c, rfl, _⟩ | ⟨_, b, o, c, rfl, _⟩
  · exact ⟨a, c, rfl⟩
  · exact ⟨_, c, rfl⟩
theorem gives_nil (w : World) (W : World) (h : Below w.heap.size w W) : Gives w [] (.returned (.slice none 0 0)) W := ⟨_, rfl, OwnI.nil _ _, h⟩
set_option maxHeartbeats 4000000 in
set_option maxRecDepth 100000 in
theorem of_no (w : World) (r : R) (sv : Nat → Value) (start a b : Int) (hL : Lists w r sv) (hW : Wide r) (hm : mayT r start = false) :
    Calls Tryz.prog 70 #[ruleV r sv, .int .i64 start, .int .i64 a, .int .i64 b] w (Gives w []) := by
  have FC : ∀ W, Below w.heap.size w W → Calls Tryz.prog 112 #[ruleV r sv, .int .i64 start] W fun e w' => e = .returned (.tuple #[zeroT, .bool false]) ∧ Below W.heap.size W w' := fun W hB => set_no W r sv start (hL.later hB) hW hm
  unfold ruleV ruleC at *
  replace FC := Lib.hid FC
  unfold zeroT at FC
  go_enter Tryz.func70, Tryz.ntmps70
  go_wp2_with (first
    | (go_at_call 112; (with_reducible refine (FC.out _ (by (repeat' (first | assumption | exact Below.refl _ _ | apply Below.next_alloc | apply Below.drew | (apply Below.next; rotate_left; assumption))))).mono ?_); rintro e w1 ⟨rfl, hB1⟩))
  all_goals
    go_ret
    exact gives_nil _ _ (by (repeat' (first | assumption | exact Below.refl _ _ | apply Below.next_alloc | apply Below.drew | (apply Below.next; rotate_left; assumption))))
set_option maxHeartbeats 4000000 in
set_option maxRecDepth 100000 in
theorem of_out (w : World) (r : R) (sv : Nat → Value) (start a b : Int) (hL : Lists w r sv) (hW : Wide r) (hm : mayT r start = true) (ho : a < 0 ∨ b < a ∨ 86400 < b) :
    Calls Tryz.prog 70 #[ruleV r sv, .int .i64 start, .int .i64 a, .int .i64 b] w (Gives w []) := by
  have FC : ∀ W, Below w.heap.size w W → Calls Tryz.prog 112 #[ruleV r sv, .int .i64 start] W (GivesT W r start) := fun W hB => set_yes W r sv start (hL.later hB) hW hm
  unfold ruleV ruleC at *
  replace FC := Lib.hid FC
  by_cases h0 : a < 0
  · clear ho
    go_enter Tryz.func70, Tryz.ntmps70
    go_wp2_with (first
      | (go_at_call 112; (with_reducible refine (FC.out _ (by (repeat' (first | assumption | exact Below.refl _ _ | apply Below.next_alloc | apply Below.drew | (apply Below.next; rotate_left; assumption))))).mono ?_); rintro e w1 ⟨vh, vm, vs, rfl, i1, i2, i3, hB1⟩; obtain ⟨a1, c1, rfl⟩ := ints_slice i1; obtain ⟨a2, c2, rfl⟩ := ints_slice i2; obtain ⟨a3, c3, rfl⟩ := ints_slice i3; clear i1 i2 i3; unfold timesV))
    all_goals
      go_ret
      exact gives_nil _ _ (by (repeat' (first | assumption | exact Below.refl _ _ | apply Below.next_alloc | apply Below.drew | (apply Below.next; rotate_left; assumption))))
  by_cases h1 : b < a
  · clear ho
    go_enter Tryz.func70, Tryz.ntmps70
    go_wp2_with (first
      | (go_at_call 112; (with_reducible refine (FC.out _ (by (repeat' (first | assumption | exact Below.refl _ _ | apply Below.next_alloc | apply Below.drew | (apply Below.next; rotate_left; assumption))))).mono ?_); rintro e w1 ⟨vh, vm, vs, rfl, i1, i2, i3, hB1⟩; obtain ⟨a1, c1, rfl⟩ := ints_slice i1; obtain ⟨a2, c2, rfl⟩ := ints_slice i2; obtain ⟨a3, c3, rfl⟩ := ints_slice i3; clear i1 i2 i3; unfold timesV))
    all_goals
      go_ret
      exact gives_nil _ _ (by (repeat' (first | assumption | exact Below.refl _ _ | apply Below.next_alloc | apply Below.drew | (apply Below.next; rotate_left; assumption))))
  have h2 : 86400 < b := by omega
  clear ho
  go_enter Tryz.func70, Tryz.ntmps70
  go_wp2_with (first
    | (go_at_call 112; (with_reducible refine (FC.out _ (by (repeat' (first | assumption | exact Below.refl _ _ | apply Below.next_alloc | apply Below.drew | (apply Below.next; rotate_left; assumption))))).mono ?_); rintro e w1 ⟨vh, vm, vs, rfl, i1, i2, i3, hB1⟩; obtain ⟨a1, c1, rfl⟩ := ints_slice i1; obtain ⟨a2, c2, rfl⟩ := ints_slice i2; obtain ⟨a3, c3, rfl⟩ := ints_slice i3; clear i1 i2 i3; unfold timesV))
  all_goals
    go_ret
    exact gives_nil _ _ (by (repeat' (first | assumption | exact Below.refl _ _ | apply Below.next_alloc | apply Below.drew | (apply Below.next; rotate_left; assumption))))
theorem within_in (F : Fence) (n : Nat) (hF : F.fn 113) (hro : F.round = none) (vh : Value) (ah : Nat) (vm : Value) (am : Nat) (vs : Value) (as_ : Nat) (f t : Int) (w : World) :
    CallsIn F n Tryz.prog 113 #[timesV vh ah vm am vs as_, .int .i64 f, .int .i64 t] w fun e w' => e = .returned (.func (.func 156) #[] #[.pointer (some ⟨w.heap.size, 0, none⟩), .pointer (some ⟨w.heap.size + 1, 0, none⟩), .pointer (some ⟨w.heap.size + 1 + 1, 0, none⟩)]) ∧ w' = ((w.alloc (.cells #[vh, .int .i64 ah, vm, .int .i64 am, vs, .int .i64 as_] 156)).alloc (.cells #[.int .i64 f] 3)).alloc (.cells #[.int .i64 t] 3) := by
  unfold timesV
  refine callsIn_of_wp Tryz.func113 rfl hF ?_ hro
  simp only [Tryz.ntmps113, List.size_toArray, List.length_cons, List.length_nil, Nat.reduceAdd, Nat.reduceSub, Array.replicate_succ, Array.replicate_zero, List.push_toArray, List.append_toArray, List.nil_append, List.cons_append]
  gi_wp2
  go_ret
  exact ⟨rfl, rfl⟩
end Go.Proofs.YtkbohijlhhpfbaaGreatDoor.Tm

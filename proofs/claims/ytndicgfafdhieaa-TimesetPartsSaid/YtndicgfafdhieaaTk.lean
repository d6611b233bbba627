/- What the document's answer lets pass: the walks through errandref24's small functions (printed by gen_rsmall.py). -/
import Derived.Test.YtndicgfafdhieaaTj
import Derived.Test.YtndicgfafdhieaaRq
namespace Go.Proofs.Ytndicgfafdhieaa.Tm
open Go.RowKit Ru Ut Cw Ra
theorem rboxT (w : World) (r : R) (sv : Nat → Value) (t : TypeId) {W : World} (hB : Below (w.alloc (.cells (ruleC r sv) t)).heap.size (w.alloc (.cells (ruleC r sv) t)) W) : w.heap.size < W.heap.size ∧ W.cell? ⟨w.heap.size, 0, none⟩ = some (.int .u8 r.freq) ∧ W.cell? ⟨w.heap.size, 1, none⟩ = some (.int .i64 r.interval) ∧ W.cell? ⟨w.heap.size, 2, none⟩ = some (.int .i64 r.count) ∧ W.cell? ⟨w.heap.size, 3, none⟩ = some (.int .u8 r.uk) ∧ W.cell? ⟨w.heap.size, 4, none⟩ = some (.int .i64 r.us) ∧ W.cell? ⟨w.heap.size, 5, none⟩ = some (sv 4) ∧ W.cell? ⟨w.heap.size, 6, none⟩ = some (sv 5) ∧ W.cell? ⟨w.heap.size, 7, none⟩ = some (sv 6) ∧ W.cell? ⟨w.heap.size, 8, none⟩ = some (sv 7) ∧ W.cell? ⟨w.heap.size, 9, none⟩ = some (sv 8) ∧ W.cell? ⟨w.heap.size, 10, none⟩ = some (sv 9) ∧ W.cell? ⟨w.heap.size, 11, none⟩ = some (sv 10) ∧ W.cell? ⟨w.heap.size, 12, none⟩ = some (sv 11) ∧ W.cell? ⟨w.heap.size, 13, none⟩ = some (sv 12) ∧ W.cell? ⟨w.heap.size, 14, none⟩ = some (.int .i64 r.wkst) := by
  obtain ⟨h0, h1, h2, h3, h4, h5, h6, h7⟩ := (RAt.box w r sv t).later hB
  exact ⟨h0, h1, h2, h3, h4, h5, h7 4 (by decide) (by decide), h7 5 (by decide) (by decide), h7 6 (by decide) (by decide), h7 7 (by decide) (by decide), h7 8 (by decide) (by decide), h7 9 (by decide) (by decide), h7 10 (by decide) (by decide), h7 11 (by decide) (by decide), h7 12 (by decide) (by decide), h6⟩
theorem rfits_any {w : World} {v : Value} {l : List Int} (n : Int) (told : Bool) (s : Int) (hl : Ints w v l) (hn : l.length ≤ 1000) : Calls Try.prog 34 #[v, .int .i64 n, .bool told, .int .i64 s] w fun e w' => e = .returned (.bool (okP l told s n)) ∧ Below w.heap.size w w' := by
  have FH := fun W (hB : Below w.heap.size w W) => rHas_any n (hl.below hB) (by omega)
  replace FH := Lib.hid FH
  obtain ⟨av, cap, rfl⟩ := ints_slice hl
  clear hl
  by_cases h0 : 0 < (l.length : Int)
  · have hr := Lib.hid (show okP l told s n = decide (n ∈ l) by unfold okP; rw [if_pos (by omega)])
    go_enter Try.func34, Try.ntmps34
    go_wp2_with (first | (go_at_call 37; (with_reducible refine (FH.out _ (Below.refl _ _)).mono ?_); rintro e w1 ⟨rfl, rfl⟩))
    go_ret
    exact ⟨ret_b hr.out.symm, Below.refl _ _⟩
  · have hr := Lib.hid (show okP l told s n = (!told || decide (n = s)) by unfold okP; rw [if_neg (by omega)])
    obtain rfl : l = [] := List.eq_nil_of_length_eq_zero (by omega)
    clear FH h0
    cases told
    · replace hr := Lib.hid (show okP [] false s n = true by rw [hr.out]; rfl)
      go_enter Try.func34, Try.ntmps34
      go_wp2
      go_ret
      exact ⟨ret_b hr.out.symm, Below.refl _ _⟩
    · by_cases he : n = s
      · replace hr := Lib.hid (show okP [] true s n = true by rw [hr.out]; simp [he])
        have hq : (n == s) = true := by simp [he]
        clear he
        go_enter Try.func34, Try.ntmps34
        go_wp2
        go_ret
        exact ⟨ret_b hr.out.symm, Below.refl _ _⟩
      · replace hr := Lib.hid (show okP [] true s n = false by rw [hr.out]; simp [he])
        have hq : (n == s) = false := by simp [he]
        clear he
        go_enter Try.func34, Try.ntmps34
        go_wp2
        go_ret
        exact ⟨ret_b hr.out.symm, Below.refl _ _⟩
def hOk (r : R) (start n : Int) : Bool := okP r.hour (toldH r) (start % 86400 / 3600) n
def mOk (r : R) (start n : Int) : Bool := okP r.min (toldM r) (start / 60 % 60) n
def sOk (r : R) (start n : Int) : Bool := okP r.sec (toldS r) (start % 60) n
set_option maxHeartbeats 2000000 in
set_option maxRecDepth 100000 in
theorem rhour_any (w : World) (r : R) (sv : Nat → Value) (start n : Int) (hL : Lists w r sv) (hW : Wide r) (h0 : 0 ≤ start) (h1 : start ≤ 315537897599) : Calls Try.prog 22 #[ruleV r sv, .int .i64 start, .int .i64 n] w fun e w' => e = .returned (.bool (hOk r start n)) ∧ Below w.heap.size w w' := by
  have FF : ∀ W, Below w.heap.size w W → Calls Try.prog 34 #[sv 6, .int .i64 n, .bool (decide (3 ≤ r.freq)), .int .i64 (start % 86400 / 3600)] W fun e w' => e = .returned (.bool (hOk r start n)) ∧ Below W.heap.size W w' := fun W hB => rfits_any n (decide (3 ≤ r.freq)) (start % 86400 / 3600) ((hL.1 6 (by decide) (by decide) (by decide)).below hB) (hW.1.1 6 (by decide) (by decide) (by decide))
  have q1 : (start % 86400).tdiv 3600 = start % 86400 / 3600 := Int.tdiv_eq_ediv_of_nonneg (by omega)
  have q2 : (start / 60).tmod 60 = start / 60 % 60 := Int.tmod_eq_emod_of_nonneg (by omega)
  have q3 : IntKind.i64.wrap (start % 86400 / 3600) = start % 86400 / 3600 := Go.IntWalk.i64_in _ (by omega)
  unfold ruleV ruleC at *
  replace FF := Lib.hid FF
  clear hL hW
  go_enter Try.func22, Try.ntmps22
  go_wp2_with (first | (go_at_call 34; (try simp only [q1, q2, q3]); (with_reducible refine (FF.out _ (by (repeat' (first | assumption | exact Below.refl _ _ | apply Below.next_alloc | apply Below.drew | (apply Below.next; rotate_left; assumption))))).mono ?_); rintro e w1 ⟨rfl, hB⟩))
  go_ret
  exact ⟨rfl, by (repeat' (first | assumption | exact Below.refl _ _ | apply Below.next_alloc | apply Below.drew | (apply Below.next; rotate_left; assumption)))⟩
set_option maxHeartbeats 2000000 in
set_option maxRecDepth 100000 in
theorem rminute_any (w : World) (r : R) (sv : Nat → Value) (start n : Int) (hL : Lists w r sv) (hW : Wide r) (h0 : 0 ≤ start) (h1 : start ≤ 315537897599) : Calls Try.prog 23 #[ruleV r sv, .int .i64 start, .int .i64 n] w fun e w' => e = .returned (.bool (mOk r start n)) ∧ Below w.heap.size w w' := by
  have FF : ∀ W, Below w.heap.size w W → Calls Try.prog 34 #[sv 5, .int .i64 n, .bool (decide (2 ≤ r.freq)), .int .i64 (start / 60 % 60)] W fun e w' => e = .returned (.bool (mOk r start n)) ∧ Below W.heap.size W w' := fun W hB => rfits_any n (decide (2 ≤ r.freq)) (start / 60 % 60) ((hL.1 5 (by decide) (by decide) (by decide)).below hB) (hW.1.1 5 (by decide) (by decide) (by decide))
  have q1 : (start % 86400).tdiv 3600 = start % 86400 / 3600 := Int.tdiv_eq_ediv_of_nonneg (by omega)
  have q2 : (start / 60).tmod 60 = start / 60 % 60 := Int.tmod_eq_emod_of_nonneg (by omega)
  have q3 : IntKind.i64.wrap (start % 86400 / 3600) = start % 86400 / 3600 := Go.IntWalk.i64_in _ (by omega)
  unfold ruleV ruleC at *
  replace FF := Lib.hid FF
  clear hL hW
  go_enter Try.func23, Try.ntmps23
  go_wp2_with (first | (go_at_call 34; (try simp only [q1, q2, q3]); (with_reducible refine (FF.out _ (by (repeat' (first | assumption | exact Below.refl _ _ | apply Below.next_alloc | apply Below.drew | (apply Below.next; rotate_left; assumption))))).mono ?_); rintro e w1 ⟨rfl, hB⟩))
  go_ret
  exact ⟨rfl, by (repeat' (first | assumption | exact Below.refl _ _ | apply Below.next_alloc | apply Below.drew | (apply Below.next; rotate_left; assumption)))⟩
set_option maxHeartbeats 2000000 in
set_option maxRecDepth 100000 in
theorem rsecond_any (w : World) (r : R) (sv : Nat → Value) (start n : Int) (hL : Lists w r sv) (hW : Wide r) (h0 : 0 ≤ start) (h1 : start ≤ 315537897599) : Calls Try.prog 24 #[ruleV r sv, .int .i64 start, .int .i64 n] w fun e w' => e = .returned (.bool (sOk r start n)) ∧ Below w.heap.size w w' := by
  have FF : ∀ W, Below w.heap.size w W → Calls Try.prog 34 #[sv 4, .int .i64 n, .bool (decide (1 ≤ r.freq)), .int .i64 (start % 60)] W fun e w' => e = .returned (.bool (sOk r start n)) ∧ Below W.heap.size W w' := fun W hB => rfits_any n (decide (1 ≤ r.freq)) (start % 60) ((hL.1 4 (by decide) (by decide) (by decide)).below hB) (hW.1.1 4 (by decide) (by decide) (by decide))
  have q1 : (start % 86400).tdiv 3600 = start % 86400 / 3600 := Int.tdiv_eq_ediv_of_nonneg (by omega)
  have q2 : (start / 60).tmod 60 = start / 60 % 60 := Int.tmod_eq_emod_of_nonneg (by omega)
  have q3 : IntKind.i64.wrap (start % 86400 / 3600) = start % 86400 / 3600 := Go.IntWalk.i64_in _ (by omega)
  unfold ruleV ruleC at *
  replace FF := Lib.hid FF
  clear hL hW
  go_enter Try.func24, Try.ntmps24
  go_wp2_with (first | (go_at_call 34; (try simp only [q1, q2, q3]); (with_reducible refine (FF.out _ (by (repeat' (first | assumption | exact Below.refl _ _ | apply Below.next_alloc | apply Below.drew | (apply Below.next; rotate_left; assumption))))).mono ?_); rintro e w1 ⟨rfl, hB⟩))
  go_ret
  exact ⟨rfl, by (repeat' (first | assumption | exact Below.refl _ _ | apply Below.next_alloc | apply Below.drew | (apply Below.next; rotate_left; assumption)))⟩
set_option maxHeartbeats 2000000 in
set_option maxRecDepth 100000 in
theorem rmay_any (w : World) (r : R) (sv : Nat → Value) (start : Int) (hL : Lists w r sv) (hW : Wide r) : Calls Try.prog 21 #[ruleV r sv, .int .i64 start] w fun e w' => e = .returned (.bool (mayT r start)) ∧ Below w.heap.size w w' := by
  have FC : ∀ W, Below w.heap.size w W → Calls Try.prog 16 #[ruleV r sv] W fun e w' => e = .returned (.int .i64 (chkR r)) ∧ Below W.heap.size W w' := fun W hB => rcheckR_any W r sv (hL.later hB) hW.1 hW.2.1.2 hW.2.1.1
  unfold ruleV ruleC at *
  clear hL hW
  by_cases hc : chkR r = 0
  · rw [hc] at FC
    replace FC := Lib.hid FC
    by_cases h0 : 0 ≤ start
    · by_cases h1 : start ≤ 315537897599
      · have hr := Lib.hid (show mayT r start = true by unfold mayT; rw [decide_eq_true hc, decide_eq_true h0, decide_eq_true h1]; rfl)
        clear hc
        go_enter Try.func21, Try.ntmps21
        go_wp2_with (first | (go_at_call 16; (with_reducible refine (FC.out _ (by (repeat' (first | assumption | exact Below.refl _ _ | apply Below.next_alloc | apply Below.drew | (apply Below.next; rotate_left; assumption))))).mono ?_); rintro e w1 ⟨rfl, hB⟩))
        go_ret
        exact ⟨ret_b hr.out.symm, by (repeat' (first | assumption | exact Below.refl _ _ | apply Below.next_alloc | apply Below.drew | (apply Below.next; rotate_left; assumption)))⟩
      · have hr := Lib.hid (show mayT r start = false by unfold mayT; rw [decide_eq_false h1]; simp)
        clear hc
        go_enter Try.func21, Try.ntmps21
        go_wp2_with (first | (go_at_call 16; (with_reducible refine (FC.out _ (by (repeat' (first | assumption | exact Below.refl _ _ | apply Below.next_alloc | apply Below.drew | (apply Below.next; rotate_left; assumption))))).mono ?_); rintro e w1 ⟨rfl, hB⟩))
        go_ret
        exact ⟨ret_b ((decide_eq_false (by omega)).trans hr.out.symm), by (repeat' (first | assumption | exact Below.refl _ _ | apply Below.next_alloc | apply Below.drew | (apply Below.next; rotate_left; assumption)))⟩
    · have hr := Lib.hid (show mayT r start = false by unfold mayT; rw [decide_eq_false h0]; simp)
      clear hc
      go_enter Try.func21, Try.ntmps21
      go_wp2_with (first | (go_at_call 16; (with_reducible refine (FC.out _ (by (repeat' (first | assumption | exact Below.refl _ _ | apply Below.next_alloc | apply Below.drew | (apply Below.next; rotate_left; assumption))))).mono ?_); rintro e w1 ⟨rfl, hB⟩))
      go_ret
      exact ⟨ret_b hr.out.symm, by (repeat' (first | assumption | exact Below.refl _ _ | apply Below.next_alloc | apply Below.drew | (apply Below.next; rotate_left; assumption)))⟩
  · have hr := Lib.hid (show mayT r start = false by unfold mayT; rw [decide_eq_false hc]; simp)
    have hq : (chkR r == 0) = false := by simp [hc]
    replace FC := Lib.hid FC
    clear hc
    go_enter Try.func21, Try.ntmps21
    go_wp2_with (first | (go_at_call 16; (with_reducible refine (FC.out _ (by (repeat' (first | assumption | exact Below.refl _ _ | apply Below.next_alloc | apply Below.drew | (apply Below.next; rotate_left; assumption))))).mono ?_); rintro e w1 ⟨rfl, hB⟩))
    go_ret
    exact ⟨ret_b hr.out.symm, by (repeat' (first | assumption | exact Below.refl _ _ | apply Below.next_alloc | apply Below.drew | (apply Below.next; rotate_left; assumption)))⟩
end Go.Proofs.Ytndicgfafdhieaa.Tm

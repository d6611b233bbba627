/- Whether a second passes, by the document's answer: the walk through errandref24's Passes; both sides are one (printed by gen_rpass.py). -/
import Derived.Test.YtndicgfafdhieaaTl
namespace Go.Proofs.Ytndicgfafdhieaa.Tm
open Go.RowKit Ru Ut Cw Ra
def rpassT (r : R) (start t : Int) : Bool := mayT r start && (decide (0 ≤ t) && (decide (t < 86400) && (hOk r start (t / 3600) && (mOk r start (t / 60 % 60) && sOk r start (t % 60)))))
set_option maxHeartbeats 4000000 in
set_option maxRecDepth 100000 in
theorem rtpasses_any (w : World) (r : R) (sv : Nat → Value) (start t : Int) (hL : Lists w r sv) (hW : Wide r) : Calls Try.prog 11 #[ruleV r sv, .int .i64 start, .int .i64 t] w fun e w' => e = .returned (.bool (rpassT r start t)) ∧ Below w.heap.size w w' := by
  have FM : ∀ W, Below w.heap.size w W → Calls Try.prog 21 #[ruleV r sv, .int .i64 start] W fun e w' => e = .returned (.bool (mayT r start)) ∧ Below W.heap.size W w' := fun W hB => rmay_any W r sv start (hL.later hB) hW
  have BX := fun W => @rboxT w r sv 27 W
  unfold rpassT
  cases hm : mayT r start
  · rw [hm] at FM
    rw [Bool.false_and]
    unfold ruleV ruleC at *
    replace BX := Lib.hid BX
    replace FM := Lib.hid FM
    clear hL hW hm
    go_enter Try.func11, Try.ntmps11
    go_wp2_with (first
      | (go_at_call 21; (with_reducible refine (FM.out _ (by (repeat' (first | assumption | exact Below.refl _ _ | apply Below.next_alloc | apply Below.drew | (apply Below.next; rotate_left; assumption))))).mono ?_); rintro e w1 ⟨rfl, hB1⟩; replace hB1 := Lib.hid hB1; obtain ⟨y0, x0, x1, x2, x3, x4, x5, x6, x7, x8, x9, x10, x11, x12, x13, x14⟩ := BX.out w1 hB1.out; have b1 := Lib.hid (Below.next_allocs' hB1.out)))
    all_goals
      go_ret
      exact ⟨rfl, b1.out⟩
  rw [Bool.true_and]
  obtain ⟨s0, s1, -⟩ := may_parts hm
  rw [hm] at FM
  have FH : ∀ W, Below w.heap.size w W → Calls Try.prog 22 #[ruleV r sv, .int .i64 start, .int .i64 (t / 3600)] W fun e w' => e = .returned (.bool (hOk r start (t / 3600))) ∧ Below W.heap.size W w' := fun W hB => rhour_any W r sv start _ (hL.later hB) hW s0 s1
  have FI : ∀ W, Below w.heap.size w W → Calls Try.prog 23 #[ruleV r sv, .int .i64 start, .int .i64 (t / 60 % 60)] W fun e w' => e = .returned (.bool (mOk r start (t / 60 % 60))) ∧ Below W.heap.size W w' := fun W hB => rminute_any W r sv start _ (hL.later hB) hW s0 s1
  have FS : ∀ W, Below w.heap.size w W → Calls Try.prog 24 #[ruleV r sv, .int .i64 start, .int .i64 (t % 60)] W fun e w' => e = .returned (.bool (sOk r start (t % 60))) ∧ Below W.heap.size W w' := fun W hB => rsecond_any W r sv start _ (hL.later hB) hW s0 s1
  generalize hOk r start (t / 3600) = bh at *
  generalize mOk r start (t / 60 % 60) = bm at *
  generalize sOk r start (t % 60) = bs at *
  unfold ruleV ruleC at *
  replace BX := Lib.hid BX
  replace FM := Lib.hid FM
  replace FH := Lib.hid FH
  replace FI := Lib.hid FI
  replace FS := Lib.hid FS
  clear hL hW hm s0 s1
  by_cases h0 : t < 0
  · rw [decide_eq_false (by omega), Bool.false_and]
    go_enter Try.func11, Try.ntmps11
    go_wp2_with (first
      | (go_at_call 21; (with_reducible refine (FM.out _ (by (repeat' (first | assumption | exact Below.refl _ _ | apply Below.next_alloc | apply Below.drew | (apply Below.next; rotate_left; assumption))))).mono ?_); rintro e w1 ⟨rfl, hB1⟩; replace hB1 := Lib.hid hB1; obtain ⟨y0, x0, x1, x2, x3, x4, x5, x6, x7, x8, x9, x10, x11, x12, x13, x14⟩ := BX.out w1 hB1.out; have b1 := Lib.hid (Below.next_allocs' hB1.out)))
    all_goals
      go_ret
      exact ⟨rfl, b1.out⟩
  by_cases h1 : 86400 ≤ t
  · rw [decide_eq_true (by omega), decide_eq_false (show ¬ t < 86400 by omega), Bool.false_and, Bool.and_false]
    go_enter Try.func11, Try.ntmps11
    go_wp2_with (first
      | (go_at_call 21; (with_reducible refine (FM.out _ (by (repeat' (first | assumption | exact Below.refl _ _ | apply Below.next_alloc | apply Below.drew | (apply Below.next; rotate_left; assumption))))).mono ?_); rintro e w1 ⟨rfl, hB1⟩; replace hB1 := Lib.hid hB1; obtain ⟨y0, x0, x1, x2, x3, x4, x5, x6, x7, x8, x9, x10, x11, x12, x13, x14⟩ := BX.out w1 hB1.out; have b1 := Lib.hid (Below.next_allocs' hB1.out)))
    all_goals
      go_ret
      exact ⟨rfl, b1.out⟩
  rw [decide_eq_true (by omega), decide_eq_true (show t < 86400 by omega), Bool.true_and, Bool.true_and]
  cases bh
  · rw [Bool.false_and]
    go_enter Try.func11, Try.ntmps11
    go_wp2_with (first
      | (go_at_call 21; (with_reducible refine (FM.out _ (by (repeat' (first | assumption | exact Below.refl _ _ | apply Below.next_alloc | apply Below.drew | (apply Below.next; rotate_left; assumption))))).mono ?_); rintro e w1 ⟨rfl, hB1⟩; replace hB1 := Lib.hid hB1; obtain ⟨y0, x0, x1, x2, x3, x4, x5, x6, x7, x8, x9, x10, x11, x12, x13, x14⟩ := BX.out w1 hB1.out; have b1 := Lib.hid (Below.next_allocs' hB1.out))
      | (go_at_call 22; (with_reducible refine (FH.out _ b1.out).mono ?_); rintro e w2 ⟨rfl, hB2⟩; replace hB2 := Lib.hid (Below.next hB1.out hB2); clear y0 x0 x1 x2 x3 x4 x5 x6 x7 x8 x9 x10 x11 x12 x13 x14; obtain ⟨y0, x0, x1, x2, x3, x4, x5, x6, x7, x8, x9, x10, x11, x12, x13, x14⟩ := BX.out w2 hB2.out; have b2 := Lib.hid (Below.next_allocs' hB2.out)))
    all_goals
      go_ret
      exact ⟨rfl, b2.out⟩
  rw [Bool.true_and]
  cases bm
  · rw [Bool.false_and]
    go_enter Try.func11, Try.ntmps11
    go_wp2_with (first
      | (go_at_call 21; (with_reducible refine (FM.out _ (by (repeat' (first | assumption | exact Below.refl _ _ | apply Below.next_alloc | apply Below.drew | (apply Below.next; rotate_left; assumption))))).mono ?_); rintro e w1 ⟨rfl, hB1⟩; replace hB1 := Lib.hid hB1; obtain ⟨y0, x0, x1, x2, x3, x4, x5, x6, x7, x8, x9, x10, x11, x12, x13, x14⟩ := BX.out w1 hB1.out; have b1 := Lib.hid (Below.next_allocs' hB1.out))
      | (go_at_call 22; (with_reducible refine (FH.out _ b1.out).mono ?_); rintro e w2 ⟨rfl, hB2⟩; replace hB2 := Lib.hid (Below.next hB1.out hB2); clear y0 x0 x1 x2 x3 x4 x5 x6 x7 x8 x9 x10 x11 x12 x13 x14; obtain ⟨y0, x0, x1, x2, x3, x4, x5, x6, x7, x8, x9, x10, x11, x12, x13, x14⟩ := BX.out w2 hB2.out; have b2 := Lib.hid (Below.next_allocs' hB2.out))
      | (go_at_call 23; (with_reducible refine (FI.out _ b2.out).mono ?_); rintro e w3 ⟨rfl, hB3⟩; replace hB3 := Lib.hid (Below.next hB2.out hB3); clear y0 x0 x1 x2 x3 x4 x5 x6 x7 x8 x9 x10 x11 x12 x13 x14; obtain ⟨y0, x0, x1, x2, x3, x4, x5, x6, x7, x8, x9, x10, x11, x12, x13, x14⟩ := BX.out w3 hB3.out; have b3 := Lib.hid (Below.next_allocs' hB3.out)))
    all_goals
      go_ret
      exact ⟨rfl, b3.out⟩
  rw [Bool.true_and]
  go_enter Try.func11, Try.ntmps11
  go_wp2_with (first
    | (go_at_call 21; (with_reducible refine (FM.out _ (by (repeat' (first | assumption | exact Below.refl _ _ | apply Below.next_alloc | apply Below.drew | (apply Below.next; rotate_left; assumption))))).mono ?_); rintro e w1 ⟨rfl, hB1⟩; replace hB1 := Lib.hid hB1; obtain ⟨y0, x0, x1, x2, x3, x4, x5, x6, x7, x8, x9, x10, x11, x12, x13, x14⟩ := BX.out w1 hB1.out; have b1 := Lib.hid (Below.next_allocs' hB1.out))
    | (go_at_call 22; (with_reducible refine (FH.out _ b1.out).mono ?_); rintro e w2 ⟨rfl, hB2⟩; replace hB2 := Lib.hid (Below.next hB1.out hB2); clear y0 x0 x1 x2 x3 x4 x5 x6 x7 x8 x9 x10 x11 x12 x13 x14; obtain ⟨y0, x0, x1, x2, x3, x4, x5, x6, x7, x8, x9, x10, x11, x12, x13, x14⟩ := BX.out w2 hB2.out; have b2 := Lib.hid (Below.next_allocs' hB2.out))
    | (go_at_call 23; (with_reducible refine (FI.out _ b2.out).mono ?_); rintro e w3 ⟨rfl, hB3⟩; replace hB3 := Lib.hid (Below.next hB2.out hB3); clear y0 x0 x1 x2 x3 x4 x5 x6 x7 x8 x9 x10 x11 x12 x13 x14; obtain ⟨y0, x0, x1, x2, x3, x4, x5, x6, x7, x8, x9, x10, x11, x12, x13, x14⟩ := BX.out w3 hB3.out; have b3 := Lib.hid (Below.next_allocs' hB3.out))
    | (go_at_call 24; (with_reducible refine (FS.out _ b3.out).mono ?_); rintro e w4 ⟨rfl, hB4⟩; have b4 := Lib.hid (Below.next b3.out hB4)))
  all_goals
    go_ret
    exact ⟨rfl, b4.out⟩
theorem lists_eq {r : R} {start : Int} (hm : mayT r start = true) : hourL r start = hF r start 24 ∧ minL r start = mF r start 60 ∧ secL r start = sF r start 60 := by
  obtain ⟨h0, h1, hc⟩ := may_parts hm
  obtain ⟨f1, f2, f3⟩ := fine_of hc
  refine ⟨ch_filter f1 (by omega) (by omega), ?_, ch_filter f3 (by omega) (by omega)⟩
  unfold minL mF
  rw [ch_filter f2 (by omega) (by omega)]
  have : start % 86400 / 60 % 60 = start / 60 % 60 := by omega
  rw [this]
  rfl
theorem in_filter {p : Int → Bool} {n : Nat} {x : Int} (h0 : 0 ≤ x) (h1 : x < n) : decide (x ∈ (upI n).filter p) = p x := by
  rw [Bool.eq_iff_iff, decide_eq_true_iff, List.mem_filter, upI_mem]
  exact ⟨fun h => h.2, fun h => ⟨⟨h0, h1⟩, h⟩⟩
theorem pass_eq (r : R) (start t : Int) : passT r start t = rpassT r start t := by
  unfold passT rpassT
  cases hm : mayT r start
  · rfl
  · obtain ⟨e1, e2, e3⟩ := lists_eq hm
    by_cases h0 : 0 ≤ t
    · by_cases h1 : t < 86400
      · rw [e1, e2, e3]
        unfold hF mF sF
        rw [in_filter (by omega) (by omega), in_filter (by omega) (by omega), in_filter (by omega) (by omega)]
      · rw [decide_eq_false h1]; simp
    · rw [decide_eq_false h0]; simp
theorem hour_skip {a b h : Int} {ms ss : List Int} (hms : ∀ x ∈ ms, 0 ≤ x ∧ x < 60) (hss : ∀ x ∈ ss, 0 ≤ x ∧ x < 60) : hourOut a b h ms ss = minOut a b h ms ss := by
  unfold hourOut
  split
  · rename_i hs
    symm
    unfold minOut
    rw [List.flatMap_eq_nil_iff]
    intro m hm
    unfold secOut
    rw [List.filter_eq_nil_iff]
    intro x hx
    obtain ⟨s, hs2, rfl⟩ := List.mem_map.1 hx
    have := hms m hm
    have := hss s hs2
    simp
    omega
  · rfl
theorem day_eq {a b : Int} {hs ms ss : List Int} (hms : ∀ x ∈ ms, 0 ≤ x ∧ x < 60) (hss : ∀ x ∈ ss, 0 ≤ x ∧ x < 60) : dayOut a b hs ms ss = hs.flatMap fun h => minOut a b h ms ss := by
  unfold dayOut
  congr 1
  funext h
  exact hour_skip hms hss
theorem filt_in (p : Int → Bool) (n : Nat) : ∀ x ∈ (upI n).filter p, 0 ≤ x ∧ x < n := fun _ hx => upI_mem.1 (List.mem_filter.1 hx).1
theorem secs_eq (r : R) (start a b : Int) : secsOf r start a b = rsecs r start a b := by
  unfold secsOf rsecs
  split
  · rename_i h
    obtain ⟨e1, e2, e3⟩ := lists_eq h.1
    unfold secs
    rw [e1, e2, e3]
    exact day_eq (filt_in _ _) (filt_in _ _)
  · rfl
end Go.Proofs.Ytndicgfafdhieaa.Tm

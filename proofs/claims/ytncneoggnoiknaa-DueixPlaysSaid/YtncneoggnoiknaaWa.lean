/- The walks through the comparison of two entries, and through the reference's. -/
import Derived.Test.YtncneoggnoiknaaProg
import Derived.Test.YtncneoggnoiknaaJa
import Derived.Test.YtncneoggnoiknaaUt
import Derived.WalkKit
import Derived.WalkLawsBesides
import Derived.Deep.QuietTactic
import Derived.BigQuiet
import Derived.Handy
import Derived.Lib.Hide
namespace Go.Proofs.Ytncneoggnoiknaa.Du
open Go.RowKit Sp Ut
theorem bcell {W w1 : World} (hb : Below W.heap.size W w1) : (∀ b o, b < W.heap.size → w1.cell? ⟨b, o, none⟩ = W.cell? ⟨b, o, none⟩) ∧ (∀ b o, b < W.heap.size → w1.frozen? ⟨b, o, none⟩ = W.frozen? ⟨b, o, none⟩) :=
  ⟨fun b o h => hb.cell (p := ⟨b, o, none⟩) h, fun b o h => hb.frozen (p := ⟨b, o, none⟩) h⟩
theorem ret_b {a b : Bool} (h : a = b) : Ending.returned (.bool a) = .returned (.bool b) := by rw [h]
theorem ret_i {a b : Int} (h : a = b) : Ending.returned (.int .i64 a) = .returned (.int .i64 b) := by rw [h]
theorem less_of_ne {a b : E} (h : a.1 ≠ b.1) : less a b = decide (a.1 < b.1) := by unfold less; rw [if_neg h]
theorem less_of_eq {a b : E} (h : a.1 = b.1) : less a b = Op.bytesLess a.2.toList b.2.toList := by unfold less; rw [if_pos h]; rfl
theorem less_any (a b : E) (w : World) : Calls Try.prog 24 #[.agg #[.int .i64 a.1, .string a.2], .agg #[.int .i64 b.1, .string b.2]] w fun e w' => e = .returned (.bool (less a b)) ∧ Below w.heap.size w w' := by
  obtain ⟨x, s⟩ := a
  obtain ⟨y, t⟩ := b
  by_cases h : x = y
  · subst h
    have h1 := Lib.hid (less_of_eq (a := (x, s)) (b := (x, t)) rfl)
    go_enter Try.func24, Try.ntmps24
    go_wp2
    go_ret
    exact ⟨ret_b h1.out.symm, by go_grown⟩
  · have h1 := Lib.hid (less_of_ne (a := (x, s)) (b := (y, t)) h)
    have h2 : (x != y) = true := by simpa using h
    have h3 : (x == y) = false := by simpa using h
    clear h
    go_enter Try.func24, Try.ntmps24
    go_wp2
    go_ret
    exact ⟨ret_b h1.out.symm, by go_grown⟩
theorem rless_any (a b : E) (w : World) : Calls Try.prog 25 #[.agg #[.int .i64 a.1, .string a.2], .agg #[.int .i64 b.1, .string b.2]] w fun e w' => e = .returned (.bool (less a b)) ∧ Below w.heap.size w w' := by
  obtain ⟨x, s⟩ := a
  obtain ⟨y, t⟩ := b
  by_cases h : x = y
  · subst h
    have h1 := Lib.hid (less_of_eq (a := (x, s)) (b := (x, t)) rfl)
    go_enter Try.func25, Try.ntmps25
    go_wp2
    go_ret
    exact ⟨ret_b h1.out.symm, by go_grown⟩
  · have h1 := Lib.hid (less_of_ne (a := (x, s)) (b := (y, t)) h)
    have h3 : (x == y) = false := by simpa using h
    by_cases h4 : x < y
    · have h5 : decide (x < y) = true := decide_eq_true h4
      have h1' := Lib.hid (h1.out.trans h5)
      clear h h1
      go_enter Try.func25, Try.ntmps25
      go_wp2
      go_ret
      exact ⟨ret_b h1'.out.symm, by go_grown⟩
    · have h5 : decide (x < y) = false := decide_eq_false h4
      have h1' := Lib.hid (h1.out.trans h5)
      clear h h1
      go_enter Try.func25, Try.ntmps25
      go_wp2
      go_ret
      exact ⟨ret_b h1'.out.symm, by go_grown⟩
/-- three-way comparison -/
def cmpE (a b : E) : Int := if less a b = true then -1 else if less b a = true then 1 else 0
theorem cmp_lt {a b : E} (h : less a b = true) : cmpE a b = -1 := by unfold cmpE; rw [if_pos h]
theorem cmp_gt {a b : E} (h : less a b = false) (k : less b a = true) : cmpE a b = 1 := by unfold cmpE; rw [h, if_neg (by decide), if_pos k]
theorem cmp_eq {a b : E} (h : less a b = false) (k : less b a = false) : cmpE a b = 0 := by unfold cmpE; rw [h, k]; rfl
theorem compare_any (a b : E) (w : World) : Calls Try.prog 34 #[.agg #[.int .i64 a.1, .string a.2], .agg #[.int .i64 b.1, .string b.2]] w fun e w' => e = .returned (.int .i64 (cmpE a b)) ∧ Below w.heap.size w w' := by
  obtain ⟨x, s⟩ := a
  obtain ⟨y, t⟩ := b
  cases h1 : less (x, s) (y, t)
  · cases h2 : less (y, t) (x, s)
    · have e := Lib.hid (cmp_eq h1 h2)
      have L1 := Lib.hid (less_any (x, s) (y, t))
      have L2 := Lib.hid (less_any (y, t) (x, s))
      rw [h1] at L1
      rw [h2] at L2
      clear h1 h2
      go_enter Try.func34, Try.ntmps34
      go_wp2_with (first
        | (go_at_call 24; (with_reducible refine (L1.out _).mono ?_); rintro e w1 ⟨rfl, hB1⟩; obtain ⟨hc1, hf1⟩ := bcell hB1)
        | (go_at_call 24; (with_reducible refine (L2.out _).mono ?_); rintro e w2 ⟨rfl, hB2⟩))
      clear hc1 hf1
      go_ret
      exact ⟨ret_i e.out.symm, by (repeat' (first | assumption | exact Below.refl _ _ | apply Below.next_alloc | apply Below.drew | (apply Below.next; rotate_left; assumption)))⟩
    · have e := Lib.hid (cmp_gt h1 h2)
      have L1 := Lib.hid (less_any (x, s) (y, t))
      have L2 := Lib.hid (less_any (y, t) (x, s))
      rw [h1] at L1
      rw [h2] at L2
      clear h1 h2
      go_enter Try.func34, Try.ntmps34
      go_wp2_with (first
        | (go_at_call 24; (with_reducible refine (L1.out _).mono ?_); rintro e w1 ⟨rfl, hB1⟩; obtain ⟨hc1, hf1⟩ := bcell hB1)
        | (go_at_call 24; (with_reducible refine (L2.out _).mono ?_); rintro e w2 ⟨rfl, hB2⟩))
      clear hc1 hf1
      go_ret
      exact ⟨ret_i e.out.symm, by (repeat' (first | assumption | exact Below.refl _ _ | apply Below.next_alloc | apply Below.drew | (apply Below.next; rotate_left; assumption)))⟩
  · have e := Lib.hid (cmp_lt h1)
    have L1 := Lib.hid (less_any (x, s) (y, t))
    rw [h1] at L1
    clear h1
    go_enter Try.func34, Try.ntmps34
    go_wp2_with (go_at_call 24; (with_reducible refine (L1.out _).mono ?_); rintro e w1 ⟨rfl, hB1⟩)
    go_ret
    exact ⟨ret_i e.out.symm, by (repeat' (first | assumption | exact Below.refl _ _ | apply Below.next_alloc | apply Below.drew | (apply Below.next; rotate_left; assumption)))⟩
end Go.Proofs.Ytncneoggnoiknaa.Du

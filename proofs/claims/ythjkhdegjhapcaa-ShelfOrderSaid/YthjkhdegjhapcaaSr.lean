/- The walk through errandlaw30.ShelfFinds. -/
import Derived.Test.YthjkhdegjhapcaaSo
namespace Go.Proofs.Ythjkhdegjhapcaa.Sa
open Go.RowKit Sp
theorem between_g {v : Value} {es : List Ent} {f t : ByteArray} {w : World} (hE : Ents w v es) (hs : Sorted es) (hn : es.length ≤ 1000) :
    Calls Try.prog 22 #[v, .string f, .string t] w (Gives (rbetween es f t) w) := (between_any f t hE hs hn).mono fun _ _ h => h.gives (pbetween_eq f t hs)
theorem rBetween_g {v : Value} {es : List Ent} {f t : ByteArray} {w : World} (hE : Ents w v es) (hn : es.length ≤ 1000) :
    Calls Try.prog 23 #[v, .string f, .string t] w (Gives (rbetween es f t) w) := (rBetween_any f t hE hn).mono fun _ _ h => h.gives rfl
theorem get_g {v : Value} {es : List Ent} {t : ByteArray} {w : World} (hE : Ents w v es) (hs : Sorted es) (hn : es.length ≤ 1000000) :
    Calls Try.prog 20 #[v, .string t] w fun e w' => e = .returned (.tuple #[.int .i64 ((rget es t).getD 0), .bool (rget es t).isSome]) ∧ Below w.heap.size w w' := by
  have := get_any t hE hs hn
  rwa [getV_rget t hs, has_rget] at this
theorem find_g {v : Value} {es : List Ent} {t : ByteArray} {w : World} (hE : Ents w v es) (hs : Sorted es) (hn : es.length ≤ 1000000) :
    Calls Try.prog 18 #[v, .string t] w fun e w' => e = .returned (.tuple #[.int .i64 (cnt es t), .bool (has es t)]) ∧ Below w.heap.size w w' := find_any t hE hs hn
theorem rb_few {es : List Ent} (h : es.length ≤ 60) (f t : ByteArray) : (rbetween (mk es) f t).length ≤ 60 := Nat.le_trans (rbetween_len _ _ _) (mk_few h)
set_option maxHeartbeats 1000000 in
set_option maxRecDepth 100000 in
theorem finds_any {v : Value} {es : List Ent} {f t : ByteArray} {w : World} (hE : Ents w v es) :
    Calls Try.prog 4 #[v, .string f, .string t] w fun e w' => e = .returned (.bool true) ∧ Below w.heap.size w w' := by
  have F := Lib.hid (few_any (w := w) hE)
  have awk : ∀ {u : Bool} (_ : few es = u) (_ : u = false ∨ (60 : Int) < (f.size : Int) ∨ (60 : Int) < (t.size : Int)), Calls Try.prog 4 #[v, .string f, .string t] w fun e w' => e = .returned (.bool true) ∧ Below w.heap.size w w' := by
    intro u hu hor
    rw [hu] at F
    cases u
    · go_enter Try.func4, Try.ntmps4
      go_wp2_with (first
        | (go_at_call 7; refine (F.out).mono ?_; rintro e w' ⟨rfl, rfl⟩)
        | (go_at_call 8; refine (awake_any _).mono ?_; rintro e w1 ⟨rfl, hB1⟩))
      go_ret
      exact ⟨rfl, by (repeat' (first | assumption | exact Below.refl _ _ | apply Below.next_alloc | apply Below.drew | (apply Below.next; rotate_left; assumption)))⟩
    · by_cases hf : (60 : Int) < (f.size : Int)
      · clear hor
        go_enter Try.func4, Try.ntmps4
        go_wp2_with (first
          | (go_at_call 7; refine (F.out).mono ?_; rintro e w' ⟨rfl, rfl⟩)
          | (go_at_call 8; refine (awake_any _).mono ?_; rintro e w1 ⟨rfl, hB1⟩))
        go_ret
        exact ⟨rfl, by (repeat' (first | assumption | exact Below.refl _ _ | apply Below.next_alloc | apply Below.drew | (apply Below.next; rotate_left; assumption)))⟩
      · have ht : (60 : Int) < (t.size : Int) := by rcases hor with h | h | h <;> first | cases h | omega
        clear hor
        go_enter Try.func4, Try.ntmps4
        go_wp2_with (first
          | (go_at_call 7; refine (F.out).mono ?_; rintro e w' ⟨rfl, rfl⟩)
          | (go_at_call 8; refine (awake_any _).mono ?_; rintro e w1 ⟨rfl, hB1⟩))
        go_ret
        exact ⟨rfl, by (repeat' (first | assumption | exact Below.refl _ _ | apply Below.next_alloc | apply Below.drew | (apply Below.next; rotate_left; assumption)))⟩
  cases hfw : few es
  · exact awk hfw (.inl rfl)
  by_cases hf : (60 : Int) < (f.size : Int)
  · exact awk hfw (.inr (.inl hf))
  by_cases ht : (60 : Int) < (t.size : Int)
  · exact awk hfw (.inr (.inr ht))
  clear awk
  rw [hfw] at F
  have hn := few_len hfw
  clear hfw
  have hb := rb_few hn f t
  have hm := mk_few hn
  have hms := Lib.hid (mk_sorted es)
  go_enter Try.func4, Try.ntmps4
  go_wp2_with (first
    | (go_at_call 7; refine (F.out).mono ?_; rintro e w' ⟨rfl, rfl⟩)
    | (go_at_call 9; refine (made_any (by (apply Ents.below; (with_reducible assumption); (repeat' (first | assumption | exact Below.refl _ _ | apply Below.next_alloc | apply Below.drew | (apply Below.next; rotate_left; assumption))))) hn).mono ?_; rintro e w1 ⟨va, ub, rfl, hA, hR, hB1⟩)
    | (go_at_call 18; refine (find_g (by (apply Ents.below; (with_reducible assumption); (repeat' (first | assumption | exact Below.refl _ _ | apply Below.next_alloc | apply Below.drew | (apply Below.next; rotate_left; assumption))))) (Hid.out (by with_reducible assumption)) (by omega)).mono ?_; rintro e w2 ⟨rfl, hB2⟩)
    | (go_at_call 19; refine (rFind_any _ (by (apply Ents.below; (with_reducible assumption); (repeat' (first | assumption | exact Below.refl _ _ | apply Below.next_alloc | apply Below.drew | (apply Below.next; rotate_left; assumption))))) (by omega)).mono ?_; rintro e w3 ⟨rfl, hB3⟩)
    | (go_at_call 20; refine (get_g (by (apply Ents.below; (with_reducible assumption); (repeat' (first | assumption | exact Below.refl _ _ | apply Below.next_alloc | apply Below.drew | (apply Below.next; rotate_left; assumption))))) (Hid.out (by with_reducible assumption)) (by omega)).mono ?_; rintro e w4 ⟨rfl, hB4⟩)
    | (go_at_call 21; refine (rGet_any _ (by (apply Ents.below; (with_reducible assumption); (repeat' (first | assumption | exact Below.refl _ _ | apply Below.next_alloc | apply Below.drew | (apply Below.next; rotate_left; assumption))))) (by omega)).mono ?_; rintro e w5 ⟨rfl, hB5⟩)
    | (go_at_call 22; refine (between_g (by (apply Ents.below; (with_reducible assumption); (repeat' (first | assumption | exact Below.refl _ _ | apply Below.next_alloc | apply Below.drew | (apply Below.next; rotate_left; assumption))))) (Hid.out (by with_reducible assumption)) (by omega)).mono ?_; rintro e w6 ⟨vd, rfl, hD, hB6⟩)
    | (go_at_call 23; refine (rBetween_g (by (apply Ents.below; (with_reducible assumption); (repeat' (first | assumption | exact Below.refl _ _ | apply Below.next_alloc | apply Below.drew | (apply Below.next; rotate_left; assumption))))) (by omega)).mono ?_; rintro e w7 ⟨vr, rfl, hQ, hB7⟩)
    | (go_at_call 12; refine (back_g (by (apply Ents.below; (with_reducible assumption); (repeat' (first | assumption | exact Below.refl _ _ | apply Below.next_alloc | apply Below.drew | (apply Below.next; rotate_left; assumption))))) (by omega)).mono ?_; rintro e w8 ⟨vb, rfl, hV, hB8⟩)
    | (go_at_call 11; refine (same_g (by (apply Ents.below; (with_reducible assumption); (repeat' (first | assumption | exact Below.refl _ _ | apply Below.next_alloc | apply Below.drew | (apply Below.next; rotate_left; assumption))))) (by (apply Ents.below; (with_reducible assumption); (repeat' (first | assumption | exact Below.refl _ _ | apply Below.next_alloc | apply Below.drew | (apply Below.next; rotate_left; assumption))))) (by omega)).mono ?_; rintro e w9 ⟨rfl, hB9⟩)
    | (go_at_call 8; refine (awake_any _).mono ?_; rintro e w10 ⟨rfl, hB14⟩))
  go_ret
  exact ⟨rfl, by (repeat' (first | assumption | exact Below.refl _ _ | apply Below.next_alloc | apply Below.drew | (apply Below.next; rotate_left; assumption)))⟩
end Go.Proofs.Ythjkhdegjhapcaa.Sa

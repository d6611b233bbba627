/- Drop at any index; New, Has, Len. -/
import Derived.Test.YtncneoggnoiknaaWe
namespace Go.Proofs.Ytncneoggnoiknaa.Du
open Go.RowKit Sp Ut Me
theorem drop_nil (y : Int) (t : ByteArray) (w : World) : Calls Try.prog 15 #[.pointer none, .agg #[.int .i64 y, .string t]] w fun e w' => e = .returned (.bool false) ∧ Below w.heap.size w w' := by
  have F := Lib.hid (find_nil y t)
  go_enter Try.func15, Try.ntmps15
  go_wp2_with (go_at_call 26; (with_reducible refine (F.out _).mono ?_); rintro e w1 ⟨rfl, hB1⟩)
  go_ret
  exact ⟨rfl, by (repeat' (first | assumption | exact Below.refl _ _ | apply Below.next_alloc | apply Below.drew | (apply Below.next; rotate_left; assumption)))⟩
theorem has_nil (y : Int) (t : ByteArray) (w : World) : Calls Try.prog 10 #[.pointer none, .agg #[.int .i64 y, .string t]] w fun e w' => e = .returned (.bool false) ∧ Below w.heap.size w w' := by
  have F := Lib.hid (find_nil y t)
  go_enter Try.func10, Try.ntmps10
  go_wp2_with (go_at_call 26; (with_reducible refine (F.out _).mono ?_); rintro e w1 ⟨rfl, hB1⟩)
  go_ret
  exact ⟨rfl, by (repeat' (first | assumption | exact Below.refl _ _ | apply Below.next_alloc | apply Below.drew | (apply Below.next; rotate_left; assumption)))⟩
theorem len_nil (w : World) : Calls Try.prog 22 #[.pointer none] w fun e w' => e = .returned (.int .i64 0) ∧ w = w' := by
  go_enter Try.func22, Try.ntmps22
  go_wp2
  go_ret
  exact ⟨rfl, rfl⟩
theorem len_any {w : World} {p : Nat} {v : Value} {SS : List Sg} (hI : Idx w p v SS) : Calls Try.prog 22 #[.pointer (some ⟨p, 0, none⟩)] w fun e w' => e = .returned (.int .i64 (allE SS).length) ∧ w = w' := by
  have c1 := cell_of hI.ptr 1
  simp only [List.getElem?_toArray, List.getElem?_cons_zero, List.getElem?_cons_succ] at c1
  clear hI
  go_enter Try.func22, Try.ntmps22
  go_wp2
  go_ret
  exact ⟨rfl, rfl⟩
/-- what find tells of any index: whether the entry is there -/
theorem find_is {w : World} {p : Nat} {v : Value} {SS : List Sg} (y : Int) (t : ByteArray) (hI : Idx w p v SS) (hm : (allE SS).length ≤ 1000) :
    Calls Try.prog 26 #[.pointer (some ⟨p, 0, none⟩), .agg #[.int .i64 y, .string t]] w fun e w' => ∃ i k : Int, e = .returned (.tuple #[.int .i64 i, .int .i64 k, .bool (hasE (allE SS) (y, t))]) ∧ Below w.heap.size w w' := by
  by_cases hne : SS = []
  · subst hne
    exact (find_none y t hI).mono fun e w' ⟨h1, h2⟩ => ⟨0, 0, h1, h2⟩
  · obtain ⟨pre, s, post, rfl, hpl, h1, h2⟩ := parts hI.ok hne (y, t)
    have hp := has_part (s := s) h1 h2
    refine (find_any y t hI pre.length (by simp) hpl hm).mono ?_
    rintro e w' ⟨rfl, hB⟩
    have hg : (pre ++ s :: post)[pre.length]'(by simp) = s := by simp
    refine ⟨(pre.length : Int), (cntE s.es (y, t) : Int), ?_, hB⟩
    rw [hp, hg]
theorem has_any {w : World} {p : Nat} {v : Value} {SS : List Sg} (y : Int) (t : ByteArray) (hI : Idx w p v SS) (hm : (allE SS).length ≤ 1000) :
    Calls Try.prog 10 #[.pointer (some ⟨p, 0, none⟩), .agg #[.int .i64 y, .string t]] w fun e w' => e = .returned (.bool (hasE (allE SS) (y, t))) ∧ Below w.heap.size w w' := by
  have F := Lib.hid (fun W (hB : Below w.heap.size w W) => find_is (w := W) y t (hI.below hB) hm)
  clear hI hm
  go_enter Try.func10, Try.ntmps10
  go_wp2_with (go_at_call 26; (with_reducible refine (F.out _ (by (repeat' (first | assumption | exact Below.refl _ _ | apply Below.next_alloc | apply Below.drew | (apply Below.next; rotate_left; assumption))))).mono ?_); rintro e w1 ⟨i, k, rfl, hB1⟩)
  go_ret
  exact ⟨rfl, by (repeat' (first | assumption | exact Below.refl _ _ | apply Below.next_alloc | apply Below.drew | (apply Below.next; rotate_left; assumption)))⟩
theorem drop_no {w : World} {p : Nat} {v : Value} {SS : List Sg} (y : Int) (t : ByteArray) (hI : Idx w p v SS) (hm : (allE SS).length ≤ 1000) (hh : hasE (allE SS) (y, t) = false) :
    Calls Try.prog 15 #[.pointer (some ⟨p, 0, none⟩), .agg #[.int .i64 y, .string t]] w fun e w' => e = .returned (.bool false) ∧ Below w.heap.size w w' := by
  have F := Lib.hid (fun W (hB : Below w.heap.size w W) => find_is (w := W) y t (hI.below hB) hm)
  rw [hh] at F
  clear hI hm hh
  go_enter Try.func15, Try.ntmps15
  go_wp2_with (go_at_call 26; (with_reducible refine (F.out _ (by (repeat' (first | assumption | exact Below.refl _ _ | apply Below.next_alloc | apply Below.drew | (apply Below.next; rotate_left; assumption))))).mono ?_); rintro e w1 ⟨i, k, rfl, hB1⟩)
  go_ret
  exact ⟨rfl, by (repeat' (first | assumption | exact Below.refl _ _ | apply Below.next_alloc | apply Below.drew | (apply Below.next; rotate_left; assumption)))⟩
theorem drop_any {w : World} {p : Nat} {v : Value} {SS : List Sg} (y : Int) (t : ByteArray) (hI : Idx w p v SS) (hm : (allE SS).length ≤ 1000) :
    Calls Try.prog 15 #[.pointer (some ⟨p, 0, none⟩), .agg #[.int .i64 y, .string t]] w (DropQ p v SS (y, t) w) := by
  cases hh : hasE (allE SS) (y, t)
  · refine (drop_no y t hI hm hh).mono ?_
    rintro e w' ⟨rfl, hB⟩
    refine ⟨v, _, by rw [hh], hI.below hB, ?_, Moved.of_below hB⟩
    exact (List.filter_eq_self.2 fun x hx => decide_eq_true (by rintro rfl; rw [has_iff.2 hx] at hh; cases hh)).symm
  · have hne : SS ≠ [] := by rintro rfl; cases hh
    obtain ⟨pre, s, post, rfl, hpl, h1, h2⟩ := parts hI.ok hne (y, t)
    rw [has_part (s := s) h1 h2] at hh
    by_cases h8 : 2 ≤ s.es.length
    · exact drop_in y t hI hm hpl h1 h2 hh h8
    · exact drop_last y t hI hm hpl h1 h2 hh (by omega)
theorem new_any (w : World) : Calls Try.prog 9 #[] w fun e w' => ∃ p, e = .returned (.pointer (some ⟨p, 0, none⟩)) ∧ w.heap.size ≤ p ∧ Idx w' p (.slice none 0 0) [] ∧ Below w.heap.size w w' := by
  go_enter Try.func9, Try.ntmps9
  go_wp2
  go_ret
  refine ⟨w.heap.size, rfl, Nat.le_refl _, ⟨heap_alloc_new w _, ⟨rfl, .inl ⟨rfl, rfl⟩⟩, (fun s hs => by cases hs), List.Pairwise.nil, List.Pairwise.nil, fun l hl => by cases hl⟩, by go_grown⟩
end Go.Proofs.Ytncneoggnoiknaa.Du

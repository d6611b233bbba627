/- The walk through the halving search of slices, at entries. -/
import Derived.Test.YtncneoggnoiknaaWa
import Derived.Test.YtncneoggnoiknaaJb
import Derived.Test.YtncneoggnoiknaaBase
import Derived.Test.YtncneoggnoiknaaMe
import Derived.Deep.RegionHeld3
import Derived.Outline
namespace Go.Proofs.Ytncneoggnoiknaa.Du
open Go.RowKit Sp Ut Me
theorem cnt_le (l : List E) (e : E) : cntE l e ≤ l.length := List.countP_le_length
theorem cnt_lt {l : List E} (h : Sor l) (e : E) (k : Nat) (hk : k < l.length) : less l[k] e = decide (k < cntE l e) := by
  obtain ⟨h1, h2⟩ := cnt_take h e
  by_cases hc : k < cntE l e
  · rw [decide_eq_true hc]
    exact h1 _ (List.mem_take_iff_getElem.2 ⟨k, by omega, by simp⟩)
  · rw [decide_eq_false hc]
    refine h2 _ (List.mem_drop_iff_getElem.2 ⟨k - cntE l e, by omega, ?_⟩)
    congr 1; omega
theorem cmp_ge {a b : E} (h : less a b = false) : 0 ≤ cmpE a b := by unfold cmpE; rw [h, if_neg (by decide)]; split <;> omega
theorem cmp_z {a b : E} (h : less a b = false) : (cmpE a b == 0) = decide (a = b) := by
  unfold cmpE; rw [h, if_neg (by decide)]
  cases k : less b a
  · have := less_eq h k
    rw [decide_eq_true this]; rfl
  · rw [decide_eq_false (fun e => less_ne k e.symm)]; rfl
theorem ret_ib {a b : Int} {c d : Bool} (h : a = b) (h' : c = d) : Ending.returned (.tuple #[.int .i64 a, .bool c]) = .returned (.tuple #[.int .i64 b, .bool d]) := by rw [h, h']
/-- one comparison, its result named -/
theorem cmp_at (x y : Int) (s t : ByteArray) (q : Int) (h : cmpE (x, s) (y, t) = q) (W : World) : Calls Try.prog 34 #[.agg #[.int .i64 x, .string s], .agg #[.int .i64 y, .string t]] W fun e w' => e = .returned (.int .i64 q) ∧ Below W.heap.size W w' := by
  rw [← h]; exact compare_any (x, s) (y, t) W
set_option maxHeartbeats 4000000 in
set_option maxRecDepth 100000 in
theorem bsearch_any (b o cap : Nat) (l : List E) (y : Int) (t : ByteArray) (w : World) (hb : b < w.heap.size) (hn : l.length ≤ 1000000) (hs : Sor l)
    (hcell : ∀ k (hk : k < l.length), w.cell? ⟨b, o + k * 2, none⟩ = some (.int .i64 l[k].1) ∧ w.cell? ⟨b, o + k * 2 + 1, none⟩ = some (.string l[k].2)) :
    Calls Try.prog 33 #[.slice (some ⟨b, o, none⟩) l.length cap, .agg #[.int .i64 y, .string t], .func (.func 34) #[] #[]] w fun e w' =>
      e = .returned (.tuple #[.int .i64 (cntE l (y, t)), .bool (hasE l (y, t))]) ∧ Below w.heap.size w w' := by
  have hc := cnt_le l (y, t)
  have ht := fun k (hk : k < l.length) => cnt_lt hs (y, t) k hk
  have hm := at_cnt hs (e := (y, t))
  obtain ⟨c, hcc⟩ : ∃ c, cntE l (y, t) = c := ⟨_, rfl⟩
  rw [hcc] at hc hm ⊢
  simp only [hcc] at ht
  have HC := Lib.hid hcell
  have HT := Lib.hid ht
  have HM := Lib.hid hm
  clear hcell ht hm hcc hs
  have hbb := boxed2 (Below.refl (w.alloc (.cells #[.int .i64 y, .string t] 29)).heap.size (w.alloc (.cells #[.int .i64 y, .string t] 29)))
  obtain ⟨W0, hW0⟩ : ∃ W0, W0 = w.alloc (.cells #[.int .i64 y, .string t] 29) := ⟨_, rfl⟩
  have hB0 : Below w.heap.size w W0 := by rw [hW0]; exact (Below.refl _ w).alloc (Nat.le_refl _) _
  rw [← hW0] at hbb
  obtain ⟨q0, q1, q2⟩ := hbb
  go_enter Try.func33, Try.ntmps33
  go_wp2
  go_loopw [9, 10] (fun i j wr => ∃ a d : Nat, a ≤ c ∧ c ≤ d ∧ d ≤ l.length ∧ i = .int .i64 a ∧ j = .int .i64 d ∧ Hid (Below W0.heap.size W0 wr)) (fun i j _ => (intOf j - intOf i).toNat)
  case atStart => exact ⟨0, l.length, by omega, by omega, by omega, rfl, rfl, Lib.hid (by rw [hW0]; exact Below.refl _ _)⟩
  case round =>
    obtain ⟨a, d, a1, a2, a3, rfl, rfl, hB⟩ := hrel
    have hlt2 : b < wr.heap.size := by have := hB.out.size; have := hB0.size; omega
    have hcw : ∀ k (hk : k < l.length), wr.cell? ⟨b, o + k * 2, none⟩ = some (.int .i64 l[k].1) ∧ wr.cell? ⟨b, o + k * 2 + 1, none⟩ = some (.string l[k].2) := fun k hk =>
      ⟨((hB0.trans (hB.out.mono hB0.size)).cell (p := ⟨b, o + k * 2, none⟩) hb).trans (HC.out k hk).1, ((hB0.trans (hB.out.mono hB0.size)).cell (p := ⟨b, o + k * 2 + 1, none⟩) hb).trans (HC.out k hk).2⟩
    have HW := Lib.hid hcw
    have b1 := (hB.out.cell (p := ⟨w.heap.size, 0, none⟩) q0).trans q1
    have b2 := (hB.out.cell (p := ⟨w.heap.size, 1, none⟩) q0).trans q2
    have q3 : w.heap.size < wr.heap.size := by have := hB.out.size; omega
    clear hcw
    by_cases hlt : a < d
    · obtain ⟨k1, k2⟩ := HW.out ((a + d) / 2) (by omega)
      have kc := HT.out ((a + d) / 2) (by omega)
      obtain ⟨x, s, hxs⟩ : ∃ x s, l[(a + d) / 2]'(by omega) = (x, s) := ⟨_, _, rfl⟩
      rw [hxs] at k1 k2 kc
      clear hxs
      have SL := Lib.hid (show ∀ W, Below wr.heap.size wr W → W.cell? ⟨w.heap.size, 0, none⟩ = some (.int .i64 y) ∧ W.cell? ⟨w.heap.size, 1, none⟩ = some (.string t) ∧ W.cell? ⟨b, o + (a + d) / 2 * 2, none⟩ = some (.int .i64 x) ∧ W.cell? ⟨b, o + (a + d) / 2 * 2 + 1, none⟩ = some (.string s) from fun W hW =>
        ⟨(hW.cell (p := ⟨w.heap.size, 0, none⟩) q3).trans b1, (hW.cell (p := ⟨w.heap.size, 1, none⟩) q3).trans b2, (hW.cell (p := ⟨b, o + (a + d) / 2 * 2, none⟩) hlt2).trans k1, (hW.cell (p := ⟨b, o + (a + d) / 2 * 2 + 1, none⟩) hlt2).trans k2⟩)
      have i2 : ((a : Int) + (d : Int)) / 2 < (l.length : Int) := by omega
      have i3 : (0 : Int) ≤ ((a : Int) + (d : Int)) / 2 := by omega
      have i4 : (((a : Int) + (d : Int)) / 2).toNat = (a + d) / 2 := by omega
      by_cases hk : (a + d) / 2 < c
      · have F := Lib.hid (cmp_at x y s t _ (cmp_lt (kc.trans (decide_eq_true hk))))
        clear kc k1 k2 b1 b2
        go_wp2
        go_region_held3 (fun w' => w'.cell? ⟨w.heap.size, 0, none⟩ = some (.int .i64 y) ∧ w'.cell? ⟨w.heap.size, 1, none⟩ = some (.string t) ∧ w'.cell? ⟨b, o + (a + d) / 2 * 2, none⟩ = some (.int .i64 x) ∧ w'.cell? ⟨b, o + (a + d) / 2 * 2 + 1, none⟩ = some (.string s)) (first | ((with_reducible refine SL.out _ ?_); (with_reducible (repeat' (first | assumption | exact Below.refl _ _ | apply Below.next_alloc | apply Below.drew | (apply Below.next; rotate_left; assumption)))); done) | go_keep)
          (first
            | (go_at_call 34; (with_reducible refine (F.out _).mono ?_); rintro e y1 ⟨rfl, hB1⟩))
        go_wp2
        go_roundw
        case rel => exact ⟨(a + d) / 2 + 1, d, by omega, by omega, by omega, by go_num, rfl, Lib.hid (Below.next hB.out (by (repeat' (first | assumption | exact Below.refl _ _ | apply Below.next_alloc | apply Below.drew | (apply Below.next; rotate_left; assumption)))))⟩
        case measure => simp [intOf]; omega
      · have hq := cmp_ge (kc.trans (decide_eq_false hk))
        obtain ⟨q, hqq⟩ : ∃ q, cmpE (x, s) (y, t) = q := ⟨_, rfl⟩
        rw [hqq] at hq
        have F := Lib.hid (cmp_at x y s t q hqq)
        clear kc k1 k2 b1 b2 hqq
        go_wp2
        go_region_held3 (fun w' => w'.cell? ⟨w.heap.size, 0, none⟩ = some (.int .i64 y) ∧ w'.cell? ⟨w.heap.size, 1, none⟩ = some (.string t) ∧ w'.cell? ⟨b, o + (a + d) / 2 * 2, none⟩ = some (.int .i64 x) ∧ w'.cell? ⟨b, o + (a + d) / 2 * 2 + 1, none⟩ = some (.string s)) (first | ((with_reducible refine SL.out _ ?_); (with_reducible (repeat' (first | assumption | exact Below.refl _ _ | apply Below.next_alloc | apply Below.drew | (apply Below.next; rotate_left; assumption)))); done) | go_keep)
          (first
            | (go_at_call 34; (with_reducible refine (F.out _).mono ?_); rintro e y1 ⟨rfl, hB1⟩))
        go_wp2
        go_roundw
        case rel => exact ⟨a, (a + d) / 2, by omega, by omega, by omega, rfl, by go_num, Lib.hid (Below.next hB.out (by (repeat' (first | assumption | exact Below.refl _ _ | apply Below.next_alloc | apply Below.drew | (apply Below.next; rotate_left; assumption)))))⟩
        case measure => simp [intOf]; omega
    · obtain rfl : a = c := by omega
      by_cases hn2 : a < l.length
      · obtain ⟨k1, k2⟩ := HW.out a hn2
        have kc := HT.out a hn2
        obtain ⟨x, s, hxs⟩ : ∃ x s, l[a] = (x, s) := ⟨_, _, rfl⟩
        have hh := HM.out
        rw [List.getElem?_eq_getElem hn2, hxs] at hh
        rw [hxs] at k1 k2 kc
        have e1 : hasE l (y, t) = decide ((x, s) = ((y, t) : E)) := by
          rw [Bool.eq_iff_iff, has_iff, ← hh, decide_eq_true_iff, Option.some.injEq]
        have e2 := (cmp_z (kc.trans (decide_eq_false (Nat.lt_irrefl _)))).trans e1.symm
        clear hxs hh e1
        obtain ⟨q, hqq⟩ : ∃ q, cmpE (x, s) (y, t) = q := ⟨_, rfl⟩
        rw [hqq] at e2
        have F := Lib.hid (cmp_at x y s t q hqq)
        have E2 := Lib.hid e2
        have SL := Lib.hid (show ∀ W, Below wr.heap.size wr W → W.cell? ⟨w.heap.size, 0, none⟩ = some (.int .i64 y) ∧ W.cell? ⟨w.heap.size, 1, none⟩ = some (.string t) ∧ W.cell? ⟨b, o + a * 2, none⟩ = some (.int .i64 x) ∧ W.cell? ⟨b, o + a * 2 + 1, none⟩ = some (.string s) from fun W hW =>
          ⟨(hW.cell (p := ⟨w.heap.size, 0, none⟩) q3).trans b1, (hW.cell (p := ⟨w.heap.size, 1, none⟩) q3).trans b2, (hW.cell (p := ⟨b, o + a * 2, none⟩) hlt2).trans k1, (hW.cell (p := ⟨b, o + a * 2 + 1, none⟩) hlt2).trans k2⟩)
        have i2 : (a : Int) < (l.length : Int) := by omega
        have i3 : (0 : Int) ≤ (a : Int) := by omega
        have i5 : decide ((a : Int) < (l.length : Int)) = true := decide_eq_true i2
        clear kc k1 k2 b1 b2 hqq e2
        go_wp2
        go_region_held3 (fun w' => w'.cell? ⟨w.heap.size, 0, none⟩ = some (.int .i64 y) ∧ w'.cell? ⟨w.heap.size, 1, none⟩ = some (.string t) ∧ w'.cell? ⟨b, o + a * 2, none⟩ = some (.int .i64 x) ∧ w'.cell? ⟨b, o + a * 2 + 1, none⟩ = some (.string s)) (first | ((with_reducible refine SL.out _ ?_); (with_reducible (repeat' (first | assumption | exact Below.refl _ _ | apply Below.next_alloc | apply Below.drew | (apply Below.next; rotate_left; assumption)))); done) | go_keep)
          (first
            | (go_at_call 34; (with_reducible refine (F.out _).mono ?_); rintro e y1 ⟨rfl, hB1⟩))
        go_wp2
        go_ret2
        exact ⟨ret_ib rfl E2.out, Below.next hB0 (Below.next hB.out (by (repeat' (first | assumption | exact Below.refl _ _ | apply Below.next_alloc | apply Below.drew | (apply Below.next; rotate_left; assumption)))))⟩
      · have hh := HM.out
        rw [List.getElem?_eq_none (by omega)] at hh
        have e1 : hasE l (y, t) = false := by
          cases h : hasE l (y, t)
          · rfl
          · have := hh.2 (has_iff.1 h); cases this
        have E1 := Lib.hid e1
        have i5 : decide ((a : Int) < (l.length : Int)) = false := decide_eq_false (by omega)
        clear hh e1
        go_wp2
        go_quiet (fail)
        go_wp2
        go_ret2
        exact ⟨ret_ib rfl E1.out.symm, Below.next hB0 (Base.below_drewN hB.out _)⟩
end Go.Proofs.Ytncneoggnoiknaa.Du

/- The walks through an index that find where an entry belongs. -/
import Derived.Test.YtncneoggnoiknaaWb
import Derived.Test.YtncneoggnoiknaaIx
namespace Go.Proofs.Ytncneoggnoiknaa.Du
open Go.RowKit Sp Ut Me
theorem less_at (x y : Int) (s t : ByteArray) (q : Bool) (h : less (x, s) (y, t) = q) (W : World) : Calls Try.prog 24 #[.agg #[.int .i64 x, .string s], .agg #[.int .i64 y, .string t]] W fun e w' => e = .returned (.bool q) ∧ Below W.heap.size W w' := by
  rw [← h]; exact less_any (x, s) (y, t) W
theorem map_get (SS : List Sg) (k : Nat) (hk : k < SS.length) : (SS.map Sg.val)[k]? = some (.slice (some ⟨SS[k].b, SS[k].o, none⟩) SS[k].es.length SS[k].c) := by
  rw [List.getElem?_map, List.getElem?_eq_getElem hk]; rfl
theorem plc_step (e : E) (SS : List Sg) (k a : Nat) (hk : k < SS.length) : plc e ((ess SS).drop k) k a = plc e ((ess SS).drop (k + 1)) (k + 1) (if less e (hd SS[k].es) = true then a else k) := by
  have hl : k < (ess SS).length := by unfold ess; rw [List.length_map]; exact hk
  rw [List.drop_eq_getElem_cons hl, plc]
  have : (ess SS)[k] = SS[k].es := List.getElem_map _
  rw [this]
set_option maxHeartbeats 4000000 in
set_option maxRecDepth 100000 in
theorem list_any {w : World} {p : Nat} {v : Value} {SS : List Sg} (y : Int) (t : ByteArray) (hI : Idx w p v SS) (hne : SS ≠ []) (hm : (allE SS).length ≤ 1000) :
    Calls Try.prog 31 #[.pointer (some ⟨p, 0, none⟩), .agg #[.int .i64 y, .string t]] w fun e w' => e = .returned (.int .i64 (place (ess SS) (y, t))) ∧ Below w.heap.size w w' := by
  obtain ⟨g, cap, cur, rfl, hg, hcs, hnc, hcm, HG⟩ := hI.row hne
  have hlen := all_pos hI.ok
  have f0 := cell_of hI.ptr 0
  have h0 := hI.plt
  have h1 := HG.lt
  have HI := Lib.hid hI
  have HC := Lib.hid HG.cell
  have hpl : plc (y, t) ((ess SS).drop 0) 0 0 = place (ess SS) (y, t) := rfl
  have HP := Lib.hid hpl
  clear hI hg hcs HG hne hpl
  simp only [List.getElem?_toArray, List.getElem?_cons_zero] at f0
  have hbb := boxed2 (Below.refl (w.alloc (.cells #[.int .i64 y, .string t] 29)).heap.size (w.alloc (.cells #[.int .i64 y, .string t] 29)))
  obtain ⟨W0, hW0⟩ : ∃ W0, W0 = w.alloc (.cells #[.int .i64 y, .string t] 29) := ⟨_, rfl⟩
  have hB0 : Below w.heap.size w W0 := by rw [hW0]; exact (Below.refl _ w).alloc (Nat.le_refl _) _
  rw [← hW0] at hbb
  obtain ⟨q0, q1, q2⟩ := hbb
  go_enter Try.func31, Try.ntmps31
  go_wp2
  go_loopw [13, 5] (fun i j wr => ∃ k a : Nat, k ≤ SS.length ∧ a ≤ k ∧ i = .int .i64 k ∧ j = .int .i64 a ∧ Hid (plc (y, t) ((ess SS).drop k) k a = place (ess SS) (y, t)) ∧ Hid (Below W0.heap.size W0 wr)) (fun i _ _ => SS.length - (intOf i).toNat)
  case atStart => exact ⟨0, 0, by omega, by omega, rfl, rfl, HP, Lib.hid (by rw [hW0]; exact Below.refl _ _)⟩
  case round =>
    obtain ⟨k, a, a1, a2, rfl, rfl, hp, hB⟩ := hrel
    by_cases hk : k < SS.length
    · have hBw : Below w.heap.size w wr := hB0.trans (hB.out.mono hB0.size)
      have f1 := (hBw.cell (p := ⟨g, 0 + k, none⟩) h1).trans (HC.out k _ (map_get SS k hk))
      rw [Nat.zero_add] at f1
      obtain ⟨HS, -⟩ := HI.out.segs _ (List.getElem_mem hk)
      have hne2 := es_ne HI.out.ok (List.getElem_mem hk)
      have hel := es_le (SS := SS) (List.getElem_mem hk)
      have hps := plc_step (y, t) SS k a hk
      rw [hp.out] at hps
      obtain ⟨b, o, c, l, hsg⟩ : ∃ b o c l, SS[k] = ⟨b, o, c, l⟩ := ⟨_, _, _, _, rfl⟩
      rw [hsg] at f1 HS hne2 hel hps
      clear hsg
      simp only at f1 HS hne2 hel hps
      obtain ⟨z, r, rfl⟩ := List.exists_cons_of_ne_nil hne2
      obtain ⟨x, s⟩ := z
      obtain ⟨k1, k2⟩ := held_ents HS 0 (by simp)
      have hlt := HS.lt
      simp only [Nat.zero_mul, Nat.add_zero, List.getElem_cons_zero] at k1 k2
      replace k1 := (hBw.cell (p := ⟨b, o, none⟩) hlt).trans k1
      replace k2 := (hBw.cell (p := ⟨b, o + 1, none⟩) hlt).trans k2
      have hlt2 : b < wr.heap.size := by have := hBw.size; omega
      have b1 := (hB.out.cell (p := ⟨w.heap.size, 0, none⟩) q0).trans q1
      have b2 := (hB.out.cell (p := ⟨w.heap.size, 1, none⟩) q0).trans q2
      have q3 : w.heap.size < wr.heap.size := by have := hB.out.size; omega
      have hd0 : hd ((x, s) :: r) = (x, s) := rfl
      rw [hd0] at hps
      obtain ⟨n, hn⟩ : ∃ n, n = ((x, s) :: r).length := ⟨_, rfl⟩
      rw [← hn] at f1
      have i2 : (0 : Int) < (n : Int) := by rw [hn, List.length_cons]; omega
      have i3 : 0 < n := by omega
      clear HS hne2 hel hn hd0 hBw
      cases hl : less (y, t) (x, s)
      · rw [hl, if_neg (by decide)] at hps
        have hp2 := hps.symm
        clear hps
        have F := Lib.hid (less_at y x t s _ hl)
        have SL := Lib.hid (show ∀ W, Below wr.heap.size wr W → W.cell? ⟨w.heap.size, 0, none⟩ = some (.int .i64 y) ∧ W.cell? ⟨w.heap.size, 1, none⟩ = some (.string t) ∧ W.cell? ⟨b, o, none⟩ = some (.int .i64 x) ∧ W.cell? ⟨b, o + 1, none⟩ = some (.string s) from fun W hW =>
          ⟨(hW.cell (p := ⟨w.heap.size, 0, none⟩) q3).trans b1, (hW.cell (p := ⟨w.heap.size, 1, none⟩) q3).trans b2, (hW.cell (p := ⟨b, o, none⟩) hlt2).trans k1, (hW.cell (p := ⟨b, o + 1, none⟩) hlt2).trans k2⟩)
        clear k1 k2 b1 b2 hl
        go_wp2
        go_region_held3 (fun w' => w'.cell? ⟨w.heap.size, 0, none⟩ = some (.int .i64 y) ∧ w'.cell? ⟨w.heap.size, 1, none⟩ = some (.string t) ∧ w'.cell? ⟨b, o, none⟩ = some (.int .i64 x) ∧ w'.cell? ⟨b, o + 1, none⟩ = some (.string s)) (first | ((with_reducible refine SL.out _ ?_); (with_reducible (repeat' (first | assumption | exact Below.refl _ _ | apply Below.next_alloc | apply Below.drew | (apply Below.next; rotate_left; assumption)))); done) | go_keep)
          (first
            | (go_at_call 24; (with_reducible refine (F.out _).mono ?_); rintro e y1 ⟨rfl, hB1⟩))
        go_wp2
        go_roundw
        case rel => exact ⟨k + 1, k, by omega, by omega, by go_num, rfl, Lib.hid hp2, Lib.hid (Below.next hB.out (by (repeat' (first | assumption | exact Below.refl _ _ | apply Below.next_alloc | apply Below.drew | (apply Below.next; rotate_left; assumption)))))⟩
        case measure => simp [intOf]; omega
      · rw [hl, if_pos rfl] at hps
        have hp2 := hps.symm
        clear hps
        have F := Lib.hid (less_at y x t s _ hl)
        have SL := Lib.hid (show ∀ W, Below wr.heap.size wr W → W.cell? ⟨w.heap.size, 0, none⟩ = some (.int .i64 y) ∧ W.cell? ⟨w.heap.size, 1, none⟩ = some (.string t) ∧ W.cell? ⟨b, o, none⟩ = some (.int .i64 x) ∧ W.cell? ⟨b, o + 1, none⟩ = some (.string s) from fun W hW =>
          ⟨(hW.cell (p := ⟨w.heap.size, 0, none⟩) q3).trans b1, (hW.cell (p := ⟨w.heap.size, 1, none⟩) q3).trans b2, (hW.cell (p := ⟨b, o, none⟩) hlt2).trans k1, (hW.cell (p := ⟨b, o + 1, none⟩) hlt2).trans k2⟩)
        clear k1 k2 b1 b2 hl
        go_wp2
        go_region_held3 (fun w' => w'.cell? ⟨w.heap.size, 0, none⟩ = some (.int .i64 y) ∧ w'.cell? ⟨w.heap.size, 1, none⟩ = some (.string t) ∧ w'.cell? ⟨b, o, none⟩ = some (.int .i64 x) ∧ w'.cell? ⟨b, o + 1, none⟩ = some (.string s)) (first | ((with_reducible refine SL.out _ ?_); (with_reducible (repeat' (first | assumption | exact Below.refl _ _ | apply Below.next_alloc | apply Below.drew | (apply Below.next; rotate_left; assumption)))); done) | go_keep)
          (first
            | (go_at_call 24; (with_reducible refine (F.out _).mono ?_); rintro e y1 ⟨rfl, hB1⟩))
        go_wp2
        go_roundw
        case rel => exact ⟨k + 1, a, by omega, by omega, by go_num, rfl, Lib.hid hp2, Lib.hid (Below.next hB.out (by (repeat' (first | assumption | exact Below.refl _ _ | apply Below.next_alloc | apply Below.drew | (apply Below.next; rotate_left; assumption)))))⟩
        case measure => simp [intOf]; omega
    · obtain rfl : k = SS.length := by omega
      have hp2 := hp.out
      rw [List.drop_of_length_le (by unfold ess; rw [List.length_map]; exact Nat.le_refl _)] at hp2
      have HP2 := Lib.hid (show (a : Int) = (place (ess SS) (y, t) : Int) by rw [← hp2]; rfl)
      clear hp2
      go_wp2
      go_ret
      exact ⟨ret_i HP2.out, Below.next hB0 hB.out⟩
theorem ret_iib {a a' b b' : Int} {c d : Bool} (h : a = b) (h1 : a' = b') (h' : c = d) : Ending.returned (.tuple #[.int .i64 a, .int .i64 a', .bool c]) = .returned (.tuple #[.int .i64 b, .int .i64 b', .bool d]) := by rw [h, h1, h']
theorem find_nil (y : Int) (t : ByteArray) (w : World) : Calls Try.prog 26 #[.pointer none, .agg #[.int .i64 y, .string t]] w fun e w' => e = .returned (.tuple #[.int .i64 0, .int .i64 0, .bool false]) ∧ Below w.heap.size w w' := by
  go_enter Try.func26, Try.ntmps26
  go_wp2
  go_ret3
  exact ⟨rfl, by go_grown⟩
theorem find_none {w : World} {p : Nat} {v : Value} (y : Int) (t : ByteArray) (hI : Idx w p v []) : Calls Try.prog 26 #[.pointer (some ⟨p, 0, none⟩), .agg #[.int .i64 y, .string t]] w fun e w' => e = .returned (.tuple #[.int .i64 0, .int .i64 0, .bool false]) ∧ Below w.heap.size w w' := by
  have f0 := cell_of hI.ptr 0
  have h0 := hI.plt
  obtain ⟨-, hl⟩ := hI.lists
  rcases hl with ⟨rfl, -⟩ | ⟨g, cap, cur, rfl, -⟩
  all_goals
    simp only [List.getElem?_toArray, List.getElem?_cons_zero, List.length_nil] at f0
    clear hI
    go_enter Try.func26, Try.ntmps26
    go_wp2
    go_ret3
    exact ⟨rfl, by go_grown⟩
set_option maxHeartbeats 4000000 in
set_option maxRecDepth 100000 in
theorem find_any {w : World} {p : Nat} {v : Value} {SS : List Sg} (y : Int) (t : ByteArray) (hI : Idx w p v SS) (i : Nat) (hi : i < SS.length) (hpl : place (ess SS) (y, t) = i) (hm : (allE SS).length ≤ 1000) :
    Calls Try.prog 26 #[.pointer (some ⟨p, 0, none⟩), .agg #[.int .i64 y, .string t]] w fun e w' => e = .returned (.tuple #[.int .i64 i, .int .i64 (cntE SS[i].es (y, t)), .bool (hasE SS[i].es (y, t))]) ∧ Below w.heap.size w w' := by
  have hne : SS ≠ [] := by rintro rfl; simp at hi
  have LA := Lib.hid (fun W (hB : Below w.heap.size w W) => list_any (w := W) y t (hI.below hB) hne hm)
  rw [hpl] at LA
  obtain ⟨g, cap, cur, rfl, hg, hcs, hnc, hcm, HG⟩ := hI.row hne
  have hlen := all_pos hI.ok
  have f0 := cell_of hI.ptr 0
  have h0 := hI.plt
  have h1 := HG.lt
  have f1 := HG.cell i _ (map_get SS i hi)
  rw [Nat.zero_add] at f1
  obtain ⟨HS, -⟩ := hI.segs _ (List.getElem_mem hi)
  have hsor : Sor SS[i].es := ok_sor hI.ok (List.mem_map.2 ⟨_, List.getElem_mem hi, rfl⟩)
  have hel := es_le (SS := SS) (List.getElem_mem hi)
  simp only [List.getElem?_toArray, List.getElem?_cons_zero] at f0
  clear hI hg hcs HG hne hpl
  have i2 : (i : Int) < (SS.length : Int) := by omega
  have i3 : (0 : Int) ≤ (i : Int) := by omega
  have i4 : SS.length ≠ 0 := by omega
  have i5 : ((SS.length : Int) == 0) = false := by rw [beq_eq_false_iff_ne]; omega
  obtain ⟨b, o, c, l, hsg⟩ : ∃ b o c l, SS[i] = ⟨b, o, c, l⟩ := ⟨_, _, _, _, rfl⟩
  rw [hsg] at f1 HS hel hsor ⊢
  clear hsg
  simp only at f1 HS hel hsor ⊢
  have hlt := HS.lt
  have FB := Lib.hid (fun W (hB : Below w.heap.size w W) => bsearch_any b o c l y t W (by have := hB.size; omega) (by omega) hsor (fun k hk => ⟨(hB.cell (p := ⟨b, o + k * 2, none⟩) hlt).trans (held_ents HS k hk).1, (hB.cell (p := ⟨b, o + k * 2 + 1, none⟩) hlt).trans (held_ents HS k hk).2⟩))
  clear HS hsor hel
  go_enter Try.func26, Try.ntmps26
  go_wp2_with (go_at_call 31; (with_reducible refine (LA.out _ (by (repeat' (first | assumption | exact Below.refl _ _ | apply Below.next_alloc | apply Below.drew | (apply Below.next; rotate_left; assumption))))).mono ?_); rintro e w1 ⟨rfl, hB1⟩)
  have hB : Below w.heap.size w w1 := by (repeat' (first | assumption | exact Below.refl _ _ | apply Below.next_alloc | apply Below.drew | (apply Below.next; rotate_left; assumption)))
  obtain ⟨h2, f2, f3⟩ := boxed2 hB1
  replace f0 := (hB.cell (p := ⟨p, 0, none⟩) h0).trans f0
  replace f1 := (hB.cell (p := ⟨g, i, none⟩) h1).trans f1
  replace h0 := Nat.lt_of_lt_of_le h0 hB.size
  replace h1 := Nat.lt_of_lt_of_le h1 hB.size
  have SL := Lib.hid (show ∀ W, Below w1.heap.size w1 W → W.cell? ⟨p, 0, none⟩ = some (.slice (some ⟨g, 0, none⟩) SS.length cap) ∧ W.cell? ⟨g, i, none⟩ = some (.slice (some ⟨b, o, none⟩) l.length c) ∧ W.cell? ⟨w.heap.size, 0, none⟩ = some (.int .i64 y) ∧ W.cell? ⟨w.heap.size, 1, none⟩ = some (.string t) from fun W hW =>
          ⟨(hW.cell (p := ⟨p, 0, none⟩) h0).trans f0, (hW.cell (p := ⟨g, i, none⟩) h1).trans f1, (hW.cell (p := ⟨w.heap.size, 0, none⟩) h2).trans f2, (hW.cell (p := ⟨w.heap.size, 1, none⟩) h2).trans f3⟩)
  clear f0 f1 f2 f3
  go_wp2
  go_region_held3 (fun w' => w'.cell? ⟨p, 0, none⟩ = some (.slice (some ⟨g, 0, none⟩) SS.length cap) ∧ w'.cell? ⟨g, i, none⟩ = some (.slice (some ⟨b, o, none⟩) l.length c) ∧ w'.cell? ⟨w.heap.size, 0, none⟩ = some (.int .i64 y) ∧ w'.cell? ⟨w.heap.size, 1, none⟩ = some (.string t)) (first | ((with_reducible refine SL.out _ ?_); (with_reducible (repeat' (first | assumption | exact Below.refl _ _ | apply Below.next_alloc | apply Below.drew | (apply Below.next; rotate_left; assumption)))); done) | go_keep)
          (first
            | (go_at_call 33; (with_reducible refine (FB.out _ (by (repeat' (first | assumption | exact Below.refl _ _ | apply Below.next_alloc | apply Below.drew | (apply Below.next; rotate_left; assumption))))).mono ?_); rintro e w2 ⟨rfl, hB2⟩))
  go_wp2
  go_ret3
  exact ⟨rfl, by (repeat' (first | assumption | exact Below.refl _ _ | apply Below.next_alloc | apply Below.drew | (apply Below.next; rotate_left; assumption)))⟩
end Go.Proofs.Ytncneoggnoiknaa.Du

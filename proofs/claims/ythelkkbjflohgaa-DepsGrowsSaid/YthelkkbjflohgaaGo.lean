/- The walk through the program's Order, the function itself. -/
import Derived.Test.YthelkkbjflohgaaGn
namespace Go.Proofs.Ythelkkbjflohgaa.Ds
open Go.RowKit Ut Gr Go.Maps
theorem OwnS.kept2 {w w' : World} {B : Nat} {v : Value} {l : List ByteArray} {row : Option Nat} (h : OwnS w B v l) (hg : w.grownBy w' row) (hne : ∀ g, v.ownBlock = some g → some g ≠ row) : OwnS w' B v l := by
  refine ⟨h.1, h.2.imp id ?_⟩
  rintro ⟨g, cap, cur, rfl, h2, h3, h4⟩
  exact ⟨g, cap, cur, rfl, h2, (hg.block g (Array.getElem?_eq_some_iff.1 h3).1 (hne g rfl)).trans h3, h4⟩
theorem cell_grown {w w' : World} {row : Option Nat} {b i : Nat} {u : Value} (h : w.cell? ⟨b, i, none⟩ = some u) (hg : w.grownBy w' row) (hne : some b ≠ row) : w'.cell? ⟨b, i, none⟩ = some u :=
  (World.cell?_of_block (w := w) (a := ⟨b, i, none⟩) (hg.block b (World.block_lt_of_cell? w _ h) hne)).trans h
set_option maxHeartbeats 8000000 in
set_option maxRecDepth 100000 in
theorem order_any {w : World} {v u : Value} {l : List (ByteArray × ByteArray)} {names : List ByteArray} (hl : Edgs w v l) (hn : l.length ≤ 1000) (hz : Short l) (hs : Strs w u names) (hm : names.length ≤ 1000) (hnz : ∀ s ∈ names, s.size ≤ maxLen) : Calls Try.prog 10 #[v, u] w (GivesO w l names) := by
  have hmm := @run_makeMap Try.prog
  have FK := Lib.hid (cloneS_any (w := w.alloc (.cells #[v] 28)) (hs.below (Below.next_alloc (Below.refl _ _) _)) hm)
  obtain ⟨p1, p2, p3, p4⟩ := comp_spec names
  have hsl : (sortL names).length ≤ 1000 := by unfold sortL; rw [List.length_map, List.length_mergeSort, List.length_map]; exact hm
  have hacc := acc_start (lt := ltN) (l := l) p2
  have hcz : ∀ s ∈ compL (sortL names), s.size ≤ maxLen := fun s hs => hnz s ((p2 s).1 hs)
  have hlen : (compL (sortL names)).length ≤ 1000 := by omega
  replace p1 := Lib.hid p1
  replace p4 := Lib.hid p4
  replace hacc := Lib.hid hacc
  replace hcz := Lib.hid hcz
  have HL := Lib.hid hl
  replace hz := Lib.hid hz
  obtain ⟨av, cv, rfl⟩ := hl.slice
  obtain ⟨au, cu, rfl⟩ := hs.slice
  clear hl hs hnz p2
  go_enter Try.func10, Try.ntmps10
  go_wp2_with (first
    | (go_at_call 28; (with_reducible refine FK.out.mono ?_); rintro e w1 ⟨v1, rfl, hO1, hB1⟩; rw [World.size_alloc] at hO1; have hO1 := Lib.hid hO1; have hB1 := Lib.hid hB1)
    | (go_at_call 29; (with_reducible refine (sort_any hO1.out (by have := hB1.out.size; rw [World.size_alloc] at this; exact this) hm).mono ?_); rintro e w2 ⟨rfl, hO2, hB2⟩; have hO2 := Lib.hid hO2; have hB2 := Lib.hid hB2)
    | (go_at_call 30; (with_reducible refine (compact_any hO2.out (by have h1 := hB1.out.size; have h2 := hB2.out.size; rw [World.size_alloc] at h1; omega) hsl p4.out).mono ?_); rintro e w3 ⟨v3, rfl, hO3, hB3⟩; obtain ⟨a3, c3, rfl⟩ := hO3.slice; have hO3 := Lib.hid hO3; have hB3 := Lib.hid hB3))
  have lt3 : w.heap.size + 1 ≤ w3.heap.size := by have h1 := hB1.out.size; have h2 := hB2.out.size; have h3 := hB3.out.size; rw [World.size_alloc] at h1; omega
  have b3 := Lib.hid ((next_allocs hB1.out).trans ((hB2.out.trans hB3.out).mono (Nat.le_succ _)))
  have e0 := Lib.hid (((hB2.out.trans hB3.out).cell (p := ⟨w.heap.size, 0, none⟩) (Nat.lt_succ_self _)).trans ((hB1.out.cell (p := ⟨w.heap.size, 0, none⟩) (by rw [World.size_alloc]; exact Nat.lt_succ_self _)).trans ((World.cell?_alloc_new w _ _ 0).trans rfl)))
  clear hB1 hB2 hB3 hO1 hO2 p4
  generalize compL (sortL names) = cur0 at *
  have M0 : MapS ((w3.alloc (.map #[] 0)).alloc (.cells #[.map (some w3.heap.size)] 55)) w3.heap.size 0 [] := (MapS.made w3).below (Below.next_alloc (Below.refl _ _) _)
  have C0 : ((w3.alloc (.map #[] 0)).alloc (.cells #[.map (some w3.heap.size)] 55)).cell? ⟨w3.heap.size + 1, 0, none⟩ = some (.map (some w3.heap.size)) := by
    have h := World.cell?_alloc_new (w3.alloc (.map #[] 0)) #[Value.map (some w3.heap.size)] 55 0
    rw [World.size_alloc] at h
    exact h.trans rfl
  replace M0 := Lib.hid M0
  replace C0 := Lib.hid C0
  go_loopw [21] (fun i wr => ∃ k : Nat, k ≤ cur0.length ∧ i = .int .i64 k ∧ Hid (MapS wr w3.heap.size k (cur0.take k).reverse) ∧ Hid (wr.cell? ⟨w3.heap.size + 1, 0, none⟩ = some (.map (some w3.heap.size))) ∧ Hid (Below w3.heap.size w3 wr ∧ w3.heap.size + 2 ≤ wr.heap.size)) (fun i _ => cur0.length - (intOf i).toNat)
  case atStart => exact ⟨0, by omega, rfl, M0, C0, Lib.hid ⟨by (repeat' (first | assumption | exact Below.refl _ _ | apply Below.next_alloc | apply Below.drew | (apply Below.next; rotate_left; assumption))), by simp⟩⟩
  case round =>
    obtain ⟨k, hk, rfl, hM, hC, hB⟩ := hrel
    by_cases hkl : k < cur0.length
    · obtain ⟨g, c4, hv, _, hg, _, hcell⟩ := hO3.out.pos (by omega)
      obtain ⟨rfl, -, -⟩ := Value.slice.inj hv
      have q0 := (hB.out.1.cell (p := ⟨g, k, none⟩) hg).trans (hcell k _ (List.getElem?_eq_getElem hkl))
      have i2 : (k : Int) < (cur0.length : Int) := by omega
      have i3 : (0 : Int) ≤ (k : Int) := by omega
      have hsz := hcz.out _ (List.getElem_mem hkl)
      have hnext := Lib.hid (show (cur0.take (k + 1)).reverse = cur0[k] :: (cur0.take k).reverse by rw [List.take_succ_eq_append_getElem hkl, List.reverse_append]; rfl)
      generalize cur0[k] = x at *
      have q1 := hC.out
      clear hv hcell
      go_wp2_with (first
        | (at_mapUpdate; refine put_set rfl _ _ _ rfl w3.heap.size k _ rfl hM.out (by omega) x rfl rfl hsz ?_; intro w4 hM4 hg4))
      go_roundw
      case rel => exact ⟨k + 1, by omega, by go_num, Lib.hid (by rw [hnext.out]; exact hM4), Lib.hid (cell_grown hC.out hg4 (by simp)), Lib.hid ⟨hB.out.1.grown hg4 (by have := hB.out.2; omega) (fun j hj => by cases hj; exact Nat.le_refl _), Nat.le_trans hB.out.2 hg4.size⟩⟩
      case measure => simp [intOf]; omega
    · obtain rfl : k = cur0.length := by omega
      go_wp2
      have S0 := Lib.hid (show OrdS w w3 wr l names cur0.length (.slice a3 cur0.length c3) (.slice none 0 0) from
        ⟨cur0, [], (cur0.take cur0.length).reverse, cur0.length, rfl, hO3.out.low hO3.out.lt' hB.out.1, hO3.out.lt', OwnS.nil _ _, hM.out, fun x => by rw [List.take_length, List.mem_reverse], hC.out, p1.out, hacc.out, by simp; omega, hcz.out, hB.out.1.mono lt3, hB.out.2⟩)
      clear hM hC p1 hacc hcz M0 C0
      go_loopg [6, 10] cur0.length (fun gk v6 v10 wr => Hid (OrdS w w3 wr l names gk v6 v10))
      case atStart => exact S0
      case round =>
        obtain ⟨cur, acc, L, n, rfl, hc6, hb6, ha10, hM, hLc, hC, hp, hA, hal, hsz, hB, hW⟩ := hrel.out
        have bw := Lib.hid (b3.out.trans (hB.mono (Nat.le_succ _)))
        by_cases hk : 0 < cur.length
        rotate_left
        · obtain rfl : cur = [] := List.eq_nil_of_length_eq_zero (by omega)
          obtain ⟨a6, c6, rfl⟩ := hc6.slice
          have hr := Lib.hid (acc_done hA (by simp))
          have ha := Lib.hid (ha10.base (show w.heap.size ≤ w3.heap.size + 2 by omega))
          clear hrel hc6 hb6 ha10 hM hLc hC hp hA hsz hB
          go_wp2
          go_ret2
          exact ⟨acc, true, _, rfl, hr.out, ha.out, bw.out⟩
        · obtain ⟨g, c6, rfl, hBg, hg, hcap, hcell⟩ := hc6.pos hk
          have hg3 := hb6 g rfl
          have f0 : wr.cell? ⟨w.heap.size, 0, none⟩ = some (.slice av l.length cv) := (hB.cell (p := ⟨w.heap.size, 0, none⟩) (Nat.lt_succ_self _)).trans e0.out
          have hlt0 := World.block_lt_of_cell? wr _ f0
          have FI := Lib.hid (indexO_any w.heap.size (w3.heap.size + 1) (freeB l L) hc6.strs (by omega) (fun W hWB p _ => order1_any w.heap.size (w3.heap.size + 1) p ((hWB.cell (p := ⟨w.heap.size, 0, none⟩) hlt0).trans f0) ((hWB.cell (p := ⟨w3.heap.size + 1, 0, none⟩) (show w3.heap.size + 1 < wr.heap.size by omega)).trans hC) (HL.out.below (bw.out.trans (hWB.mono (by have := bw.out.size; omega)))) hn hz.out (hM.below hWB)))
          rcases idx_spec (P := freeB l L) (l := cur) with ⟨hi, hany⟩ | ⟨k, hkl, hi, hPk, hpre⟩
          · rw [hi] at FI
            have hr := Lib.hid (acc_stuck hA (by obtain ⟨x, hx⟩ := List.exists_mem_of_length_pos hk; exact ⟨x, hx⟩) (fun x hx hf => by
              rw [List.any_eq_false] at hany
              exact hany x hx ((free_iff hLc x).2 hf)))
            clear hrel hc6 hb6 ha10 hM hLc hC hp hA hsz hB hcell hi hany f0
            go_wp2_with (first
              | (go_at_call 31; (with_reducible refine FI.out.mono ?_); rintro e w5 ⟨rfl, hB5⟩))
            go_ret2
            exact ⟨[], false, _, rfl, hr.out, OwnS.nil _ _, bw.out.trans (hB5.mono (by have := bw.out.size; omega))⟩
          · rw [hi] at FI
            have hnx := next_sorted (l := l) hp hkl (fun j hj hf => by
              rw [List.any_eq_false] at hpre
              exact hpre _ (by rw [List.mem_take_iff_getElem]; exact ⟨j, by omega, rfl⟩) ((free_iff hLc _).2 hf)) ((free_iff hLc _).1 hPk)
            have hme := mem_erase ltN_irrefl hp hkl
            have hA2 := Lib.hid (acc_step hA hnx hme)
            have hp2 := Lib.hid (hp.sublist (List.eraseIdx_sublist cur k))
            have hsz2 := Lib.hid (fun x (hx : x ∈ cur.eraseIdx k) => hsz x ((hme x).1 hx).1)
            have hel : (cur.eraseIdx k).length = cur.length - 1 := by rw [List.length_eraseIdx, if_pos hkl]
            have q0 := hcell k _ (List.getElem?_eq_getElem hkl)
            have hxs := hsz _ (List.getElem_mem hkl)
            have hS' : ∃ L', (∀ x, x ∈ L' ↔ x ∈ L ∧ x ≠ cur[k]) ∧ ∀ x, x ∈ L' ↔ x ∈ cur.eraseIdx k := ⟨cur.eraseIdx k, fun x => by rw [hme x, hLc x], fun x => Iff.rfl⟩
            obtain ⟨L', hL1, hL2⟩ := hS'
            generalize cur[k] = x at *
            have i2 : (k : Int) < (cur.length : Int) := by omega
            have i3 : (0 : Int) ≤ (k : Int) := by omega
            have i4 : ¬ ((k : Int) < 0) := by omega
            have hc6 := Lib.hid hc6
            have ha10 := Lib.hid ha10
            have hM := Lib.hid hM
            have hC := Lib.hid hC
            have hB := Lib.hid hB
            have hL1 := Lib.hid hL1
            have hL2 := Lib.hid hL2
            have hel := Lib.hid hel
            have hal := Lib.hid hal
            have hq0 := Lib.hid q0
            clear hrel hLc hp hA hsz hcell hi hPk hpre hnx hme q0 hb6 f0
            go_wp2_with (first
              | (go_at_call 31; (with_reducible refine FI.out.mono ?_); rintro e w5 ⟨rfl, hB5⟩; have q5 := (hB5.cell (p := ⟨g, k, none⟩) hg).trans hq0.out; have ha5 := Lib.hid (ha10.out.below hB5); have hB5 := Lib.hid hB5)
              | (at_builtin; refine push_str rfl _ _ rfl (w3.heap.size + 2) _ acc rfl ha5.out rfl (by have := hal.out; omega) (Nat.le_trans hW hB5.out.size) ?_; intro v7 w7 hown7 hB7))
            have M7 := Lib.hid ((hM.out.below hB5.out).low (show w3.heap.size < w3.heap.size + 2 by omega) hB7)
            have C7 := (hB7.cell (p := ⟨w3.heap.size + 1, 0, none⟩) (show w3.heap.size + 1 < w3.heap.size + 2 by omega)).trans ((hB5.out.cell (p := ⟨w3.heap.size + 1, 0, none⟩) (show w3.heap.size + 1 < wr.heap.size by omega)).trans hC.out)
            have q7 := (hB7.cell (p := ⟨g, k, none⟩) (show g < w3.heap.size + 2 by omega)).trans q5
            have hc7 := Lib.hid ((hc6.out.below hB5.out).low (fun g' hg' => by cases hg'; show g < w3.heap.size + 2; omega) hB7)
            clear q5
            go_region_held3 (fun W => W.cell? ⟨w3.heap.size + 1, 0, none⟩ = some (.map (some w3.heap.size)) ∧ W.cell? ⟨g, k, none⟩ = some (.string x)) (go_keep)
              (first
                | ((refine step_del rfl _ _ rfl w3.heap.size n L L' rfl (show MapS w7.drew w3.heap.size n L from M7.out) x rfl hxs hL1.out ?_); intro w8 hM8 hg8; have r0 := cell_grown (w := w7.drew) (b := w3.heap.size + 1) C7 hg8 (fun e => by injection e; omega); have r1 := cell_grown (w := w7.drew) (b := g) q7 hg8 (fun e => by injection e; omega)))
            have hne : some g ≠ some w3.heap.size := fun e => by injection e; omega
            have hc8 := Lib.hid ((show OwnS w7.drew _ _ cur from hc7.out).kept2 hg8 (fun g' hg' => by cases hg'; exact hne))
            have FD := Lib.hid (deleteS_any k hkl hc8.out (by have := hal.out; omega))
            go_wp2_with (first
              | (go_at_call 34; (with_reducible refine FD.out.mono ?_); rintro e w9 ⟨u9, rfl, hO9, hb9, hg9⟩; have hg9 : w8.grownBy w9 (some g) := hg9; have hb9 := Lib.hid (show u9.ownBlock = some g from hb9)))
            go_roundg (cur.length - 1)
            case measure => omega
            case rel =>
              have hs57 := hB7.size
              refine Lib.hid ⟨cur.eraseIdx k, acc ++ [x], L', n, hel.out, hO9, fun g' hg' => by rw [hb9.out] at hg'; cases hg'; exact hg3, ?_, hM8.kept hg9 (fun e => by injection e; omega), hL2.out, cell_grown r0 hg9 (fun e => by injection e; omega), hp2.out, hA2.out, ?_, hsz2.out, ?_, ?_⟩
              · exact ((show OwnS w7.drew _ _ _ from hown7).kept hg8 (fun b hb => by cases hb; omega)).kept hg9 (fun b hb => by cases hb; omega)
              · have h1 := hel.out; have h2 := hal.out; rw [h1, List.length_append]; simp; omega
              · have h1 : Below (w.heap.size + 1) w3 w7.drew := (hB.out.trans (hB5.out.mono (by omega))).trans ((hB7.mono (by omega)).drew)
                have hs := hB5.out.size
                have h2 := h1.grown hg8 (show w.heap.size + 1 ≤ w7.heap.size by omega) (fun j hj => by cases hj; omega)
                have hs8 : w7.heap.size ≤ w8.heap.size := hg8.size
                exact h2.grown hg9 (by omega) (fun j hj => by cases hj; exact hBg)
              · have hs := hB5.out.size
                have hs8 : w7.heap.size ≤ w8.heap.size := hg8.size
                have hs9 := hg9.size
                omega
end Go.Proofs.Ythelkkbjflohgaa.Ds

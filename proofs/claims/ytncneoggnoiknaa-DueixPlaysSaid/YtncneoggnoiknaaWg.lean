/- The walks through Grow, Concat, All. -/
import Derived.Test.YtncneoggnoiknaaWf
import Derived.Test.YtncneoggnoiknaaRw
namespace Go.Proofs.Ytncneoggnoiknaa.Du
open Go.RowKit Sp Ut Me
theorem infoE : (Try.prog.info? 29).map (fun i => (i.zero, i.size, i.bytes)) = some (some (.agg #[.int .i64 0, .string ByteArray.empty]), 2, 24) := by kernel_rfl
set_option maxHeartbeats 1000000 in
theorem grow_any (n : Nat) (hn : n ≤ 1000) (w : World) : Calls Try.prog 39 #[.slice none 0 0, .int .i64 n] w (GivesR 29 w []) := by
  by_cases h0 : n = 0
  · subst h0
    go_enter Try.func39, Try.ntmps39
    go_wp2
    go_ret
    exact ⟨_, rfl, OwnR.nil _ _ _, Below.refl _ _⟩
  · obtain ⟨i0, hi, hz0, hz1, hz2⟩ := info_parts infoE
    have hr := fun ty => Lib.run_append_nil_zeros w 43 3 ty 29 i0 _ .i64 .i64 Try.underlying43 Try.underlying3 hi hz0 n (by omega) (by omega) (by omega) (by rw [hz2]; omega)
    have hG : grownCap w n 0 29 ≤ 9223372036854775807 := by
      have := grownCap_le_maxLen w n 0 29 (by unfold maxLen; omega)
      unfold maxLen at this
      omega
    have hGn : n ≤ grownCap w n 0 29 := grownCap_ge w _ _ _
    generalize grownCap w n 0 29 = G at *
    have HR := Lib.hid hr
    have h1 : (0 : Int) < (n : Int) := by omega
    clear hr
    go_enter Try.func39, Try.ntmps39
    go_wp2_with (at_builtin; refine Lib.wpList_append_run _ rfl _ _ _ _ rfl _ _ rfl rfl _ _ (HR.out _) ?_)
    go_ret
    refine ⟨_, rfl, ⟨rfl, .inr ⟨w.heap.size, G, _, rfl, Nat.le_refl _, heap_alloc_new _ _, Nat.zero_le _, by unfold maxLen; omega, ?_, by simp [cellsE]⟩⟩, by go_grown⟩
    rw [Array.size_append, size_zeroCells, size_zeroCells]
    simp only [List.size_toArray, List.length_cons, List.length_nil]
    omega
theorem all_take (SS : List Sg) (k : Nat) (hk : k < SS.length) : allE (SS.take (k + 1)) = allE (SS.take k) ++ SS[k].es := by
  unfold allE ess
  rw [List.take_succ_eq_append_getElem hk, List.map_append, List.flatten_append]
  simp
theorem all_take_le (SS : List Sg) (k : Nat) : (allE (SS.take k)).length ≤ (allE SS).length := by
  conv => rhs; rw [← List.take_append_drop k SS]
  unfold allE ess
  rw [List.map_append, List.flatten_append, List.length_append]; omega
theorem sg_ents {w : World} {s : Sg} (h : SgAt w s) (hne : s.es ≠ []) : Ents w s.val s.es := by
  have hl := h.1.len
  rw [cellsE_len] at hl
  exact .inr ⟨List.length_pos_iff.2 hne, s.b, s.o, s.c, rfl, h.1.lt, by omega, held_ents h.1⟩
set_option maxHeartbeats 4000000 in
set_option maxRecDepth 100000 in
theorem concat_any {w : World} {p : Nat} {v : Value} {SS : List Sg} (hI : Idx w p v SS) (hm : (allE SS).length ≤ 1000) :
    Calls Try.prog 32 #[v] w (GivesR 29 w (allE SS)) := by
  have GR := Lib.hid (grow_any (allE SS).length hm w)
  by_cases hne : SS = []
  · subst hne
    obtain ⟨-, hl⟩ := hI.lists
    have hal : allE [] = [] := rfl
    have HAL := Lib.hid hal
    clear hm hal GR
    rcases hl with ⟨rfl, -⟩ | ⟨g, cap, cur, rfl, -⟩
    all_goals
      clear hI
      go_enter Try.func32, Try.ntmps32
      go_wp2
      go_rounds 1
      go_rounds 1
      go_ret
      exact ⟨_, rfl, by rw [HAL.out]; exact OwnR.nil _ _ _, Below.refl _ _⟩
  · obtain ⟨g, cap, cur, rfl, hg, hcs, hnc, hcm, HG⟩ := hI.row hne
    have hlen := all_pos hI.ok
    have h1 := HG.lt
    have HC := Lib.hid HG.cell
    have HI := Lib.hid hI
    clear hI hg hcs HG hne
    go_enter Try.func32, Try.ntmps32
    go_wp2
    go_loop [3, 11] (fun s i => ∃ k : Nat, k ≤ SS.length ∧ i = .int .i64 k ∧ s = .int .i64 (allE (SS.take k)).length) (fun _ i => SS.length - (intOf i).toNat)
    case atStart => exact ⟨0, by omega, rfl, rfl⟩
    case round =>
      obtain ⟨k, hk1, rfl, rfl⟩ := hrel
      by_cases hk : k < SS.length
      · have f1 := HC.out k _ (map_get SS k hk)
        rw [Nat.zero_add] at f1
        have hle := all_take_le SS (k + 1)
        have hat := all_take SS k hk
        have HAT := Lib.hid (show ((allE (SS.take (k + 1))).length : Int) = ((allE (SS.take k)).length : Int) + (SS[k].es.length : Int) by rw [hat, List.length_append]; omega)
        rw [hat, List.length_append] at hle
        obtain ⟨a, ha⟩ : ∃ a, (allE (SS.take k)).length = a := ⟨_, rfl⟩
        obtain ⟨b, hb⟩ : ∃ b, SS[k].es.length = b := ⟨_, rfl⟩
        rw [ha, hb] at hle
        rw [hb] at f1
        rw [ha, hb] at HAT
        simp only [ha]
        clear ha hb hat
        go_wp2
        go_round
        case rel => exact ⟨k + 1, by omega, by go_num, by rw [HAT.out]⟩
        case measure => simp [intOf]; omega
      · obtain rfl : k = SS.length := by omega
        have htk : SS.take SS.length = SS := List.take_length
        simp only [htk]
        clear htk
        go_wp2_with (go_at_call 39; (with_reducible refine GR.out.mono ?_); rintro e w1 ⟨v1, rfl, ho, hB⟩)
        have HO := Lib.hid ho
        have HB := Lib.hid hB
        clear ho hB
        go_loopw [6, 27] (fun s i wr => ∃ k : Nat, k ≤ SS.length ∧ i = .int .i64 k ∧ Hid (OwnR 29 wr w.heap.size s (allE (SS.take k))) ∧ Hid (Below w.heap.size w wr)) (fun _ i _ => SS.length - (intOf i).toNat)
        case atStart => exact ⟨0, by omega, rfl, HO, HB⟩
        case round =>
          obtain ⟨k, hk1, rfl, hO, hB⟩ := hrel
          by_cases hk : k < SS.length
          · have f1 := (hB.out.cell (p := ⟨g, 0 + k, none⟩) h1).trans (HC.out k _ (map_get SS k hk))
            rw [Nat.zero_add] at f1
            have hle := all_take_le SS (k + 1)
            have hat := all_take SS k hk
            have hen := Lib.hid ((sg_ents (HI.out.segs _ (List.getElem_mem hk)) (es_ne HI.out.ok (List.getElem_mem hk))).below hB.out)
            rw [hat, List.length_append] at hle
            have HAT := Lib.hid hat
            have HLE := Lib.hid hle
            clear hat hle
            go_wp2_with (at_builtin; refine push_list infoE Try.underlying43 rfl _ _ rfl w.heap.size _ (allE (SS.take k)) SS[k].es rfl hO.out _ rfl hen.out (by have := HLE.out; omega) hB.out.size fun v' w' ho hb => ?_)
            go_roundw
            case rel => exact ⟨k + 1, by omega, by go_num, Lib.hid (by rw [HAT.out]; exact ho), Lib.hid (hB.out.trans hb)⟩
            case measure => simp [intOf]; omega
          · obtain rfl : k = SS.length := by omega
            go_wp2
            go_ret
            have ho := hO.out
            rw [List.take_length] at ho
            exact ⟨_, rfl, ho, hB.out⟩
theorem all_any {w : World} {p : Nat} {v : Value} {SS : List Sg} (hI : Idx w p v SS) (hm : (allE SS).length ≤ 1000) :
    Calls Try.prog 23 #[.pointer (some ⟨p, 0, none⟩)] w (GivesR 29 w (allE SS)) := by
  have F := Lib.hid (concat_any hI hm)
  have c0 := cell_of hI.ptr 0
  simp only [List.getElem?_toArray, List.getElem?_cons_zero] at c0
  clear hI hm
  go_enter Try.func23, Try.ntmps23
  go_wp2_with (go_at_call 32; (with_reducible refine F.out.mono ?_); rintro e w1 ⟨v1, rfl, ho, hB⟩)
  go_ret
  exact ⟨_, rfl, ho, hB⟩
theorem all_nil (w : World) : Calls Try.prog 23 #[.pointer none] w fun e w' => e = .returned (.slice none 0 0) ∧ w = w' := by
  go_enter Try.func23, Try.ntmps23
  go_wp2
  go_ret
  exact ⟨rfl, rfl⟩
end Go.Proofs.Ytncneoggnoiknaa.Du

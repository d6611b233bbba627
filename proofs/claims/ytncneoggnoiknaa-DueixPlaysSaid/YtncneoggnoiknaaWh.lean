/- The walk through Between. -/
import Derived.Test.YtncneoggnoiknaaWg
namespace Go.Proofs.Ytncneoggnoiknaa.Du
open Go.RowKit Sp Ut Me
theorem btw_take (a b : Int) (l : List E) (k : Nat) (hk : k < l.length) : btw a b (l.take (k + 1)) = btw a b (l.take k) ++ if a ≤ l[k].1 ∧ l[k].1 < b then [l[k]] else [] := by
  unfold btw
  rw [List.take_succ_eq_append_getElem hk, List.filter_append]
  congr 1
  by_cases h : a ≤ l[k].1 ∧ l[k].1 < b
  · rw [if_pos h, List.filter_cons_of_pos (by simpa using h)]; rfl
  · rw [if_neg h, List.filter_cons_of_neg (by simpa using h)]; rfl
theorem btw_len (a b : Int) (l : List E) (k : Nat) : (btw a b (l.take k)).length ≤ l.length := by
  unfold btw
  have h1 := List.length_filter_le (fun x : E => decide (a ≤ x.1) && decide (x.1 < b)) (l.take k)
  have h2 : (l.take k).length ≤ l.length := by rw [List.length_take]; omega
  omega
set_option maxHeartbeats 4000000 in
set_option maxRecDepth 100000 in
theorem between_any {w : World} {p : Nat} {v : Value} {SS : List Sg} (a b : Int) (hI : Idx w p v SS) (hm : (allE SS).length ≤ 1000) :
    Calls Try.prog 20 #[.pointer (some ⟨p, 0, none⟩), .int .i64 a, .int .i64 b] w (GivesR 29 w (btw a b (allE SS))) := by
  have F := Lib.hid (all_any hI hm)
  obtain ⟨l, hl⟩ : ∃ l, allE SS = l := ⟨_, rfl⟩
  rw [hl] at F hm ⊢
  clear hI hl
  go_enter Try.func20, Try.ntmps20
  go_wp2_with (go_at_call 23; (with_reducible refine F.out.mono ?_); rintro e w1 ⟨v1, rfl, ho, hB1⟩; obtain ⟨va, vc, rfl⟩ := ho.ents.slice)
  have hen := Lib.hid ho.ents
  have HB1 := Lib.hid hB1
  have hsz := hB1.size
  clear ho hB1
  go_loopw [7, 13] (fun s i wr => ∃ k : Nat, k ≤ l.length ∧ i = .int .i64 k ∧ Hid (OwnR 29 wr w1.heap.size s (btw a b (l.take k))) ∧ Hid (Below w1.heap.size w1 wr)) (fun _ i _ => l.length - (intOf i).toNat)
  case atStart => exact ⟨0, by omega, rfl, Lib.hid (OwnR.nil _ _ _), Lib.hid (Below.refl _ _)⟩
  case round =>
    obtain ⟨k, hk1, rfl, hO, hB⟩ := hrel
    by_cases hk : k < l.length
    · rcases hen.out with ⟨h0, _⟩ | ⟨h0, bb, oo, cc, hvv, hlt, hcc, hcell⟩
      · rw [h0] at hk; simp at hk
      · cases hvv
        obtain ⟨k1, k2⟩ := hcell k hk
        have hbt := btw_take a b l k hk
        have hle := btw_len a b l k
        have HLE := Lib.hid hle
        obtain ⟨x, s, hxs⟩ : ∃ x s, l[k] = (x, s) := ⟨_, _, rfl⟩
        rw [hxs] at k1 k2 hbt
        replace k1 := (hB.out.cell (p := ⟨bb, oo + k * 2, none⟩) hlt).trans k1
        replace k2 := (hB.out.cell (p := ⟨bb, oo + k * 2 + 1, none⟩) hlt).trans k2
        have i2 : (k : Int) < (l.length : Int) := by omega
        clear hcell hxs hle
        by_cases h1 : a ≤ x
        · by_cases h2 : x < b
          · rw [if_pos ⟨h1, h2⟩] at hbt
            have HBT := Lib.hid hbt
            clear hbt
            go_wp2_with (at_builtin; refine push_ent infoE Try.underlying43 rfl _ _ rfl w1.heap.size _ (btw a b (l.take k)) rfl (hO.out.below (by (repeat' (first | assumption | exact Below.refl _ _ | apply Below.next_alloc | apply Below.drew | (apply Below.next; rotate_left; assumption))))) _ rfl (by simp) (by have := HLE.out; omega) (by have := hB.out.size; simp; omega) fun v' w' ho hb => ?_)
            go_roundw
            case rel => exact ⟨k + 1, by omega, by go_num, Lib.hid (by rw [HBT.out]; exact ho), Lib.hid (hB.out.trans ((((Below.refl _ _).alloc hB.out.size _).trans hb)))⟩
            case measure => simp [intOf]; omega
          · rw [if_neg (fun h => h2 h.2), List.append_nil] at hbt
            have HBT := Lib.hid hbt
            clear hbt
            go_wp2
            go_roundw
            case rel => exact ⟨k + 1, by omega, by go_num, Lib.hid (by rw [HBT.out]; exact hO.out.below (by (repeat' (first | assumption | exact Below.refl _ _ | apply Below.next_alloc | apply Below.drew | (apply Below.next; rotate_left; assumption))))), Lib.hid (hB.out.alloc hB.out.size _)⟩
            case measure => simp [intOf]; omega
        · rw [if_neg (fun h => h1 h.1), List.append_nil] at hbt
          have HBT := Lib.hid hbt
          clear hbt
          go_wp2
          go_roundw
          case rel => exact ⟨k + 1, by omega, by go_num, Lib.hid (by rw [HBT.out]; exact hO.out.below (by (repeat' (first | assumption | exact Below.refl _ _ | apply Below.next_alloc | apply Below.drew | (apply Below.next; rotate_left; assumption))))), Lib.hid (hB.out.alloc hB.out.size _)⟩
          case measure => simp [intOf]; omega
    · obtain rfl : k = l.length := by omega
      go_wp2
      go_ret
      have ho := hO.out
      rw [List.take_length] at ho
      exact ⟨_, rfl, ho.base HB1.out.size, HB1.out.trans (hB.out.mono HB1.out.size)⟩
theorem between_nil (a b : Int) (w : World) : Calls Try.prog 20 #[.pointer none, .int .i64 a, .int .i64 b] w (GivesR 29 w []) := by
  have F := Lib.hid all_nil
  go_enter Try.func20, Try.ntmps20
  go_wp2_with (go_at_call 23; (with_reducible refine (F.out _).mono ?_); rintro e w1 ⟨rfl, rfl⟩)
  go_rounds 1
  go_ret
  exact ⟨_, rfl, OwnR.nil _ _ _, Below.refl _ _⟩
end Go.Proofs.Ytncneoggnoiknaa.Du

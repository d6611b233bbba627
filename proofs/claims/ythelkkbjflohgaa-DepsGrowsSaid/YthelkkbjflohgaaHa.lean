/- The walks through the reference's Has, SameTexts, SameEdges (printed by gen_ref1.py). -/
import Derived.Test.YthelkkbjflohgaaGf
namespace Go.Proofs.Ythelkkbjflohgaa.Ds
open Go.RowKit Ut Gr Go.Maps
def same {α : Type} [DecidableEq α] (l m : List α) : Bool := decide (l = m)
theorem same_yes {α : Type} [DecidableEq α] {l m : List α} (h : l = m) : same l m = true := decide_eq_true h
theorem same_no {α : Type} [DecidableEq α] {l m : List α} (h : ¬ l = m) : same l m = false := decide_eq_false h
set_option maxHeartbeats 2000000 in
theorem rHas_any {w : World} {v : Value} {l : List ByteArray} (s : ByteArray) (hl : Strs w v l) (hn : l.length ≤ 1000000) : Calls Try.prog 35 #[v, .string s] w fun e w' => e = .returned (.bool (isIn s l)) ∧ w = w' := by
  rcases hl with ⟨rfl, a, cap, rfl, ha⟩ | ⟨h0, b, o, cap, rfl, hlt, hcap, hcell⟩
  · go_enter Try.func35, Try.ntmps35
    go_wp2
    refine wp_loop_rounds 1 ?_
    rw [rounds_succ]
    go_wp2
    go_ret
    exact ⟨by rw [isIn_no (by simp)]; rfl, rfl⟩
  · have HC := Lib.hid hcell
    clear hcell
    go_enter Try.func35, Try.ntmps35
    go_wp2
    go_loopw [5] (fun i wr => ∃ k : Nat, k ≤ l.length ∧ i = .int .i64 k ∧ Hid (s ∉ l.take k) ∧ w = wr) (fun i _ => l.length - (intOf i).toNat)
    case atStart => exact ⟨0, by omega, rfl, Lib.hid (by simp), rfl⟩
    case round =>
      obtain ⟨k, k1, rfl, hx, rfl⟩ := hrel
      by_cases hk : k < l.length
      · have c1 := HC.out k hk
        have i2 : (k : Int) < (l.length : Int) := by omega
        have i3 : (0 : Int) ≤ (k : Int) := by omega
        by_cases he : l[k] = s
        · have hm := Lib.hid (show s ∈ l by rw [← he]; exact List.getElem_mem hk)
          rw [he] at c1
          clear he
          go_wp2
          go_ret
          exact ⟨by rw [isIn_yes hm.out]; rfl, rfl⟩
        · have hx2 := Lib.hid (show s ∉ l.take (k + 1) by
            rw [List.take_succ_eq_append_getElem hk, List.mem_append]
            rintro (h | h)
            · exact hx.out h
            · exact he (List.mem_singleton.1 h).symm)
          have hq := eqS_no he
          clear he hx
          go_wp2
          go_roundw
          case rel => exact ⟨k + 1, by omega, by go_num, hx2, trivial⟩
          case measure => simp [intOf]; omega
      · have hm := Lib.hid (show s ∉ l by have := hx.out; rwa [List.take_of_length_le (by omega)] at this)
        go_wp2
        go_ret
        exact ⟨by rw [isIn_no hm.out]; rfl, rfl⟩
set_option maxHeartbeats 4000000 in
theorem rSameTexts_any {w : World} {v u : Value} {l m : List (ByteArray)} (hl : Strs w v l) (hm : Strs w u m) (hn : l.length ≤ 1000000) (hn2 : m.length ≤ 1000000) : Calls Try.prog 12 #[v, u] w fun e w' => e = .returned (.bool (same l m)) ∧ Below w.heap.size w w' := by
  by_cases hlen : l.length = m.length
  · rcases hl with ⟨rfl, a1, c1, rfl, -⟩ | ⟨h0, b, o, cap, rfl, hlt, hcap, hcell⟩
    · obtain rfl : m = [] := List.length_eq_zero_iff.1 hlen.symm
      obtain ⟨a2, c2, rfl⟩ := hm.slice
      clear hm hlen
      go_enter Try.func12, Try.ntmps12
      go_wp2
      refine wp_loop_rounds 1 ?_
      rw [rounds_succ]
      go_wp2
      go_ret
      exact ⟨by rw [same_yes rfl]; rfl, by (repeat' (first | assumption | exact Below.refl _ _ | apply Below.next_alloc | apply Below.drew | (apply Below.next; rotate_left; assumption)))⟩
    · rcases hm with ⟨rfl, -⟩ | ⟨-, b2, o2, cap2, rfl, hlt2, hcap2, hcell2⟩
      · exact absurd hlen (by rw [List.length_nil]; omega)
      have HC := Lib.hid hcell
      have HD := Lib.hid hcell2
      rw [← hlen]
      have HL := Lib.hid hlen
      clear hcell hcell2
      go_enter Try.func12, Try.ntmps12
      go_wp2
      go_loopw [5] (fun i wr => ∃ k : Nat, k ≤ l.length ∧ i = .int .i64 k ∧ Hid (l.take k = m.take k) ∧ Hid (Below w.heap.size w wr)) (fun i _ => l.length - (intOf i).toNat)
      case atStart => exact ⟨0, by omega, rfl, Lib.hid (by simp), Lib.hid (Below.refl _ _)⟩
      case round =>
        obtain ⟨k, k1, rfl, hx, hB⟩ := hrel
        by_cases hk : k < l.length
        · have c1 := (hB.out.cell (p := ⟨b, o + k, none⟩) hlt).trans (HC.out k hk)
          have d1 := (hB.out.cell (p := ⟨b2, o2 + k, none⟩) hlt2).trans (HD.out k (by omega))
          have i2 : (k : Int) < (l.length : Int) := by omega
          have i3 : (0 : Int) ≤ (k : Int) := by omega
          have hk2 : k < m.length := by omega
          by_cases he : l[k] = m[k]
          · have hx2 := Lib.hid (show l.take (k + 1) = m.take (k + 1) by rw [List.take_succ_eq_append_getElem hk, List.take_succ_eq_append_getElem hk2, hx.out, he])
            rw [he] at c1
            skip
            clear he
            go_wp2
            go_quiet (fail)
            go_wp2
            go_roundw
            case rel => exact ⟨k + 1, by omega, by go_num, hx2, Lib.hid (Base.below_drewN hB.out _)⟩
            case measure => simp [intOf]; omega
          · have hr := Lib.hid (show ¬ l = m from fun e => he (by subst e; rfl))
            have hq := eqS_no he
            clear he
            go_wp2
            go_quiet (fail)
            go_wp2
            go_ret
            exact ⟨by rw [same_no hr.out]; rfl, Base.below_drewN hB.out _⟩
        · have hr := Lib.hid (show l = m by have h := hx.out; rwa [List.take_of_length_le (by omega), List.take_of_length_le (by omega)] at h)
          go_wp2
          go_ret
          exact ⟨by rw [same_yes hr.out]; rfl, hB.out⟩
  · obtain ⟨a1, c1, rfl⟩ := hl.slice
    obtain ⟨a2, c2, rfl⟩ := hm.slice
    have hr := Lib.hid (show ¬ l = m from fun e => hlen (by rw [e]))
    clear hl hm
    have hq : ((l.length : Int) == (m.length : Int)) = false := by rw [beq_eq_false_iff_ne]; omega
    have hq2 : ((l.length : Int) != (m.length : Int)) = true := by simp; omega
    go_enter Try.func12, Try.ntmps12
    go_wp2
    go_ret
    exact ⟨by rw [same_no hr.out]; rfl, by (repeat' (first | assumption | exact Below.refl _ _ | apply Below.next_alloc | apply Below.drew | (apply Below.next; rotate_left; assumption)))⟩
set_option maxHeartbeats 4000000 in
theorem rSameEdges_any {w : World} {v u : Value} {l m : List (ByteArray × ByteArray)} (hl : Edgs w v l) (hm : Edgs w u m) (hn : l.length ≤ 1000000) (hn2 : m.length ≤ 1000000) : Calls Try.prog 25 #[v, u] w fun e w' => e = .returned (.bool (same l m)) ∧ Below w.heap.size w w' := by
  by_cases hlen : l.length = m.length
  · rcases hl with ⟨rfl, a1, c1, rfl, -⟩ | ⟨h0, b, o, cap, rfl, hlt, hcap, hcell⟩
    · obtain rfl : m = [] := List.length_eq_zero_iff.1 hlen.symm
      obtain ⟨a2, c2, rfl⟩ := hm.slice
      clear hm hlen
      go_enter Try.func25, Try.ntmps25
      go_wp2
      refine wp_loop_rounds 1 ?_
      rw [rounds_succ]
      go_wp2
      go_ret
      exact ⟨by rw [same_yes rfl]; rfl, by (repeat' (first | assumption | exact Below.refl _ _ | apply Below.next_alloc | apply Below.drew | (apply Below.next; rotate_left; assumption)))⟩
    · rcases hm with ⟨rfl, -⟩ | ⟨-, b2, o2, cap2, rfl, hlt2, hcap2, hcell2⟩
      · exact absurd hlen (by rw [List.length_nil]; omega)
      have HC := Lib.hid hcell
      have HD := Lib.hid hcell2
      rw [← hlen]
      have HL := Lib.hid hlen
      clear hcell hcell2
      go_enter Try.func25, Try.ntmps25
      go_wp2
      go_loopw [5] (fun i wr => ∃ k : Nat, k ≤ l.length ∧ i = .int .i64 k ∧ Hid (l.take k = m.take k) ∧ Hid (Below w.heap.size w wr)) (fun i _ => l.length - (intOf i).toNat)
      case atStart => exact ⟨0, by omega, rfl, Lib.hid (by simp), Lib.hid (Below.refl _ _)⟩
      case round =>
        obtain ⟨k, k1, rfl, hx, hB⟩ := hrel
        by_cases hk : k < l.length
        · have c1 := (hB.out.cell (p := ⟨b, o + k * 2, none⟩) hlt).trans (HC.out k hk).1
          have c2 := (hB.out.cell (p := ⟨b, o + k * 2 + 1, none⟩) hlt).trans (HC.out k hk).2
          have d1 := (hB.out.cell (p := ⟨b2, o2 + k * 2, none⟩) hlt2).trans (HD.out k (by omega)).1
          have d2 := (hB.out.cell (p := ⟨b2, o2 + k * 2 + 1, none⟩) hlt2).trans (HD.out k (by omega)).2
          have i2 : (k : Int) < (l.length : Int) := by omega
          have i3 : (0 : Int) ≤ (k : Int) := by omega
          have hk2 : k < m.length := by omega
          by_cases he : l[k] = m[k]
          · have hx2 := Lib.hid (show l.take (k + 1) = m.take (k + 1) by rw [List.take_succ_eq_append_getElem hk, List.take_succ_eq_append_getElem hk2, hx.out, he])
            rw [he] at c1 c2
            have hE := eqR_yes (m[k]'(by omega)).1 (m[k]'(by omega)).2
            clear he
            go_wp2
            go_quiet (fail)
            go_wp2
            go_roundw
            case rel => exact ⟨k + 1, by omega, by go_num, hx2, Lib.hid (Base.below_drewN hB.out _)⟩
            case measure => simp [intOf]; omega
          · have hr := Lib.hid (show ¬ l = m from fun e => he (by subst e; rfl))
            have hE := eqR_no (a := l[k].1) (b := l[k].2) (c := (m[k]'(by omega)).1) (d := (m[k]'(by omega)).2) he
            clear he
            go_wp2
            go_quiet (fail)
            go_wp2
            go_ret
            exact ⟨by rw [same_no hr.out]; rfl, Base.below_drewN hB.out _⟩
        · have hr := Lib.hid (show l = m by have h := hx.out; rwa [List.take_of_length_le (by omega), List.take_of_length_le (by omega)] at h)
          go_wp2
          go_ret
          exact ⟨by rw [same_yes hr.out]; rfl, hB.out⟩
  · obtain ⟨a1, c1, rfl⟩ := hl.slice
    obtain ⟨a2, c2, rfl⟩ := hm.slice
    have hr := Lib.hid (show ¬ l = m from fun e => hlen (by rw [e]))
    clear hl hm
    have hq : ((l.length : Int) == (m.length : Int)) = false := by rw [beq_eq_false_iff_ne]; omega
    have hq2 : ((l.length : Int) != (m.length : Int)) = true := by simp; omega
    go_enter Try.func25, Try.ntmps25
    go_wp2
    go_ret
    exact ⟨by rw [same_no hr.out]; rfl, by (repeat' (first | assumption | exact Below.refl _ _ | apply Below.next_alloc | apply Below.drew | (apply Below.next; rotate_left; assumption)))⟩
end Go.Proofs.Ythelkkbjflohgaa.Ds

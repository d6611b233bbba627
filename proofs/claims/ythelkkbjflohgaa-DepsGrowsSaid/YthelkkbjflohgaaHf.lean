/- The walks through errandlaw31's Few, Own, Back (printed by gen_few.py). -/
import Derived.Test.YthelkkbjflohgaaHe
namespace Go.Proofs.Ythelkkbjflohgaa.Ds
open Go.RowKit Ut Gr Go.Maps
/-- few enough, and short enough -/
def fewB (l : List (ByteArray × ByteArray)) (names : List ByteArray) : Bool := decide (l.length ≤ 30 ∧ names.length ≤ 20 ∧ (∀ e ∈ l, e.1.size ≤ 30 ∧ e.2.size ≤ 30) ∧ ∀ s ∈ names, s.size ≤ 30)
theorem few_iff {l : List (ByteArray × ByteArray)} {names : List ByteArray} : fewB l names = true ↔ (l.length ≤ 30 ∧ names.length ≤ 20 ∧ (∀ e ∈ l, e.1.size ≤ 30 ∧ e.2.size ≤ 30) ∧ ∀ s ∈ names, s.size ≤ 30) := decide_eq_true_iff
theorem few_no {l : List (ByteArray × ByteArray)} {names : List ByteArray} (h : ¬ (l.length ≤ 30 ∧ names.length ≤ 20 ∧ (∀ e ∈ l, e.1.size ≤ 30 ∧ e.2.size ≤ 30) ∧ ∀ s ∈ names, s.size ≤ 30)) : fewB l names = false := decide_eq_false h
set_option maxHeartbeats 4000000 in
set_option maxRecDepth 100000 in
theorem few_any {w : World} {v u : Value} {l : List (ByteArray × ByteArray)} {names : List ByteArray} (hl : Edgs w v l) (hs : Strs w u names) : Calls Try.prog 7 #[v, u] w fun e w' => e = .returned (.bool (fewB l names)) ∧ Below w.heap.size w w' := by
  have HL := Lib.hid hl
  have HS := Lib.hid hs
  obtain ⟨av, cv, rfl⟩ := hl.slice
  obtain ⟨au, cu, rfl⟩ := hs.slice
  clear hl hs
  by_cases h1 : l.length ≤ 30
  rotate_left
  · have hr := Lib.hid (few_no (l := l) (names := names) (fun h => h1 h.1))
    have i1 : (30 : Int) < (l.length : Int) := by omega
    go_enter Try.func7, Try.ntmps7
    go_wp2
    go_ret
    exact ⟨by rw [hr.out]; rfl, by (repeat' (first | assumption | exact Below.refl _ _ | apply Below.next_alloc | apply Below.drew | (apply Below.next; rotate_left; assumption)))⟩
  by_cases h2 : names.length ≤ 20
  rotate_left
  · have hr := Lib.hid (few_no (l := l) (names := names) (fun h => h2 h.2.1))
    have i1 : ¬ (30 : Int) < (l.length : Int) := by omega
    have i2 : (20 : Int) < (names.length : Int) := by omega
    go_enter Try.func7, Try.ntmps7
    go_wp2
    go_ret
    exact ⟨by rw [hr.out]; rfl, by (repeat' (first | assumption | exact Below.refl _ _ | apply Below.next_alloc | apply Below.drew | (apply Below.next; rotate_left; assumption)))⟩
  have i1 : ¬ (30 : Int) < (l.length : Int) := by omega
  have i2 : ¬ (20 : Int) < (names.length : Int) := by omega
  go_enter Try.func7, Try.ntmps7
  go_wp2
  go_loopw [5] (fun i wr => ∃ k : Nat, k ≤ l.length ∧ i = .int .i64 k ∧ Hid (∀ e ∈ l.take k, e.1.size ≤ 30 ∧ e.2.size ≤ 30) ∧ Hid (Below w.heap.size w wr)) (fun i _ => l.length - (intOf i).toNat)
  case atStart => exact ⟨0, by omega, rfl, Lib.hid (by simp), Lib.hid (Below.refl _ _)⟩
  case round =>
    obtain ⟨k, hk, rfl, hx, hB⟩ := hrel
    by_cases hkl : k < l.length
    · rcases HL.out.below hB.out with ⟨rfl, -⟩ | ⟨-, b, o, cap, hv, hlt, -, hcell⟩
      · simp at hkl
      obtain ⟨rfl, -, rfl⟩ := Value.slice.inj hv
      obtain ⟨c0, c1⟩ := hcell k hkl
      have j2 : (k : Int) < (l.length : Int) := by omega
      have j3 : (0 : Int) ≤ (k : Int) := by omega
      have hmem := Lib.hid (List.getElem_mem hkl)
      have hnext := Lib.hid (show l[k].1.size ≤ 30 → l[k].2.size ≤ 30 → ∀ e ∈ l.take (k + 1), e.1.size ≤ 30 ∧ e.2.size ≤ 30 from fun h3 h4 e he => by
        rw [List.take_succ_eq_append_getElem hkl, List.mem_append, List.mem_singleton] at he
        rcases he with he | rfl
        · exact hx.out e he
        · exact ⟨h3, h4⟩)
      clear hv hcell
      generalize l[k] = e at *
      obtain ⟨p, q⟩ := e
      simp only at c0 c1
      by_cases h3 : p.size ≤ 30
      · have j4 : ¬ (30 : Int) < (p.size : Int) := by omega
        by_cases h4 : q.size ≤ 30
        · have j5 : ¬ (30 : Int) < (q.size : Int) := by omega
          go_wp2
          go_roundw
          case rel => exact ⟨k + 1, by omega, by go_num, Lib.hid (hnext.out h3 h4), hB⟩
          case measure => simp [intOf]; omega
        · have j5 : (30 : Int) < (q.size : Int) := by omega
          have hr := Lib.hid (few_no (l := l) (names := names) (fun h => h4 (h.2.2.1 _ hmem.out).2))
          go_wp2
          go_ret
          exact ⟨by rw [hr.out]; rfl, hB.out⟩
      · have j4 : (30 : Int) < (p.size : Int) := by omega
        have hr := Lib.hid (few_no (l := l) (names := names) (fun h => h3 (h.2.2.1 _ hmem.out).1))
        go_wp2
        go_ret
        exact ⟨by rw [hr.out]; rfl, hB.out⟩
    · obtain rfl : k = l.length := by omega
      have hle := Lib.hid (show ∀ e ∈ l, e.1.size ≤ 30 ∧ e.2.size ≤ 30 by have h := hx.out; rwa [List.take_length] at h)
      go_wp2
      go_loopw [6] (fun i wr => ∃ k : Nat, k ≤ names.length ∧ i = .int .i64 k ∧ Hid (∀ s ∈ names.take k, s.size ≤ 30) ∧ Hid (Below w.heap.size w wr)) (fun i _ => names.length - (intOf i).toNat)
      case atStart => exact ⟨0, by omega, rfl, Lib.hid (by simp), hB⟩
      case round =>
        clear hB hx
        obtain ⟨k, hk, rfl, hx, hB⟩ := hrel
        by_cases hkl : k < names.length
        · rcases HS.out.below hB.out with ⟨rfl, -⟩ | ⟨-, b, o, cap, hv, hlt, -, hcell⟩
          · simp at hkl
          obtain ⟨rfl, -, rfl⟩ := Value.slice.inj hv
          have c0 := hcell k hkl
          have j2 : (k : Int) < (names.length : Int) := by omega
          have j3 : (0 : Int) ≤ (k : Int) := by omega
          have hmem := Lib.hid (List.getElem_mem hkl)
          have hnext := Lib.hid (show names[k].size ≤ 30 → ∀ s ∈ names.take (k + 1), s.size ≤ 30 from fun h3 e he => by
            rw [List.take_succ_eq_append_getElem hkl, List.mem_append, List.mem_singleton] at he
            rcases he with he | rfl
            · exact hx.out e he
            · exact h3)
          clear hv hcell
          generalize names[k] = p at *
          by_cases h3 : p.size ≤ 30
          · have j4 : ¬ (30 : Int) < (p.size : Int) := by omega
            go_wp2
            go_roundw
            case rel => exact ⟨k + 1, by omega, by go_num, Lib.hid (hnext.out h3), hB⟩
            case measure => simp [intOf]; omega
          · have j4 : (30 : Int) < (p.size : Int) := by omega
            have hr := Lib.hid (few_no (l := l) (names := names) (fun h => h3 (h.2.2.2 _ hmem.out)))
            go_wp2
            go_ret
            exact ⟨by rw [hr.out]; rfl, hB.out⟩
        · obtain rfl : k = names.length := by omega
          have hr := Lib.hid (few_iff.2 ⟨h1, h2, hle.out, by have h := hx.out; rwa [List.take_length] at h⟩)
          go_wp2
          go_ret
          exact ⟨by rw [hr.out]; rfl, hB.out⟩
set_option maxHeartbeats 4000000 in
theorem ownE_any {w : World} {v : Value} {l : List (ByteArray × ByteArray)} (hl : Edgs w v l) (hn : l.length ≤ 1000) : Calls Try.prog 9 #[v] w (GivesE 44 w l) := by
  rcases hl with ⟨rfl, a', cap, rfl, -⟩ | ⟨h0, b, o, cap, rfl, hlt, hcap, hcell⟩
  · go_enter Try.func9, Try.ntmps9
    go_wp2
    refine wp_loop_rounds 1 ?_
    rw [rounds_succ]
    go_wp2
    go_ret
    exact ⟨_, rfl, OwnE.nil _ _ _, by (repeat' (first | assumption | exact Below.refl _ _ | apply Below.next_alloc | apply Below.drew | (apply Below.next; rotate_left; assumption)))⟩
  · have HC := Lib.hid hcell
    clear hcell
    go_enter Try.func9, Try.ntmps9
    go_wp2
    go_loopw [3, 4] (fun v i wr => ∃ k : Nat, k ≤ l.length ∧ i = .int .i64 k ∧ OwnE 44 wr w.heap.size v (l.take k) ∧ Hid (Below w.heap.size w wr)) (fun _ i _ => l.length - (intOf i).toNat)
    case atStart => exact ⟨0, by omega, rfl, OwnE.nil _ _ _, Lib.hid (Below.refl _ _)⟩
    case round =>
      obtain ⟨k, hk, rfl, hown, hB⟩ := hrel
      replace hown := Lib.hid hown
      by_cases hkl : k < l.length
      · have c0 := (hB.out.cell (p := ⟨b, o + k * 2, none⟩) hlt).trans (HC.out k hkl).1
        have c1 := (hB.out.cell (p := ⟨b, o + k * 2 + 1, none⟩) hlt).trans (HC.out k hkl).2
        have i2 : (k : Int) < (l.length : Int) := by omega
        have i3 : (0 : Int) ≤ (k : Int) := by omega
        have hnext := Lib.hid (List.take_succ_eq_append_getElem hkl)
        have hlt2 : (l.take k).length ≤ 1000 := by rw [List.length_take]; omega
        go_wp2_with (first
          | (at_builtin; refine push_edge infoE Try.underlying28 rfl _ _ rfl w.heap.size _ (l.take k) rfl hown.out rfl (by omega) hB.out.size ?_; intro v5 w5 hown5 hB5))
        go_roundw
        case rel => exact ⟨k + 1, by omega, by go_num, by rw [hnext.out]; exact hown5, Lib.hid (hB.out.trans hB5)⟩
        case measure => simp [intOf]; omega
      · obtain rfl : k = l.length := by omega
        have hr := Lib.hid (show l.take l.length = l from List.take_length)
        go_wp2
        go_ret
        have := hown.out
        rw [hr.out] at this
        exact ⟨_, rfl, this, hB.out⟩
set_option maxHeartbeats 4000000 in
theorem backE_any {w : World} {v : Value} {l : List (ByteArray × ByteArray)} (hl : Edgs w v l) (hn : l.length ≤ 1000) : Calls Try.prog 26 #[v] w (GivesE 25 w l) := by
  rcases hl with ⟨rfl, a', cap, rfl, -⟩ | ⟨h0, b, o, cap, rfl, hlt, hcap, hcell⟩
  · go_enter Try.func26, Try.ntmps26
    go_wp2
    refine wp_loop_rounds 1 ?_
    rw [rounds_succ]
    go_wp2
    go_ret
    exact ⟨_, rfl, OwnE.nil _ _ _, by (repeat' (first | assumption | exact Below.refl _ _ | apply Below.next_alloc | apply Below.drew | (apply Below.next; rotate_left; assumption)))⟩
  · have HC := Lib.hid hcell
    clear hcell
    go_enter Try.func26, Try.ntmps26
    go_wp2
    go_loopw [3, 4] (fun v i wr => ∃ k : Nat, k ≤ l.length ∧ i = .int .i64 k ∧ OwnE 25 wr w.heap.size v (l.take k) ∧ Hid (Below w.heap.size w wr)) (fun _ i _ => l.length - (intOf i).toNat)
    case atStart => exact ⟨0, by omega, rfl, OwnE.nil _ _ _, Lib.hid (Below.refl _ _)⟩
    case round =>
      obtain ⟨k, hk, rfl, hown, hB⟩ := hrel
      replace hown := Lib.hid hown
      by_cases hkl : k < l.length
      · have c0 := (hB.out.cell (p := ⟨b, o + k * 2, none⟩) hlt).trans (HC.out k hkl).1
        have c1 := (hB.out.cell (p := ⟨b, o + k * 2 + 1, none⟩) hlt).trans (HC.out k hkl).2
        have i2 : (k : Int) < (l.length : Int) := by omega
        have i3 : (0 : Int) ≤ (k : Int) := by omega
        have hnext := Lib.hid (List.take_succ_eq_append_getElem hkl)
        have hlt2 : (l.take k).length ≤ 1000 := by rw [List.length_take]; omega
        go_wp2_with (first
          | (at_builtin; refine push_edge infoR Try.underlying22 rfl _ _ rfl w.heap.size _ (l.take k) rfl hown.out rfl (by omega) hB.out.size ?_; intro v5 w5 hown5 hB5))
        go_roundw
        case rel => exact ⟨k + 1, by omega, by go_num, by rw [hnext.out]; exact hown5, Lib.hid (hB.out.trans hB5)⟩
        case measure => simp [intOf]; omega
      · obtain rfl : k = l.length := by omega
        have hr := Lib.hid (show l.take l.length = l from List.take_length)
        go_wp2
        go_ret
        have := hown.out
        rw [hr.out] at this
        exact ⟨_, rfl, this, hB.out⟩
end Go.Proofs.Ythelkkbjflohgaa.Ds

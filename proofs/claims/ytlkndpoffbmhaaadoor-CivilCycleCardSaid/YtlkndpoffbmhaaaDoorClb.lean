/- The walks of the laws CivilBack and CivilCycle. -/
import Derived.Test.YtlkndpoffbmhaaaDoorCl
import Derived.ChangeKeysEq
namespace Go.Proofs.YtlkndpoffbmhaaaDoor.Cl
open Go.RowKit Cw
theorem eq3 (a b c x y z : Int) (W : World) : (Op.equalIn 10000 37 (.agg #[.int .i64 a, .int .i64 b, .int .i64 c]) (.agg #[.int .i64 x, .int .i64 y, .int .i64 z])).run Tryd.prog W = .ok (decide (a = x) && (decide (b = y) && decide (c = z))) W := by
  obtain ⟨i, hi⟩ : ∃ i, Tryd.prog.info? 3 = some i := Option.isSome_iff_exists.1 (by kernel_rfl)
  have hc : Tryd.prog.cellsOf 3 = 1 := by kernel_rfl
  rw [run_equalIn_array W 9999 _ _ Tryd.underlying37 hi, hc]
  have hr : List.range 3 = [0, 1, 2] := rfl
  rw [hr]
  simp [Op.eqItems, go_sem, Tryd.underlying3]
  by_cases h1 : a = x <;> by_cases h2 : b = y <;> by_cases h3 : c = z <;> simp [h1, h2, h3]
attribute [local go_sem] eq3
set_option maxHeartbeats 1000000 in
set_option maxRecDepth 100000 in
theorem civilBack_any (k : Int) (w : World) (hT : Tab w) (h1 : 0 ≤ k) (h2 : k ≤ 4294967295) : Calls Tryd.prog 5 #[.int .u32 k] w fun e w' => e = .returned (.bool true) ∧ Below w.heap.size w w' := by
  have HT := Lib.hid hT
  clear hT
  obtain ⟨n, hn⟩ : ∃ n : Int, n = k % 3652058 := ⟨_, rfl⟩
  have n1 : 0 ≤ n := by omega
  have n2 : n < 3652058 := by omega
  have hnk : k % 3652058 = n := hn.symm
  obtain ⟨y1, y2, m1, m2, d1, d2, de⟩ := Civ.date_spec n1 (by omega : n ≤ 3652058)
  obtain ⟨c1, c2⟩ := Civ.day_of (y := Civ.dateY n) (m := Civ.dateM n) d1 d2
  rw [de] at c1
  have e1 : Civ.dateE n = 0 := Civ.dateE_of n1 (by omega)
  have e2 : Civ.dateE (n + 1) = 0 := Civ.dateE_of (by omega) (by omega)
  have w1 : Civ.weekday n = n % 7 := Civ.weekday_of n1 (by omega)
  have w2 : Civ.weekday (n + 1) = (n + 1) % 7 := Civ.weekday_of (by omega) (by omega)
  have p1 := Civ.place_of n1 (by omega)
  have p2 := Civ.place_of (n := n + 1) (by omega) (by omega)
  have lb := Civ.len_bd (Civ.dateY n) (Civ.dateM n)
  have hw : (n + 1) % 7 = (n % 7 + 1) % 7 := by omega
  rw [hw] at w2
  obtain ⟨v, hv⟩ : ∃ v : Int, v = n % 7 := ⟨_, rfl⟩
  have v1 : 0 ≤ v := by omega
  have v2 : v < 7 := by omega
  rw [← hv] at w1 w2
  clear hv hw
  have hx := Civ.next_day n1 n2
  clear hn
  rcases hx with ⟨a, x1, x2, x3⟩ | ⟨a, b, x1, x2, x3⟩ | ⟨a, b, c, x1, x2, x3⟩
  · have hp : Civ.place (n + 1) = Civ.place n + 1 := by rw [x1] at p2; omega
    obtain ⟨p, pp⟩ : ∃ p : Int, p = Civ.place n := ⟨_, rfl⟩
    have pb := Civ.place_bd n1 (by omega)
    rw [← pp] at hp pb
    have pq : Civ.place n = p := pp.symm
    clear pp
    have hq : ¬ (Civ.dateM n = 12 ∧ Civ.dateD n = 31) := by
      intro hh
      rw [hh.1, hh.2, Civ.len_eq ((Civ.isYear_iff _).2 ⟨y1, y2⟩) (by omega) (by omega)] at a
      simp at a
    have q1 : (Civ.dateD n == Civ.len (Civ.dateY n) (Civ.dateM n)) = false := by rw [beq_eq_false_iff_ne]; omega
    clear p1 p2 de
    go_enter Tryd.func5, Tryd.ntmps5
    go_wp2_with (first | (go_at_call 20; refine (date_any _ _ (HT.out.later (by go_grown))).mono ?_; rintro e w' ⟨rfl, rfl⟩) | (go_at_call 11; refine (day_any _ _ _ _ (HT.out.later (by go_grown))).mono ?_; rintro e w' ⟨rfl, rfl⟩) | (go_at_call 17; refine (len_any _ _ _ (HT.out.later (by go_grown))).mono ?_; rintro e w' ⟨rfl, rfl⟩) | (go_at_call 24; refine (place_any _ _).mono ?_; rintro e w' ⟨rfl, rfl⟩) | (go_at_call 22; refine (weekday_any _ _).mono ?_; rintro e w' ⟨rfl, rfl⟩) | (go_at_call 19; refine (awake_any _ (HT.out.later (by go_grown))).mono ?_; rintro e w' ⟨rfl, rfl⟩))
    all_goals
      go_ret
      exact ⟨rfl, by go_grown⟩
  · have hp : Civ.place (n + 1) = Civ.place n + 1 := by rw [x1] at p2; omega
    obtain ⟨p, pp⟩ : ∃ p : Int, p = Civ.place n := ⟨_, rfl⟩
    have pb := Civ.place_bd n1 (by omega)
    rw [← pp] at pb
    have pq : Civ.place n = p := pp.symm
    rw [← pp] at hp
    have q1 : (Civ.dateD n == Civ.len (Civ.dateY n) (Civ.dateM n)) = true := by rw [beq_iff_eq]; exact a
    have q2 : (Civ.dateM n == 12) = false := by rw [beq_eq_false_iff_ne]; omega
    clear p1 p2 de pp a
    go_enter Tryd.func5, Tryd.ntmps5
    go_wp2_with (first | (go_at_call 20; refine (date_any _ _ (HT.out.later (by go_grown))).mono ?_; rintro e w' ⟨rfl, rfl⟩) | (go_at_call 11; refine (day_any _ _ _ _ (HT.out.later (by go_grown))).mono ?_; rintro e w' ⟨rfl, rfl⟩) | (go_at_call 17; refine (len_any _ _ _ (HT.out.later (by go_grown))).mono ?_; rintro e w' ⟨rfl, rfl⟩) | (go_at_call 24; refine (place_any _ _).mono ?_; rintro e w' ⟨rfl, rfl⟩) | (go_at_call 22; refine (weekday_any _ _).mono ?_; rintro e w' ⟨rfl, rfl⟩) | (go_at_call 19; refine (awake_any _ (HT.out.later (by go_grown))).mono ?_; rintro e w' ⟨rfl, rfl⟩))
    all_goals
      go_ret
      exact ⟨rfl, by go_grown⟩
  · have hp : Civ.place (n + 1) = 1 := by
      rw [x1] at p2
      have := Civ.ahead_succ y1 y2
      have t := Civ.til_13 (Civ.dateY n)
      have := Civ.til_succ ((Civ.isYear_iff _).2 ⟨y1, y2⟩) m1 m2
      rw [b] at this de a
      have e13 : Civ.til (Civ.dateY n) (12 + 1) = Civ.til (Civ.dateY n) 13 := rfl
      omega
    obtain ⟨p, pp⟩ : ∃ p : Int, p = Civ.place n := ⟨_, rfl⟩
    have pb := Civ.place_bd n1 (by omega)
    rw [← pp] at pb
    have pq : Civ.place n = p := pp.symm
    rw [b, c] at c1 c2 d2
    rw [b] at lb
    rw [b, c] at a
    have a' := a.symm
    clear p1 p2 de pp a m1 m2 d1
    go_enter Tryd.func5, Tryd.ntmps5
    go_wp2_with (first | (go_at_call 20; refine (date_any _ _ (HT.out.later (by go_grown))).mono ?_; rintro e w' ⟨rfl, rfl⟩) | (go_at_call 11; refine (day_any _ _ _ _ (HT.out.later (by go_grown))).mono ?_; rintro e w' ⟨rfl, rfl⟩) | (go_at_call 17; refine (len_any _ _ _ (HT.out.later (by go_grown))).mono ?_; rintro e w' ⟨rfl, rfl⟩) | (go_at_call 24; refine (place_any _ _).mono ?_; rintro e w' ⟨rfl, rfl⟩) | (go_at_call 22; refine (weekday_any _ _).mono ?_; rintro e w' ⟨rfl, rfl⟩) | (go_at_call 19; refine (awake_any _ (HT.out.later (by go_grown))).mono ?_; rintro e w' ⟨rfl, rfl⟩))
    all_goals
      go_ret
      exact ⟨rfl, by go_grown⟩
set_option maxHeartbeats 1000000 in
set_option maxRecDepth 100000 in
theorem civilCycle_any (year m d : Int) (w : World) (hT : Tab w) (h1 : 0 ≤ year) (h2 : year ≤ 65535) (m1 : 0 ≤ m) (m2 : m ≤ 255) (d1 : 0 ≤ d) (d2 : d ≤ 255) : Calls Tryd.prog 6 #[.int .u16 year, .int .u8 m, .int .u8 d] w fun e w' => e = .returned (.bool true) ∧ Below w.heap.size w w' := by
  have HT := Lib.hid hT
  clear hT
  obtain ⟨y, hy⟩ : ∃ y : Int, y = 1 + year % 9599 := ⟨_, rfl⟩
  have y1 : 1 ≤ y := by omega
  have y2 : y ≤ 9599 := by omega
  have hyk : 1 + year % 9599 = y := hy.symm
  clear hy
  obtain ⟨l1, l2, l3, l4, l5⟩ := Civ.last_day y1 (by omega : y ≤ 9999)
  have L1 := Lib.hid l1
  have L2 := Lib.hid l2
  have L3 := Lib.hid l3
  have L45 := Lib.hid (And.intro l4 l5)
  clear l1 l2 l3 l4 l5
  by_cases hv : 1 ≤ d ∧ d ≤ Civ.len y m
  · obtain ⟨c1, c2⟩ := Civ.day_of hv.1 hv.2
    have hlm := Civ.len_pos (y := y) (m := m) (by omega)
    have c3 := (Civ.day_of (y := y + 400) (m := m) (d := d) hv.1 (by rw [Civ.len_cycle m y1 y2]; exact hv.2)).2
    have c4 := Civ.day_cycle y1 y2 hv.1 hv.2
    have b := Civ.date_of y1 (by omega) hlm.2.2.1 hlm.2.2.2 hv.1 hv.2
    have b' := Civ.date_of (y := y + 400) (m := m) (d := d) (by omega) (by omega) hlm.2.2.1 hlm.2.2.2 hv.1 (by rw [Civ.len_cycle m y1 y2]; exact hv.2)
    have c5 := (Civ.day_of (y := y + 400) (m := m) (d := d) hv.1 (by rw [Civ.len_cycle m y1 y2]; exact hv.2)).1
    rw [← c1] at b
    rw [← c5, c4] at b'
    have w1 := Civ.weekday_of b.1 b.2.1
    have w2 := Civ.weekday_of b'.1 b'.2.1
    obtain ⟨n, hn⟩ : ∃ n : Int, n = Civ.day y m d := ⟨_, rfl⟩
    rw [← hn] at b b' c4 w1 w2
    have w3 : Civ.weekday (n + 146097) = Civ.weekday n := by rw [w1, w2]; omega
    have n1 := b.1
    have n2 := b.2.1
    have hn' : Civ.day y m d = n := hn.symm
    clear b b' c1 c5 w1 w2 hn
    go_enter Tryd.func6, Tryd.ntmps6
    go_wp2_with (first | (go_at_call 11; refine (day_any _ _ _ _ HT.out).mono ?_; rintro e w' ⟨rfl, rfl⟩) | (go_at_call 22; refine (weekday_any _ _).mono ?_; rintro e w' ⟨rfl, rfl⟩))
    go_loop [12, 13] (fun s i => ∃ k : Int, 1 ≤ k ∧ k ≤ 13 ∧ i = .int .i64 k ∧ s = .int .i64 (Civ.til y k)) (fun _ i => (13 - intOf i).toNat)
    case atStart => exact ⟨1, by omega, by omega, rfl, by rw [Civ.til_first]⟩
    case round =>
      obtain ⟨k, k1, k2, rfl, rfl⟩ := hrel
      have b3 := Civ.til_bd y k
      have b4 := Civ.len_bd y k
      by_cases hlt : k < 13
      · have hs := Lib.hid (Civ.til_succ (y := y) (m := k) ((Civ.isYear_iff y).2 ⟨y1, by omega⟩) (by omega) (by omega))
        go_wp2_with (first | (go_at_call 17; refine (len_any _ _ _ HT.out).mono ?_; rintro e w' ⟨rfl, rfl⟩))
        go_round
        case rel => exact ⟨k + 1, by omega, by omega, rfl, by rw [hs.out]⟩
        case measure => simp [intOf]; omega
      · obtain rfl : k = 13 := by omega
        have l1 := L1.out
        have l2 := L2.out
        have l3 := L3.out
        have l45 := L45.out
        go_wp2_with (first | (go_at_call 11; refine (day_any _ _ _ _ HT.out).mono ?_; rintro e w' ⟨rfl, rfl⟩) | (go_at_call 15; refine (days_any _ _).mono ?_; rintro e w' ⟨rfl, rfl⟩) | (go_at_call 24; refine (place_any _ _).mono ?_; rintro e w' ⟨rfl, rfl⟩) | (go_at_call 19; refine (awake_any _ HT.out).mono ?_; rintro e w' ⟨rfl, rfl⟩))
        go_ret
        exact ⟨rfl, by go_grown⟩
  · have c2 : Civ.dayE y m d = 8 := by unfold Civ.dayE; rw [if_pos (by omega)]
    have c3 : Civ.dayE (y + 400) m d = 8 := by unfold Civ.dayE; rw [Civ.len_cycle m y1 y2, if_pos (by omega)]
    go_enter Tryd.func6, Tryd.ntmps6
    go_wp2_with (first | (go_at_call 11; refine (day_any _ _ _ _ HT.out).mono ?_; rintro e w' ⟨rfl, rfl⟩))
    go_loop [12, 13] (fun s i => ∃ k : Int, 1 ≤ k ∧ k ≤ 13 ∧ i = .int .i64 k ∧ s = .int .i64 (Civ.til y k)) (fun _ i => (13 - intOf i).toNat)
    case atStart => exact ⟨1, by omega, by omega, rfl, by rw [Civ.til_first]⟩
    case round =>
      obtain ⟨k, k1, k2, rfl, rfl⟩ := hrel
      have b3 := Civ.til_bd y k
      have b4 := Civ.len_bd y k
      by_cases hlt : k < 13
      · have hs := Lib.hid (Civ.til_succ (y := y) (m := k) ((Civ.isYear_iff y).2 ⟨y1, by omega⟩) (by omega) (by omega))
        go_wp2_with (first | (go_at_call 17; refine (len_any _ _ _ HT.out).mono ?_; rintro e w' ⟨rfl, rfl⟩))
        go_round
        case rel => exact ⟨k + 1, by omega, by omega, rfl, by rw [hs.out]⟩
        case measure => simp [intOf]; omega
      · obtain rfl : k = 13 := by omega
        have l1 := L1.out
        have l2 := L2.out
        have l3 := L3.out
        have l45 := L45.out
        go_wp2_with (first | (go_at_call 11; refine (day_any _ _ _ _ HT.out).mono ?_; rintro e w' ⟨rfl, rfl⟩) | (go_at_call 15; refine (days_any _ _).mono ?_; rintro e w' ⟨rfl, rfl⟩) | (go_at_call 24; refine (place_any _ _).mono ?_; rintro e w' ⟨rfl, rfl⟩) | (go_at_call 19; refine (awake_any _ HT.out).mono ?_; rintro e w' ⟨rfl, rfl⟩))
        go_ret
        exact ⟨rfl, by go_grown⟩
end Go.Proofs.YtlkndpoffbmhaaaDoor.Cl

/- The walks of the laws of chapter 9: by the contracts, each law answers true. -/
import Derived.Test.YtlkndpoffbmhaaaDoorCr
namespace Go.Proofs.YtlkndpoffbmhaaaDoor.Cl
open Go.RowKit Cw
set_option maxHeartbeats 1000000 in
theorem awake_any (w : World) (hT : Tab w) : Calls Tryd.prog 19 #[] w fun e w' => e = .returned (.bool true) ∧ w = w' := by
  have HT := Lib.hid hT
  clear hT
  have e1 : Civ.day 1970 1 1 = 719162 := by decide
  have e2 : Civ.dayE 1970 1 1 = 0 := by decide
  have e3 : Civ.dateY 3652058 = 9999 := by decide
  have e4 : Civ.dateM 3652058 = 12 := by decide
  have e5 : Civ.dateD 3652058 = 31 := by decide
  have e6 : Civ.dateE 3652058 = 0 := by decide
  have e7 : Civ.dayE 1900 2 29 = 8 := by decide
  have e8 : Civ.dateE (-1) = 8 := by decide
  have e9 : Civ.weekday 719162 = 3 := by decide
  have e10 : Civ.leap 2000 = true := by decide
  have e11 : Civ.leap 1900 = false := by decide
  have e12 : Civ.days 2024 = 366 := by decide
  have e13 : Civ.len 2023 2 = 28 := by decide
  have e14 : Civ.place 719162 = 1 := by decide
  go_enter Tryd.func19, Tryd.ntmps19
  go_wp2_with (first | (go_at_call 11; refine (day_any _ _ _ _ HT.out).mono ?_; rintro e w' ⟨rfl, rfl⟩) | (go_at_call 20; refine (date_any _ _ HT.out).mono ?_; rintro e w' ⟨rfl, rfl⟩) | (go_at_call 22; refine (weekday_any _ _).mono ?_; rintro e w' ⟨rfl, rfl⟩) | (go_at_call 13; refine (leap_any _ _).mono ?_; rintro e w' ⟨rfl, rfl⟩) | (go_at_call 15; refine (days_any _ _).mono ?_; rintro e w' ⟨rfl, rfl⟩) | (go_at_call 17; refine (len_any _ _ _ HT.out).mono ?_; rintro e w' ⟨rfl, rfl⟩) | (go_at_call 24; refine (place_any _ _).mono ?_; rintro e w' ⟨rfl, rfl⟩))
  go_ret
  exact ⟨rfl, rfl⟩
set_option maxHeartbeats 1000000 in
theorem civilDates_any (y m d : Int) (w : World) (hT : Tab w) : Calls Tryd.prog 3 #[.int .i64 y, .int .i64 m, .int .i64 d] w fun e w' => e = .returned (.bool true) ∧ w = w' := by
  have HT := Lib.hid hT
  clear hT
  go_enter Tryd.func3, Tryd.ntmps3
  go_wp2_with (first | (go_at_call 11; refine (day_any _ _ _ _ HT.out).mono ?_; rintro e w' ⟨rfl, rfl⟩) | (go_at_call 12; refine (rDay_any _ _ _ _).mono ?_; rintro e w' ⟨rfl, rfl⟩) | (go_at_call 13; refine (leap_any _ _).mono ?_; rintro e w' ⟨rfl, rfl⟩) | (go_at_call 14; refine (rLeap_any _ _).mono ?_; rintro e w' ⟨rfl, rfl⟩) | (go_at_call 15; refine (days_any _ _).mono ?_; rintro e w' ⟨rfl, rfl⟩) | (go_at_call 16; refine (rDays_any _ _).mono ?_; rintro e w' ⟨rfl, rfl⟩) | (go_at_call 17; refine (len_any _ _ _ HT.out).mono ?_; rintro e w' ⟨rfl, rfl⟩) | (go_at_call 18; refine (rLen_any _ _ _).mono ?_; rintro e w' ⟨rfl, rfl⟩) | (go_at_call 19; refine (awake_any _ HT.out).mono ?_; rintro e w' ⟨rfl, rfl⟩))
  go_ret
  exact ⟨rfl, rfl⟩
set_option maxHeartbeats 1000000 in
theorem civilDays_any (n : Int) (w : World) (hT : Tab w) : Calls Tryd.prog 4 #[.int .i64 n] w fun e w' => e = .returned (.bool true) ∧ w = w' := by
  have HT := Lib.hid hT
  clear hT
  go_enter Tryd.func4, Tryd.ntmps4
  go_wp2_with (first | (go_at_call 20; refine (date_any _ _ HT.out).mono ?_; rintro e w' ⟨rfl, rfl⟩) | (go_at_call 21; refine (rDate_any _ _).mono ?_; rintro e w' ⟨rfl, rfl⟩) | (go_at_call 22; refine (weekday_any _ _).mono ?_; rintro e w' ⟨rfl, rfl⟩) | (go_at_call 23; refine (rWeekday_any _ _).mono ?_; rintro e w' ⟨rfl, rfl⟩) | (go_at_call 24; refine (place_any _ _).mono ?_; rintro e w' ⟨rfl, rfl⟩) | (go_at_call 25; refine (rPlace_any _ _).mono ?_; rintro e w' ⟨rfl, rfl⟩) | (go_at_call 19; refine (awake_any _ HT.out).mono ?_; rintro e w' ⟨rfl, rfl⟩))
  go_ret
  exact ⟨rfl, rfl⟩
end Go.Proofs.YtlkndpoffbmhaaaDoor.Cl
namespace Go.Proofs.YtlkndpoffbmhaaaDoor
open Go.RowKit
theorem below_of {P : Program} {f : FuncId} {args : Array Value} {w : World} {v : Value} (h : Calls P f args w fun e w' => e = .returned v ∧ w = w') : Calls P f args w fun e w' => e = .returned v ∧ Below w.heap.size w w' :=
  h.mono fun _ _ ⟨he, hw⟩ => ⟨he, hw ▸ Below.refl _ _⟩
end Go.Proofs.YtlkndpoffbmhaaaDoor

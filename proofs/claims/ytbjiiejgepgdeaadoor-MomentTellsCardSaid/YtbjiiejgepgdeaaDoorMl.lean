/- The walks through errandref11's Print, a theorem a kind (printed by gen_rprint.py). -/
import Derived.Test.YtbjiiejgepgdeaaDoorMk
import Derived.Test.YtbjiiejgepgdeaaDoorCr
namespace Go.Proofs.YtbjiiejgepgdeaaDoor.Ma
open Go.RowKit Mo Ut Cw
theorem wide_c {n wd : Int} {w : World} (k : Nat) (hk : wd = k) (h0 : 0 ≤ n) (h1 : n ≤ 9999) (hw : k ≤ 4) : Calls Tryd.prog 29 #[.int .i64 n, .int .i64 wd] w fun e w' => e = .returned (.string (str (wid k n))) ∧ Below w.heap.size w w' := by
  subst hk; exact wide_any n k h0 h1 hw w
theorem Below.lt {g : Nat} {a b : World} (h : Below a.heap.size a b) (hg : g < a.heap.size) : g < b.heap.size := Nat.lt_of_lt_of_le hg h.size
set_option maxHeartbeats 2000000 in
set_option maxRecDepth 100000 in
theorem rpr1 (s y m d : Int) (w : World) (FC : Hid (∀ w, Calls Tryd.prog 17 #[.agg #[.int .u8 1, .int .i64 s]] w fun e w' => e = .returned (.int .i64 0) ∧ Below w.heap.size w w'))
    (FD : Hid (∀ w, Calls Tryd.prog 28 #[.int .i64 (s / 86400)] w fun e w' => e = .returned (.tuple #[.int .i64 y, .int .i64 m, .int .i64 d, .int .i64 0]) ∧ w = w'))
    (s0 : 0 ≤ s) (s1 : s ≤ 315537897599) (y0 : 0 ≤ y) (y1 : y ≤ 9999) (m0 : 0 ≤ m) (m1 : m ≤ 99) (d0 : 0 ≤ d) (d1 : d ≤ 99) :
    Calls Tryd.prog 11 #[val 1 s] w fun e w' => e = .returned (.tuple #[.string (str (wid 4 y ++ wid 2 m ++ wid 2 d)), .int .i64 0]) ∧ Below w.heap.size w w' := by
  have sz : ∀ k n, (str (wid k n)).size = k := fun k n => by rw [str_size, wid_len]
  have sT : (ByteArray.mk #[84]).size = 1 := rfl
  have sZ : (ByteArray.mk #[90]).size = 1 := rfl
  have hx := Lib.hid (show str (wid 4 y) ++ str (wid 2 m) ++ str (wid 2 d) = str (wid 4 y ++ wid 2 m ++ wid 2 d) by
    simp only [str_add])
  unfold val
  go_enter Tryd.func11, Tryd.ntmps11
  go_wp2_with (first
    | (go_at_call 29; have := go5; refine (wide_c 2 rfl (by omega) (by omega) (by decide)).mono ?_; rintro e w6 ⟨rfl, hB6⟩; clear go5; have go6 := Lib.hid True.intro; have hlt6 := Below.lt hB6 hlt5; have c0 := later hB6 hlt5 c0; have c1 := later hB6 hlt5 c1)
    | (go_at_call 29; have := go4; refine (wide_c 2 rfl (by omega) (by omega) (by decide)).mono ?_; rintro e w5 ⟨rfl, hB5⟩; clear go4; have go5 := Lib.hid True.intro; have hlt5 := Below.lt hB5 hlt4; have c0 := later hB5 hlt4 c0; have c1 := later hB5 hlt4 c1)
    | (go_at_call 29; have := go3; refine (wide_c 4 rfl (by omega) (by omega) (by decide)).mono ?_; rintro e w4 ⟨rfl, hB4⟩; clear go3; have go4 := Lib.hid True.intro; have hlt4 := Below.lt hB4 hlt1; have c0 := later hB4 hlt1 c0; have c1 := later hB4 hlt1 c1)
    | (go_at_call 28; refine (FD.out _).mono ?_; rintro e w' ⟨rfl, rfl⟩; clear FD; have go3 := Lib.hid True.intro)
    | (go_at_call 17; refine (FC.out _).mono ?_; rintro e w1 ⟨rfl, hB1⟩; obtain ⟨hlt1, c0, c1⟩ := boxed hB1; clear FC))
  go_ret2
  exact ⟨Eq.trans (congrArg (fun x : ByteArray => Ending.returned (.tuple #[.string x, .int .i64 0])) hx.out) (by simp), Below.next (Below.next (Below.next (head hB1) hB4) hB5) hB6⟩
set_option maxHeartbeats 2000000 in
set_option maxRecDepth 100000 in
theorem rpr2 (s y m d : Int) (w : World) (FC : Hid (∀ w, Calls Tryd.prog 17 #[.agg #[.int .u8 2, .int .i64 s]] w fun e w' => e = .returned (.int .i64 0) ∧ Below w.heap.size w w'))
    (FD : Hid (∀ w, Calls Tryd.prog 28 #[.int .i64 (s / 86400)] w fun e w' => e = .returned (.tuple #[.int .i64 y, .int .i64 m, .int .i64 d, .int .i64 0]) ∧ w = w'))
    (s0 : 0 ≤ s) (s1 : s ≤ 315537897599) (y0 : 0 ≤ y) (y1 : y ≤ 9999) (m0 : 0 ≤ m) (m1 : m ≤ 99) (d0 : 0 ≤ d) (d1 : d ≤ 99) :
    Calls Tryd.prog 11 #[val 2 s] w fun e w' => e = .returned (.tuple #[.string (str (wid 4 y ++ wid 2 m ++ wid 2 d ++ ([84] ++ wid 2 (s % 86400 / 3600) ++ wid 2 (s % 86400 / 60 % 60) ++ wid 2 (s % 60)))), .int .i64 0]) ∧ Below w.heap.size w w' := by
  have sz : ∀ k n, (str (wid k n)).size = k := fun k n => by rw [str_size, wid_len]
  have sT : (ByteArray.mk #[84]).size = 1 := rfl
  have sZ : (ByteArray.mk #[90]).size = 1 := rfl
  have hx := Lib.hid (show str (wid 4 y) ++ str (wid 2 m) ++ str (wid 2 d) ++ (ByteArray.mk #[84] ++ str (wid 2 (s % 86400 / 3600)) ++ str (wid 2 (s % 86400 / 60 % 60)) ++ str (wid 2 (s % 60))) = str (wid 4 y ++ wid 2 m ++ wid 2 d ++ ([84] ++ wid 2 (s % 86400 / 3600) ++ wid 2 (s % 86400 / 60 % 60) ++ wid 2 (s % 60))) by
    rw [show ByteArray.mk #[84] = str [84] from rfl]; simp only [str_add])
  unfold val
  go_enter Tryd.func11, Tryd.ntmps11
  go_wp2_with (first
    | (go_at_call 29; have := go8; refine (wide_c 2 rfl (by omega) (by omega) (by decide)).mono ?_; rintro e w9 ⟨rfl, hB9⟩; clear go8; have go9 := Lib.hid True.intro; have hlt9 := Below.lt hB9 hlt8; have c0 := later hB9 hlt8 c0; have c1 := later hB9 hlt8 c1)
    | (go_at_call 29; have := go7; refine (wide_c 2 rfl (by omega) (by omega) (by decide)).mono ?_; rintro e w8 ⟨rfl, hB8⟩; clear go7; have go8 := Lib.hid True.intro; have hlt8 := Below.lt hB8 hlt7; have c0 := later hB8 hlt7 c0; have c1 := later hB8 hlt7 c1)
    | (go_at_call 29; have := go6; refine (wide_c 2 rfl (by omega) (by omega) (by decide)).mono ?_; rintro e w7 ⟨rfl, hB7⟩; clear go6; have go7 := Lib.hid True.intro; have hlt7 := Below.lt hB7 hlt6; have c0 := later hB7 hlt6 c0; have c1 := later hB7 hlt6 c1)
    | (go_at_call 29; have := go5; refine (wide_c 2 rfl (by omega) (by omega) (by decide)).mono ?_; rintro e w6 ⟨rfl, hB6⟩; clear go5; have go6 := Lib.hid True.intro; have hlt6 := Below.lt hB6 hlt5; have c0 := later hB6 hlt5 c0; have c1 := later hB6 hlt5 c1)
    | (go_at_call 29; have := go4; refine (wide_c 2 rfl (by omega) (by omega) (by decide)).mono ?_; rintro e w5 ⟨rfl, hB5⟩; clear go4; have go5 := Lib.hid True.intro; have hlt5 := Below.lt hB5 hlt4; have c0 := later hB5 hlt4 c0; have c1 := later hB5 hlt4 c1)
    | (go_at_call 29; have := go3; refine (wide_c 4 rfl (by omega) (by omega) (by decide)).mono ?_; rintro e w4 ⟨rfl, hB4⟩; clear go3; have go4 := Lib.hid True.intro; have hlt4 := Below.lt hB4 hlt1; have c0 := later hB4 hlt1 c0; have c1 := later hB4 hlt1 c1)
    | (go_at_call 28; refine (FD.out _).mono ?_; rintro e w' ⟨rfl, rfl⟩; clear FD; have go3 := Lib.hid True.intro)
    | (go_at_call 17; refine (FC.out _).mono ?_; rintro e w1 ⟨rfl, hB1⟩; obtain ⟨hlt1, c0, c1⟩ := boxed hB1; clear FC))
  go_ret2
  exact ⟨Eq.trans (congrArg (fun x : ByteArray => Ending.returned (.tuple #[.string x, .int .i64 0])) hx.out) (by simp), Below.next (Below.next (Below.next (Below.next (Below.next (Below.next (head hB1) hB4) hB5) hB6) hB7) hB8) hB9⟩
set_option maxHeartbeats 2000000 in
set_option maxRecDepth 100000 in
theorem rpr3 (s y m d : Int) (w : World) (FC : Hid (∀ w, Calls Tryd.prog 17 #[.agg #[.int .u8 3, .int .i64 s]] w fun e w' => e = .returned (.int .i64 0) ∧ Below w.heap.size w w'))
    (FD : Hid (∀ w, Calls Tryd.prog 28 #[.int .i64 (s / 86400)] w fun e w' => e = .returned (.tuple #[.int .i64 y, .int .i64 m, .int .i64 d, .int .i64 0]) ∧ w = w'))
    (s0 : 0 ≤ s) (s1 : s ≤ 315537897599) (y0 : 0 ≤ y) (y1 : y ≤ 9999) (m0 : 0 ≤ m) (m1 : m ≤ 99) (d0 : 0 ≤ d) (d1 : d ≤ 99) :
    Calls Tryd.prog 11 #[val 3 s] w fun e w' => e = .returned (.tuple #[.string (str (wid 4 y ++ wid 2 m ++ wid 2 d ++ ([84] ++ wid 2 (s % 86400 / 3600) ++ wid 2 (s % 86400 / 60 % 60) ++ wid 2 (s % 60)) ++ [90])), .int .i64 0]) ∧ Below w.heap.size w w' := by
  have sz : ∀ k n, (str (wid k n)).size = k := fun k n => by rw [str_size, wid_len]
  have sT : (ByteArray.mk #[84]).size = 1 := rfl
  have sZ : (ByteArray.mk #[90]).size = 1 := rfl
  have hx := Lib.hid (show str (wid 4 y) ++ str (wid 2 m) ++ str (wid 2 d) ++ (ByteArray.mk #[84] ++ str (wid 2 (s % 86400 / 3600)) ++ str (wid 2 (s % 86400 / 60 % 60)) ++ str (wid 2 (s % 60))) ++ ByteArray.mk #[90] = str (wid 4 y ++ wid 2 m ++ wid 2 d ++ ([84] ++ wid 2 (s % 86400 / 3600) ++ wid 2 (s % 86400 / 60 % 60) ++ wid 2 (s % 60)) ++ [90]) by
    rw [show ByteArray.mk #[84] = str [84] from rfl, show ByteArray.mk #[90] = str [90] from rfl]; simp only [str_add])
  unfold val
  go_enter Tryd.func11, Tryd.ntmps11
  go_wp2_with (first
    | (go_at_call 29; have := go8; refine (wide_c 2 rfl (by omega) (by omega) (by decide)).mono ?_; rintro e w9 ⟨rfl, hB9⟩; clear go8; have go9 := Lib.hid True.intro; have hlt9 := Below.lt hB9 hlt8; have c0 := later hB9 hlt8 c0; have c1 := later hB9 hlt8 c1)
    | (go_at_call 29; have := go7; refine (wide_c 2 rfl (by omega) (by omega) (by decide)).mono ?_; rintro e w8 ⟨rfl, hB8⟩; clear go7; have go8 := Lib.hid True.intro; have hlt8 := Below.lt hB8 hlt7; have c0 := later hB8 hlt7 c0; have c1 := later hB8 hlt7 c1)
    | (go_at_call 29; have := go6; refine (wide_c 2 rfl (by omega) (by omega) (by decide)).mono ?_; rintro e w7 ⟨rfl, hB7⟩; clear go6; have go7 := Lib.hid True.intro; have hlt7 := Below.lt hB7 hlt6; have c0 := later hB7 hlt6 c0; have c1 := later hB7 hlt6 c1)
    | (go_at_call 29; have := go5; refine (wide_c 2 rfl (by omega) (by omega) (by decide)).mono ?_; rintro e w6 ⟨rfl, hB6⟩; clear go5; have go6 := Lib.hid True.intro; have hlt6 := Below.lt hB6 hlt5; have c0 := later hB6 hlt5 c0; have c1 := later hB6 hlt5 c1)
    | (go_at_call 29; have := go4; refine (wide_c 2 rfl (by omega) (by omega) (by decide)).mono ?_; rintro e w5 ⟨rfl, hB5⟩; clear go4; have go5 := Lib.hid True.intro; have hlt5 := Below.lt hB5 hlt4; have c0 := later hB5 hlt4 c0; have c1 := later hB5 hlt4 c1)
    | (go_at_call 29; have := go3; refine (wide_c 4 rfl (by omega) (by omega) (by decide)).mono ?_; rintro e w4 ⟨rfl, hB4⟩; clear go3; have go4 := Lib.hid True.intro; have hlt4 := Below.lt hB4 hlt1; have c0 := later hB4 hlt1 c0; have c1 := later hB4 hlt1 c1)
    | (go_at_call 28; refine (FD.out _).mono ?_; rintro e w' ⟨rfl, rfl⟩; clear FD; have go3 := Lib.hid True.intro)
    | (go_at_call 17; refine (FC.out _).mono ?_; rintro e w1 ⟨rfl, hB1⟩; obtain ⟨hlt1, c0, c1⟩ := boxed hB1; clear FC))
  go_ret2
  exact ⟨Eq.trans (congrArg (fun x : ByteArray => Ending.returned (.tuple #[.string x, .int .i64 0])) hx.out) (by simp), Below.next (Below.next (Below.next (Below.next (Below.next (Below.next (head hB1) hB4) hB5) hB6) hB7) hB8) hB9⟩
theorem rprE (k s c : Int) (w : World) (hc : (c != 0) = true) (FC : Hid (∀ w, Calls Tryd.prog 17 #[.agg #[.int .u8 k, .int .i64 s]] w fun e w' => e = .returned (.int .i64 c) ∧ Below w.heap.size w w')) :
    Calls Tryd.prog 11 #[val k s] w fun e w' => e = .returned (.tuple #[.string (str []), .int .i64 c]) ∧ Below w.heap.size w w' := by
  unfold val
  go_enter Tryd.func11, Tryd.ntmps11
  go_wp2_with (first | (go_at_call 17; refine (FC.out _).mono ?_; rintro e w1 ⟨rfl, hB1⟩))
  go_ret2
  exact ⟨rfl, head hB1⟩
end Go.Proofs.YtbjiiejgepgdeaaDoor.Ma

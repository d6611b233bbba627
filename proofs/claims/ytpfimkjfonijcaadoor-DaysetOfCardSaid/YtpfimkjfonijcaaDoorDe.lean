/- The walk through dayset's about, of a day. -/
import Derived.Test.YtpfimkjfonijcaaDoorDd
import Derived.StillTailTactics
import Derived.IntWalk
namespace Go.Proofs.YtpfimkjfonijcaaDoor.Da
open Go.RowKit Ru Ut Cw Ra
theorem which_still (a : Int) (h0 : 0 ≤ a) (h1 : a ≤ 1000000) (W : World) : Calls Tryd.prog 40 #[.int .i64 a] W fun e w' => e = .returned (.int .i64 (Dy.which a)) ∧ w' = W :=
  (which_any a h0 h1 W).mono fun _ _ ⟨h, h'⟩ => ⟨h, h'.symm⟩
theorem which_bd {a : Int} (h0 : 0 ≤ a) (h1 : a ≤ 1000000) : 1 ≤ Dy.which a ∧ Dy.which a ≤ 1000000 := by unfold Dy.which; omega
set_option maxHeartbeats 2000000 in
set_option maxRecDepth 100000 in
theorem about_yes (n y m d wd L Y p : Int) (w : World) (hT : Tab w) (FD : Hid (∀ w, Tab w → Calls Tryd.prog 17 #[.int .i64 n] w fun e w' => e = .returned (.tuple #[.int .i64 y, .int .i64 m, .int .i64 d, .int .i64 0]) ∧ w = w'))
    (FW : Hid (∀ w, Calls Tryd.prog 21 #[.int .i64 n] w fun e w' => e = .returned (.int .i64 wd) ∧ w = w')) (FL : Hid (∀ w, Tab w → Calls Tryd.prog 18 #[.int .i64 y, .int .i64 m] w fun e w' => e = .returned (.int .i64 L) ∧ w = w'))
    (FY : Hid (∀ w, Calls Tryd.prog 19 #[.int .i64 y] w fun e w' => e = .returned (.int .i64 Y) ∧ w = w')) (FP : Hid (∀ w, Calls Tryd.prog 39 #[.int .i64 n] w fun e w' => e = .returned (.int .i64 p) ∧ w = w'))
    (d0 : 1 ≤ d) (d1 : d ≤ L) (L1 : L ≤ 31) (p0 : 1 ≤ p) (p1 : p ≤ Y) (Y1 : Y ≤ 366) :
    Calls Tryd.prog 22 #[.int .i64 n] w fun e w' => e = .returned (.tuple #[factsV ⟨n, m, d, wd, L, Y, p, Dy.which (d - 1), -Dy.which (L - d), Dy.which (p - 1), -Dy.which (Y - p)⟩, .bool true]) ∧ Below w.heap.size w w' := by
  have HT := Lib.hid hT
  clear hT
  go_enter Tryd.func22, Tryd.ntmps22
  go_wp2_with (first
    | (go_at_call 17; refine (FD.out _ (HT.out.later (by (repeat' (first | assumption | exact Below.refl _ _ | apply Below.next_alloc | apply Below.drew | (apply Below.next; rotate_left; assumption)))))).mono ?_; rintro e w' ⟨rfl, rfl⟩)
    | (go_at_call 21; refine (FW.out _).mono ?_; rintro e w' ⟨rfl, rfl⟩)
    | (go_at_call 18; refine (FL.out _ (HT.out.later (by (repeat' (first | assumption | exact Below.refl _ _ | apply Below.next_alloc | apply Below.drew | (apply Below.next; rotate_left; assumption)))))).mono ?_; rintro e w' ⟨rfl, rfl⟩)
    | (go_at_call 19; refine (FY.out _).mono ?_; rintro e w' ⟨rfl, rfl⟩)
    | (go_at_call 39; refine (FP.out _).mono ?_; rintro e w' ⟨rfl, rfl⟩))
  refine wp_region_still_tail 24 (by kernel_rfl) (by kernel_rfl) ?_
  simp only [List.take_succ_cons, List.take_zero, List.drop_succ_cons, List.drop_zero]
  change wpStill _ _ (World.drew _) (fun a' => wpList _ _ _ _ a' (World.drew _)) _ _
  generalize hW : World.drew _ = W
  have c2 : W.cell? ⟨w.heap.size + 1, 2, none⟩ = some (.int .i64 d) := by rw [← hW]; clear hW; go_simp
  have c4 : W.cell? ⟨w.heap.size + 1, 4, none⟩ = some (.int .i64 L) := by rw [← hW]; clear hW; go_simp
  have c5 : W.cell? ⟨w.heap.size + 1, 5, none⟩ = some (.int .i64 Y) := by rw [← hW]; clear hW; go_simp
  have c6 : W.cell? ⟨w.heap.size + 1, 6, none⟩ = some (.int .i64 p) := by rw [← hW]; clear hW; go_simp
  have HW := Lib.hid hW
  clear hW
  have b1 := which_bd (a := d - 1) (by omega) (by omega)
  have b2 := which_bd (a := L - d) (by omega) (by omega)
  have b3 := which_bd (a := p - 1) (by omega) (by omega)
  have b4 := which_bd (a := Y - p) (by omega) (by omega)
  have K1 := which_still (d - 1) (by omega) (by omega) W
  have K2 := which_still (L - d) (by omega) (by omega) W
  have K3 := which_still (p - 1) (by omega) (by omega) W
  have K4 := which_still (Y - p) (by omega) (by omega) W
  have K1 := Lib.hid K1
  have K2 := Lib.hid K2
  have K3 := Lib.hid K3
  have K4 := Lib.hid K4
  have e1 := IntWalk.i64_in (d - 1) (by omega)
  have e2 := IntWalk.i64_in (L - d) (by omega)
  have e3 := IntWalk.i64_in (p - 1) (by omega)
  have e4 := IntWalk.i64_in (Y - p) (by omega)
  have e5 := IntWalk.i64_in (-Dy.which (L - d)) (by omega)
  have e6 := IntWalk.i64_in (-Dy.which (Y - p)) (by omega)
  repeat still_step
  still_call K1.out
  repeat still_step
  still_call K2.out
  repeat still_step
  still_call K3.out
  repeat still_step
  still_call K4.out
  repeat still_step
  refine wpStill_nil ?_
  obtain rfl := HW.out
  clear c2 c4 c5 c6 e1 e2 e3 e4 e5 e6 K1 K2 K3 K4 HW b1 b2 b3 b4
  go_wp2
  unfold factsV factsC
  exact bodyPost_ret (v := .tuple #[.agg #[.int .i64 n, .int .i64 m, .int .i64 d, .int .i64 wd, .int .i64 L, .int .i64 Y, .int .i64 p, .int .i64 (Dy.which (d - 1)), .int .i64 (-Dy.which (L - d)), .int .i64 (Dy.which (p - 1)), .int .i64 (-Dy.which (Y - p))], .bool true]) (by simp [results, Tryd.results22, go_sem]) rfl ⟨rfl, by (repeat' (first | assumption | exact Below.refl _ _ | apply Below.next_alloc | apply Below.drew | (apply Below.next; rotate_left; assumption)))⟩
theorem about_any (n : Int) (w : World) (hT : Tab w) : Calls Tryd.prog 22 #[.int .i64 n] w fun e w' => e = .returned (.tuple #[factsV (Dy.about n), .bool (Civ.isDay n)]) ∧ Below w.heap.size w w' := by
  cases h : Civ.isDay n
  · have := about_no n w hT h
    rwa [h] at this
  · have hh := (Civ.isDay_iff n).1 h
    obtain ⟨a1, a2, b1, b2, c1, c2, e⟩ := Civ.date_spec hh.1 hh.2
    have hE := Civ.dateE_of hh.1 hh.2
    have hi := Dy.about_in h
    have hb := Dy.about_bd n
    have ha : Dy.about n = ⟨n, Civ.dateM n, Civ.dateD n, Civ.weekday n, Civ.len (Civ.dateY n) (Civ.dateM n), Civ.days (Civ.dateY n), Civ.place n, Dy.which (Civ.dateD n - 1), -Dy.which (Civ.len (Civ.dateY n) (Civ.dateM n) - Civ.dateD n), Dy.which (Civ.place n - 1), -Dy.which (Civ.days (Civ.dateY n) - Civ.place n)⟩ := by
      unfold Dy.about; rw [if_pos h]
    rw [ha] at hi hb ⊢
    simp only at hi hb
    have FD : ∀ w, Tab w → Calls Tryd.prog 17 #[.int .i64 n] w fun e w' => e = .returned (.tuple #[.int .i64 (Civ.dateY n), .int .i64 (Civ.dateM n), .int .i64 (Civ.dateD n), .int .i64 0]) ∧ w = w' := fun w hT => by have := date_any n w hT; rwa [hE] at this
    exact about_yes n _ _ _ _ _ _ _ w hT (Lib.hid FD) (Lib.hid (weekday_any n)) (Lib.hid (len_any _ _)) (Lib.hid (days_any _)) (Lib.hid (place_any n)) hi.2.1 hi.1 (by omega) hi.2.2.1 hi.2.2.2 (by omega)
end Go.Proofs.YtpfimkjfonijcaaDoor.Da

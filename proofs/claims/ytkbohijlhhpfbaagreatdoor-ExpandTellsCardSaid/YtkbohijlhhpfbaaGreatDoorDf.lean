import Derived.Test.YtkbohijlhhpfbaaGreatDoorDc
import Derived.Deep.RegionWith
import Derived.StillTailTactics
import Derived.IntWalk
/- The walk through dayset's about. -/
namespace Go.Proofs.YtkbohijlhhpfbaaGreatDoor.Da
open Go.RowKit Ru Ut Cw Ra
def factsC (f : Dy.F) : Array Value := #[.int .i64 f.day, .int .i64 f.month, .int .i64 f.date, .int .i64 f.weekday, .int .i64 f.inMonth, .int .i64 f.inYear, .int .i64 f.place, .int .i64 f.n0, .int .i64 f.n1, .int .i64 f.n2, .int .i64 f.n3]
def factsV (f : Dy.F) : Value := .agg (factsC f)
theorem ret_vb {a b : Value} {c d : Bool} (h : a = b) (h' : c = d) : Ending.returned (.tuple #[a, .bool c]) = .returned (.tuple #[b, .bool d]) := by rw [h, h']
set_option maxHeartbeats 2000000 in
set_option maxRecDepth 100000 in
theorem about_no (n : Int) (w : World) (hT : Tab w) (h : Civ.isDay n = false) : Calls Tryz.prog 110 #[.int .i64 n] w fun e w' => e = .returned (.tuple #[factsV (Dy.about n), .bool (Civ.isDay n)]) ∧ Below w.heap.size w w' := by
  have F := fun w hT => date_any n w hT
  have hE : Civ.dateE n = 8 := by unfold Civ.dateE; rw [if_neg (by rw [h]; decide)]
  rw [hE] at F
  have FH := Lib.hid F
  have HT := Lib.hid hT
  have ha := Lib.hid (show factsV (Dy.about n) = .agg #[.int .i64 0, .int .i64 0, .int .i64 0, .int .i64 0, .int .i64 0, .int .i64 0, .int .i64 0, .int .i64 0, .int .i64 0, .int .i64 0, .int .i64 0] by unfold Dy.about; rw [if_neg (by rw [h]; decide)]; rfl)
  have hn := Lib.hid h
  clear F hE hT h
  go_enter Tryz.func110, Tryz.ntmps110
  go_wp2_with (first | (go_at_call 100; refine (FH.out _ (HT.out.later (by (repeat' (first | assumption | exact Below.refl _ _ | apply Below.next_alloc | apply Below.drew | (apply Below.next; rotate_left; assumption)))))).mono ?_; rintro e w' ⟨rfl, rfl⟩))
  refine bodyPost_ret (v := .tuple #[.agg #[.int .i64 0, .int .i64 0, .int .i64 0, .int .i64 0, .int .i64 0, .int .i64 0, .int .i64 0, .int .i64 0, .int .i64 0, .int .i64 0, .int .i64 0], .bool false]) (by simp [results, Tryz.results110, go_sem]) rfl ?_
  exact ⟨ret_vb ha.out.symm hn.out.symm, by (repeat' (first | assumption | exact Below.refl _ _ | apply Below.next_alloc | apply Below.drew | (apply Below.next; rotate_left; assumption)))⟩
end Go.Proofs.YtkbohijlhhpfbaaGreatDoor.Da

/- The walk through dayset's about, of a day. -/
namespace Go.Proofs.YtkbohijlhhpfbaaGreatDoor.Da
open Go.RowKit Ru Ut Cw Ra
theorem which_still (a : Int) (h0 : 0 ≤ a) (h1 : a ≤ 1000000) (W : World) : Calls Tryz.prog 149 #[.int .i64 a] W fun e w' => e = .returned (.int .i64 (Dy.which a)) ∧ w' = W :=
  (which_any a h0 h1 W).mono fun _ _ ⟨h, h'⟩ => ⟨h, h'.symm⟩
theorem which_bd {a : Int} (h0 : 0 ≤ a) (h1 : a ≤ 1000000) : 1 ≤ Dy.which a ∧ Dy.which a ≤ 1000000 := by unfold Dy.which; omega
set_option maxHeartbeats 2000000 in
set_option maxRecDepth 100000 in
theorem about_yes (n y m d wd L Y p : Int) (w : World) (hT : Tab w) (FD : Hid (∀ w, Tab w → Calls Tryz.prog 100 #[.int .i64 n] w fun e w' => e = .returned (.tuple #[.int .i64 y, .int .i64 m, .int .i64 d, .int .i64 0]) ∧ w = w'))
    (FW : Hid (∀ w, Calls Tryz.prog 139 #[.int .i64 n] w fun e w' => e = .returned (.int .i64 wd) ∧ w = w')) (FL : Hid (∀ w, Tab w → Calls Tryz.prog 108 #[.int .i64 y, .int .i64 m] w fun e w' => e = .returned (.int .i64 L) ∧ w = w'))
    (FY : Hid (∀ w, Calls Tryz.prog 107 #[.int .i64 y] w fun e w' => e = .returned (.int .i64 Y) ∧ w = w')) (FP : Hid (∀ w, Calls Tryz.prog 148 #[.int .i64 n] w fun e w' => e = .returned (.int .i64 p) ∧ w = w'))
    (d0 : 1 ≤ d) (d1 : d ≤ L) (L1 : L ≤ 31) (p0 : 1 ≤ p) (p1 : p ≤ Y) (Y1 : Y ≤ 366) :
    Calls Tryz.prog 110 #[.int .i64 n] w fun e w' => e = .returned (.tuple #[factsV ⟨n, m, d, wd, L, Y, p, Dy.which (d - 1), -Dy.which (L - d), Dy.which (p - 1), -Dy.which (Y - p)⟩, .bool true]) ∧ Below w.heap.size w w' := by
  have HT := Lib.hid hT
  clear hT
  go_enter Tryz.func110, Tryz.ntmps110
  go_wp2_with (first
    | (go_at_call 100; refine (FD.out _ (HT.out.later (by (repeat' (first | assumption | exact Below.refl _ _ | apply Below.next_alloc | apply Below.drew | (apply Below.next; rotate_left; assumption)))))).mono ?_; rintro e w' ⟨rfl, rfl⟩)
    | (go_at_call 139; refine (FW.out _).mono ?_; rintro e w' ⟨rfl, rfl⟩)
    | (go_at_call 108; refine (FL.out _ (HT.out.later (by (repeat' (first | assumption | exact Below.refl _ _ | apply Below.next_alloc | apply Below.drew | (apply Below.next; rotate_left; assumption)))))).mono ?_; rintro e w' ⟨rfl, rfl⟩)
    | (go_at_call 107; refine (FY.out _).mono ?_; rintro e w' ⟨rfl, rfl⟩)
    | (go_at_call 148; refine (FP.out _).mono ?_; rintro e w' ⟨rfl, rfl⟩))
  refine wp_region_still_tail 24 (by kernel_rfl) (by kernel_rfl) ?_
  simp only [List.take_succ_cons, List.take_zero, List.drop_succ_cons, List.drop_zero]
  change wpStill _ _ (World.drew _) (fun a' => wpList _ _ _ _ a' (World.drew _)) _ _
  generalize hW : World.drew _ = W
  have c2 : W.cell? ⟨w.heap.size + 1, 2, none⟩ = some (.int .i64 d) := by rw [← hW]; clear hW; go_simp
  have c4 : W.cell? ⟨w.heap.size + 1, 4, none⟩ = some (.int .i64 L) := by rw [← hW]; clear hW; go_simp
  have c5 : W.cell? ⟨w.heap.size + 1, 5, none⟩ = some (.int .i64 Y) := by rw [← hW]; clear hW; go_simp
  have c6 : W.cell? ⟨w.heap.size + 1, 6, none⟩ = some (.int .i64 p) := by rw [← hW]; clear hW; go_simp
  have HW := Lib.hid hW
  clear hW
  have b1 := which_bd (a := d - 1) (by omega) (by omega)
  have b2 := which_bd (a := L - d) (by omega) (by omega)
  have b3 := which_bd (a := p - 1) (by omega) (by omega)
  have b4 := which_bd (a := Y - p) (by omega) (by omega)
  have K1 := which_still (d - 1) (by omega) (by omega) W
  have K2 := which_still (L - d) (by omega) (by omega) W
  have K3 := which_still (p - 1) (by omega) (by omega) W
  have K4 := which_still (Y - p) (by omega) (by omega) W
  have K1 := Lib.hid K1
  have K2 := Lib.hid K2
  have K3 := Lib.hid K3
  have K4 := Lib.hid K4
  have e1 := IntWalk.i64_in (d - 1) (by omega)
  have e2 := IntWalk.i64_in (L - d) (by omega)
  have e3 := IntWalk.i64_in (p - 1) (by omega)
  have e4 := IntWalk.i64_in (Y - p) (by omega)
  have e5 := IntWalk.i64_in (-Dy.which (L - d)) (by omega)
  have e6 := IntWalk.i64_in (-Dy.which (Y - p)) (by omega)
  repeat still_step
  still_call K1.out
  repeat still_step
  still_call K2.out
  repeat still_step
  still_call K3.out
  repeat still_step
  still_call K4.out
  repeat still_step
  refine wpStill_nil ?_
  obtain rfl := HW.out
  clear c2 c4 c5 c6 e1 e2 e3 e4 e5 e6 K1 K2 K3 K4 HW b1 b2 b3 b4
  go_wp2
  unfold factsV factsC
  exact bodyPost_ret (v := .tuple #[.agg #[.int .i64 n, .int .i64 m, .int .i64 d, .int .i64 wd, .int .i64 L, .int .i64 Y, .int .i64 p, .int .i64 (Dy.which (d - 1)), .int .i64 (-Dy.which (L - d)), .int .i64 (Dy.which (p - 1)), .int .i64 (-Dy.which (Y - p))], .bool true]) (by simp [results, Tryz.results110, go_sem]) rfl ⟨rfl, by (repeat' (first | assumption | exact Below.refl _ _ | apply Below.next_alloc | apply Below.drew | (apply Below.next; rotate_left; assumption)))⟩
theorem about_any (n : Int) (w : World) (hT : Tab w) : Calls Tryz.prog 110 #[.int .i64 n] w fun e w' => e = .returned (.tuple #[factsV (Dy.about n), .bool (Civ.isDay n)]) ∧ Below w.heap.size w w' := by
  cases h : Civ.isDay n
  · have := about_no n w hT h
    rwa [h] at this
  · have hh := (Civ.isDay_iff n).1 h
    obtain ⟨a1, a2, b1, b2, c1, c2, e⟩ := Civ.date_spec hh.1 hh.2
    have hE := Civ.dateE_of hh.1 hh.2
    have hi := Dy.about_in h
    have hb := Dy.about_bd n
    have ha : Dy.about n = ⟨n, Civ.dateM n, Civ.dateD n, Civ.weekday n, Civ.len (Civ.dateY n) (Civ.dateM n), Civ.days (Civ.dateY n), Civ.place n, Dy.which (Civ.dateD n - 1), -Dy.which (Civ.len (Civ.dateY n) (Civ.dateM n) - Civ.dateD n), Dy.which (Civ.place n - 1), -Dy.which (Civ.days (Civ.dateY n) - Civ.place n)⟩ := by
      unfold Dy.about; rw [if_pos h]
    rw [ha] at hi hb ⊢
    simp only at hi hb
    have FD : ∀ w, Tab w → Calls Tryz.prog 100 #[.int .i64 n] w fun e w' => e = .returned (.tuple #[.int .i64 (Civ.dateY n), .int .i64 (Civ.dateM n), .int .i64 (Civ.dateD n), .int .i64 0]) ∧ w = w' := fun w hT => by have := date_any n w hT; rwa [hE] at this
    exact about_yes n _ _ _ _ _ _ _ w hT (Lib.hid FD) (Lib.hid (weekday_any n)) (Lib.hid (len_any _ _)) (Lib.hid (days_any _)) (Lib.hid (place_any n)) hi.2.1 hi.1 (by omega) hi.2.2.1 hi.2.2.2 (by omega)
end Go.Proofs.YtkbohijlhhpfbaaGreatDoor.Da

/- The walk through dayset's onDay. -/
namespace Go.Proofs.YtkbohijlhhpfbaaGreatDoor.Da
open Go.RowKit Ru Ut Cw Ra
theorem onDayC {W : World} {v : Value} {l : List (Int × Int)} (f : Dy.F) (ws : Int × Int) (bf bw o cap : Nat) (hl : Days W v l) (hn : l.length ≤ 1000) (hf : bf < W.heap.size) (hw : bw < W.heap.size) (c3 : W.cell? ⟨bf, 3, none⟩ = some (.int .i64 f.weekday)) (cw : W.cell? ⟨bw, 0, none⟩ = some (.slice (some ⟨bf, o, none⟩) 2 cap))
    (c0 : W.cell? ⟨bf, o, none⟩ = some (.int .i64 ws.1)) (c1 : W.cell? ⟨bf, o + 1, none⟩ = some (.int .i64 ws.2)) {t : Bool} (ht : l.any (Dy.hit f ws) = t) :
    Calls Tryz.prog 104 #[v, .func (.func 176) #[] #[.pointer (some ⟨bf, 0, none⟩), .pointer (some ⟨bw, 0, none⟩)]] W fun e w' => e = .returned (.bool t) ∧ Below W.heap.size W w' := by
  have F := containsFuncO_any (.pointer (some ⟨bf, 0, none⟩)) (.pointer (some ⟨bw, 0, none⟩)) (Dy.hit f ws) hl (by omega) (fun W2 hB p q _ => by
    exact onDay1_any W2 bf bw o cap p q f.weekday ws.1 ws.2 (Nat.lt_of_lt_of_le hf hB.size) (Nat.lt_of_lt_of_le hw hB.size) ((hB.cell (p := ⟨bf, 3, none⟩) hf).trans c3) ((hB.cell (p := ⟨bw, 0, none⟩) hw).trans cw) ((hB.cell (p := ⟨bf, o, none⟩) hf).trans c0) ((hB.cell (p := ⟨bf, o + 1, none⟩) hf).trans c1))
  rwa [ht] at F
theorem al3_mid (w : World) (A : Obj) (cs : Array Value) (t : TypeId) (B : Obj) (i : Nat) : (((w.alloc A).alloc (.cells cs t)).alloc B).cell? ⟨w.heap.size + 1, i, none⟩ = cs[i]? := by
  rw [World.cell?_alloc_lt _ _ _ (by simp)]
  simp
theorem al3_top (w : World) (A B : Obj) (cs : Array Value) (t : TypeId) (i : Nat) : (((w.alloc A).alloc B).alloc (.cells cs t)).cell? ⟨w.heap.size + 2, i, none⟩ = cs[i]? := by
  have h := World.cell?_alloc_new (w := (w.alloc A).alloc B) cs t i
  simpa using h
theorem onDay_nil {r : R} {f : Dy.F} (h : r.day.length = 0) : Dy.onDay r f = true := by unfold Dy.onDay; rw [decide_eq_true h]; rfl
theorem onDay_ways {r : R} {f : Dy.F} (h : ¬ r.day.length = 0) {ws : Int × Int} (hw : Dy.ways r f = ws) : r.day.any (Dy.hit f ws) = Dy.onDay r f := by unfold Dy.onDay; rw [decide_eq_false h, hw]; rfl
set_option maxHeartbeats 4000000 in
set_option maxRecDepth 100000 in
theorem onDay_any (w : World) (r : R) (sv : Nat → Value) (f : Dy.F) (hL : Lists w r sv) (hn : Short r) : Calls Tryz.prog 153 #[ruleV r sv, factsV f] w fun e w' => e = .returned (.bool (Dy.onDay r f)) ∧ Below w.heap.size w w' := by
  have n7 := hn.2
  have n11 : r.month.length ≤ 1000 := hn.1 11 (by decide) (by decide) (by decide)
  obtain ⟨a7, k7, e7⟩ := hL.2.slice
  have hD := hL.2
  obtain ⟨a11, k11, e11⟩ := (hL.1 11 (by decide) (by decide) (by decide)).slice
  change sv 11 = .slice a11 r.month.length k11 at e11
  rw [e7] at hD
  unfold ruleV ruleC factsV factsC
  rw [e7, e11]
  clear e7 e11 hL hn
  have HD := Lib.hid hD
  clear hD
  by_cases h0 : r.day.length = 0
  · have hr := Lib.hid (onDay_nil (f := f) h0)
    have q0 : ((r.day.length : Int) == 0) = true := by simp [h0]
    clear h0
    by_cases h5 : r.freq = 5
    · have q5 : (r.freq == 5) = true := by simp [h5]
      clear h5
      go_enter Tryz.func153, Tryz.ntmps153
      go_wp2
      go_ret
      exact ⟨ret_b hr.out.symm, by (repeat' (first | assumption | exact Below.refl _ _ | apply Below.next_alloc | apply Below.drew | (apply Below.next; rotate_left; assumption)))⟩
    · have q5 : (r.freq == 5) = false := by simp [h5]
      clear h5
      by_cases hm : 0 < (r.month.length : Int)
      · go_enter Tryz.func153, Tryz.ntmps153
        go_wp2
        go_ret
        exact ⟨ret_b hr.out.symm, by (repeat' (first | assumption | exact Below.refl _ _ | apply Below.next_alloc | apply Below.drew | (apply Below.next; rotate_left; assumption)))⟩
      · go_enter Tryz.func153, Tryz.ntmps153
        go_wp2
        go_ret
        exact ⟨ret_b hr.out.symm, by (repeat' (first | assumption | exact Below.refl _ _ | apply Below.next_alloc | apply Below.drew | (apply Below.next; rotate_left; assumption)))⟩
  · have q0 : ((r.day.length : Int) == 0) = false := by rw [beq_eq_false_iff_ne]; omega
    by_cases h5 : r.freq = 5
    · have q5 : (r.freq == 5) = true := by simp [h5]
      have hr := Lib.hid (onDay_ways h0 (f := f) (ws := (f.n0, f.n1)) (by unfold Dy.ways; rw [if_pos (.inl h5)]))
      clear h5 h0
      go_enter Tryz.func153, Tryz.ntmps153
      go_wp2_with (first | (go_at_call 104; refine (onDayC f (f.n0, f.n1) (w.heap.size + 1) (w.heap.size + 2) 7 4 (HD.out.below (by (repeat' (first | assumption | exact Below.refl _ _ | apply Below.next_alloc | apply Below.drew | (apply Below.next; rotate_left; assumption))))) (by omega) (by simp) (by simp) ((al3_mid _ _ _ _ _ _).trans rfl) ((al3_top _ _ _ _ _ _).trans rfl) ((al3_mid _ _ _ _ _ _).trans rfl) ((al3_mid _ _ _ _ _ _).trans rfl) hr.out).mono ?_; rintro e w' ⟨rfl, hB⟩))
      go_ret
      exact ⟨rfl, by (repeat' (first | assumption | exact Below.refl _ _ | apply Below.next_alloc | apply Below.drew | (apply Below.next; rotate_left; assumption)))⟩
    · have q5 : (r.freq == 5) = false := by simp [h5]
      by_cases hm : 0 < (r.month.length : Int)
      · have hr := Lib.hid (onDay_ways h0 (f := f) (ws := (f.n0, f.n1)) (by unfold Dy.ways; rw [if_pos (.inr (by omega))]))
        clear h5 h0
        go_enter Tryz.func153, Tryz.ntmps153
        go_wp2_with (first | (go_at_call 104; refine (onDayC f (f.n0, f.n1) (w.heap.size + 1) (w.heap.size + 2) 7 4 (HD.out.below (by (repeat' (first | assumption | exact Below.refl _ _ | apply Below.next_alloc | apply Below.drew | (apply Below.next; rotate_left; assumption))))) (by omega) (by simp) (by simp) ((al3_mid _ _ _ _ _ _).trans rfl) ((al3_top _ _ _ _ _ _).trans rfl) ((al3_mid _ _ _ _ _ _).trans rfl) ((al3_mid _ _ _ _ _ _).trans rfl) hr.out).mono ?_; rintro e w' ⟨rfl, hB⟩))
        go_ret
        exact ⟨rfl, by (repeat' (first | assumption | exact Below.refl _ _ | apply Below.next_alloc | apply Below.drew | (apply Below.next; rotate_left; assumption)))⟩
      · have hr := Lib.hid (onDay_ways h0 (f := f) (ws := (f.n2, f.n3)) (by unfold Dy.ways; rw [if_neg (by omega)]))
        clear h5 h0
        go_enter Tryz.func153, Tryz.ntmps153
        go_wp2_with (first | (go_at_call 104; refine (onDayC f (f.n2, f.n3) (w.heap.size + 1) (w.heap.size + 2) 9 2 (HD.out.below (by (repeat' (first | assumption | exact Below.refl _ _ | apply Below.next_alloc | apply Below.drew | (apply Below.next; rotate_left; assumption))))) (by omega) (by simp) (by simp) ((al3_mid _ _ _ _ _ _).trans rfl) ((al3_top _ _ _ _ _ _).trans rfl) ((al3_mid _ _ _ _ _ _).trans rfl) ((al3_mid _ _ _ _ _ _).trans rfl) hr.out).mono ?_; rintro e w' ⟨rfl, hB⟩))
        go_ret
        exact ⟨rfl, by (repeat' (first | assumption | exact Below.refl _ _ | apply Below.next_alloc | apply Below.drew | (apply Below.next; rotate_left; assumption)))⟩
end Go.Proofs.YtkbohijlhhpfbaaGreatDoor.Da


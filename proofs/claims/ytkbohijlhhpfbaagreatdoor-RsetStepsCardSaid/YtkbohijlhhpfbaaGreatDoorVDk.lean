import Derived.Test.YtkbohijlhhpfbaaGreatDoorVRn
import Derived.Deep.RegionWith
import Derived.StillTailTactics
import Derived.IntWalk
import Derived.Test.YtkbohijlhhpfbaaGreatDoorVPr
import Derived.Test.YtkbohijlhhpfbaaGreatDoorVRj
/- The walk through dayset's about. -/
namespace Go.Proofs.YtkbohijlhhpfbaaGreatDoor.Da
open Go.RowKit Ru Ut Cw Ra
def factsC (f : Dy.F) : Array Value := #[.int .i64 f.day, .int .i64 f.month, .int .i64 f.date, .int .i64 f.weekday, .int .i64 f.inMonth, .int .i64 f.inYear, .int .i64 f.place, .int .i64 f.n0, .int .i64 f.n1, .int .i64 f.n2, .int .i64 f.n3]
def factsV (f : Dy.F) : Value := .agg (factsC f)
theorem ret_vb {a b : Value} {c d : Bool} (h : a = b) (h' : c = d) : Ending.returned (.tuple #[a, .bool c]) = .returned (.tuple #[b, .bool d]) := by rw [h, h']
set_option maxHeartbeats 2000000 in
set_option maxRecDepth 100000 in
theorem about_no (n : Int) (w : World) (hT : Tab w) (h : Civ.isDay n = false) : Calls Tryz.prog 110 #[.int .i64 n] w fun e w' => e = .returned (.tuple #[factsV (Dy.about n), .bool (Civ.isDay n)]) ∧ Below w.heap.size w w' := by
 have F := fun w hT => date_any n w hT
 have hE : Civ.dateE n = 8 := by unfold Civ.dateE; rw [if_neg (by rw [h]; decide)]
 rw [hE] at F
 have FH := Lib.hid F
 have HT := Lib.hid hT
 have ha := Lib.hid (show factsV (Dy.about n) = .agg #[.int .i64 0, .int .i64 0, .int .i64 0, .int .i64 0, .int .i64 0, .int .i64 0, .int .i64 0, .int .i64 0, .int .i64 0, .int .i64 0, .int .i64 0] by unfold Dy.about; rw [if_neg (by rw [h]; decide)]; rfl)
 have hn := Lib.hid h
 clear F hE hT h
 go_enter Tryz.func110, Tryz.ntmps110
 go_wp2_with (first | (go_at_call 100; refine (FH.out _ (HT.out.later (by (repeat' (first|assumption|exact Below.refl _ _|apply Below.next_alloc|apply Below.drew|(apply Below.next;rotate_left;assumption)))))).mono ?_; rintro e w' ⟨rfl, rfl⟩))
 refine bodyPost_ret (v := .tuple #[.agg #[.int .i64 0, .int .i64 0, .int .i64 0, .int .i64 0, .int .i64 0, .int .i64 0, .int .i64 0, .int .i64 0, .int .i64 0, .int .i64 0, .int .i64 0], .bool false]) (by simp [results, Tryz.results110, go_sem]) rfl ?_
 exact ⟨ret_vb ha.out.symm hn.out.symm, by (repeat' (first|assumption|exact Below.refl _ _|apply Below.next_alloc|apply Below.drew|(apply Below.next;rotate_left;assumption)))⟩
end Go.Proofs.YtkbohijlhhpfbaaGreatDoor.Da
/- The walk through dayset's about, of a day. -/
namespace Go.Proofs.YtkbohijlhhpfbaaGreatDoor.Da
open Go.RowKit Ru Ut Cw Ra
theorem which_still (a : Int) (h0 : 0 ≤ a) (h1 : a ≤ 1000000) (W : World) : Calls Tryz.prog 149 #[.int .i64 a] W fun e w' => e = .returned (.int .i64 (Dy.which a)) ∧ w' = W :=
 (which_any a h0 h1 W).mono fun _ _ ⟨h, h'⟩ => ⟨h, h'.symm⟩
theorem which_bd {a : Int} (h0 : 0 ≤ a) (h1 : a ≤ 1000000) : 1 ≤ Dy.which a ∧ Dy.which a ≤ 1000000 := by unfold Dy.which; omega
set_option maxHeartbeats 2000000 in
set_option maxRecDepth 100000 in
theorem about_yes (n y m d wd L Y p : Int) (w : World) (hT : Tab w) (FD : Hid (∀ w, Tab w → Calls Tryz.prog 100 #[.int .i64 n] w fun e w' => e = .returned (.tuple #[.int .i64 y, .int .i64 m, .int .i64 d, .int .i64 0]) ∧ w = w'))
  (FW : Hid (∀ w, Calls Tryz.prog 139 #[.int .i64 n] w fun e w' => e = .returned (.int .i64 wd) ∧ w = w')) (FL : Hid (∀ w, Tab w → Calls Tryz.prog 108 #[.int .i64 y, .int .i64 m] w fun e w' => e = .returned (.int .i64 L) ∧ w = w'))
  (FY : Hid (∀ w, Calls Tryz.prog 107 #[.int .i64 y] w fun e w' => e = .returned (.int .i64 Y) ∧ w = w')) (FP : Hid (∀ w, Calls Tryz.prog 148 #[.int .i64 n] w fun e w' => e = .returned (.int .i64 p) ∧ w = w'))
  (d0 : 1 ≤ d) (d1 : d ≤ L) (L1 : L ≤ 31) (p0 : 1 ≤ p) (p1 : p ≤ Y) (Y1 : Y ≤ 366) :
  Calls Tryz.prog 110 #[.int .i64 n] w fun e w' => e = .returned (.tuple #[factsV ⟨n, m, d, wd, L, Y, p, Dy.which (d - 1), -Dy.which (L - d), Dy.which (p - 1), -Dy.which (Y - p)⟩, .bool true]) ∧ Below w.heap.size w w' := by
 have HT := Lib.hid hT
 clear hT
 go_enter Tryz.func110, Tryz.ntmps110
 go_wp2_with (first
  | (go_at_call 100; refine (FD.out _ (HT.out.later (by (repeat' (first|assumption|exact Below.refl _ _|apply Below.next_alloc|apply Below.drew|(apply Below.next;rotate_left;assumption)))))).mono ?_; rintro e w' ⟨rfl, rfl⟩)
  | (go_at_call 139; refine (FW.out _).mono ?_; rintro e w' ⟨rfl, rfl⟩)
  | (go_at_call 108; refine (FL.out _ (HT.out.later (by (repeat' (first|assumption|exact Below.refl _ _|apply Below.next_alloc|apply Below.drew|(apply Below.next;rotate_left;assumption)))))).mono ?_; rintro e w' ⟨rfl, rfl⟩)
  | (go_at_call 107; refine (FY.out _).mono ?_; rintro e w' ⟨rfl, rfl⟩)
  | (go_at_call 148; refine (FP.out _).mono ?_; rintro e w' ⟨rfl, rfl⟩))
 refine wp_region_still_tail 24 (by kernel_rfl) (by kernel_rfl) ?_
 simp only [List.take_succ_cons, List.take_zero, List.drop_succ_cons, List.drop_zero]
 change wpStill _ _ (World.drew _) (fun a' => wpList _ _ _ _ a' (World.drew _)) _ _
 generalize hW : World.drew _ = W
 have c2 : W.cell? ⟨w.heap.size + 1, 2, none⟩ = some (.int .i64 d) := by rw [← hW]; clear hW; go_simp
 have c4 : W.cell? ⟨w.heap.size + 1, 4, none⟩ = some (.int .i64 L) := by rw [← hW]; clear hW; go_simp
 have c5 : W.cell? ⟨w.heap.size + 1, 5, none⟩ = some (.int .i64 Y) := by rw [← hW]; clear hW; go_simp
 have c6 : W.cell? ⟨w.heap.size + 1, 6, none⟩ = some (.int .i64 p) := by rw [← hW]; clear hW; go_simp
 have HW := Lib.hid hW
 clear hW
 have b1 := which_bd (a := d - 1) (by omega) (by omega)
 have b2 := which_bd (a := L - d) (by omega) (by omega)
 have b3 := which_bd (a := p - 1) (by omega) (by omega)
 have b4 := which_bd (a := Y - p) (by omega) (by omega)
 have K1 := which_still (d - 1) (by omega) (by omega) W
 have K2 := which_still (L - d) (by omega) (by omega) W
 have K3 := which_still (p - 1) (by omega) (by omega) W
 have K4 := which_still (Y - p) (by omega) (by omega) W
 have K1 := Lib.hid K1
 have K2 := Lib.hid K2
 have K3 := Lib.hid K3
 have K4 := Lib.hid K4
 have e1 := IntWalk.i64_in (d - 1) (by omega)
 have e2 := IntWalk.i64_in (L - d) (by omega)
 have e3 := IntWalk.i64_in (p - 1) (by omega)
 have e4 := IntWalk.i64_in (Y - p) (by omega)
 have e5 := IntWalk.i64_in (-Dy.which (L - d)) (by omega)
 have e6 := IntWalk.i64_in (-Dy.which (Y - p)) (by omega)
 repeat still_step
 still_call K1.out
 repeat still_step
 still_call K2.out
 repeat still_step
 still_call K3.out
 repeat still_step
 still_call K4.out
 repeat still_step
 refine wpStill_nil ?_
 obtain rfl := HW.out
 clear c2 c4 c5 c6 e1 e2 e3 e4 e5 e6 K1 K2 K3 K4 HW b1 b2 b3 b4
 go_wp2
 unfold factsV factsC
 exact bodyPost_ret (v := .tuple #[.agg #[.int .i64 n, .int .i64 m, .int .i64 d, .int .i64 wd, .int .i64 L, .int .i64 Y, .int .i64 p, .int .i64 (Dy.which (d - 1)), .int .i64 (-Dy.which (L - d)), .int .i64 (Dy.which (p - 1)), .int .i64 (-Dy.which (Y - p))], .bool true]) (by simp [results, Tryz.results110, go_sem]) rfl ⟨rfl, by (repeat' (first|assumption|exact Below.refl _ _|apply Below.next_alloc|apply Below.drew|(apply Below.next;rotate_left;assumption)))⟩
theorem about_any (n : Int) (w : World) (hT : Tab w) : Calls Tryz.prog 110 #[.int .i64 n] w fun e w' => e = .returned (.tuple #[factsV (Dy.about n), .bool (Civ.isDay n)]) ∧ Below w.heap.size w w' := by
 cases h : Civ.isDay n
 ·have := about_no n w hT h
  rwa [h] at this
 ·have hh := (Civ.isDay_iff n).1 h
  obtain ⟨a1, a2, b1, b2, c1, c2, e⟩ := Civ.date_spec hh.1 hh.2
  have hE := Civ.dateE_of hh.1 hh.2
  have hi := Dy.about_in h
  have hb := Dy.about_bd n
  have ha : Dy.about n = ⟨n, Civ.dateM n, Civ.dateD n, Civ.weekday n, Civ.len (Civ.dateY n) (Civ.dateM n), Civ.days (Civ.dateY n), Civ.place n, Dy.which (Civ.dateD n - 1), -Dy.which (Civ.len (Civ.dateY n) (Civ.dateM n) - Civ.dateD n), Dy.which (Civ.place n - 1), -Dy.which (Civ.days (Civ.dateY n) - Civ.place n)⟩ := by
   unfold Dy.about; rw [if_pos h]
  rw [ha] at hi hb ⊢
  simp only at hi hb
  have FD : ∀ w, Tab w → Calls Tryz.prog 100 #[.int .i64 n] w fun e w' => e = .returned (.tuple #[.int .i64 (Civ.dateY n), .int .i64 (Civ.dateM n), .int .i64 (Civ.dateD n), .int .i64 0]) ∧ w = w' := fun w hT => by have := date_any n w hT; rwa [hE] at this
  exact about_yes n _ _ _ _ _ _ _ w hT (Lib.hid FD) (Lib.hid (weekday_any n)) (Lib.hid (len_any _ _)) (Lib.hid (days_any _)) (Lib.hid (place_any n)) hi.2.1 hi.1 (by omega) hi.2.2.1 hi.2.2.2 (by omega)
end Go.Proofs.YtkbohijlhhpfbaaGreatDoor.Da
/- The walk through dayset's onDay. -/
namespace Go.Proofs.YtkbohijlhhpfbaaGreatDoor.Da
open Go.RowKit Ru Ut Cw Ra
theorem onDayC {W : World} {v : Value} {l : List (Int × Int)} (f : Dy.F) (ws : Int × Int) (bf bw o cap : Nat) (hl : Days W v l) (hn : l.length ≤ 1000) (hf : bf < W.heap.size) (hw : bw < W.heap.size) (c3 : W.cell? ⟨bf, 3, none⟩ = some (.int .i64 f.weekday)) (cw : W.cell? ⟨bw, 0, none⟩ = some (.slice (some ⟨bf, o, none⟩) 2 cap))
  (c0 : W.cell? ⟨bf, o, none⟩ = some (.int .i64 ws.1)) (c1 : W.cell? ⟨bf, o + 1, none⟩ = some (.int .i64 ws.2)) {t : Bool} (ht : l.any (Dy.hit f ws) = t) :
  Calls Tryz.prog 104 #[v, .func (.func 176) #[] #[.pointer (some ⟨bf, 0, none⟩), .pointer (some ⟨bw, 0, none⟩)]] W fun e w' => e = .returned (.bool t) ∧ Below W.heap.size W w' := by
 have F := containsFuncO_any (.pointer (some ⟨bf, 0, none⟩)) (.pointer (some ⟨bw, 0, none⟩)) (Dy.hit f ws) hl (by omega) (fun W2 hB p q _ => by
  exact onDay1_any W2 bf bw o cap p q f.weekday ws.1 ws.2 (Nat.lt_of_lt_of_le hf hB.size) (Nat.lt_of_lt_of_le hw hB.size) ((hB.cell (p := ⟨bf, 3, none⟩) hf).trans c3) ((hB.cell (p := ⟨bw, 0, none⟩) hw).trans cw) ((hB.cell (p := ⟨bf, o, none⟩) hf).trans c0) ((hB.cell (p := ⟨bf, o + 1, none⟩) hf).trans c1))
 rwa [ht] at F
theorem al3_mid (w : World) (A : Obj) (cs : Array Value) (t : TypeId) (B : Obj) (i : Nat) : (((w.alloc A).alloc (.cells cs t)).alloc B).cell? ⟨w.heap.size + 1, i, none⟩ = cs[i]? := by
 rw [World.cell?_alloc_lt _ _ _ (by simp)]
 simp
theorem al3_top (w : World) (A B : Obj) (cs : Array Value) (t : TypeId) (i : Nat) : (((w.alloc A).alloc B).alloc (.cells cs t)).cell? ⟨w.heap.size + 2, i, none⟩ = cs[i]? := by
 have h := World.cell?_alloc_new (w := (w.alloc A).alloc B) cs t i
 simpa using h
theorem onDay_nil {r : R} {f : Dy.F} (h : r.day.length = 0) : Dy.onDay r f = true := by unfold Dy.onDay; rw [decide_eq_true h]; rfl
theorem onDay_ways {r : R} {f : Dy.F} (h : ¬ r.day.length = 0) {ws : Int × Int} (hw : Dy.ways r f = ws) : r.day.any (Dy.hit f ws) = Dy.onDay r f := by unfold Dy.onDay; rw [decide_eq_false h, hw]; rfl
set_option maxHeartbeats 4000000 in
set_option maxRecDepth 100000 in
theorem onDay_any (w : World) (r : R) (sv : Nat → Value) (f : Dy.F) (hL : Lists w r sv) (hn : Short r) : Calls Tryz.prog 153 #[ruleV r sv, factsV f] w fun e w' => e = .returned (.bool (Dy.onDay r f)) ∧ Below w.heap.size w w' := by
 have n7 := hn.2
 have n11 : r.month.length ≤ 1000 := hn.1 11 (by decide) (by decide) (by decide)
 obtain ⟨a7, k7, e7⟩ := hL.2.slice
 have hD := hL.2
 obtain ⟨a11, k11, e11⟩ := (hL.1 11 (by decide) (by decide) (by decide)).slice
 change sv 11 = .slice a11 r.month.length k11 at e11
 rw [e7] at hD
 unfold ruleV ruleC factsV factsC
 rw [e7, e11]
 clear e7 e11 hL hn
 have HD := Lib.hid hD
 clear hD
 by_cases h0 : r.day.length = 0
 ·have hr := Lib.hid (onDay_nil (f := f) h0)
  have q0 : ((r.day.length : Int) == 0) = true := by simp [h0]
  clear h0
  by_cases h5 : r.freq = 5
  ·have q5 : (r.freq == 5) = true := by simp [h5]
   clear h5
   go_enter Tryz.func153, Tryz.ntmps153
   go_wp2
   go_ret
   exact ⟨ret_b hr.out.symm, by (repeat' (first|assumption|exact Below.refl _ _|apply Below.next_alloc|apply Below.drew|(apply Below.next;rotate_left;assumption)))⟩
  ·have q5 : (r.freq == 5) = false := by simp [h5]
   clear h5
   by_cases hm : 0 < (r.month.length : Int)
   ·go_enter Tryz.func153, Tryz.ntmps153
    go_wp2
    go_ret
    exact ⟨ret_b hr.out.symm, by (repeat' (first|assumption|exact Below.refl _ _|apply Below.next_alloc|apply Below.drew|(apply Below.next;rotate_left;assumption)))⟩
   ·go_enter Tryz.func153, Tryz.ntmps153
    go_wp2
    go_ret
    exact ⟨ret_b hr.out.symm, by (repeat' (first|assumption|exact Below.refl _ _|apply Below.next_alloc|apply Below.drew|(apply Below.next;rotate_left;assumption)))⟩
 ·have q0 : ((r.day.length : Int) == 0) = false := by rw [beq_eq_false_iff_ne]; omega
  by_cases h5 : r.freq = 5
  ·have q5 : (r.freq == 5) = true := by simp [h5]
   have hr := Lib.hid (onDay_ways h0 (f := f) (ws := (f.n0, f.n1)) (by unfold Dy.ways; rw [if_pos (.inl h5)]))
   clear h5 h0
   go_enter Tryz.func153, Tryz.ntmps153
   go_wp2_with (first | (go_at_call 104; refine (onDayC f (f.n0, f.n1) (w.heap.size + 1) (w.heap.size + 2) 7 4 (HD.out.below (by (repeat' (first|assumption|exact Below.refl _ _|apply Below.next_alloc|apply Below.drew|(apply Below.next;rotate_left;assumption))))) (by omega) (by simp) (by simp) ((al3_mid _ _ _ _ _ _).trans rfl) ((al3_top _ _ _ _ _ _).trans rfl) ((al3_mid _ _ _ _ _ _).trans rfl) ((al3_mid _ _ _ _ _ _).trans rfl) hr.out).mono ?_; rintro e w' ⟨rfl, hB⟩))
   go_ret
   exact ⟨rfl, by (repeat' (first|assumption|exact Below.refl _ _|apply Below.next_alloc|apply Below.drew|(apply Below.next;rotate_left;assumption)))⟩
  ·have q5 : (r.freq == 5) = false := by simp [h5]
   by_cases hm : 0 < (r.month.length : Int)
   ·have hr := Lib.hid (onDay_ways h0 (f := f) (ws := (f.n0, f.n1)) (by unfold Dy.ways; rw [if_pos (.inr (by omega))]))
    clear h5 h0
    go_enter Tryz.func153, Tryz.ntmps153
    go_wp2_with (first | (go_at_call 104; refine (onDayC f (f.n0, f.n1) (w.heap.size + 1) (w.heap.size + 2) 7 4 (HD.out.below (by (repeat' (first|assumption|exact Below.refl _ _|apply Below.next_alloc|apply Below.drew|(apply Below.next;rotate_left;assumption))))) (by omega) (by simp) (by simp) ((al3_mid _ _ _ _ _ _).trans rfl) ((al3_top _ _ _ _ _ _).trans rfl) ((al3_mid _ _ _ _ _ _).trans rfl) ((al3_mid _ _ _ _ _ _).trans rfl) hr.out).mono ?_; rintro e w' ⟨rfl, hB⟩))
    go_ret
    exact ⟨rfl, by (repeat' (first|assumption|exact Below.refl _ _|apply Below.next_alloc|apply Below.drew|(apply Below.next;rotate_left;assumption)))⟩
   ·have hr := Lib.hid (onDay_ways h0 (f := f) (ws := (f.n2, f.n3)) (by unfold Dy.ways; rw [if_neg (by omega)]))
    clear h5 h0
    go_enter Tryz.func153, Tryz.ntmps153
    go_wp2_with (first | (go_at_call 104; refine (onDayC f (f.n2, f.n3) (w.heap.size + 1) (w.heap.size + 2) 9 2 (HD.out.below (by (repeat' (first|assumption|exact Below.refl _ _|apply Below.next_alloc|apply Below.drew|(apply Below.next;rotate_left;assumption))))) (by omega) (by simp) (by simp) ((al3_mid _ _ _ _ _ _).trans rfl) ((al3_top _ _ _ _ _ _).trans rfl) ((al3_mid _ _ _ _ _ _).trans rfl) ((al3_mid _ _ _ _ _ _).trans rfl) hr.out).mono ?_; rintro e w' ⟨rfl, hB⟩))
    go_ret
    exact ⟨rfl, by (repeat' (first|assumption|exact Below.refl _ _|apply Below.next_alloc|apply Below.drew|(apply Below.next;rotate_left;assumption)))⟩
end Go.Proofs.YtkbohijlhhpfbaaGreatDoor.Da
/- The walk through dayset's likeStart. -/
namespace Go.Proofs.YtkbohijlhhpfbaaGreatDoor.Da
open Go.RowKit Ru Ut Cw Ra
theorem like_1 {r : R} {s f : Dy.F} (h : r.freq < 4 ∨ 0 < r.yday.length + r.mday.length + r.day.length) : Dy.likeStart r s f = true := by unfold Dy.likeStart; rw [if_pos h]
theorem like_2 {r : R} {s f : Dy.F} (h : ¬ (r.freq < 4 ∨ 0 < r.yday.length + r.mday.length + r.day.length)) (h2 : r.freq = 4 ∨ 0 < r.weekno.length) : Dy.likeStart r s f = decide (f.weekday = s.weekday) := by unfold Dy.likeStart; rw [if_neg h, if_pos h2]
theorem like_3 {r : R} {s f : Dy.F} (h : ¬ (r.freq < 4 ∨ 0 < r.yday.length + r.mday.length + r.day.length)) (h2 : ¬ (r.freq = 4 ∨ 0 < r.weekno.length)) (h3 : r.freq = 5 ∨ 0 < r.month.length) : Dy.likeStart r s f = decide (f.date = s.date) := by unfold Dy.likeStart; rw [if_neg h, if_neg h2, if_pos h3]
theorem like_4 {r : R} {s f : Dy.F} (h : ¬ (r.freq < 4 ∨ 0 < r.yday.length + r.mday.length + r.day.length)) (h2 : ¬ (r.freq = 4 ∨ 0 < r.weekno.length)) (h3 : ¬ (r.freq = 5 ∨ 0 < r.month.length)) : Dy.likeStart r s f = (decide (f.date = s.date) && decide (f.month = s.month)) := by unfold Dy.likeStart; rw [if_neg h, if_neg h2, if_neg h3]
theorem dec_beq (a b : Int) : decide (a = b) = (a == b) := by by_cases h : a = b <;> simp [h]
set_option maxHeartbeats 4000000 in
set_option maxRecDepth 100000 in
theorem likeStart_any (w : World) (r : R) (sv : Nat → Value) (s f : Dy.F) (hL : Lists w r sv) (hn : Short r) : Calls Tryz.prog 154 #[ruleV r sv, factsV s, factsV f] w fun e w' => e = .returned (.bool (Dy.likeStart r s f)) ∧ Below w.heap.size w w' := by
 have n7 := hn.2
 have n8 : r.mday.length ≤ 1000 := hn.1 8 (by decide) (by decide) (by decide)
 have n9 : r.yday.length ≤ 1000 := hn.1 9 (by decide) (by decide) (by decide)
 have n10 : r.weekno.length ≤ 1000 := hn.1 10 (by decide) (by decide) (by decide)
 have n11 : r.month.length ≤ 1000 := hn.1 11 (by decide) (by decide) (by decide)
 obtain ⟨a7, k7, e7⟩ := hL.2.slice
 obtain ⟨a8, k8, e8⟩ := (hL.1 8 (by decide) (by decide) (by decide)).slice
 change sv 8 = .slice a8 r.mday.length k8 at e8
 obtain ⟨a9, k9, e9⟩ := (hL.1 9 (by decide) (by decide) (by decide)).slice
 change sv 9 = .slice a9 r.yday.length k9 at e9
 obtain ⟨a10, k10, e10⟩ := (hL.1 10 (by decide) (by decide) (by decide)).slice
 change sv 10 = .slice a10 r.weekno.length k10 at e10
 obtain ⟨a11, k11, e11⟩ := (hL.1 11 (by decide) (by decide) (by decide)).slice
 change sv 11 = .slice a11 r.month.length k11 at e11
 unfold ruleV ruleC factsV factsC
 rw [e7, e8, e9, e10, e11]
 clear e7 e8 e9 e10 e11 hL hn
 by_cases h1 : r.freq < 4
 ·have hr := Lib.hid (like_1 (r := r) (s := s) (f := f) (.inl h1))
  go_enter Tryz.func154, Tryz.ntmps154
  go_wp2
  go_ret
  exact ⟨ret_b hr.out.symm, by (repeat' (first|assumption|exact Below.refl _ _|apply Below.next_alloc|apply Below.drew|(apply Below.next;rotate_left;assumption)))⟩
 ·by_cases h2 : 0 < (r.yday.length : Int) + r.mday.length + r.day.length
  ·have hr := Lib.hid (like_1 (r := r) (s := s) (f := f) (.inr (by omega)))
   go_enter Tryz.func154, Tryz.ntmps154
   go_wp2
   go_ret
   exact ⟨ret_b hr.out.symm, by (repeat' (first|assumption|exact Below.refl _ _|apply Below.next_alloc|apply Below.drew|(apply Below.next;rotate_left;assumption)))⟩
  ·have hn := Lib.hid (show ¬ (r.freq < 4 ∨ 0 < r.yday.length + r.mday.length + r.day.length) by omega)
   by_cases h3 : r.freq = 4
   ·have q3 : (r.freq == 4) = true := by simp [h3]
    have hr := Lib.hid (like_2 (r := r) (s := s) (f := f) hn.out (.inl h3))
    rw [dec_beq] at hr
    clear h3
    cases g : (f.weekday == s.weekday)
    all_goals
     rw [g] at hr
     go_enter Tryz.func154, Tryz.ntmps154
     go_wp2
     go_ret
     exact ⟨ret_b hr.out.symm, by (repeat' (first|assumption|exact Below.refl _ _|apply Below.next_alloc|apply Below.drew|(apply Below.next;rotate_left;assumption)))⟩
   ·have q3 : (r.freq == 4) = false := by simp [h3]
    by_cases h4 : 0 < (r.weekno.length : Int)
    ·have hr := Lib.hid (like_2 (r := r) (s := s) (f := f) hn.out (.inr (by omega)))
     rw [dec_beq] at hr
     clear h3
     cases g : (f.weekday == s.weekday)
     all_goals
      rw [g] at hr
      go_enter Tryz.func154, Tryz.ntmps154
      go_wp2
      go_ret
      exact ⟨ret_b hr.out.symm, by (repeat' (first|assumption|exact Below.refl _ _|apply Below.next_alloc|apply Below.drew|(apply Below.next;rotate_left;assumption)))⟩
    ·have hn2 := Lib.hid (show ¬ (r.freq = 4 ∨ 0 < r.weekno.length) by omega)
     by_cases h5 : r.freq = 5
     ·have q5 : (r.freq == 5) = true := by simp [h5]
      have hr := Lib.hid (like_3 (r := r) (s := s) (f := f) hn.out hn2.out (.inl h5))
      rw [dec_beq] at hr
      clear h3 h5
      cases g : (f.date == s.date)
      all_goals
       rw [g] at hr
       go_enter Tryz.func154, Tryz.ntmps154
       go_wp2
       go_ret
       exact ⟨ret_b hr.out.symm, by (repeat' (first|assumption|exact Below.refl _ _|apply Below.next_alloc|apply Below.drew|(apply Below.next;rotate_left;assumption)))⟩
     ·have q5 : (r.freq == 5) = false := by simp [h5]
      by_cases h6 : 0 < (r.month.length : Int)
      ·have hr := Lib.hid (like_3 (r := r) (s := s) (f := f) hn.out hn2.out (.inr (by omega)))
       rw [dec_beq] at hr
       clear h3 h5
       cases g : (f.date == s.date)
       all_goals
        rw [g] at hr
        go_enter Tryz.func154, Tryz.ntmps154
        go_wp2
        go_ret
        exact ⟨ret_b hr.out.symm, by (repeat' (first|assumption|exact Below.refl _ _|apply Below.next_alloc|apply Below.drew|(apply Below.next;rotate_left;assumption)))⟩
      ·have hr := Lib.hid (like_4 (r := r) (s := s) (f := f) hn.out hn2.out (by omega))
       rw [dec_beq, dec_beq] at hr
       clear h3 h5
       cases g : (f.date == s.date)
       ·rw [g, Bool.false_and] at hr
        go_enter Tryz.func154, Tryz.ntmps154
        go_wp2
        go_ret
        exact ⟨ret_b hr.out.symm, by (repeat' (first|assumption|exact Below.refl _ _|apply Below.next_alloc|apply Below.drew|(apply Below.next;rotate_left;assumption)))⟩
       ·rw [g, Bool.true_and] at hr
        cases g2 : (f.month == s.month)
        all_goals
         rw [g2] at hr
         go_enter Tryz.func154, Tryz.ntmps154
         go_wp2
         go_ret
         exact ⟨ret_b hr.out.symm, by (repeat' (first|assumption|exact Below.refl _ _|apply Below.next_alloc|apply Below.drew|(apply Below.next;rotate_left;assumption)))⟩
end Go.Proofs.YtkbohijlhhpfbaaGreatDoor.Da
/- The walk through dayset's lets (printed by gen_lets.py). -/
namespace Go.Proofs.YtkbohijlhhpfbaaGreatDoor.Da
open Go.RowKit Ru Ut Cw Ra
def BoxR (W : World) (b : Nat) (r : R) (sv : Nat → Value) : Prop := W.cell? ⟨b, 0, none⟩ = some (.int .u8 r.freq) ∧ W.cell? ⟨b, 1, none⟩ = some (.int .i64 r.interval) ∧ W.cell? ⟨b, 2, none⟩ = some (.int .i64 r.count) ∧ W.cell? ⟨b, 3, none⟩ = some (.int .u8 r.uk) ∧ W.cell? ⟨b, 4, none⟩ = some (.int .i64 r.us) ∧ W.cell? ⟨b, 5, none⟩ = some (sv 4) ∧ W.cell? ⟨b, 6, none⟩ = some (sv 5) ∧ W.cell? ⟨b, 7, none⟩ = some (sv 6) ∧ W.cell? ⟨b, 8, none⟩ = some (sv 7) ∧ W.cell? ⟨b, 9, none⟩ = some (sv 8) ∧ W.cell? ⟨b, 10, none⟩ = some (sv 9) ∧ W.cell? ⟨b, 11, none⟩ = some (sv 10) ∧ W.cell? ⟨b, 12, none⟩ = some (sv 11) ∧ W.cell? ⟨b, 13, none⟩ = some (sv 12) ∧ W.cell? ⟨b, 14, none⟩ = some (.int .i64 r.wkst)
def BoxF (W : World) (b : Nat) (f : Dy.F) : Prop := W.cell? ⟨b, 0, none⟩ = some (.int .i64 f.day) ∧ W.cell? ⟨b, 1, none⟩ = some (.int .i64 f.month) ∧ W.cell? ⟨b, 2, none⟩ = some (.int .i64 f.date) ∧ W.cell? ⟨b, 3, none⟩ = some (.int .i64 f.weekday) ∧ W.cell? ⟨b, 4, none⟩ = some (.int .i64 f.inMonth) ∧ W.cell? ⟨b, 5, none⟩ = some (.int .i64 f.inYear) ∧ W.cell? ⟨b, 6, none⟩ = some (.int .i64 f.place) ∧ W.cell? ⟨b, 7, none⟩ = some (.int .i64 f.n0) ∧ W.cell? ⟨b, 8, none⟩ = some (.int .i64 f.n1) ∧ W.cell? ⟨b, 9, none⟩ = some (.int .i64 f.n2) ∧ W.cell? ⟨b, 10, none⟩ = some (.int .i64 f.n3)
theorem BoxR.keep {W W2 : World} {b : Nat} {r : R} {sv : Nat → Value} (h : BoxR W b r sv) (hb : b < W.heap.size) (hB : Below W.heap.size W W2) : BoxR W2 b r sv := by
 have k : ∀ i v, W.cell? ⟨b, i, none⟩ = some v → W2.cell? ⟨b, i, none⟩ = some v := fun i v hv => (hB.cell (p := ⟨b, i, none⟩) hb).trans hv
 obtain ⟨h0, h1, h2, h3, h4, h5, h6, h7, h8, h9, h10, h11, h12, h13, h14⟩ := h
 exact ⟨k _ _ h0, k _ _ h1, k _ _ h2, k _ _ h3, k _ _ h4, k _ _ h5, k _ _ h6, k _ _ h7, k _ _ h8, k _ _ h9, k _ _ h10, k _ _ h11, k _ _ h12, k _ _ h13, k _ _ h14⟩
theorem BoxF.keep {W W2 : World} {b : Nat} {f : Dy.F} (h : BoxF W b f) (hb : b < W.heap.size) (hB : Below W.heap.size W W2) : BoxF W2 b f := by
 have k : ∀ i v, W.cell? ⟨b, i, none⟩ = some v → W2.cell? ⟨b, i, none⟩ = some v := fun i v hv => (hB.cell (p := ⟨b, i, none⟩) hb).trans hv
 obtain ⟨h0, h1, h2, h3, h4, h5, h6, h7, h8, h9, h10⟩ := h
 exact ⟨k _ _ h0, k _ _ h1, k _ _ h2, k _ _ h3, k _ _ h4, k _ _ h5, k _ _ h6, k _ _ h7, k _ _ h8, k _ _ h9, k _ _ h10⟩
theorem BoxR.new (w : World) (r : R) (sv : Nat → Value) (t : TypeId) : BoxR (w.alloc (.cells (ruleC r sv) t)) w.heap.size r sv :=
 ⟨(World.cell?_alloc_new w (ruleC r sv) t 0).trans rfl, (World.cell?_alloc_new w (ruleC r sv) t 1).trans rfl, (World.cell?_alloc_new w (ruleC r sv) t 2).trans rfl, (World.cell?_alloc_new w (ruleC r sv) t 3).trans rfl, (World.cell?_alloc_new w (ruleC r sv) t 4).trans rfl, (World.cell?_alloc_new w (ruleC r sv) t 5).trans rfl, (World.cell?_alloc_new w (ruleC r sv) t 6).trans rfl, (World.cell?_alloc_new w (ruleC r sv) t 7).trans rfl, (World.cell?_alloc_new w (ruleC r sv) t 8).trans rfl, (World.cell?_alloc_new w (ruleC r sv) t 9).trans rfl, (World.cell?_alloc_new w (ruleC r sv) t 10).trans rfl, (World.cell?_alloc_new w (ruleC r sv) t 11).trans rfl, (World.cell?_alloc_new w (ruleC r sv) t 12).trans rfl, (World.cell?_alloc_new w (ruleC r sv) t 13).trans rfl, (World.cell?_alloc_new w (ruleC r sv) t 14).trans rfl⟩
theorem BoxF.new (w : World) (f : Dy.F) (t : TypeId) : BoxF (w.alloc (.cells (factsC f) t)) w.heap.size f :=
 ⟨(World.cell?_alloc_new w (factsC f) t 0).trans rfl, (World.cell?_alloc_new w (factsC f) t 1).trans rfl, (World.cell?_alloc_new w (factsC f) t 2).trans rfl, (World.cell?_alloc_new w (factsC f) t 3).trans rfl, (World.cell?_alloc_new w (factsC f) t 4).trans rfl, (World.cell?_alloc_new w (factsC f) t 5).trans rfl, (World.cell?_alloc_new w (factsC f) t 6).trans rfl, (World.cell?_alloc_new w (factsC f) t 7).trans rfl, (World.cell?_alloc_new w (factsC f) t 8).trans rfl, (World.cell?_alloc_new w (factsC f) t 9).trans rfl, (World.cell?_alloc_new w (factsC f) t 10).trans rfl⟩
end Go.Proofs.YtkbohijlhhpfbaaGreatDoor.Da
/- The walk through dayset's lets (printed by gen_lets.py). -/
namespace Go.Proofs.YtkbohijlhhpfbaaGreatDoor.Da
open Go.RowKit Ru Ut Cw Ra
theorem boxes3 (w : World) (r : R) (sv : Nat → Value) (s f : Dy.F) (T1 T2 T3 : TypeId) (W2 : World) (hB : Below (((w.alloc (.cells (ruleC r sv) T1)).alloc (.cells (factsC s) T2)).alloc (.cells (factsC f) T3)).heap.size (((w.alloc (.cells (ruleC r sv) T1)).alloc (.cells (factsC s) T2)).alloc (.cells (factsC f) T3)) W2) :
  BoxR W2 w.heap.size r sv ∧ BoxF W2 (w.heap.size + 1) s ∧ BoxF W2 (w.heap.size + 2) f := by
 have h1 := BoxR.new w r sv T1
 have h2 := BoxF.new (w.alloc (.cells (ruleC r sv) T1)) s T2
 have h3 := BoxF.new ((w.alloc (.cells (ruleC r sv) T1)).alloc (.cells (factsC s) T2)) f T3
 have z1 : (w.alloc (.cells (ruleC r sv) T1)).heap.size = w.heap.size + 1 := World.size_alloc _ _
 have z2 : ((w.alloc (.cells (ruleC r sv) T1)).alloc (.cells (factsC s) T2)).heap.size = w.heap.size + 2 := by rw [World.size_alloc, z1]
 have z3 : (((w.alloc (.cells (ruleC r sv) T1)).alloc (.cells (factsC s) T2)).alloc (.cells (factsC f) T3)).heap.size = w.heap.size + 3 := by rw [World.size_alloc, z2]
 rw [z1] at h2
 rw [z2] at h3
 refine ⟨?_, ?_, h3.keep (by omega) hB⟩
 ·exact (h1.keep (by omega) (Below.next_alloc (Below.next_alloc (Below.refl _ _) _) _)).keep (by omega) hB
 ·exact (h2.keep (by omega) (Below.next_alloc (Below.refl _ _) _)).keep (by omega) hB
theorem lets_eq (r : R) (s f : Dy.F) {b1 b2 b3 b4 b5 b6 : Bool} (g1 : Dy.has r.month f.month f.month = b1) (g2 : Dy.has r.yday f.place (f.place - f.inYear - 1) = b2) (g3 : Dy.has r.mday f.date (f.date - f.inMonth - 1) = b3) (g4 : Dy.has r.weekno (Wk.numN f.day r.wkst) (Wk.backN f.day r.wkst) = b4) (g5 : Dy.onDay r f = b5) (g6 : Dy.likeStart r s f = b6) :
  Dy.lets r s f = ((b1 && (b2 && b3)) && ((decide (r.weekno.length = 0) || b4) && (b5 && b6))) := by unfold Dy.lets; rw [g1, g2, g3, g4, g5, g6]
def Fok (f : Dy.F) : Prop := 0 ≤ f.day ∧ f.day ≤ 3652058 ∧ 0 ≤ f.month ∧ f.month ≤ 12 ∧ 0 ≤ f.date ∧ f.date ≤ 31 ∧ 0 ≤ f.weekday ∧ f.weekday ≤ 6 ∧ 0 ≤ f.inMonth ∧ f.inMonth ≤ 31 ∧ 0 ≤ f.inYear ∧ f.inYear ≤ 366 ∧ 0 ≤ f.place ∧ f.place ≤ 366
set_option maxHeartbeats 8000000 in
set_option maxRecDepth 100000 in
theorem lets_any (w : World) (r : R) (sv : Nat → Value) (s f : Dy.F) (hT : Tab w) (hL : Lists w r sv) (hn : Short r) (hf : Fok f) : Calls Tryz.prog 111 #[ruleV r sv, factsV s, factsV f] w fun e w' => e = .returned (.bool (Dy.lets r s f)) ∧ Below w.heap.size w w' := by
 have n10 : r.weekno.length ≤ 1000 := hn.1 10 (by decide) (by decide) (by decide)
 obtain ⟨b1, g1⟩ : ∃ b, Dy.has r.month f.month f.month = b := ⟨_, rfl⟩
 obtain ⟨b2, g2⟩ : ∃ b, Dy.has r.yday f.place (f.place - f.inYear - 1) = b := ⟨_, rfl⟩
 obtain ⟨b3, g3⟩ : ∃ b, Dy.has r.mday f.date (f.date - f.inMonth - 1) = b := ⟨_, rfl⟩
 obtain ⟨b4, g4⟩ : ∃ b, Dy.has r.weekno (Wk.numN f.day r.wkst) (Wk.backN f.day r.wkst) = b := ⟨_, rfl⟩
 obtain ⟨b5, g5⟩ : ∃ b, Dy.onDay r f = b := ⟨_, rfl⟩
 obtain ⟨b6, g6⟩ : ∃ b, Dy.likeStart r s f = b := ⟨_, rfl⟩
 have hr := lets_eq r s f g1 g2 g3 g4 g5 g6
 have F11 : ∀ W, Below w.heap.size w W → Calls Tryz.prog 150 #[sv 11, .int .i64 f.month, .int .i64 f.month] W fun e w' => e = .returned (.bool b1) ∧ W = w' := fun W hB => by
  have := has_any f.month f.month ((hL.1 11 (by decide) (by decide) (by decide)).below hB) (hn.1 11 (by decide) (by decide) (by decide)); rwa [show lst r 11 = r.month from rfl, g1] at this
 have F9 : ∀ W, Below w.heap.size w W → Calls Tryz.prog 150 #[sv 9, .int .i64 f.place, .int .i64 (f.place - f.inYear - 1)] W fun e w' => e = .returned (.bool b2) ∧ W = w' := fun W hB => by
  have := has_any f.place (f.place - f.inYear - 1) ((hL.1 9 (by decide) (by decide) (by decide)).below hB) (hn.1 9 (by decide) (by decide) (by decide)); rwa [show lst r 9 = r.yday from rfl, g2] at this
 have F8 : ∀ W, Below w.heap.size w W → Calls Tryz.prog 150 #[sv 8, .int .i64 f.date, .int .i64 (f.date - f.inMonth - 1)] W fun e w' => e = .returned (.bool b3) ∧ W = w' := fun W hB => by
  have := has_any f.date (f.date - f.inMonth - 1) ((hL.1 8 (by decide) (by decide) (by decide)).below hB) (hn.1 8 (by decide) (by decide) (by decide)); rwa [show lst r 8 = r.mday from rfl, g3] at this
 have F10 : ∀ W, Below w.heap.size w W → Calls Tryz.prog 150 #[sv 10, .int .i64 (Wk.numN f.day r.wkst), .int .i64 (Wk.backN f.day r.wkst)] W fun e w' => e = .returned (.bool b4) ∧ W = w' := fun W hB => by
  have := has_any (Wk.numN f.day r.wkst) (Wk.backN f.day r.wkst) ((hL.1 10 (by decide) (by decide) (by decide)).below hB) (hn.1 10 (by decide) (by decide) (by decide)); rwa [show lst r 10 = r.weekno from rfl, g4] at this
 have FO : ∀ W, Below w.heap.size w W → Calls Tryz.prog 153 #[ruleV r sv, factsV f] W fun e w' => e = .returned (.bool b5) ∧ Below W.heap.size W w' := fun W hB => by
  have := onDay_any W r sv f (hL.later hB) hn; rwa [g5] at this
 have FL : ∀ W, Below w.heap.size w W → Calls Tryz.prog 154 #[ruleV r sv, factsV s, factsV f] W fun e w' => e = .returned (.bool b6) ∧ Below W.heap.size W w' := fun W hB => by
  have := likeStart_any W r sv s f (hL.later hB) hn; rwa [g6] at this
 have FN := fun W hT => number_any f.day r.wkst W hT
 have FB := fun W hT => backN_any f.day r.wkst W hT
 have HX := boxes3 w r sv s f 33 149 149
 clear g1 g2 g3 g4 g5 g6
 obtain ⟨a10, k10, e10⟩ := (hL.1 10 (by decide) (by decide) (by decide)).slice
 change sv 10 = .slice a10 r.weekno.length k10 at e10
 unfold ruleV ruleC factsV factsC at *
 rw [e10] at FO FL F10 HX ⊢
 have E10 := Lib.hid e10
 have HT := Lib.hid hT
 replace HX := Lib.hid HX
 replace F11 := Lib.hid F11
 replace F10 := Lib.hid F10
 replace F9 := Lib.hid F9
 replace F8 := Lib.hid F8
 replace FO := Lib.hid FO
 replace FL := Lib.hid FL
 replace FN := Lib.hid FN
 replace FB := Lib.hid FB
 obtain ⟨d0, d1, m0, m1, t0, t1, -, -, i0, i1, y0, y1, p0, p1⟩ := hf
 clear e10 hT hL hn
 cases b1
 ·rw [show (((false && (b2 && b3)) && ((decide (r.weekno.length = 0) || b4) && (b5 && b6))) = false) from rfl] at hr
  replace hr := Lib.hid hr
  go_enter Tryz.func111, Tryz.ntmps111
  go_wp2_with (first
   | (go_at_call 150; (with_reducible refine (F11.out _ (by (repeat' (first|assumption|exact Below.refl _ _|apply Below.next_alloc|apply Below.drew|(apply Below.next;rotate_left;assumption))))).mono ?_); rintro e w' ⟨rfl, rfl⟩)
   | (go_at_call 150; (with_reducible refine (F9.out _ (by (repeat' (first|assumption|exact Below.refl _ _|apply Below.next_alloc|apply Below.drew|(apply Below.next;rotate_left;assumption))))).mono ?_); rintro e w' ⟨rfl, rfl⟩)
   | (go_at_call 150; (with_reducible refine (F8.out _ (by (repeat' (first|assumption|exact Below.refl _ _|apply Below.next_alloc|apply Below.drew|(apply Below.next;rotate_left;assumption))))).mono ?_); rintro e w' ⟨rfl, rfl⟩))
  go_ret
  exact ⟨ret_b hr.out.symm, by (repeat' (first|assumption|exact Below.refl _ _|apply Below.next_alloc|apply Below.drew|(apply Below.next;rotate_left;assumption)))⟩
 cases b2
 ·rw [show (((true && (false && b3)) && ((decide (r.weekno.length = 0) || b4) && (b5 && b6))) = false) from rfl] at hr
  replace hr := Lib.hid hr
  go_enter Tryz.func111, Tryz.ntmps111
  go_wp2_with (first
   | (go_at_call 150; (with_reducible refine (F11.out _ (by (repeat' (first|assumption|exact Below.refl _ _|apply Below.next_alloc|apply Below.drew|(apply Below.next;rotate_left;assumption))))).mono ?_); rintro e w' ⟨rfl, rfl⟩)
   | (go_at_call 150; (with_reducible refine (F9.out _ (by (repeat' (first|assumption|exact Below.refl _ _|apply Below.next_alloc|apply Below.drew|(apply Below.next;rotate_left;assumption))))).mono ?_); rintro e w' ⟨rfl, rfl⟩)
   | (go_at_call 150; (with_reducible refine (F8.out _ (by (repeat' (first|assumption|exact Below.refl _ _|apply Below.next_alloc|apply Below.drew|(apply Below.next;rotate_left;assumption))))).mono ?_); rintro e w' ⟨rfl, rfl⟩))
  go_ret
  exact ⟨ret_b hr.out.symm, by (repeat' (first|assumption|exact Below.refl _ _|apply Below.next_alloc|apply Below.drew|(apply Below.next;rotate_left;assumption)))⟩
 cases b3
 ·rw [show (((true && (true && false)) && ((decide (r.weekno.length = 0) || b4) && (b5 && b6))) = false) from rfl] at hr
  replace hr := Lib.hid hr
  go_enter Tryz.func111, Tryz.ntmps111
  go_wp2_with (first
   | (go_at_call 150; (with_reducible refine (F11.out _ (by (repeat' (first|assumption|exact Below.refl _ _|apply Below.next_alloc|apply Below.drew|(apply Below.next;rotate_left;assumption))))).mono ?_); rintro e w' ⟨rfl, rfl⟩)
   | (go_at_call 150; (with_reducible refine (F9.out _ (by (repeat' (first|assumption|exact Below.refl _ _|apply Below.next_alloc|apply Below.drew|(apply Below.next;rotate_left;assumption))))).mono ?_); rintro e w' ⟨rfl, rfl⟩)
   | (go_at_call 150; (with_reducible refine (F8.out _ (by (repeat' (first|assumption|exact Below.refl _ _|apply Below.next_alloc|apply Below.drew|(apply Below.next;rotate_left;assumption))))).mono ?_); rintro e w' ⟨rfl, rfl⟩))
  go_ret
  exact ⟨ret_b hr.out.symm, by (repeat' (first|assumption|exact Below.refl _ _|apply Below.next_alloc|apply Below.drew|(apply Below.next;rotate_left;assumption)))⟩
 rw [show (((true && (true && true)) && ((decide (r.weekno.length = 0) || b4) && (b5 && b6))) = ((decide (r.weekno.length = 0) || b4) && (b5 && b6))) from rfl] at hr
 by_cases h0 : 0 < (r.weekno.length : Int)
 ·rw [decide_eq_false (show ¬ r.weekno.length = 0 by omega), Bool.false_or] at hr
  cases b4
  ·rw [Bool.false_and] at hr
   replace hr := Lib.hid hr
   go_enter Tryz.func111, Tryz.ntmps111
   go_wp2_with (first
    | (go_at_call 150; (with_reducible refine (F11.out _ (by (repeat' (first|assumption|exact Below.refl _ _|apply Below.next_alloc|apply Below.drew|(apply Below.next;rotate_left;assumption))))).mono ?_); rintro e w' ⟨rfl, rfl⟩)
    | (go_at_call 150; (with_reducible refine (F9.out _ (by (repeat' (first|assumption|exact Below.refl _ _|apply Below.next_alloc|apply Below.drew|(apply Below.next;rotate_left;assumption))))).mono ?_); rintro e w' ⟨rfl, rfl⟩)
    | (go_at_call 150; (with_reducible refine (F8.out _ (by (repeat' (first|assumption|exact Below.refl _ _|apply Below.next_alloc|apply Below.drew|(apply Below.next;rotate_left;assumption))))).mono ?_); rintro e w' ⟨rfl, rfl⟩)
    | (go_at_call 151; (with_reducible refine (FN.out _ (HT.out.later (by (repeat' (first|assumption|exact Below.refl _ _|apply Below.next_alloc|apply Below.drew|(apply Below.next;rotate_left;assumption)))))).mono ?_); rintro e w' ⟨rfl, rfl⟩))
   go_quiet (first | (go_at_call 152; with_reducible exact Base.qsame (FB.out _ (Tab.drewN (HT.out.later (by (repeat' (first|assumption|exact Below.refl _ _|apply Below.next_alloc|apply Below.drew|(apply Below.next;rotate_left;assumption))))) _))) | (go_at_call 150; with_reducible exact Base.qsame (F10.out _ (Base.below_drewN (by (repeat' (first|assumption|exact Below.refl _ _|apply Below.next_alloc|apply Below.drew|(apply Below.next;rotate_left;assumption)))) _))))
   go_wp2_with (first
    | fail)
   go_ret
   exact ⟨ret_b hr.out.symm, Base.below_drewN (by (repeat' (first|assumption|exact Below.refl _ _|apply Below.next_alloc|apply Below.drew|(apply Below.next;rotate_left;assumption)))) _⟩
  rw [Bool.true_and] at hr
  cases b5
  ·rw [Bool.false_and] at hr
   replace hr := Lib.hid hr
   go_enter Tryz.func111, Tryz.ntmps111
   go_wp2_with (first
    | (go_at_call 150; (with_reducible refine (F11.out _ (by (repeat' (first|assumption|exact Below.refl _ _|apply Below.next_alloc|apply Below.drew|(apply Below.next;rotate_left;assumption))))).mono ?_); rintro e w' ⟨rfl, rfl⟩)
    | (go_at_call 150; (with_reducible refine (F9.out _ (by (repeat' (first|assumption|exact Below.refl _ _|apply Below.next_alloc|apply Below.drew|(apply Below.next;rotate_left;assumption))))).mono ?_); rintro e w' ⟨rfl, rfl⟩)
    | (go_at_call 150; (with_reducible refine (F8.out _ (by (repeat' (first|assumption|exact Below.refl _ _|apply Below.next_alloc|apply Below.drew|(apply Below.next;rotate_left;assumption))))).mono ?_); rintro e w' ⟨rfl, rfl⟩)
    | (go_at_call 151; (with_reducible refine (FN.out _ (HT.out.later (by (repeat' (first|assumption|exact Below.refl _ _|apply Below.next_alloc|apply Below.drew|(apply Below.next;rotate_left;assumption)))))).mono ?_); rintro e w' ⟨rfl, rfl⟩))
   go_quiet (first | (go_at_call 152; with_reducible exact Base.qsame (FB.out _ (Tab.drewN (HT.out.later (by (repeat' (first|assumption|exact Below.refl _ _|apply Below.next_alloc|apply Below.drew|(apply Below.next;rotate_left;assumption))))) _))) | (go_at_call 150; with_reducible exact Base.qsame (F10.out _ (Base.below_drewN (by (repeat' (first|assumption|exact Below.refl _ _|apply Below.next_alloc|apply Below.drew|(apply Below.next;rotate_left;assumption)))) _))))
   go_wp2_with (first
    | (go_at_call 153; (with_reducible refine (FO.out _ (Base.below_drewN (by (repeat' (first|assumption|exact Below.refl _ _|apply Below.next_alloc|apply Below.drew|(apply Below.next;rotate_left;assumption)))) _)).mono ?_); rintro e w1 ⟨rfl, hB⟩))
   go_ret
   exact ⟨ret_b hr.out.symm, Below.next (Base.below_drewN (by (repeat' (first|assumption|exact Below.refl _ _|apply Below.next_alloc|apply Below.drew|(apply Below.next;rotate_left;assumption)))) _) hB⟩
  ·rw [Bool.true_and] at hr
   replace hr := Lib.hid hr
   go_enter Tryz.func111, Tryz.ntmps111
   go_wp2_with (first
    | (go_at_call 150; (with_reducible refine (F11.out _ (by (repeat' (first|assumption|exact Below.refl _ _|apply Below.next_alloc|apply Below.drew|(apply Below.next;rotate_left;assumption))))).mono ?_); rintro e w' ⟨rfl, rfl⟩)
    | (go_at_call 150; (with_reducible refine (F9.out _ (by (repeat' (first|assumption|exact Below.refl _ _|apply Below.next_alloc|apply Below.drew|(apply Below.next;rotate_left;assumption))))).mono ?_); rintro e w' ⟨rfl, rfl⟩)
    | (go_at_call 150; (with_reducible refine (F8.out _ (by (repeat' (first|assumption|exact Below.refl _ _|apply Below.next_alloc|apply Below.drew|(apply Below.next;rotate_left;assumption))))).mono ?_); rintro e w' ⟨rfl, rfl⟩)
    | (go_at_call 151; (with_reducible refine (FN.out _ (HT.out.later (by (repeat' (first|assumption|exact Below.refl _ _|apply Below.next_alloc|apply Below.drew|(apply Below.next;rotate_left;assumption)))))).mono ?_); rintro e w' ⟨rfl, rfl⟩))
   go_quiet (first | (go_at_call 152; with_reducible exact Base.qsame (FB.out _ (Tab.drewN (HT.out.later (by (repeat' (first|assumption|exact Below.refl _ _|apply Below.next_alloc|apply Below.drew|(apply Below.next;rotate_left;assumption))))) _))) | (go_at_call 150; with_reducible exact Base.qsame (F10.out _ (Base.below_drewN (by (repeat' (first|assumption|exact Below.refl _ _|apply Below.next_alloc|apply Below.drew|(apply Below.next;rotate_left;assumption)))) _))))
   go_wp2_with (first
    | (go_at_call 153; (with_reducible refine (FO.out _ (Base.below_drewN (by (repeat' (first|assumption|exact Below.refl _ _|apply Below.next_alloc|apply Below.drew|(apply Below.next;rotate_left;assumption)))) _)).mono ?_); rintro e w1 ⟨rfl, hB⟩; obtain ⟨⟨x0, x1, x2, x3, x4, x5, x6, x7, x8, x9, x10, x11, x12, x13, x14⟩, ⟨y0, y1, y2, y3, y4, y5, y6, y7, y8, y9, y10⟩, ⟨z0, z1, z2, z3, z4, z5, z6, z7, z8, z9, z10⟩⟩ := HX.out _ (Below.next (Base.below_drewN (Below.refl _ _) _) hB); rw [E10.out] at x11)
    | (go_at_call 154; (with_reducible refine (FL.out _ (Below.next (Base.below_drewN (by (repeat' (first|assumption|exact Below.refl _ _|apply Below.next_alloc|apply Below.drew|(apply Below.next;rotate_left;assumption)))) _) hB)).mono ?_); rintro e w2 ⟨rfl, hB2⟩))
   go_ret
   exact ⟨ret_b hr.out.symm, Below.next (Below.next (Base.below_drewN (by (repeat' (first|assumption|exact Below.refl _ _|apply Below.next_alloc|apply Below.drew|(apply Below.next;rotate_left;assumption)))) _) hB) hB2⟩
 ·rw [decide_eq_true (show r.weekno.length = 0 by omega), Bool.true_or, Bool.true_and] at hr
  cases b5
  ·rw [Bool.false_and] at hr
   replace hr := Lib.hid hr
   go_enter Tryz.func111, Tryz.ntmps111
   go_wp2_with (first
    | (go_at_call 150; (with_reducible refine (F11.out _ (by (repeat' (first|assumption|exact Below.refl _ _|apply Below.next_alloc|apply Below.drew|(apply Below.next;rotate_left;assumption))))).mono ?_); rintro e w' ⟨rfl, rfl⟩)
    | (go_at_call 150; (with_reducible refine (F9.out _ (by (repeat' (first|assumption|exact Below.refl _ _|apply Below.next_alloc|apply Below.drew|(apply Below.next;rotate_left;assumption))))).mono ?_); rintro e w' ⟨rfl, rfl⟩)
    | (go_at_call 150; (with_reducible refine (F8.out _ (by (repeat' (first|assumption|exact Below.refl _ _|apply Below.next_alloc|apply Below.drew|(apply Below.next;rotate_left;assumption))))).mono ?_); rintro e w' ⟨rfl, rfl⟩)
    | (go_at_call 153; (with_reducible refine (FO.out _ (by (repeat' (first|assumption|exact Below.refl _ _|apply Below.next_alloc|apply Below.drew|(apply Below.next;rotate_left;assumption))))).mono ?_); rintro e w1 ⟨rfl, hB⟩))
   go_ret
   exact ⟨ret_b hr.out.symm, Below.next (by (repeat' (first|assumption|exact Below.refl _ _|apply Below.next_alloc|apply Below.drew|(apply Below.next;rotate_left;assumption)))) hB⟩
  ·rw [Bool.true_and] at hr
   replace hr := Lib.hid hr
   go_enter Tryz.func111, Tryz.ntmps111
   go_wp2_with (first
    | (go_at_call 150; (with_reducible refine (F11.out _ (by (repeat' (first|assumption|exact Below.refl _ _|apply Below.next_alloc|apply Below.drew|(apply Below.next;rotate_left;assumption))))).mono ?_); rintro e w' ⟨rfl, rfl⟩)
    | (go_at_call 150; (with_reducible refine (F9.out _ (by (repeat' (first|assumption|exact Below.refl _ _|apply Below.next_alloc|apply Below.drew|(apply Below.next;rotate_left;assumption))))).mono ?_); rintro e w' ⟨rfl, rfl⟩)
    | (go_at_call 150; (with_reducible refine (F8.out _ (by (repeat' (first|assumption|exact Below.refl _ _|apply Below.next_alloc|apply Below.drew|(apply Below.next;rotate_left;assumption))))).mono ?_); rintro e w' ⟨rfl, rfl⟩)
    | (go_at_call 153; (with_reducible refine (FO.out _ (by (repeat' (first|assumption|exact Below.refl _ _|apply Below.next_alloc|apply Below.drew|(apply Below.next;rotate_left;assumption))))).mono ?_); rintro e w1 ⟨rfl, hB⟩; obtain ⟨⟨x0, x1, x2, x3, x4, x5, x6, x7, x8, x9, x10, x11, x12, x13, x14⟩, ⟨y0, y1, y2, y3, y4, y5, y6, y7, y8, y9, y10⟩, ⟨z0, z1, z2, z3, z4, z5, z6, z7, z8, z9, z10⟩⟩ := HX.out _ (hB); rw [E10.out] at x11)
    | (go_at_call 154; (with_reducible refine (FL.out _ (Below.next (by (repeat' (first|assumption|exact Below.refl _ _|apply Below.next_alloc|apply Below.drew|(apply Below.next;rotate_left;assumption)))) hB)).mono ?_); rintro e w2 ⟨rfl, hB2⟩))
   go_ret
   exact ⟨ret_b hr.out.symm, Below.next (Below.next (by (repeat' (first|assumption|exact Below.refl _ _|apply Below.next_alloc|apply Below.drew|(apply Below.next;rotate_left;assumption)))) hB) hB2⟩
end Go.Proofs.YtkbohijlhhpfbaaGreatDoor.Da
/- The walks through dayset's Passes and Nth (printed by gen_pass.py). -/
namespace Go.Proofs.YtkbohijlhhpfbaaGreatDoor.Da
open Go.RowKit Ru Ut Cw Ra
theorem size1 {w W : World} {o : Obj} (h : Below (w.alloc o).heap.size (w.alloc o) W) : w.heap.size < W.heap.size := by
 have := h.size; rw [World.size_alloc] at this; omega
theorem fok_about (n : Int) : Fok (Dy.about n) := by have := Dy.about_bd n; unfold Fok; omega
end Go.Proofs.YtkbohijlhhpfbaaGreatDoor.Da
/- The walk through dayset's Of (printed by gen_of.py). -/
namespace Go.Proofs.YtkbohijlhhpfbaaGreatDoor.Da
open Go.RowKit Ru Ut Cw Ra
theorem of_nil {r : R} {start a b : Int} (h : a < 0 ∨ b < a ∨ 3652059 < b ∨ 366 < b - a ∨ start < 0 ∨ chkR r ≠ 0 ∨ Civ.isDay (start / 86400) = false) : Dy.daysOf r start a b = [] := by unfold Dy.daysOf; rw [if_pos h]
theorem of_days {r : R} {start a b : Int} (h : ¬ (a < 0 ∨ b < a ∨ 3652059 < b ∨ 366 < b - a ∨ start < 0 ∨ chkR r ≠ 0 ∨ Civ.isDay (start / 86400) = false)) : Dy.daysOf r start a b = Dy.days r start a (b - a).toNat := by unfold Dy.daysOf; rw [if_neg h]
theorem gives_nil {w W : World} {l : List Int} (hl : Hid (l = [])) (hB : Below w.heap.size w W) : Gives w l (.returned (.slice none 0 0)) W := by rw [hl.out]; exact ⟨_, rfl, OwnI.nil _ _, hB⟩
theorem gives_of {w W : World} {B : Nat} {v : Value} {l m : List Int} (h : OwnI W B v m) (hl : m = l) (hb : w.heap.size ≤ B) (hB : Below w.heap.size w W) : Gives w l (.returned v) W := by subst hl; exact ⟨_, rfl, h.base hb, hB⟩
set_option maxHeartbeats 8000000 in
set_option maxRecDepth 100000 in
theorem of_any (w : World) (r : R) (sv : Nat → Value) (start a b : Int) (hT : Tab w) (hL : Lists w r sv) (hW : Wide r) (hs1 : -9223372036854775808 ≤ start) (hs2 : start ≤ 9223372036854775807) :
  Calls Tryz.prog 69 #[ruleV r sv, .int .i64 start, .int .i64 a, .int .i64 b] w (Gives w (Dy.daysOf r start a b)) := by
 have FG := fun n W hT => about_any n W hT
 have FS := fun W hT => about_any (start / 86400) W hT
 obtain ⟨d2, g2⟩ : ∃ b, Civ.isDay (start / 86400) = b := ⟨_, rfl⟩
 obtain ⟨s, hs⟩ : ∃ s, Dy.about (start / 86400) = s := ⟨_, rfl⟩
 rw [g2, hs] at FS
 have FC : ∀ W, Below w.heap.size w W → Calls Tryz.prog 33 #[ruleV r sv] W fun e w' => e = .returned (.int .i64 (chkR r)) ∧ Below W.heap.size W w' := fun W hB => rcheck_any W r sv (hL.later hB) hW
 have FL : ∀ n W, Below w.heap.size w W → Calls Tryz.prog 111 #[ruleV r sv, factsV s, factsV (Dy.about n)] W fun e w' => e = .returned (.bool (Dy.lets r s (Dy.about n))) ∧ Below W.heap.size W w' := fun n W hB =>
  lets_any W r sv s (Dy.about n) (hT.later hB) (hL.later hB) hW.1 (fok_about n)
 replace hT := Lib.hid hT
 unfold ruleV ruleC factsV factsC at *
 replace FG := Lib.hid FG
 replace FS := Lib.hid FS
 replace FL := Lib.hid FL
 replace hs := Lib.hid hs
 replace g2 := Lib.hid g2
 clear hL hW
 by_cases h1 : a < 0
 ·have hr := Lib.hid (of_nil (r := r) (start := start) (a := a) (b := b) (.inl h1))
  replace FC := Lib.hid FC
  go_enter Tryz.func69, Tryz.ntmps69
  go_wp2
  go_ret
  exact gives_nil hr (by (repeat' (first|assumption|exact Below.refl _ _|apply Below.next_alloc|apply Below.drew|(apply Below.next;rotate_left;assumption))))
 by_cases h2 : b < a
 ·have hr := Lib.hid (of_nil (r := r) (start := start) (a := a) (b := b) (.inr (.inl h2)))
  replace FC := Lib.hid FC
  go_enter Tryz.func69, Tryz.ntmps69
  go_wp2
  go_ret
  exact gives_nil hr (by (repeat' (first|assumption|exact Below.refl _ _|apply Below.next_alloc|apply Below.drew|(apply Below.next;rotate_left;assumption))))
 by_cases h3 : 3652059 < b
 ·have hr := Lib.hid (of_nil (r := r) (start := start) (a := a) (b := b) (.inr (.inr (.inl h3))))
  replace FC := Lib.hid FC
  go_enter Tryz.func69, Tryz.ntmps69
  go_wp2
  go_ret
  exact gives_nil hr (by (repeat' (first|assumption|exact Below.refl _ _|apply Below.next_alloc|apply Below.drew|(apply Below.next;rotate_left;assumption))))
 by_cases h4 : 366 < b - a
 ·have hr := Lib.hid (of_nil (r := r) (start := start) (a := a) (b := b) (.inr (.inr (.inr (.inl h4)))))
  replace FC := Lib.hid FC
  go_enter Tryz.func69, Tryz.ntmps69
  go_wp2
  go_ret
  exact gives_nil hr (by (repeat' (first|assumption|exact Below.refl _ _|apply Below.next_alloc|apply Below.drew|(apply Below.next;rotate_left;assumption))))
 by_cases h5 : start < 0
 ·have hr := Lib.hid (of_nil (r := r) (start := start) (a := a) (b := b) (.inr (.inr (.inr (.inr (.inl h5))))))
  replace FC := Lib.hid FC
  go_enter Tryz.func69, Tryz.ntmps69
  go_wp2
  go_ret
  exact gives_nil hr (by (repeat' (first|assumption|exact Below.refl _ _|apply Below.next_alloc|apply Below.drew|(apply Below.next;rotate_left;assumption))))
 by_cases h6 : chkR r = 0
 rotate_left
 ·have hq : (chkR r != 0) = true := by simp [h6]
  replace h6 := Lib.hid h6
  have hr := Lib.hid (of_nil (r := r) (start := start) (a := a) (b := b) (.inr (.inr (.inr (.inr (.inr (.inl h6.out)))))))
  replace FC := Lib.hid FC
  go_enter Tryz.func69, Tryz.ntmps69
  go_wp2_with (first
   | (go_at_call 33; (with_reducible refine (FC.out _ (by (repeat' (first|assumption|exact Below.refl _ _|apply Below.next_alloc|apply Below.drew|(apply Below.next;rotate_left;assumption))))).mono ?_); rintro e w1 ⟨rfl, hB1⟩))
  go_ret
  exact gives_nil hr (Below.next_allocs' hB1)
 have hc := Lib.hid h6
 rw [h6] at FC
 clear h6
 cases d2
 ·have hr := Lib.hid (of_nil (r := r) (start := start) (a := a) (b := b) (.inr (.inr (.inr (.inr (.inr (.inr g2.out)))))))
  replace FC := Lib.hid FC
  go_enter Tryz.func69, Tryz.ntmps69
  go_wp2_with (first
   | (go_at_call 33; (with_reducible refine (FC.out _ (by (repeat' (first|assumption|exact Below.refl _ _|apply Below.next_alloc|apply Below.drew|(apply Below.next;rotate_left;assumption))))).mono ?_); rintro e w1 ⟨rfl, hB1⟩)
   | (go_at_call 110; (with_reducible refine (FS.out _ (hT.out.later (Below.next_allocs' hB1))).mono ?_); rintro e w2 ⟨rfl, hB2⟩))
  go_ret
  exact gives_nil hr (Below.next_alloc (Below.next (Below.next_allocs' hB1) hB2) _)
 have hr := Lib.hid (of_days (r := r) (start := start) (a := a) (b := b) (by have := hc.out; have := g2.out; simp_all))
 replace FC := Lib.hid FC
 go_enter Tryz.func69, Tryz.ntmps69
 go_wp2_with (first
  | (go_at_call 33; (with_reducible refine (FC.out _ (by (repeat' (first|assumption|exact Below.refl _ _|apply Below.next_alloc|apply Below.drew|(apply Below.next;rotate_left;assumption))))).mono ?_); rintro e w1 ⟨rfl, hB1⟩; have X1 := Lib.hid ((BoxR.new w r sv _).keep (by simp) hB1); have z1 := Lib.hid (size1 hB1))
  | (go_at_call 110; (with_reducible refine (FS.out _ (hT.out.later (Below.next_allocs' hB1))).mono ?_); rintro e w2 ⟨rfl, hB2⟩))
 have b12 := Lib.hid (Below.next (Below.next_allocs' hB1) hB2)
 have z2 : w.heap.size < w2.heap.size := Nat.lt_of_lt_of_le z1.out hB2.size
 have X2 := Lib.hid (X1.out.keep z1.out hB2)
 have z3 := World.size_alloc w2 (.cells (factsC s) 149)
 have X3 := Lib.hid (X2.out.keep z2 (Below.next_alloc (Below.refl _ _) (.cells (factsC s) 149)))
 have Y3 := Lib.hid (BoxF.new w2 s 149)
 have b13 := Lib.hid (Below.next_alloc b12.out (.cells (factsC s) 149))
 unfold factsC at z3 X3 Y3 b13
 generalize w2.alloc _ = W0 at *
 clear X1 X2 b12
 go_loopw [11, 12] (fun v i wr => ∃ k : Nat, k ≤ (b - a).toNat ∧ i = .int .i64 (a + k) ∧ OwnI wr W0.heap.size v (Dy.days r start a k) ∧ Hid (Below W0.heap.size W0 wr)) (fun _ i _ => (b - intOf i).toNat)
 case atStart => exact ⟨0, by omega, by simp, OwnI.nil _ _, Lib.hid (Below.refl _ _)⟩
 case round =>
  obtain ⟨k, hk, rfl, hown, hB⟩ := hrel
  replace hown := Lib.hid hown
  have hlen := Dy.days_le r start k a
  by_cases hkb : a + k < b
  ·have b1r := Lib.hid (Below.next b13.out hB.out)
   have hlt : w.heap.size < wr.heap.size := Nat.lt_of_lt_of_le (by omega) hB.out.size
   have hlt2 : w2.heap.size < wr.heap.size := Nat.lt_of_lt_of_le (by omega) hB.out.size
   have XR := Lib.hid (X3.out.keep (by omega) hB.out)
   have YR := Lib.hid (Y3.out.keep (by omega) hB.out)
   have DS := Dy.days_snoc r start k a
   rw [hs.out] at DS
   obtain ⟨f, hf⟩ : ∃ f, Dy.about (a + k) = f := ⟨_, rfl⟩
   obtain ⟨t, ht⟩ : ∃ t, Dy.lets r s f = t := ⟨_, rfl⟩
   obtain ⟨u, hu⟩ : ∃ u, Civ.isDay (a + k) = u := ⟨_, rfl⟩
   have FA := FG.out (a + k)
   have FM := FL.out (a + k)
   rw [hf, hu] at FA
   rw [hf, ht] at FM
   rw [hf, ht] at DS
   replace FA := Lib.hid FA
   replace FM := Lib.hid FM
   clear hf ht hu
   cases t
   ·rw [if_neg (by decide), List.append_nil] at DS
    replace DS := Lib.hid DS
    go_wp2_with (first
     | (go_at_call 110; (with_reducible refine (FA.out _ (hT.out.later b1r.out)).mono ?_); rintro e w3 ⟨rfl, hB3⟩; have q1 : w.heap.size < w3.heap.size := Nat.lt_of_lt_of_le hlt hB3.size; have q2 : w2.heap.size < w3.heap.size := Nat.lt_of_lt_of_le hlt2 hB3.size; obtain ⟨x0, x1, x2, x3, x4, x5, x6, x7, x8, x9, x10, x11, x12, x13, x14⟩ := XR.out.keep hlt hB3; obtain ⟨y0, y1, y2, y3, y4, y5, y6, y7, y8, y9, y10⟩ := YR.out.keep hlt2 hB3)
     | (go_at_call 111; (with_reducible refine (FM.out _ (Below.next_alloc (Below.next b1r.out hB3) _)).mono ?_); rintro e w4 ⟨rfl, hB4⟩))
    have B34 := Below.next (Below.next_alloc hB3 _) hB4
    go_roundw
    case rel => exact ⟨k + 1, by omega, by go_num, by rw [DS.out]; exact hown.out.below B34, Lib.hid (Below.next hB.out B34)⟩
    case measure => simp [intOf]; omega
   ·rw [if_pos rfl] at DS
    replace DS := Lib.hid DS
    go_wp2_with (first
     | (go_at_call 110; (with_reducible refine (FA.out _ (hT.out.later b1r.out)).mono ?_); rintro e w3 ⟨rfl, hB3⟩; have q1 : w.heap.size < w3.heap.size := Nat.lt_of_lt_of_le hlt hB3.size; have q2 : w2.heap.size < w3.heap.size := Nat.lt_of_lt_of_le hlt2 hB3.size; obtain ⟨x0, x1, x2, x3, x4, x5, x6, x7, x8, x9, x10, x11, x12, x13, x14⟩ := XR.out.keep hlt hB3; obtain ⟨y0, y1, y2, y3, y4, y5, y6, y7, y8, y9, y10⟩ := YR.out.keep hlt2 hB3)
     | (go_at_call 111; (with_reducible refine (FM.out _ (Below.next_alloc (Below.next b1r.out hB3) _)).mono ?_); rintro e w4 ⟨rfl, hB4⟩; have B34 := Lib.hid (Below.next (Below.next_alloc hB3 _) hB4))
     | (at_builtin; refine push_int rfl _ _ rfl W0.heap.size _ (Dy.days r start a k) rfl (hown.out.below B34.out) rfl (by omega) (Below.next hB.out B34.out).size ?_; intro v5 w5 hown5 hB5))
    go_roundw
    case rel => exact ⟨k + 1, by omega, by go_num, by rw [DS.out]; exact hown5, Lib.hid ((Below.next hB.out B34.out).trans hB5)⟩
    case measure => simp [intOf]; omega
  ·have hr2 := Lib.hid (show Dy.days r start a k = Dy.daysOf r start a b by rw [hr.out, show k = (b - a).toNat by omega])
   go_wp2
   go_ret
   exact gives_of hown.out hr2.out b13.out.size (Below.next b13.out hB.out)
end Go.Proofs.YtkbohijlhhpfbaaGreatDoor.Da

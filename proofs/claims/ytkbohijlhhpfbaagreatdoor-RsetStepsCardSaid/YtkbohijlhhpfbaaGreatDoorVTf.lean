/- The choices of a rule: the walk through timeset's set. -/
import Derived.Test.YtkbohijlhhpfbaaGreatDoorVTe
import Derived.Test.YtkbohijlhhpfbaaGreatDoorVLc
namespace Go.Proofs.YtkbohijlhhpfbaaGreatDoor.Tm
open Go.RowKit Ru Ut Cw Ra
def mayT (r : R) (start : Int) : Bool := decide (0 ≤ start) && (decide (start ≤ 315537897599) && decide (chkR r = 0))
def toldH (r : R) : Bool := decide (3 ≤ r.freq)
def toldM (r : R) : Bool := decide (2 ≤ r.freq)
def toldS (r : R) : Bool := decide (1 ≤ r.freq)
def timesV (vh : Value) (ah : Nat) (vm : Value) (am : Nat) (vs : Value) (as_ : Nat) : Value := .agg #[vh, .int .i64 ah, vm, .int .i64 am, vs, .int .i64 as_]
def zeroT : Value := .agg #[.slice none 0 0, .int .i64 0, .slice none 0 0, .int .i64 0, .slice none 0 0, .int .i64 0]
def GivesT (w : World) (r : R) (start : Int) (e : Ending) (w' : World) : Prop := ∃ vh vm vs, e = .returned (.tuple #[timesV vh (chAll r.hour (toldH r) 24) vm (chAll r.min (toldM r) 60) vs (chAll r.sec (toldS r) 60), .bool true]) ∧
 Ints w' vh (chList r.hour (toldH r) (start % 86400 / 3600)) ∧ Ints w' vm (chList r.min (toldM r) (start % 86400 / 60 % 60)) ∧ Ints w' vs (chList r.sec (toldS r) (start % 60)) ∧ Below w.heap.size w w'
theorem six_all (t : TypeId) (w : World) {W : World} {A : Array Value} {B b : Nat} (hb : b = w.heap.size) (hB : B = w.heap.size + 1) (h : Below B (w.alloc (.cells A t)) W) :
  (∀ i v, A[i]? = some v → W.cell? ⟨b, i, none⟩ = some v) ∧ ∀ i, W.frozen? ⟨b, i, none⟩ = false := by
 subst hb
 exact ⟨fun i v hv => (h.cell (p := ⟨w.heap.size, i, none⟩) (by simp; omega)).trans ((World.cell?_alloc_new w A t i).trans hv), fun i => (h.frozen (p := ⟨w.heap.size, i, none⟩) (by simp; omega)).trans (World.frozen?_alloc_new w A t i)⟩
theorem setAll_all (b : Nat) (vs : List Value) (W : World) (h : ∀ j, j < vs.length → (W.cell? ⟨b, j, none⟩).isSome = true) (i : Nat) (v : Value) (hv : vs[i]? = some v) : (setAll b W 0 vs).cell? ⟨b, i, none⟩ = some v := by
 have := setAll_cell b vs W 0 i v (fun j _ hj => h j (by omega)) hv
 rwa [Nat.zero_add] at this
theorem six_some {W : World} {b : Nat} {a0 a1 a2 a3 a4 a5 : Value} (h0 : W.cell? ⟨b, 0, none⟩ = some a0) (h1 : W.cell? ⟨b, 1, none⟩ = some a1) (h2 : W.cell? ⟨b, 2, none⟩ = some a2) (h3 : W.cell? ⟨b, 3, none⟩ = some a3) (h4 : W.cell? ⟨b, 4, none⟩ = some a4) (h5 : W.cell? ⟨b, 5, none⟩ = some a5) :
  ∀ j, j < 6 → (W.cell? ⟨b, j, none⟩).isSome = true := fun j hj => by
 match j, hj with
 | 0, _ => rw [h0]; rfl
 | 1, _ => rw [h1]; rfl
 | 2, _ => rw [h2]; rfl
 | 3, _ => rw [h3]; rfl
 | 4, _ => rw [h4]; rfl
 | 5, _ => rw [h5]; rfl
theorem of_len {w : World} {v : Value} {l : List Int} (hl : Ints w v l) (hn : l.length ≤ 1000) (told : Bool) (start : Int) (all : Nat) (W : World) (hB : Below w.heap.size w W) :
  Calls Tryz.prog 155 #[v, .bool told, .int .i64 start, .int .i64 all] W fun e w' => ∃ a c, e = .returned (.agg #[.slice a (chList l told start).length c, .int .i64 (chAll l told all)]) ∧ OwnI w' W.heap.size (.slice a (chList l told start).length c) (chList l told start) ∧ Below W.heap.size W w' := by
 refine (of_any told start all (hl.below hB) hn).mono ?_
 rintro e w' ⟨cv, rfl, hI, hb⟩
 obtain ⟨a, c, rfl⟩ := hI.slice
 exact ⟨a, c, rfl, hI, hb⟩
set_option maxHeartbeats 4000000 in
set_option maxRecDepth 100000 in
theorem set_no (w : World) (r : R) (sv : Nat → Value) (start : Int) (hL : Lists w r sv) (hW : Wide r) (hm : mayT r start = false) :
  Calls Tryz.prog 112 #[ruleV r sv, .int .i64 start] w fun e w' => e = .returned (.tuple #[zeroT, .bool false]) ∧ Below w.heap.size w w' := by
 have FC : ∀ W, Below w.heap.size w W → Calls Tryz.prog 33 #[ruleV r sv] W fun e w' => e = .returned (.int .i64 (chkR r)) ∧ Below W.heap.size W w' := fun W hB => rcheck_any W r sv (hL.later hB) hW
 unfold ruleV ruleC at *
 by_cases h0 : start < 0
 ·clear FC
  go_enter Tryz.func112, Tryz.ntmps112
  go_wp2
  refine bodyPost_ret (v := .tuple #[zeroT, .bool false]) (by simp [results, Tryz.results112, go_sem, zeroT]) rfl ?_
  exact ⟨rfl, by (repeat' (first|assumption|exact Below.refl _ _|apply Below.next_alloc|apply Below.drew|(apply Below.next;rotate_left;assumption)))⟩
 by_cases h1 : 315537897599 < start
 ·clear FC
  go_enter Tryz.func112, Tryz.ntmps112
  go_wp2
  refine bodyPost_ret (v := .tuple #[zeroT, .bool false]) (by simp [results, Tryz.results112, go_sem, zeroT]) rfl ?_
  exact ⟨rfl, by (repeat' (first|assumption|exact Below.refl _ _|apply Below.next_alloc|apply Below.drew|(apply Below.next;rotate_left;assumption)))⟩
 have hc : ¬ chkR r = 0 := fun h => by
  unfold mayT at hm
  rw [decide_eq_true (by omega), decide_eq_true (by omega), decide_eq_true h] at hm
  cases hm
 have hq : (chkR r == 0) = false := by simp [hc]
 have FC := Lib.hid FC
 clear hc
 go_enter Tryz.func112, Tryz.ntmps112
 go_wp2_with (first
  | (go_at_call 33; (with_reducible refine (FC.out _ (by (repeat' (first|assumption|exact Below.refl _ _|apply Below.next_alloc|apply Below.drew|(apply Below.next;rotate_left;assumption))))).mono ?_); rintro e w1 ⟨rfl, hB1⟩; have hk := Lib.hid (Below.next (Below.next_alloc (Below.next_alloc (Below.refl _ _) _) _) hB1); obtain ⟨zc, zf⟩ := six_all (b := w.heap.size + 1) _ _ (by simp) (by simp) hB1; have z0 := zc 0 _ rfl; have f0 := zf 0; have z1 := zc 1 _ rfl; have f1 := zf 1; have z2 := zc 2 _ rfl; have f2 := zf 2; have z3 := zc 3 _ rfl; have f3 := zf 3; have z4 := zc 4 _ rfl; have f4 := zf 4; have z5 := zc 5 _ rfl; have f5 := zf 5; clear zc zf hB1))
 have hSA : ((((((w1.setCell ⟨w.heap.size + 1, 0, none⟩ (.slice none 0 0)).setCell ⟨w.heap.size + 1, 1, none⟩ (.int .i64 0)).setCell ⟨w.heap.size + 1, 2, none⟩ (.slice none 0 0)).setCell ⟨w.heap.size + 1, 3, none⟩ (.int .i64 0)).setCell ⟨w.heap.size + 1, 4, none⟩ (.slice none 0 0)).setCell ⟨w.heap.size + 1, 5, none⟩ (.int .i64 0)) = setAll (w.heap.size + 1) w1 0 [.slice none 0 0, .int .i64 0, .slice none 0 0, .int .i64 0, .slice none 0 0, .int .i64 0] := rfl
 rw [hSA]
 clear hSA
 have CC := setAll_all (w.heap.size + 1) [.slice none 0 0, .int .i64 0, .slice none 0 0, .int .i64 0, .slice none 0 0, .int .i64 0] w1 (six_some z0 z1 z2 z3 z4 z5)
 have e0 := CC 0 _ rfl; have e1 := CC 1 _ rfl; have e2 := CC 2 _ rfl; have e3 := CC 3 _ rfl; have e4 := CC 4 _ rfl; have e5 := CC 5 _ rfl
 refine bodyPost_ret (v := .tuple #[zeroT, .bool false]) (by simp [results, Tryz.results112, go_sem, zeroT, e0, e1, e2, e3, e4, e5]) rfl ?_
 exact ⟨rfl, setAll_below _ (Nat.le_succ _) _ _ _ hk.out⟩
set_option maxHeartbeats 16000000 in
set_option maxRecDepth 100000 in
theorem set_yes (w : World) (r : R) (sv : Nat → Value) (start : Int) (hL : Lists w r sv) (hW : Wide r) (hm : mayT r start = true) :
  Calls Tryz.prog 112 #[ruleV r sv, .int .i64 start] w (GivesT w r start) := by
 have FC : ∀ W, Below w.heap.size w W → Calls Tryz.prog 33 #[ruleV r sv] W fun e w' => e = .returned (.int .i64 (chkR r)) ∧ Below W.heap.size W w' := fun W hB => rcheck_any W r sv (hL.later hB) hW
 have F6 : ∀ told s W, Below w.heap.size w W → Calls Tryz.prog 155 #[sv 6, .bool told, .int .i64 s, .int .i64 24] W fun e w' => ∃ a c, e = .returned (.agg #[.slice a (chList r.hour told s).length c, .int .i64 (chAll r.hour told 24)]) ∧ OwnI w' W.heap.size (.slice a (chList r.hour told s).length c) (chList r.hour told s) ∧ Below W.heap.size W w' := fun told s W hB => of_len (hL.1 6 (by decide) (by decide) (by decide)) (hW.1.1 6 (by decide) (by decide) (by decide)) told s 24 W hB
 have F5 : ∀ told s W, Below w.heap.size w W → Calls Tryz.prog 155 #[sv 5, .bool told, .int .i64 s, .int .i64 60] W fun e w' => ∃ a c, e = .returned (.agg #[.slice a (chList r.min told s).length c, .int .i64 (chAll r.min told 60)]) ∧ OwnI w' W.heap.size (.slice a (chList r.min told s).length c) (chList r.min told s) ∧ Below W.heap.size W w' := fun told s W hB => of_len (hL.1 5 (by decide) (by decide) (by decide)) (hW.1.1 5 (by decide) (by decide) (by decide)) told s 60 W hB
 have F4 : ∀ told s W, Below w.heap.size w W → Calls Tryz.prog 155 #[sv 4, .bool told, .int .i64 s, .int .i64 60] W fun e w' => ∃ a c, e = .returned (.agg #[.slice a (chList r.sec told s).length c, .int .i64 (chAll r.sec told 60)]) ∧ OwnI w' W.heap.size (.slice a (chList r.sec told s).length c) (chList r.sec told s) ∧ Below W.heap.size W w' := fun told s W hB => of_len (hL.1 4 (by decide) (by decide) (by decide)) (hW.1.1 4 (by decide) (by decide) (by decide)) told s 60 W hB
 unfold mayT at hm
 simp only [Bool.and_eq_true, decide_eq_true_eq] at hm
 obtain ⟨h0, h1, hc⟩ := hm
 rw [hc] at FC
 unfold ruleV ruleC at *
 replace F6 := Lib.hid F6; replace F5 := Lib.hid F5; replace F4 := Lib.hid F4
 replace FC := Lib.hid FC
 have hW0 := hW.2.1.1
 clear hc hL hW
 go_enter Tryz.func112, Tryz.ntmps112
 go_wp2_with (first
  | (go_at_call 33; (with_reducible refine (FC.out _ (by (repeat' (first|assumption|exact Below.refl _ _|apply Below.next_alloc|apply Below.drew|(apply Below.next;rotate_left;assumption))))).mono ?_); rintro e w1 ⟨rfl, hB1⟩; have hk := Lib.hid (Below.next (Below.next_alloc (Below.next_alloc (Below.refl _ _) _) _) hB1); obtain ⟨zc, zf⟩ := six_all (b := w.heap.size + 1) _ _ (by simp) (by simp) hB1; have z0 := zc 0 _ rfl; have f0 := zf 0; have z1 := zc 1 _ rfl; have f1 := zf 1; have z2 := zc 2 _ rfl; have f2 := zf 2; have z3 := zc 3 _ rfl; have f3 := zf 3; have z4 := zc 4 _ rfl; have f4 := zf 4; have z5 := zc 5 _ rfl; have f5 := zf 5; clear zc zf; obtain ⟨rc, -⟩ := six_all (b := w.heap.size) (B := w.heap.size + 1) _ w rfl rfl (((Below.refl (w.heap.size + 1) (w.alloc (.cells #[.int .u8 r.freq, .int .i64 r.interval, .int .i64 r.count, .int .u8 r.uk, .int .i64 r.us, sv 4, sv 5, sv 6, sv 7, sv 8, sv 9, sv 10, sv 11, sv 12, .int .i64 r.wkst] 33))).alloc (by simp) _).trans (hB1.mono (by simp))); have k0 := rc 0 _ rfl; have k5 := rc 5 _ rfl; have k6 := rc 6 _ rfl; have k7 := rc 7 _ rfl; clear rc; have hz := Lib.hid (show w.heap.size + 2 ≤ w1.heap.size by have := hB1.size; simp at this; omega); clear hB1))
 have SL : ∀ W, Below w1.heap.size w1 W → (W.cell? ⟨w.heap.size, 0, none⟩ = some (.int .u8 r.freq) ∧ W.cell? ⟨w.heap.size, 5, none⟩ = some (sv 4) ∧ W.cell? ⟨w.heap.size, 6, none⟩ = some (sv 5) ∧ W.cell? ⟨w.heap.size, 7, none⟩ = some (sv 6) ∧ W.cell? ⟨w.heap.size + 1, 0, none⟩ = some (held W ⟨w.heap.size + 1, 0, none⟩) ∧ W.cell? ⟨w.heap.size + 1, 1, none⟩ = some (held W ⟨w.heap.size + 1, 1, none⟩) ∧ W.cell? ⟨w.heap.size + 1, 2, none⟩ = some (held W ⟨w.heap.size + 1, 2, none⟩) ∧ W.cell? ⟨w.heap.size + 1, 3, none⟩ = some (held W ⟨w.heap.size + 1, 3, none⟩) ∧ W.cell? ⟨w.heap.size + 1, 4, none⟩ = some (held W ⟨w.heap.size + 1, 4, none⟩) ∧ W.cell? ⟨w.heap.size + 1, 5, none⟩ = some (held W ⟨w.heap.size + 1, 5, none⟩) ∧ W.frozen? ⟨w.heap.size + 1, 0, none⟩ = false ∧ W.frozen? ⟨w.heap.size + 1, 1, none⟩ = false ∧ W.frozen? ⟨w.heap.size + 1, 2, none⟩ = false ∧ W.frozen? ⟨w.heap.size + 1, 3, none⟩ = false ∧ W.frozen? ⟨w.heap.size + 1, 4, none⟩ = false ∧ W.frozen? ⟨w.heap.size + 1, 5, none⟩ = false) := fun W hB => by
  have hz := hz.out
  have k : ∀ i v, w1.cell? ⟨w.heap.size, i, none⟩ = some v → W.cell? ⟨w.heap.size, i, none⟩ = some v := fun i v hv => (hB.cell (p := ⟨w.heap.size, i, none⟩) (by simp only; omega)).trans hv
  have kz : ∀ i v, w1.cell? ⟨w.heap.size + 1, i, none⟩ = some v → W.cell? ⟨w.heap.size + 1, i, none⟩ = some v := fun i v hv => (hB.cell (p := ⟨w.heap.size + 1, i, none⟩) (by simp only; omega)).trans hv
  have kf : ∀ i, w1.frozen? ⟨w.heap.size + 1, i, none⟩ = false → W.frozen? ⟨w.heap.size + 1, i, none⟩ = false := fun i hv => (hB.frozen (p := ⟨w.heap.size + 1, i, none⟩) (by simp only; omega)).trans hv
  exact ⟨k _ _ k0, k _ _ k5, k _ _ k6, k _ _ k7, held_mk (kz _ _ z0), held_mk (kz _ _ z1), held_mk (kz _ _ z2), held_mk (kz _ _ z3), held_mk (kz _ _ z4), held_mk (kz _ _ z5), kf _ f0, kf _ f1, kf _ f2, kf _ f3, kf _ f4, kf _ f5⟩
 clear z0 z1 z2 z3 z4 z5 f0 f1 f2 f3 f4 f5 k0 k5 k6 k7
 obtain ⟨k0, k5, k6, k7, z0, z1, z2, z3, z4, z5, f0, f1, f2, f3, f4, f5⟩ := SL w1 (Below.refl _ _)
 replace SL := Lib.hid SL
 go_region_held3 (fun w' => w'.cell? ⟨w.heap.size, 0, none⟩ = some (.int .u8 r.freq) ∧ w'.cell? ⟨w.heap.size, 5, none⟩ = some (sv 4) ∧ w'.cell? ⟨w.heap.size, 6, none⟩ = some (sv 5) ∧ w'.cell? ⟨w.heap.size, 7, none⟩ = some (sv 6) ∧ w'.cell? ⟨w.heap.size + 1, 0, none⟩ = some (held w' ⟨w.heap.size + 1, 0, none⟩) ∧ w'.cell? ⟨w.heap.size + 1, 1, none⟩ = some (held w' ⟨w.heap.size + 1, 1, none⟩) ∧ w'.cell? ⟨w.heap.size + 1, 2, none⟩ = some (held w' ⟨w.heap.size + 1, 2, none⟩) ∧ w'.cell? ⟨w.heap.size + 1, 3, none⟩ = some (held w' ⟨w.heap.size + 1, 3, none⟩) ∧ w'.cell? ⟨w.heap.size + 1, 4, none⟩ = some (held w' ⟨w.heap.size + 1, 4, none⟩) ∧ w'.cell? ⟨w.heap.size + 1, 5, none⟩ = some (held w' ⟨w.heap.size + 1, 5, none⟩) ∧ w'.frozen? ⟨w.heap.size + 1, 0, none⟩ = false ∧ w'.frozen? ⟨w.heap.size + 1, 1, none⟩ = false ∧ w'.frozen? ⟨w.heap.size + 1, 2, none⟩ = false ∧ w'.frozen? ⟨w.heap.size + 1, 3, none⟩ = false ∧ w'.frozen? ⟨w.heap.size + 1, 4, none⟩ = false ∧ w'.frozen? ⟨w.heap.size + 1, 5, none⟩ = false) (first | ((with_reducible refine SL.out _ ?_); (with_reducible (repeat' (first|assumption|exact Below.refl _ _|apply Below.next_alloc|apply Below.drew|(apply Below.next;rotate_left;assumption)))); done) | ((repeat' (with_reducible apply And.intro)) <;> (first | ((with_reducible refine held_is ?_); (repeat (with_reducible refine set_some ?_)); go_keep; done) | (go_keep; done))))
  (first
   | (go_at_call 155; (with_reducible refine (F6.out _ _ _ (Below.next hk.out (by (repeat' (first|assumption|exact Below.refl _ _|apply Below.next_alloc|apply Below.drew|(apply Below.next;rotate_left;assumption)))))).mono ?_); rintro e y6 ⟨p6, u6, rfl, hO6, hB6⟩; replace hO6 := Lib.hid hO6)
   | (go_at_call 155; (with_reducible refine (F5.out _ _ _ (Below.next hk.out (by (repeat' (first|assumption|exact Below.refl _ _|apply Below.next_alloc|apply Below.drew|(apply Below.next;rotate_left;assumption)))))).mono ?_); rintro e y5 ⟨p5, u5, rfl, hO5, hB5⟩; replace hO5 := Lib.hid hO5)
   | (go_at_call 155; (with_reducible refine (F4.out _ _ _ (Below.next hk.out (by (repeat' (first|assumption|exact Below.refl _ _|apply Below.next_alloc|apply Below.drew|(apply Below.next;rotate_left;assumption)))))).mono ?_); rintro e y4 ⟨p4, u4, rfl, hO4, hB4⟩; replace hO4 := Lib.hid hO4))
 have hS1 : IntKind.i64.wrap ((start % 86400).tdiv 3600) = start % 86400 / 3600 := by exact Go.IntWalk.i64_quo _ _ (by omega)
 have hS2 : (IntKind.i64.wrap ((start % 86400).tdiv 60)).tmod 60 = start % 86400 / 60 % 60 := by rw [Go.IntWalk.i64_quo _ _ (by omega), Int.tmod_eq_emod_of_nonneg (by omega)]
 have hS3 : (start % 86400).tmod 60 = start % 60 := by rw [Int.tmod_eq_emod_of_nonneg (by omega)]; omega
 replace hO6 := hO6.out
 replace hO5 := hO5.out
 replace hO4 := hO4.out
 rw [hS1] at hO6
 rw [hS2] at hO5
 rw [hS3] at hO4
 rw [hS2, hS1, hS3]
 have d1 : decide (3 ≤ r.freq) = toldH r := rfl
 have d2 : decide (2 ≤ r.freq) = toldM r := rfl
 have d3 : decide (1 ≤ r.freq) = toldS r := rfl
 rw [d1] at hO6
 rw [d2] at hO5
 rw [d3] at hO4
 rw [d1, d2, d3]
 have BW := Lib.hid (Below.next (Below.next (Below.next (Below.refl w1.heap.size w1).drew hB6) hB5) hB4)
 have BB := Lib.hid (Below.next hk.out BW.out)
 have I6 := hO6.below (Below.next hB5 hB4)
 have I5 := hO5.below hB4
 have VV := SL.out y4 BW.out
 obtain ⟨-, -, -, -, g0, g1, g2, g3, g4, g5, -⟩ := VV
 have hSA : ((((((y4.setCell ⟨w.heap.size + 1, 0, none⟩ (.slice p6 (chList r.hour (toldH r) (start % 86400 / 3600)).length u6)).setCell ⟨w.heap.size + 1, 1, none⟩ (.int .i64 (chAll r.hour (toldH r) 24))).setCell ⟨w.heap.size + 1, 2, none⟩ (.slice p5 (chList r.min (toldM r) (start % 86400 / 60 % 60)).length u5)).setCell ⟨w.heap.size + 1, 3, none⟩ (.int .i64 (chAll r.min (toldM r) 60))).setCell ⟨w.heap.size + 1, 4, none⟩ (.slice p4 (chList r.sec (toldS r) (start % 60)).length u4)).setCell ⟨w.heap.size + 1, 5, none⟩ (.int .i64 (chAll r.sec (toldS r) 60))) = setAll (w.heap.size + 1) y4 0 [.slice p6 (chList r.hour (toldH r) (start % 86400 / 3600)).length u6, .int .i64 (chAll r.hour (toldH r) 24), .slice p5 (chList r.min (toldM r) (start % 86400 / 60 % 60)).length u5, .int .i64 (chAll r.min (toldM r) 60), .slice p4 (chList r.sec (toldS r) (start % 60)).length u4, .int .i64 (chAll r.sec (toldS r) 60)] := rfl
 rw [hSA]
 clear hSA
 have CC := setAll_all (w.heap.size + 1) [.slice p6 (chList r.hour (toldH r) (start % 86400 / 3600)).length u6, .int .i64 (chAll r.hour (toldH r) 24), .slice p5 (chList r.min (toldM r) (start % 86400 / 60 % 60)).length u5, .int .i64 (chAll r.min (toldM r) 60), .slice p4 (chList r.sec (toldS r) (start % 60)).length u4, .int .i64 (chAll r.sec (toldS r) 60)] y4 (six_some g0 g1 g2 g3 g4 g5)
 have e0 := CC 0 _ rfl; have e1 := CC 1 _ rfl; have e2 := CC 2 _ rfl; have e3 := CC 3 _ rfl; have e4 := CC 4 _ rfl; have e5 := CC 5 _ rfl
 have hkeep := setAll_heap (w.heap.size + 1) [.slice p6 (chList r.hour (toldH r) (start % 86400 / 3600)).length u6, .int .i64 (chAll r.hour (toldH r) 24), .slice p5 (chList r.min (toldM r) (start % 86400 / 60 % 60)).length u5, .int .i64 (chAll r.min (toldM r) 60), .slice p4 (chList r.sec (toldS r) (start % 60)).length u4, .int .i64 (chAll r.sec (toldS r) 60)] y4 0
 have BF := Lib.hid (setAll_below (w.heap.size + 1) (Nat.le_succ _) [.slice p6 (chList r.hour (toldH r) (start % 86400 / 3600)).length u6, .int .i64 (chAll r.hour (toldH r) 24), .slice p5 (chList r.min (toldM r) (start % 86400 / 60 % 60)).length u5, .int .i64 (chAll r.min (toldM r) 60), .slice p4 (chList r.sec (toldS r) (start % 60)).length u4, .int .i64 (chAll r.sec (toldS r) 60)] y4 0 BB.out)
 have z6 : w.heap.size + 1 < w1.drew.heap.size := by show w.heap.size + 1 < w1.heap.size; have := hz.out; omega
 have z5 : w.heap.size + 1 < y6.heap.size := Nat.lt_of_lt_of_le z6 hB6.size
 have z4 : w.heap.size + 1 < y5.heap.size := Nat.lt_of_lt_of_le z5 hB5.size
 have J6 := (I6.moved (hkeep · ·) z6).ints
 have J5 := (I5.moved (hkeep · ·) z5).ints
 have J4 := (hO4.moved (hkeep · ·) z4).ints
 replace J6 := Lib.hid J6
 replace J5 := Lib.hid J5
 replace J4 := Lib.hid J4
 clear hkeep CC I6 I5 hO6 hO5 hO4 hB4 hB5 hB6 BW BB SL hk hz
 generalize setAll (w.heap.size + 1) y4 0 [.slice p6 (chList r.hour (toldH r) (start % 86400 / 3600)).length u6, .int .i64 (chAll r.hour (toldH r) 24), .slice p5 (chList r.min (toldM r) (start % 86400 / 60 % 60)).length u5, .int .i64 (chAll r.min (toldM r) 60), .slice p4 (chList r.sec (toldS r) (start % 60)).length u4, .int .i64 (chAll r.sec (toldS r) 60)] = Wf at *
 go_wp2
 refine bodyPost_ret (v := .tuple #[timesV (.slice p6 (chList r.hour (toldH r) (start % 86400 / 3600)).length u6) (chAll r.hour (toldH r) 24) (.slice p5 (chList r.min (toldM r) (start % 86400 / 60 % 60)).length u5) (chAll r.min (toldM r) 60) (.slice p4 (chList r.sec (toldS r) (start % 60)).length u4) (chAll r.sec (toldS r) 60), .bool true]) (by simp [results, Tryz.results112, go_sem, timesV, e0, e1, e2, e3, e4, e5]) rfl ⟨_, _, _, rfl, J6.out, J5.out, J4.out, BF.out⟩
end Go.Proofs.YtkbohijlhhpfbaaGreatDoor.Tm

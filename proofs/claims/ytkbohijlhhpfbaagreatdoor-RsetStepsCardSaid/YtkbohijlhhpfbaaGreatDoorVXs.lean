import Derived.Test.YtkbohijlhhpfbaaGreatDoorVYi
import Derived.Test.YtkbohijlhhpfbaaGreatDoorVEg
import Derived.Test.YtkbohijlhhpfbaaGreatDoorVTn
import Derived.Test.YtkbohijlhhpfbaaGreatDoorVPr
import Derived.Test.YtkbohijlhhpfbaaGreatDoorVRq
import Derived.IntWalk
import Derived.Deep.AppendLies
/- What a period costs, by the document's answer: the walks through errandref25's days, times and Cost (printed by gen_ref.py). -/
namespace Go.Proofs.YtkbohijlhhpfbaaGreatDoor.Xp
open Go.RowKit Ru Ut Cw Ra
set_option maxHeartbeats 2000000 in
set_option maxRecDepth 100000 in
theorem rdays_any (w : World) (r : R) (sv : Nat → Value) (s f t : Int) (f0 : 0 ≤ f) (t0 : 0 ≤ t) (t1 : t ≤ 315537897600) (f1 : f ≤ 315537897600) (hL : Lists w r sv) (hW : Wide r) :
  Calls Tryz.prog 39 #[ruleV r sv, .int .i64 s, .int .i64 f, .int .i64 t] w (Gives w (Dy.daysOf r s (f / 86400) ((t + 86399) / 86400))) := by
 have FD : ∀ W, Below w.heap.size w W → Calls Tryz.prog 84 #[ruleV r sv, .int .i64 s, .int .i64 (f / 86400), .int .i64 ((t + 86399) / 86400)] W (Gives W (Dy.daysOf r s (f / 86400) ((t + 86399) / 86400))) := fun W hB => Da.rOf_any W r sv s _ _ (hL.later hB) hW
 unfold ruleV ruleC at *
 replace FD := Lib.hid FD
 clear hL hW
 go_enter Tryz.func39, Tryz.ntmps39
 go_wp2_with (first
  | (go_at_call 84; (with_reducible refine (FD.out _ (by (repeat' (first|assumption|exact Below.refl _ _|apply Below.next_alloc|apply Below.drew|(apply Below.next;rotate_left;assumption))))).mono ?_); rintro e w1 ⟨v1, rfl, hO1, hB1⟩; obtain ⟨a1, c1, hv1⟩ := hO1.slice; subst hv1; replace hO1 := Lib.hid hO1; replace hB1 := Lib.hid hB1))
 go_ret
 exact gives_all hO1.out rfl (by simp) (Below.next_allocs' hB1.out)
set_option maxHeartbeats 2000000 in
set_option maxRecDepth 100000 in
theorem rtimes_any (w : World) (r : R) (sv : Nat → Value) (s f t : Int) (f0 : 0 ≤ f) (t0 : 0 ≤ t) (t1 : t ≤ 315537897600) (f1 : f ≤ 315537897600) (hL : Lists w r sv) (hW : Wide r) :
  Calls Tryz.prog 40 #[ruleV r sv, .int .i64 s, .int .i64 f, .int .i64 t] w (Gives w (if 3 ≤ r.freq then Tm.secsOf r s 0 86400 else Tm.secsOf r s (f % 86400) (f % 86400 + t - f))) := by
 have FT : ∀ a b W, Below w.heap.size w W → Calls Tryz.prog 85 #[ruleV r sv, .int .i64 s, .int .i64 a, .int .i64 b] W (Gives W (Tm.secsOf r s a b)) := fun a b W hB => by
  rw [Tm.secs_eq]; exact Tm.rtof_any W r sv s a b (hL.later hB) hW
 have BX := fun W => @Tm.rboxT w r sv 27 W
 unfold ruleV ruleC at *
 replace FT := Lib.hid FT
 replace BX := Lib.hid BX
 clear hL hW
 by_cases hf : 3 ≤ r.freq
 ·rw [if_pos hf]
  go_enter Tryz.func40, Tryz.ntmps40
  go_wp2_with (first
   | (go_at_call 85; (with_reducible refine (FT.out _ _ _ (by (repeat' (first|assumption|exact Below.refl _ _|apply Below.next_alloc|apply Below.drew|(apply Below.next;rotate_left;assumption))))).mono ?_); rintro e w1 ⟨v1, rfl, hO1, hB1⟩; obtain ⟨a1, c1, hv1⟩ := hO1.slice; subst hv1; replace hO1 := Lib.hid hO1; replace hB1 := Lib.hid hB1))
  go_ret
  exact gives_all hO1.out rfl (by simp) (Below.next_allocs' hB1.out)
 ·rw [if_neg hf]
  go_enter Tryz.func40, Tryz.ntmps40
  go_wp2_with (first
   | (go_at_call 85; (with_reducible refine (FT.out _ _ _ (by (repeat' (first|assumption|exact Below.refl _ _|apply Below.next_alloc|apply Below.drew|(apply Below.next;rotate_left;assumption))))).mono ?_); rintro e w1 ⟨v1, rfl, hO1, hB1⟩; obtain ⟨a1, c1, hv1⟩ := hO1.slice; subst hv1; replace hO1 := Lib.hid hO1; replace hB1 := Lib.hid hB1))
  go_ret
  exact gives_all hO1.out rfl (by simp) (Below.next_allocs' hB1.out)
theorem prod_eq (r : R) (s i : Int) : (dys r s i).length * (tms r s i).length = (dys r s i).length * (tmsP r s i).length := by
 unfold tmsP
 split
 ·rename_i h; rw [h.2]; simp
 ·rfl
theorem allOf_eq (r : R) (s i : Int) : allOf (dys r s i) (tms r s i) = allOf (dys r s i) (tmsP r s i) := by
 unfold tmsP
 split
 ·rename_i h; rw [List.length_eq_zero_iff.1 h.2]; rfl
 ·rfl
theorem tms_bd' {r : R} {s i x : Int} (hx : x ∈ tms r s i) : 0 ≤ x ∧ x ≤ 86399 := by
 unfold tms at hx
 split at hx <;> (have := secs_bd hx; omega)
theorem tms_le' (r : R) (s i : Int) : (tms r s i).length ≤ 86400 := by
 unfold tms
 have h : ∀ a b, (Tm.secsOf r s a b).length ≤ 86400 := fun a b => by
  rw [Tm.secs_eq]
  unfold Tm.rsecs
  split
  ·exact Tm.RH_le r s a b (by omega)
  ·simp
 split <;> exact h _ _
theorem ok_iff {r : R} {s i : Int} : okE r s i = true ↔ (chkR r = 0 ∧ 0 ≤ s ∧ s ≤ 315537897599) ∧ fr r i < tt r i := by
 unfold okE Tm.mayT; simp only [Bool.and_eq_true, decide_eq_true_eq]; constructor
 ·rintro ⟨⟨a, b, c⟩, d⟩; exact ⟨⟨c, a, b⟩, d⟩
 ·rintro ⟨⟨c, a, b⟩, d⟩; exact ⟨⟨a, b, c⟩, d⟩
theorem none_of' {r : R} {s i : Int} (h : ¬ (chkR r = 0 ∧ 0 ≤ s ∧ s ≤ 315537897599)) : okE r s i = false := by
 rw [← Bool.not_eq_true, ok_iff]; exact fun hh => h hh.1
theorem none_ft {r : R} {s i : Int} (h : fr r i = tt r i) : okE r s i = false := by
 rw [← Bool.not_eq_true, ok_iff]; omega
theorem cost_none {r : R} {s i : Int} (ho : okE r s i = false) : costE r s i = 0 := by unfold costE; rw [if_neg (by rw [ho]; simp)]
theorem all_none {r : R} {s i : Int} (ho : okE r s i = false) : allE r s i = [] := by unfold allE; rw [if_neg (by rw [ho]; simp)]
set_option maxHeartbeats 8000000 in
set_option maxRecDepth 100000 in
theorem rcost_any (w : World) (r : R) (sv : Nat → Value) (s i : Int) (hL : Lists w r sv) (hW : Wide r) :
  Calls Tryz.prog 13 #[ruleV r sv, .int .i64 s, .int .i64 i] w fun e w' => e = .returned (.int .i64 (costE r s i)) ∧ Below w.heap.size w w' := by
 have FC : ∀ W, Below w.heap.size w W → Calls Tryz.prog 37 #[ruleV r sv] W fun e w' => e = .returned (.int .i64 (chkR r)) ∧ Below W.heap.size W w' := fun W hB => rcheckR_any W r sv (hL.later hB) hW.1 hW.2.1.2 hW.2.1.1
 have FS : ∀ W, Calls Tryz.prog 38 #[.int .u8 r.freq, .int .i64 r.wkst, .int .i64 i] W fun e w' => e = .returned (.tuple #[.int .i64 (fr r i), .int .i64 (tt r i)]) ∧ W = w' := fun W => rStretch_any _ _ _ W hW.2.1.1
 have BX := fun W => @Tm.rboxT w r sv 27 W
 obtain ⟨fb0, fb2, fb1⟩ : 0 ≤ fr r i ∧ fr r i ≤ tt r i ∧ tt r i ≤ 315537897600 := frm_bd hW.2.1.1
 have FD : ∀ W, Below w.heap.size w W → Calls Tryz.prog 39 #[ruleV r sv, .int .i64 s, .int .i64 (fr r i), .int .i64 (tt r i)] W (Gives W (dys r s i)) := fun W hB => rdays_any W r sv s _ _ (by omega) (by omega) (by omega) (by omega) (hL.later hB) hW
 have FT : ∀ W, Below w.heap.size w W → Calls Tryz.prog 40 #[ruleV r sv, .int .i64 s, .int .i64 (fr r i), .int .i64 (tt r i)] W (Gives W (tms r s i)) := fun W hB => rtimes_any W r sv s _ _ (by omega) (by omega) (by omega) (by omega) (hL.later hB) hW
 by_cases hc : chkR r = 0
 rotate_left
 ·have hq : (chkR r != 0) = true := by simp [hc]
  rw [cost_none (none_of' (fun h => hc h.1))]
  replace hc := Lib.hid hc
  clear FD FT
  unfold ruleV ruleC at *
  replace FC := Lib.hid FC
  replace FS := Lib.hid FS
  replace BX := Lib.hid BX
  clear hL hW
  go_enter Tryz.func13, Tryz.ntmps13
  go_wp2_with (first
   | (go_at_call 37; (with_reducible refine (FC.out _ (by (repeat' (first|assumption|exact Below.refl _ _|apply Below.next_alloc|apply Below.drew|(apply Below.next;rotate_left;assumption))))).mono ?_); rintro e w1 ⟨rfl, hB1⟩; replace hB1 := Lib.hid hB1; obtain ⟨y0, x0, x1, x2, x3, x4, x5, x6, x7, x8, x9, x10, x11, x12, x13, x14⟩ := BX.out w1 hB1.out; have b1 := Lib.hid (Below.next_allocs' hB1.out))
   | (go_at_call 38; (with_reducible refine (FS.out _).mono ?_); rintro e w2 ⟨rfl, rfl⟩))
  go_ret
  exact ⟨rfl, b1.out⟩
 have hq : (chkR r != 0) = false := by simp [hc]
 by_cases h0 : s < 0
 ·rw [cost_none (none_of' (fun h => by omega))]
  replace hc := Lib.hid hc
  clear FD FT
  unfold ruleV ruleC at *
  replace FC := Lib.hid FC
  replace FS := Lib.hid FS
  replace BX := Lib.hid BX
  clear hL hW
  go_enter Tryz.func13, Tryz.ntmps13
  go_wp2_with (first
   | (go_at_call 37; (with_reducible refine (FC.out _ (by (repeat' (first|assumption|exact Below.refl _ _|apply Below.next_alloc|apply Below.drew|(apply Below.next;rotate_left;assumption))))).mono ?_); rintro e w1 ⟨rfl, hB1⟩; replace hB1 := Lib.hid hB1; obtain ⟨y0, x0, x1, x2, x3, x4, x5, x6, x7, x8, x9, x10, x11, x12, x13, x14⟩ := BX.out w1 hB1.out; have b1 := Lib.hid (Below.next_allocs' hB1.out))
   | (go_at_call 38; (with_reducible refine (FS.out _).mono ?_); rintro e w2 ⟨rfl, rfl⟩))
  go_ret
  exact ⟨rfl, b1.out⟩
 by_cases h1 : 315537897599 < s
 ·rw [cost_none (none_of' (fun h => by omega))]
  replace hc := Lib.hid hc
  clear FD FT
  unfold ruleV ruleC at *
  replace FC := Lib.hid FC
  replace FS := Lib.hid FS
  replace BX := Lib.hid BX
  clear hL hW
  go_enter Tryz.func13, Tryz.ntmps13
  go_wp2_with (first
   | (go_at_call 37; (with_reducible refine (FC.out _ (by (repeat' (first|assumption|exact Below.refl _ _|apply Below.next_alloc|apply Below.drew|(apply Below.next;rotate_left;assumption))))).mono ?_); rintro e w1 ⟨rfl, hB1⟩; replace hB1 := Lib.hid hB1; obtain ⟨y0, x0, x1, x2, x3, x4, x5, x6, x7, x8, x9, x10, x11, x12, x13, x14⟩ := BX.out w1 hB1.out; have b1 := Lib.hid (Below.next_allocs' hB1.out))
   | (go_at_call 38; (with_reducible refine (FS.out _).mono ?_); rintro e w2 ⟨rfl, rfl⟩))
  go_ret
  exact ⟨rfl, b1.out⟩
 by_cases hft : fr r i = tt r i
 ·rw [cost_none (none_ft hft)]
  rw [hc] at FC
  rw [hft] at FS
  replace hc := Lib.hid hc
  clear FD FT hft
  unfold ruleV ruleC at *
  replace FC := Lib.hid FC
  replace FS := Lib.hid FS
  replace BX := Lib.hid BX
  clear hL hW
  generalize tt r i = T at *
  go_enter Tryz.func13, Tryz.ntmps13
  go_wp2_with (first
   | (go_at_call 37; (with_reducible refine (FC.out _ (by (repeat' (first|assumption|exact Below.refl _ _|apply Below.next_alloc|apply Below.drew|(apply Below.next;rotate_left;assumption))))).mono ?_); rintro e w1 ⟨rfl, hB1⟩; replace hB1 := Lib.hid hB1; obtain ⟨y0, x0, x1, x2, x3, x4, x5, x6, x7, x8, x9, x10, x11, x12, x13, x14⟩ := BX.out w1 hB1.out; have b1 := Lib.hid (Below.next_allocs' hB1.out))
   | (go_at_call 38; (with_reducible refine (FS.out _).mono ?_); rintro e w2 ⟨rfl, rfl⟩))
  go_ret
  exact ⟨rfl, b1.out⟩
 have ho : costE r s i = 1 + ((dys r s i).length : Int) * (tms r s i).length := by
  unfold costE
  rw [if_pos (ok_iff.2 ⟨⟨hc, by omega, by omega⟩, by omega⟩), ← Int.natCast_mul, ← Int.natCast_mul, prod_eq]; omega
 have hp : (dys r s i).length * (tms r s i).length ≤ 31622400 := by
  have := Nat.mul_le_mul (dys_le r s i) (tms_le' r s i)
  omega
 have n1 := dys_le r s i
 have n2 := tms_le' r s i
 rw [ho]
 clear ho
 rw [hc] at FC
 have hft2 : (fr r i == tt r i) = false := by simp [hft]
 unfold ruleV ruleC at *
 replace FC := Lib.hid FC
 replace FS := Lib.hid FS
 replace BX := Lib.hid BX
 replace FD := Lib.hid FD
 replace FT := Lib.hid FT
 clear hL hW hc hft
 generalize fr r i = F at *
 generalize tt r i = T at *
 generalize dys r s i = ds at *
 generalize tms r s i = ts at *
 have hp0 : (0 : Int) ≤ (ds.length : Int) * ts.length := by rw [← Int.natCast_mul]; omega
 have hp1 : (ds.length : Int) * ts.length ≤ 31622400 := by rw [← Int.natCast_mul]; omega
 have hw1 : IntKind.i64.wrap ((ds.length : Int) * ts.length) = (ds.length : Int) * ts.length := Go.IntWalk.i64_in _ (by omega)
 have hw2 : IntKind.i64.wrap (1 + (ds.length : Int) * ts.length) = 1 + (ds.length : Int) * ts.length := Go.IntWalk.i64_in _ (by omega)
 clear hp
 go_enter Tryz.func13, Tryz.ntmps13
 go_wp2_with (first
  | (go_at_call 37; (with_reducible refine (FC.out _ (by (repeat' (first|assumption|exact Below.refl _ _|apply Below.next_alloc|apply Below.drew|(apply Below.next;rotate_left;assumption))))).mono ?_); rintro e w1 ⟨rfl, hB1⟩; replace hB1 := Lib.hid hB1; obtain ⟨y0, x0, x1, x2, x3, x4, x5, x6, x7, x8, x9, x10, x11, x12, x13, x14⟩ := BX.out w1 hB1.out; have b1 := Lib.hid (Below.next_allocs' hB1.out))
  | (go_at_call 38; (with_reducible refine (FS.out _).mono ?_); rintro e w2 ⟨rfl, rfl⟩))
 have SL := Lib.hid (fun W (hB : Below w1.heap.size w1 W) => (BX.out W (Below.next hB1.out hB)).2)
 go_region_held3 (fun w' => w'.cell? ⟨w.heap.size, 0, none⟩ = some (.int .u8 r.freq) ∧ w'.cell? ⟨w.heap.size, 1, none⟩ = some (.int .i64 r.interval) ∧ w'.cell? ⟨w.heap.size, 2, none⟩ = some (.int .i64 r.count) ∧ w'.cell? ⟨w.heap.size, 3, none⟩ = some (.int .u8 r.uk) ∧ w'.cell? ⟨w.heap.size, 4, none⟩ = some (.int .i64 r.us) ∧ w'.cell? ⟨w.heap.size, 5, none⟩ = some (sv 4) ∧ w'.cell? ⟨w.heap.size, 6, none⟩ = some (sv 5) ∧ w'.cell? ⟨w.heap.size, 7, none⟩ = some (sv 6) ∧ w'.cell? ⟨w.heap.size, 8, none⟩ = some (sv 7) ∧ w'.cell? ⟨w.heap.size, 9, none⟩ = some (sv 8) ∧ w'.cell? ⟨w.heap.size, 10, none⟩ = some (sv 9) ∧ w'.cell? ⟨w.heap.size, 11, none⟩ = some (sv 10) ∧ w'.cell? ⟨w.heap.size, 12, none⟩ = some (sv 11) ∧ w'.cell? ⟨w.heap.size, 13, none⟩ = some (sv 12) ∧ w'.cell? ⟨w.heap.size, 14, none⟩ = some (.int .i64 r.wkst)) (first | go_keep | exact SL.out _ (by (repeat' (first|assumption|exact Below.refl _ _|apply Below.next_alloc|apply Below.drew|(apply Below.next;rotate_left;assumption)))))
  (first
   | (go_at_call 39; (with_reducible refine (FD.out _ (Below.next b1.out (by (repeat' (first|assumption|exact Below.refl _ _|apply Below.next_alloc|apply Below.drew|(apply Below.next;rotate_left;assumption)))))).mono ?_); rintro e y1 ⟨v1, rfl, hO1, hC1⟩; obtain ⟨p1, q1, hv1⟩ := OwnI.slice hO1; subst hv1)
   | (go_at_call 40; (with_reducible refine (FT.out _ (Below.next b1.out (by (repeat' (first|assumption|exact Below.refl _ _|apply Below.next_alloc|apply Below.drew|(apply Below.next;rotate_left;assumption)))))).mono ?_); rintro e y2 ⟨v2, rfl, hO2, hC2⟩; obtain ⟨p2, q2, hv2⟩ := OwnI.slice hO2; subst hv2))
 have b4 := Lib.hid (show Below w1.heap.size w1 y2 by (repeat' (first|assumption|exact Below.refl _ _|apply Below.next_alloc|apply Below.drew|(apply Below.next;rotate_left;assumption))))
 go_wp2
 go_ret
 exact ⟨rfl, Below.next b1.out b4.out⟩
end Go.Proofs.YtkbohijlhhpfbaaGreatDoor.Xp
/- All that a period has, and what SetPos picks, by the document's answer: the walks through errandref25's All and Of (printed by gen_ref.py). -/
namespace Go.Proofs.YtkbohijlhhpfbaaGreatDoor.Xp
open Go.RowKit Ru Ut Cw Ra
theorem keepI {a wr w6 : World} {B : Nat} {v : Value} {l : List Int} {o : Obj} (hB : Below B a wr) (hz : B ≤ wr.heap.size) (hown : OwnI wr B v l) (hg : (wr.alloc o).drew.grownBy w6 v.ownBlock) : Below B a w6 :=
 (hB.alloc hz o).drew.grown hg (by simp; omega) fun k hk => (World.ownsRow.lt hown k hk).1
theorem ownI_cast {w : World} {B : Nat} {v : Value} {l : List Int} {x : Int} {n : Nat} {xs : List Value} (h : w.ownsRow B 3 1 v n xs) (hn : n = (l ++ [x]).length) (hx : xs = ic l ++ [.int .i64 x] := by rfl) : OwnI w B v (l ++ [x]) := by
 subst hn; subst hx
 unfold OwnI
 rw [ic_snoc]
 exact h
set_option maxHeartbeats 16000000 in
set_option maxRecDepth 100000 in
theorem rall_any (w : World) (r : R) (sv : Nat → Value) (s i : Int) (hL : Lists w r sv) (hW : Wide r) :
  Calls Tryz.prog 16 #[ruleV r sv, .int .i64 s, .int .i64 i] w (Gives w (allE r s i)) := by
 have FC : ∀ W, Below w.heap.size w W → Calls Tryz.prog 37 #[ruleV r sv] W fun e w' => e = .returned (.int .i64 (chkR r)) ∧ Below W.heap.size W w' := fun W hB => rcheckR_any W r sv (hL.later hB) hW.1 hW.2.1.2 hW.2.1.1
 have FS : ∀ W, Calls Tryz.prog 38 #[.int .u8 r.freq, .int .i64 r.wkst, .int .i64 i] W fun e w' => e = .returned (.tuple #[.int .i64 (fr r i), .int .i64 (tt r i)]) ∧ W = w' := fun W => rStretch_any _ _ _ W hW.2.1.1
 have BX := fun W => @Tm.rboxT w r sv 27 W
 obtain ⟨fb0, fb2, fb1⟩ : 0 ≤ fr r i ∧ fr r i ≤ tt r i ∧ tt r i ≤ 315537897600 := frm_bd hW.2.1.1
 have FD : ∀ W, Below w.heap.size w W → Calls Tryz.prog 39 #[ruleV r sv, .int .i64 s, .int .i64 (fr r i), .int .i64 (tt r i)] W (Gives W (dys r s i)) := fun W hB => rdays_any W r sv s _ _ (by omega) (by omega) (by omega) (by omega) (hL.later hB) hW
 have FT : ∀ W, Below w.heap.size w W → Calls Tryz.prog 40 #[ruleV r sv, .int .i64 s, .int .i64 (fr r i), .int .i64 (tt r i)] W (Gives W (tms r s i)) := fun W hB => rtimes_any W r sv s _ _ (by omega) (by omega) (by omega) (by omega) (hL.later hB) hW
 by_cases hc : chkR r = 0
 rotate_left
 ·have hq : (chkR r != 0) = true := by simp [hc]
  rw [all_none (none_of' (fun h => hc h.1))]
  replace hc := Lib.hid hc
  clear FD FT
  unfold ruleV ruleC at *
  replace FC := Lib.hid FC
  replace FS := Lib.hid FS
  replace BX := Lib.hid BX
  clear hL hW
  go_enter Tryz.func16, Tryz.ntmps16
  go_wp2_with (first
   | (go_at_call 37; (with_reducible refine (FC.out _ (by (repeat' (first|assumption|exact Below.refl _ _|apply Below.next_alloc|apply Below.drew|(apply Below.next;rotate_left;assumption))))).mono ?_); rintro e w1 ⟨rfl, hB1⟩; replace hB1 := Lib.hid hB1; obtain ⟨y0, x0, x1, x2, x3, x4, x5, x6, x7, x8, x9, x10, x11, x12, x13, x14⟩ := BX.out w1 hB1.out; have b1 := Lib.hid (Below.next_allocs' hB1.out))
   | (go_at_call 38; (with_reducible refine (FS.out _).mono ?_); rintro e w2 ⟨rfl, rfl⟩))
  go_ret
  exact gives_none b1.out
 have hq : (chkR r != 0) = false := by simp [hc]
 by_cases h0 : s < 0
 ·rw [all_none (none_of' (fun h => by omega))]
  replace hc := Lib.hid hc
  clear FD FT
  unfold ruleV ruleC at *
  replace FC := Lib.hid FC
  replace FS := Lib.hid FS
  replace BX := Lib.hid BX
  clear hL hW
  go_enter Tryz.func16, Tryz.ntmps16
  go_wp2_with (first
   | (go_at_call 37; (with_reducible refine (FC.out _ (by (repeat' (first|assumption|exact Below.refl _ _|apply Below.next_alloc|apply Below.drew|(apply Below.next;rotate_left;assumption))))).mono ?_); rintro e w1 ⟨rfl, hB1⟩; replace hB1 := Lib.hid hB1; obtain ⟨y0, x0, x1, x2, x3, x4, x5, x6, x7, x8, x9, x10, x11, x12, x13, x14⟩ := BX.out w1 hB1.out; have b1 := Lib.hid (Below.next_allocs' hB1.out))
   | (go_at_call 38; (with_reducible refine (FS.out _).mono ?_); rintro e w2 ⟨rfl, rfl⟩))
  go_ret
  exact gives_none b1.out
 by_cases h1 : 315537897599 < s
 ·rw [all_none (none_of' (fun h => by omega))]
  replace hc := Lib.hid hc
  clear FD FT
  unfold ruleV ruleC at *
  replace FC := Lib.hid FC
  replace FS := Lib.hid FS
  replace BX := Lib.hid BX
  clear hL hW
  go_enter Tryz.func16, Tryz.ntmps16
  go_wp2_with (first
   | (go_at_call 37; (with_reducible refine (FC.out _ (by (repeat' (first|assumption|exact Below.refl _ _|apply Below.next_alloc|apply Below.drew|(apply Below.next;rotate_left;assumption))))).mono ?_); rintro e w1 ⟨rfl, hB1⟩; replace hB1 := Lib.hid hB1; obtain ⟨y0, x0, x1, x2, x3, x4, x5, x6, x7, x8, x9, x10, x11, x12, x13, x14⟩ := BX.out w1 hB1.out; have b1 := Lib.hid (Below.next_allocs' hB1.out))
   | (go_at_call 38; (with_reducible refine (FS.out _).mono ?_); rintro e w2 ⟨rfl, rfl⟩))
  go_ret
  exact gives_none b1.out
 have hp : (dys r s i).length * (tms r s i).length ≤ 31622400 := by
  have := Nat.mul_le_mul (dys_le r s i) (tms_le' r s i)
  omega
 have n1 := dys_le r s i
 have n2 := tms_le' r s i
 rw [hc] at FC
 by_cases hno : fr r i = tt r i ∨ ¬ (dys r s i).length * (tms r s i).length < 4000
 ·have he : allE r s i = [] := by
   rcases hno with h | h
   ·exact all_none (none_ft h)
   ·unfold allE; rw [if_neg]; rw [prod_eq] at h; exact fun hh => h hh.2
  rw [he]
  have hg : (fr r i == tt r i) = true ∨ ((fr r i == tt r i) = false ∧ 4000 ≤ (dys r s i).length * (tms r s i).length) := by
   by_cases h : fr r i = tt r i
   ·exact .inl (by simp [h])
   ·exact .inr ⟨by simp [h], by omega⟩
  unfold ruleV ruleC at *
  replace FC := Lib.hid FC
  replace FS := Lib.hid FS
  replace BX := Lib.hid BX
  replace FD := Lib.hid FD
  replace FT := Lib.hid FT
  clear hL hW hc he hno
  generalize fr r i = F at *
  generalize tt r i = T at *
  generalize dys r s i = ds at *
  generalize tms r s i = ts at *
  have hp0 : (0 : Int) ≤ (ds.length : Int) * ts.length := by rw [← Int.natCast_mul]; omega
  have hp1 : (ds.length : Int) * ts.length ≤ 31622400 := by rw [← Int.natCast_mul]; omega
  clear hp
  rcases hg with hg | ⟨hg, hbig⟩
  ·go_enter Tryz.func16, Tryz.ntmps16
   go_wp2_with (first
    | (go_at_call 37; (with_reducible refine (FC.out _ (by (repeat' (first|assumption|exact Below.refl _ _|apply Below.next_alloc|apply Below.drew|(apply Below.next;rotate_left;assumption))))).mono ?_); rintro e w1 ⟨rfl, hB1⟩; replace hB1 := Lib.hid hB1; obtain ⟨y0, x0, x1, x2, x3, x4, x5, x6, x7, x8, x9, x10, x11, x12, x13, x14⟩ := BX.out w1 hB1.out; have b1 := Lib.hid (Below.next_allocs' hB1.out))
    | (go_at_call 38; (with_reducible refine (FS.out _).mono ?_); rintro e w2 ⟨rfl, rfl⟩))
   have SL := Lib.hid (fun W (hB : Below w1.heap.size w1 W) => (BX.out W (Below.next hB1.out hB)).2)
   go_region_held3 (fun w' => w'.cell? ⟨w.heap.size, 0, none⟩ = some (.int .u8 r.freq) ∧ w'.cell? ⟨w.heap.size, 1, none⟩ = some (.int .i64 r.interval) ∧ w'.cell? ⟨w.heap.size, 2, none⟩ = some (.int .i64 r.count) ∧ w'.cell? ⟨w.heap.size, 3, none⟩ = some (.int .u8 r.uk) ∧ w'.cell? ⟨w.heap.size, 4, none⟩ = some (.int .i64 r.us) ∧ w'.cell? ⟨w.heap.size, 5, none⟩ = some (sv 4) ∧ w'.cell? ⟨w.heap.size, 6, none⟩ = some (sv 5) ∧ w'.cell? ⟨w.heap.size, 7, none⟩ = some (sv 6) ∧ w'.cell? ⟨w.heap.size, 8, none⟩ = some (sv 7) ∧ w'.cell? ⟨w.heap.size, 9, none⟩ = some (sv 8) ∧ w'.cell? ⟨w.heap.size, 10, none⟩ = some (sv 9) ∧ w'.cell? ⟨w.heap.size, 11, none⟩ = some (sv 10) ∧ w'.cell? ⟨w.heap.size, 12, none⟩ = some (sv 11) ∧ w'.cell? ⟨w.heap.size, 13, none⟩ = some (sv 12) ∧ w'.cell? ⟨w.heap.size, 14, none⟩ = some (.int .i64 r.wkst)) (first | go_keep | exact SL.out _ (by (repeat' (first|assumption|exact Below.refl _ _|apply Below.next_alloc|apply Below.drew|(apply Below.next;rotate_left;assumption)))))
    (first
     | (go_at_call 39; (with_reducible refine (FD.out _ (Below.next b1.out (by (repeat' (first|assumption|exact Below.refl _ _|apply Below.next_alloc|apply Below.drew|(apply Below.next;rotate_left;assumption)))))).mono ?_); rintro e y1 ⟨v1, rfl, hO1, hC1⟩; obtain ⟨p1, q1, hv1⟩ := OwnI.slice hO1; subst hv1)
     | (go_at_call 40; (with_reducible refine (FT.out _ (Below.next b1.out (by (repeat' (first|assumption|exact Below.refl _ _|apply Below.next_alloc|apply Below.drew|(apply Below.next;rotate_left;assumption)))))).mono ?_); rintro e y2 ⟨v2, rfl, hO2, hC2⟩; obtain ⟨p2, q2, hv2⟩ := OwnI.slice hO2; subst hv2))
   have b4 := Lib.hid (show Below w1.heap.size w1 y2 by (repeat' (first|assumption|exact Below.refl _ _|apply Below.next_alloc|apply Below.drew|(apply Below.next;rotate_left;assumption))))
   go_wp2
   go_ret
   exact gives_none (Below.next b1.out b4.out)
  ·have hbig2 : (4000 : Int) ≤ (ds.length : Int) * ts.length := by rw [← Int.natCast_mul]; omega
   clear hbig
   go_enter Tryz.func16, Tryz.ntmps16
   go_wp2_with (first
    | (go_at_call 37; (with_reducible refine (FC.out _ (by (repeat' (first|assumption|exact Below.refl _ _|apply Below.next_alloc|apply Below.drew|(apply Below.next;rotate_left;assumption))))).mono ?_); rintro e w1 ⟨rfl, hB1⟩; replace hB1 := Lib.hid hB1; obtain ⟨y0, x0, x1, x2, x3, x4, x5, x6, x7, x8, x9, x10, x11, x12, x13, x14⟩ := BX.out w1 hB1.out; have b1 := Lib.hid (Below.next_allocs' hB1.out))
    | (go_at_call 38; (with_reducible refine (FS.out _).mono ?_); rintro e w2 ⟨rfl, rfl⟩))
   have SL := Lib.hid (fun W (hB : Below w1.heap.size w1 W) => (BX.out W (Below.next hB1.out hB)).2)
   go_region_held3 (fun w' => w'.cell? ⟨w.heap.size, 0, none⟩ = some (.int .u8 r.freq) ∧ w'.cell? ⟨w.heap.size, 1, none⟩ = some (.int .i64 r.interval) ∧ w'.cell? ⟨w.heap.size, 2, none⟩ = some (.int .i64 r.count) ∧ w'.cell? ⟨w.heap.size, 3, none⟩ = some (.int .u8 r.uk) ∧ w'.cell? ⟨w.heap.size, 4, none⟩ = some (.int .i64 r.us) ∧ w'.cell? ⟨w.heap.size, 5, none⟩ = some (sv 4) ∧ w'.cell? ⟨w.heap.size, 6, none⟩ = some (sv 5) ∧ w'.cell? ⟨w.heap.size, 7, none⟩ = some (sv 6) ∧ w'.cell? ⟨w.heap.size, 8, none⟩ = some (sv 7) ∧ w'.cell? ⟨w.heap.size, 9, none⟩ = some (sv 8) ∧ w'.cell? ⟨w.heap.size, 10, none⟩ = some (sv 9) ∧ w'.cell? ⟨w.heap.size, 11, none⟩ = some (sv 10) ∧ w'.cell? ⟨w.heap.size, 12, none⟩ = some (sv 11) ∧ w'.cell? ⟨w.heap.size, 13, none⟩ = some (sv 12) ∧ w'.cell? ⟨w.heap.size, 14, none⟩ = some (.int .i64 r.wkst)) (first | go_keep | exact SL.out _ (by (repeat' (first|assumption|exact Below.refl _ _|apply Below.next_alloc|apply Below.drew|(apply Below.next;rotate_left;assumption)))))
    (first
     | (go_at_call 39; (with_reducible refine (FD.out _ (Below.next b1.out (by (repeat' (first|assumption|exact Below.refl _ _|apply Below.next_alloc|apply Below.drew|(apply Below.next;rotate_left;assumption)))))).mono ?_); rintro e y1 ⟨v1, rfl, hO1, hC1⟩; obtain ⟨p1, q1, hv1⟩ := OwnI.slice hO1; subst hv1)
     | (go_at_call 40; (with_reducible refine (FT.out _ (Below.next b1.out (by (repeat' (first|assumption|exact Below.refl _ _|apply Below.next_alloc|apply Below.drew|(apply Below.next;rotate_left;assumption)))))).mono ?_); rintro e y2 ⟨v2, rfl, hO2, hC2⟩; obtain ⟨p2, q2, hv2⟩ := OwnI.slice hO2; subst hv2))
   have b4 := Lib.hid (show Below w1.heap.size w1 y2 by (repeat' (first|assumption|exact Below.refl _ _|apply Below.next_alloc|apply Below.drew|(apply Below.next;rotate_left;assumption))))
   go_wp2
   go_ret
   exact gives_none (Below.next b1.out b4.out)
 have hft : ¬ fr r i = tt r i := fun h => hno (.inl h)
 have hm : (dys r s i).length * (tms r s i).length < 4000 := Decidable.byContradiction fun h => hno (.inr h)
 have he : allE r s i = allOf (dys r s i) (tms r s i) := by
  rw [allOf_eq]
  unfold allE
  rw [if_pos ⟨ok_iff.2 ⟨⟨hc, by omega, by omega⟩, by omega⟩, by rw [← prod_eq]; exact hm⟩]
 rw [he]
 have d1 : ∀ x ∈ dys r s i, 0 ≤ x ∧ x ≤ 3652058 := fun x hx => dys_bd hx
 have d2 : ∀ x ∈ tms r s i, 0 ≤ x ∧ x ≤ 86399 := fun x hx => tms_bd' hx
 have hft2 : (fr r i == tt r i) = false := by simp [hft]
 unfold ruleV ruleC at *
 replace FC := Lib.hid FC
 replace FS := Lib.hid FS
 replace BX := Lib.hid BX
 replace FD := Lib.hid FD
 replace FT := Lib.hid FT
 replace d1 := Lib.hid d1
 replace d2 := Lib.hid d2
 clear hL hW hc hft he hno hp
 generalize fr r i = F at *
 generalize tt r i = T at *
 generalize dys r s i = ds at *
 generalize tms r s i = ts at *
 have hp0 : (0 : Int) ≤ (ds.length : Int) * ts.length := by rw [← Int.natCast_mul]; omega
 have hp1 : (ds.length : Int) * ts.length < 4000 := by rw [← Int.natCast_mul]; omega
 obtain ⟨i0, hi, hz0, hz1, hz2⟩ := info_parts infoInt
 replace hi := Lib.hid hi
 replace hz0 := Lib.hid hz0
 replace hz1 := Lib.hid hz1
 replace hz2 := Lib.hid hz2
 have hm3 := Lib.hid hm
 clear hm
 go_enter Tryz.func16, Tryz.ntmps16
 go_wp2_with (first
  | (go_at_call 37; (with_reducible refine (FC.out _ (by (repeat' (first|assumption|exact Below.refl _ _|apply Below.next_alloc|apply Below.drew|(apply Below.next;rotate_left;assumption))))).mono ?_); rintro e w1 ⟨rfl, hB1⟩; replace hB1 := Lib.hid hB1; obtain ⟨y0, x0, x1, x2, x3, x4, x5, x6, x7, x8, x9, x10, x11, x12, x13, x14⟩ := BX.out w1 hB1.out; have b1 := Lib.hid (Below.next_allocs' hB1.out))
  | (go_at_call 38; (with_reducible refine (FS.out _).mono ?_); rintro e w2 ⟨rfl, rfl⟩))
 have SL := Lib.hid (fun W (hB : Below w1.heap.size w1 W) => (BX.out W (Below.next hB1.out hB)).2)
 go_region_held3 (fun w' => w'.cell? ⟨w.heap.size, 0, none⟩ = some (.int .u8 r.freq) ∧ w'.cell? ⟨w.heap.size, 1, none⟩ = some (.int .i64 r.interval) ∧ w'.cell? ⟨w.heap.size, 2, none⟩ = some (.int .i64 r.count) ∧ w'.cell? ⟨w.heap.size, 3, none⟩ = some (.int .u8 r.uk) ∧ w'.cell? ⟨w.heap.size, 4, none⟩ = some (.int .i64 r.us) ∧ w'.cell? ⟨w.heap.size, 5, none⟩ = some (sv 4) ∧ w'.cell? ⟨w.heap.size, 6, none⟩ = some (sv 5) ∧ w'.cell? ⟨w.heap.size, 7, none⟩ = some (sv 6) ∧ w'.cell? ⟨w.heap.size, 8, none⟩ = some (sv 7) ∧ w'.cell? ⟨w.heap.size, 9, none⟩ = some (sv 8) ∧ w'.cell? ⟨w.heap.size, 10, none⟩ = some (sv 9) ∧ w'.cell? ⟨w.heap.size, 11, none⟩ = some (sv 10) ∧ w'.cell? ⟨w.heap.size, 12, none⟩ = some (sv 11) ∧ w'.cell? ⟨w.heap.size, 13, none⟩ = some (sv 12) ∧ w'.cell? ⟨w.heap.size, 14, none⟩ = some (.int .i64 r.wkst)) (first | go_keep | exact SL.out _ (by (repeat' (first|assumption|exact Below.refl _ _|apply Below.next_alloc|apply Below.drew|(apply Below.next;rotate_left;assumption)))))
  (first
   | (go_at_call 39; (with_reducible refine (FD.out _ (Below.next b1.out (by (repeat' (first|assumption|exact Below.refl _ _|apply Below.next_alloc|apply Below.drew|(apply Below.next;rotate_left;assumption)))))).mono ?_); rintro e y1 ⟨v1, rfl, hO1, hC1⟩; obtain ⟨p1, q1, hv1⟩ := OwnI.slice hO1; subst hv1)
   | (go_at_call 40; (with_reducible refine (FT.out _ (Below.next b1.out (by (repeat' (first|assumption|exact Below.refl _ _|apply Below.next_alloc|apply Below.drew|(apply Below.next;rotate_left;assumption)))))).mono ?_); rintro e y2 ⟨v2, rfl, hO2, hC2⟩; obtain ⟨p2, q2, hv2⟩ := OwnI.slice hO2; subst hv2))
 have b4 := Lib.hid (show Below w1.heap.size w1 y2 by (repeat' (first|assumption|exact Below.refl _ _|apply Below.next_alloc|apply Below.drew|(apply Below.next;rotate_left;assumption))))
 replace hO1 := Lib.hid (hO1.below hC2)
 replace hO2 := Lib.hid hO2
 clear y0 x0 x1 x2 x3 x4 x5 x6 x7 x8 x9 x10 x11 x12 x13 x14
 go_wp2
 go_loopw [11, 12] (fun v i wr => ∃ k : Nat, k ≤ ds.length ∧ i = .int .i64 k ∧ OwnI wr y2.heap.size v (allOf (ds.take k) ts) ∧ Hid (Below y2.heap.size y2 wr)) (fun _ i _ => ds.length - (intOf i).toNat)
 case atStart => exact ⟨0, by omega, rfl, OwnI.nil _ _, Lib.hid (Below.refl _ _)⟩
 case round =>
  obtain ⟨k, hk, rfl, hown, hB⟩ := hrel
  replace hown := Lib.hid hown
  obtain ⟨wo, rfl⟩ : ∃ x, x = wr := ⟨_, rfl⟩
  by_cases hlt : k < ds.length
  ·have hs := Lib.hid (allOf_succ hlt ts)
   obtain ⟨e1, e2⟩ := d1.out ds[k] (List.getElem_mem hlt)
   have hle := Lib.hid (fun d j => all_le hlt d ts j)
   have hd := Lib.hid (fun W hB => own_at (W := W) hO1.out hB hlt)
   generalize ds[k] = d at *
   go_wp2
   go_loopw [11, 13] (fun v i wr => ∃ j : Nat, j ≤ ts.length ∧ i = .int .i64 j ∧ OwnI wr y2.heap.size v (allOf (ds.take k) ts ++ dayOf d (ts.take j)) ∧ Hid (Below y2.heap.size y2 wr)) (fun _ i _ => ts.length - (intOf i).toNat)
   case atStart => exact ⟨0, by omega, rfl, by rw [List.take_zero]; simpa [dayOf] using hown.out, hB⟩
   case round =>
    obtain ⟨j, hj, rfl, hownj, hBj⟩ := hrel
    by_cases hlj : j < ts.length
    ·obtain ⟨bd, rfl, hbd, hcelld, hcapd⟩ := hd.out y2 (Below.refl _ _)
     obtain ⟨bt, rfl, hbt, hcellt, hcapt⟩ := own_at hO2.out (Below.refl _ _) hlj
     have hsj := Lib.hid (dayOf_succ d hlj)
     obtain ⟨f1, f2⟩ := d2.out ts[j] (List.getElem_mem hlj)
     have hln := hle.out d j
     generalize ts[j] = t at *
     have i1 : (0 : Int) ≤ (k : Int) := by omega
     have i2 : (k : Int) < (ds.length : Int) := by omega
     have i3 : (0 : Int) ≤ (j : Int) := by omega
     have i4 : (j : Int) < (ts.length : Int) := by omega
     have hw1 : IntKind.i64.wrap (d * 86400) = d * 86400 := Go.IntWalk.i64_in _ (by omega)
     have hw2 : IntKind.i64.wrap (d * 86400 + t) = d * 86400 + t := Go.IntWalk.i64_in _ (by omega)
     have hzr := hBj.out.size
     obtain ⟨L, hLe⟩ : ∃ L, L = allOf (ds.take k) ts ++ dayOf d (ts.take j) := ⟨_, rfl⟩
     rw [← hLe] at hownj hln
     have hb1 := Lib.hid (show L.length + 1 ≤ maxLen by unfold maxLen; have := hm3.out; omega)
     have hb2 := Lib.hid (show (L.length + 1) * 8 ≤ 140737488355328 by have := hm3.out; omega)
     have hfin := Lib.hid (show allOf (ds.take k) ts ++ dayOf d (ts.take (j + 1)) = L ++ [d * 86400 + t] by rw [hsj.out, ← List.append_assoc, hLe])
     obtain ⟨va, vc, rfl⟩ := hownj.slice
     replace hownj := Lib.hid hownj
     replace hLe := Lib.hid hLe
     have hbd2 := Nat.lt_of_lt_of_le hbd hzr
     have hbt2 := Nat.lt_of_lt_of_le hbt hzr
     have SR := Lib.hid (fun W (hBW : Below y2.heap.size y2 W) => (show W.cell? ⟨bd, k, none⟩ = some (.int .i64 d) ∧ W.cell? ⟨bt, j, none⟩ = some (.int .i64 t) from ⟨(hBW.cell (p := ⟨bd, k, none⟩) hbd).trans hcelld, (hBW.cell (p := ⟨bt, j, none⟩) hbt).trans hcellt⟩))
     obtain ⟨c1, c2⟩ := SR.out wr hBj.out
     clear hln hcelld hcellt hbd hbt
     go_wp2
     go_region_held3 (fun w' => w'.cell? ⟨bd, k, none⟩ = some (.int .i64 d) ∧ w'.cell? ⟨bt, j, none⟩ = some (.int .i64 t)) (first | go_keep | exact SR.out _ hBj.out | exact SR.out _ hBj.out.drew | exact SR.out _ (hBj.out.alloc hzr _) | exact SR.out _ (hBj.out.alloc hzr _).drew | exact SR.out _ (hBj.out.drew.alloc hzr _) | exact SR.out _ (keepI hBj.out hzr hownj.out hgrow))
      ((refine step_append_lies _ (by rfl) _ _ _ (by rfl) y2.heap.size 3 i0 _ 1 8 Tryz.underlying24 hi.out hz0.out hz1.out hz2.out rfl (by omega) _ _ _ (by rfl) ((World.ownsRow.alloc hownj.out _).drew) ⟨wr.heap.size, 0, none⟩ 1 1 [.int .i64 (d * 86400 + t)] (by rfl) (by rfl) (World.news_of_block (cs := #[.int .i64 (d * 86400 + t)]) (t := 3) (fr := (0, 0)) (heap_alloc_new wr _)) (by simp [Value.oneCell']) (by omega) hb1.out hb2.out (by simp; omega) (wr.heap.size + 1) (by simp) ?_; intro gg cap1 w6 hown6 hgrow hat hlt1))
     go_wp2
     go_roundw
     case rel => exact ⟨j + 1, by omega, by go_num, by rw [hfin.out]; exact ownI_cast hown6 (by simp), Lib.hid (keepI hBj.out hzr hownj.out hgrow)⟩
     case measure => simp [intOf]; omega
    ·have hje := Lib.hid (show ts.take j = ts by rw [show j = ts.length by omega, List.take_length])
     replace hownj := Lib.hid hownj
     go_wp2
     go_roundw
     case rel => exact ⟨k + 1, by omega, by go_num, by rw [hs.out]; have := hownj.out; rw [hje.out] at this; exact this, hBj⟩
     case measure => simp [intOf]; omega
  ·have hke := Lib.hid (show ds.take k = ds by rw [show k = ds.length by omega, List.take_length])
   go_wp2
   go_ret
   exact gives_all hown.out (by rw [hke.out]) (Below.next b1.out b4.out).size (Below.next (Below.next b1.out b4.out) hB.out)
end Go.Proofs.YtkbohijlhhpfbaaGreatDoor.Xp
/- What SetPos picks, by the document's answer: the walk through errandref25's Of (printed by gen_ref.py). -/
namespace Go.Proofs.YtkbohijlhhpfbaaGreatDoor.Xp
open Go.RowKit Ru Ut Cw Ra
set_option maxHeartbeats 8000000 in
set_option maxRecDepth 100000 in
theorem rofE_any (w : World) (r : R) (sv : Nat → Value) (s i : Int) (hL : Lists w r sv) (hW : Wide r) :
  Calls Tryz.prog 18 #[ruleV r sv, .int .i64 s, .int .i64 i] w (Gives w (ofE r s i)) := by
 have FA : ∀ W, Below w.heap.size w W → Calls Tryz.prog 16 #[ruleV r sv, .int .i64 s, .int .i64 i] W (Gives W (allE r s i)) := fun W hB => rall_any W r sv s i (hL.later hB) hW
 have BX := fun W => @Tm.rboxT w r sv 27 W
 have hI := hL.1 12 (by decide) (by decide) (by decide)
 rw [show lst r 12 = r.setpos from rfl] at hI
 have hsl := hW.1.1 12 (by decide) (by decide) (by decide)
 rw [show lst r 12 = r.setpos from rfl] at hsl
 obtain ⟨a12, c12, h12⟩ := ints_slice hI
 have hl := allE_len r s i
 unfold ofE
 generalize allE r s i = l at *
 generalize r.setpos = ps at *
 unfold ruleV ruleC at *
 rw [h12] at FA BX hI ⊢
 have FN := Lib.hid (fun x W (hB : Below w.heap.size w W) => rHas_any x (hI.below hB) (by omega))
 replace FA := Lib.hid FA
 replace BX := Lib.hid BX
 clear hL hW h12 hI
 by_cases h0 : ps.length = 0
 ·rw [if_pos h0]
  have e0 : ((ps.length : Int) == 0) = true := by simp [h0]
  replace h0 := Lib.hid h0
  go_enter Tryz.func18, Tryz.ntmps18
  go_wp2_with (first
   | (go_at_call 16; (with_reducible refine (FA.out _ (by (repeat' (first|assumption|exact Below.refl _ _|apply Below.next_alloc|apply Below.drew|(apply Below.next;rotate_left;assumption))))).mono ?_); rintro e w1 ⟨v1, rfl, hO1, hB1⟩; obtain ⟨a1, c1, hv1⟩ := hO1.slice; subst hv1; replace hO1 := Lib.hid hO1; replace hB1 := Lib.hid hB1; obtain ⟨y0, x0, x1, x2, x3, x4, x5, x6, x7, x8, x9, x10, x11, x12, x13, x14⟩ := BX.out w1 hB1.out))
  go_ret
  exact gives_all hO1.out rfl (by simp) (Below.next_allocs' hB1.out)
 ·rw [if_neg h0]
  have e0 : ((ps.length : Int) == 0) = false := by rw [beq_eq_false_iff_ne]; omega
  go_enter Tryz.func18, Tryz.ntmps18
  go_wp2_with (first
   | (go_at_call 16; (with_reducible refine (FA.out _ (by (repeat' (first|assumption|exact Below.refl _ _|apply Below.next_alloc|apply Below.drew|(apply Below.next;rotate_left;assumption))))).mono ?_); rintro e w1 ⟨v1, rfl, hO1, hB1⟩; obtain ⟨a1, c1, hv1⟩ := hO1.slice; subst hv1; replace hO1 := Lib.hid hO1; replace hB1 := Lib.hid hB1; obtain ⟨y0, x0, x1, x2, x3, x4, x5, x6, x7, x8, x9, x10, x11, x12, x13, x14⟩ := BX.out w1 hB1.out))
  have b1 := Lib.hid (Below.next_allocs' hB1.out)
  clear y0 x0 x1 x2 x3 x4 x5 x6 x7 x8 x9 x10 x11 x12 x13 x14
  go_loopw [8, 9] (fun v i wr => ∃ k : Nat, k ≤ l.length ∧ i = .int .i64 k ∧ OwnI wr w1.heap.size v (picksTo ps l k) ∧ Hid (Below w1.heap.size w1 wr)) (fun _ i _ => l.length - (intOf i).toNat)
  case atStart => exact ⟨0, by omega, rfl, OwnI.nil _ _, Lib.hid (Below.refl _ _)⟩
  case round =>
   obtain ⟨k, hk, rfl, hown, hB⟩ := hrel
   replace hown := Lib.hid hown
   by_cases hlt : k < l.length
   ·obtain ⟨bl, rfl, hbl, hcl, hcap⟩ := own_at hO1.out hB.out hlt
    obtain ⟨y0, x0, x1, x2, x3, x4, x5, x6, x7, x8, x9, x10, x11, x12, x13, x14⟩ := BX.out wr (Below.next hB1.out hB.out)
    have hln := picksTo_len ps l k
    have N1 := FN.out ((k : Int) + 1) wr (Below.next b1.out hB.out)
    have N2 := FN.out ((k : Int) - l.length) wr (Below.next b1.out hB.out)
    have hpy := fun h => picksTo_yes (ps := ps) hlt h
    have hpn := fun h => picksTo_no (ps := ps) (l := l) (k := k) h
    unfold isPick at hpy hpn
    have i1 : (0 : Int) ≤ (k : Int) := by omega
    have i2 : (k : Int) < (l.length : Int) := by omega
    generalize l[k] = y at *
    generalize decide ((k : Int) + 1 ∈ ps) = g1 at *
    generalize decide ((k : Int) - l.length ∈ ps) = g2 at *
    replace N1 := Lib.hid N1
    replace N2 := Lib.hid N2
    cases g1
    ·cases g2
     ·have hr := Lib.hid (hpn rfl)
      clear hpy hpn
      go_wp2_with (first
       | (go_at_call 44; (with_reducible refine N1.out.mono ?_); rintro e w' ⟨rfl, rfl⟩)
       | (go_at_call 44; (with_reducible refine N2.out.mono ?_); rintro e w' ⟨rfl, rfl⟩))
      go_roundw
      case rel => exact ⟨k + 1, by omega, by go_num, by rw [hr.out]; exact hown.out, hB⟩
      case measure => simp [intOf]; omega
     ·have hr := Lib.hid (hpy rfl)
      clear hpy hpn
      go_wp2_with (first
       | (go_at_call 44; (with_reducible refine N1.out.mono ?_); rintro e w' ⟨rfl, rfl⟩)
       | (go_at_call 44; (with_reducible refine N2.out.mono ?_); rintro e w' ⟨rfl, rfl⟩)
       | (at_builtin; refine push_int rfl _ _ rfl w1.heap.size _ _ rfl hown.out rfl ?_ ?_ ?_; exact Nat.le_trans hln (by omega); exact hB.out.size; intro v6 w6 hown6 hB6))
      go_roundw
      case rel => exact ⟨k + 1, by omega, by go_num, by rw [hr.out]; exact hown6, Lib.hid (hB.out.trans hB6)⟩
      case measure => simp [intOf]; omega
    ·have hr := Lib.hid (hpy rfl)
     clear hpy hpn
     go_wp2_with (first
      | (go_at_call 44; (with_reducible refine N1.out.mono ?_); rintro e w' ⟨rfl, rfl⟩)
      | (at_builtin; refine push_int rfl _ _ rfl w1.heap.size _ _ rfl hown.out rfl ?_ ?_ ?_; exact Nat.le_trans hln (by omega); exact hB.out.size; intro v6 w6 hown6 hB6))
     go_roundw
     case rel => exact ⟨k + 1, by omega, by go_num, by rw [hr.out]; exact hown6, Lib.hid (hB.out.trans hB6)⟩
     case measure => simp [intOf]; omega
   ·have hke := Lib.hid (show picksTo ps l k = picks ps l by unfold picks; rw [show k = l.length by omega])
    go_wp2
    go_ret
    exact gives_all hown.out hke.out b1.out.size (Below.next b1.out hB.out)
end Go.Proofs.YtkbohijlhhpfbaaGreatDoor.Xp

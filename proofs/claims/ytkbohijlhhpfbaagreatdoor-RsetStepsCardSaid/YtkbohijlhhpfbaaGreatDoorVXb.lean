/- The days and the times of day of a period: the walk through expand's parts (printed by gen_parts.py). -/
import Derived.Test.YtkbohijlhhpfbaaGreatDoorVTj
import Derived.Test.YtkbohijlhhpfbaaGreatDoorVDk
import Derived.Test.YtkbohijlhhpfbaaGreatDoorVPr
import Derived.Test.YtkbohijlhhpfbaaGreatDoorVTn
import Derived.Test.YtkbohijlhhpfbaaGreatDoorVYa
namespace Go.Proofs.YtkbohijlhhpfbaaGreatDoor.Xp
open Go.RowKit Ru Ut Cw Ra
def fr (r : R) (i : Int) : Int := Pd.frm r.freq r.wkst i
def tt (r : R) (i : Int) : Int := Pd.to r.freq r.wkst i
def dys (r : R) (s i : Int) : List Int := Dy.daysOf r s (fr r i / 86400) ((tt r i + 86399) / 86400)
def tms (r : R) (s i : Int) : List Int := if 3 ≤ r.freq then Tm.secsOf r s 0 86400 else Tm.secsOf r s (fr r i % 86400) (fr r i % 86400 + tt r i - fr r i)
def okE (r : R) (s i : Int) : Bool := Tm.mayT r s && decide (fr r i < tt r i)
def tmsP (r : R) (s i : Int) : List Int := if r.freq < 3 ∧ (dys r s i).length = 0 then [] else tms r s i
theorem dys_le (r : R) (s i : Int) : (dys r s i).length ≤ 366 := by
 unfold dys Dy.daysOf
 split
 ·simp
 ·have := Dy.days_le r s ((tt r i + 86399) / 86400 - fr r i / 86400).toNat (fr r i / 86400)
  omega
def GivesP (w : World) (r : R) (s i : Int) (e : Ending) (w' : World) : Prop := ∃ a1 c1 a2 c2, e = .returned (.tuple #[.slice a1 (dys r s i).length c1, .slice a2 (tmsP r s i).length c2, .bool true]) ∧
 OwnI w' w.heap.size (.slice a1 (dys r s i).length c1) (dys r s i) ∧ OwnI w' w.heap.size (.slice a2 (tmsP r s i).length c2) (tmsP r s i) ∧ Below w.heap.size w w'
theorem gives_p {w w1 w2 w3 : World} {r : R} {s i : Int} {v1 v2 : Value} {l1 l2 : List Int} (h1 : Hid (l1 = dys r s i)) (h2 : Hid (l2 = tmsP r s i)) {a1 a2 : Option Addr} {c1 c2 : Nat} (e1 : v1 = .slice a1 l1.length c1) (e2 : v2 = .slice a2 l2.length c2)
  (o1 : OwnI w2 w1.heap.size v1 l1) (o2 : OwnI w3 w2.heap.size v2 l2) (b1 : Below w.heap.size w w1) (b2 : Below w1.heap.size w1 w2) (b3 : Below w2.heap.size w2 w3) : GivesP w r s i (.returned (.tuple #[v1, v2, .bool true])) w3 := by
 subst e1; subst e2
 obtain rfl := h1.out
 obtain rfl := h2.out
 exact ⟨a1, c1, a2, c2, rfl, (o1.below b3).base b1.size, o2.base (Nat.le_trans b1.size b2.size), Below.next (Below.next b1 b2) b3⟩
set_option maxHeartbeats 4000000 in
set_option maxRecDepth 100000 in
theorem parts_no (w : World) (r : R) (sv : Nat → Value) (s i : Int) (hT : Tab w) (hL : Lists w r sv) (hW : Wide r) (ho : okE r s i = false) :
  Calls Tryz.prog 36 #[ruleV r sv, .int .i64 s, .int .i64 i] w fun e w' => e = .returned (.tuple #[.slice none 0 0, .slice none 0 0, .bool false]) ∧ Below w.heap.size w w' := by
 have FC : ∀ W, Below w.heap.size w W → Calls Tryz.prog 33 #[ruleV r sv] W fun e w' => e = .returned (.int .i64 (chkR r)) ∧ Below W.heap.size W w' := fun W hB => rcheck_any W r sv (hL.later hB) hW
 have FS : ∀ W, Below w.heap.size w W → Calls Tryz.prog 68 #[.int .u8 r.freq, .int .i64 r.wkst, .int .i64 i] W fun e w' => e = .returned (.tuple #[.int .i64 (fr r i), .int .i64 (tt r i)]) ∧ W = w' := fun W hB => stretch_any _ _ _ W (hT.later hB) hW.2.1.1
 have BX := fun W => @Tm.rboxT w r sv 33 W
 unfold ruleV ruleC at *
 replace BX := Lib.hid BX
 replace FS := Lib.hid FS
 clear hL hW hT
 by_cases h0 : s < 0
 ·clear FC ho
  go_enter Tryz.func36, Tryz.ntmps36
  go_wp2
  go_ret3
  exact ⟨rfl, by (repeat' (first|assumption|exact Below.refl _ _|apply Below.next_alloc|apply Below.drew|(apply Below.next;rotate_left;assumption)))⟩
 by_cases h1 : 315537897599 < s
 ·clear FC ho
  go_enter Tryz.func36, Tryz.ntmps36
  go_wp2
  go_ret3
  exact ⟨rfl, by (repeat' (first|assumption|exact Below.refl _ _|apply Below.next_alloc|apply Below.drew|(apply Below.next;rotate_left;assumption)))⟩
 by_cases hc : chkR r = 0
 rotate_left
 ·have hq : (chkR r != 0) = true := by simp [hc]
  replace FC := Lib.hid FC
  clear hc ho
  go_enter Tryz.func36, Tryz.ntmps36
  go_wp2_with (first
   | (go_at_call 33; (with_reducible refine (FC.out _ (by (repeat' (first|assumption|exact Below.refl _ _|apply Below.next_alloc|apply Below.drew|(apply Below.next;rotate_left;assumption))))).mono ?_); rintro e w1 ⟨rfl, hB1⟩; replace hB1 := Lib.hid hB1))
  go_ret3
  exact ⟨rfl, Below.next_allocs' hB1.out⟩
 have hge : tt r i ≤ fr r i := by
  unfold okE Tm.mayT at ho
  rw [decide_eq_true (by omega), decide_eq_true (by omega), decide_eq_true hc, Bool.true_and, Bool.true_and, Bool.true_and] at ho
  have := of_decide_eq_false ho
  omega
 rw [hc] at FC
 replace FC := Lib.hid FC
 clear hc ho
 generalize fr r i = F at *
 generalize tt r i = T at *
 go_enter Tryz.func36, Tryz.ntmps36
 go_wp2_with (first
  | (go_at_call 33; (with_reducible refine (FC.out _ (by (repeat' (first|assumption|exact Below.refl _ _|apply Below.next_alloc|apply Below.drew|(apply Below.next;rotate_left;assumption))))).mono ?_); rintro e w1 ⟨rfl, hB1⟩; replace hB1 := Lib.hid hB1; obtain ⟨y0, x0, x1, x2, x3, x4, x5, x6, x7, x8, x9, x10, x11, x12, x13, x14⟩ := BX.out w1 hB1.out; have b1 := Lib.hid (Below.next_allocs' hB1.out))
  | (go_at_call 68; (with_reducible refine (FS.out _ b1.out).mono ?_); rintro e w2 ⟨rfl, rfl⟩))
 go_ret3
 exact ⟨rfl, b1.out⟩
set_option maxHeartbeats 8000000 in
set_option maxRecDepth 100000 in
theorem parts_long (w : World) (r : R) (sv : Nat → Value) (s i : Int) (hT : Tab w) (hL : Lists w r sv) (hW : Wide r) (ho : okE r s i = true) (hf : 3 ≤ r.freq) :
  Calls Tryz.prog 36 #[ruleV r sv, .int .i64 s, .int .i64 i] w (GivesP w r s i) := by
 have FC : ∀ W, Below w.heap.size w W → Calls Tryz.prog 33 #[ruleV r sv] W fun e w' => e = .returned (.int .i64 (chkR r)) ∧ Below W.heap.size W w' := fun W hB => rcheck_any W r sv (hL.later hB) hW
 have FS : ∀ W, Below w.heap.size w W → Calls Tryz.prog 68 #[.int .u8 r.freq, .int .i64 r.wkst, .int .i64 i] W fun e w' => e = .returned (.tuple #[.int .i64 (fr r i), .int .i64 (tt r i)]) ∧ W = w' := fun W hB => stretch_any _ _ _ W (hT.later hB) hW.2.1.1
 have BX := fun W => @Tm.rboxT w r sv 33 W
 obtain ⟨hm, hlt⟩ : Tm.mayT r s = true ∧ fr r i < tt r i := by unfold okE at ho; simpa using ho
 obtain ⟨s0, s1, hc⟩ : 0 ≤ s ∧ s ≤ 315537897599 ∧ chkR r = 0 := by unfold Tm.mayT at hm; simpa using hm
 obtain ⟨fb0, -, fb1⟩ : 0 ≤ fr r i ∧ fr r i ≤ tt r i ∧ tt r i ≤ 315537897600 := frm_bd hW.2.1.1
 have FD : ∀ W, Below w.heap.size w W → Calls Tryz.prog 69 #[ruleV r sv, .int .i64 s, .int .i64 (fr r i / 86400), .int .i64 ((tt r i - 1) / 86400 + 1)] W (Gives W (dys r s i)) := fun W hB => by
  have := Da.of_any W r sv s (fr r i / 86400) ((tt r i - 1) / 86400 + 1) (hT.later hB) (hL.later hB) hW (by omega) (by omega)
  rw [show (tt r i - 1) / 86400 + 1 = (tt r i + 86399) / 86400 by omega] at this ⊢
  exact this
 have FT : ∀ W, Below w.heap.size w W → Calls Tryz.prog 70 #[ruleV r sv, .int .i64 s, .int .i64 0, .int .i64 86400] W (Gives W (tmsP r s i)) := fun W hB => by
  have := Tm.tof_any W r sv s 0 86400 (hL.later hB) hW
  unfold tmsP tms
  rw [if_neg (by omega), if_pos hf]
  exact this
 obtain ⟨l1, hl1⟩ : ∃ l, l = dys r s i := ⟨_, rfl⟩
 obtain ⟨l2, hl2⟩ : ∃ l, l = tmsP r s i := ⟨_, rfl⟩
 rw [← hl1] at FD
 rw [← hl2] at FT
 replace hl1 := Lib.hid hl1
 replace hl2 := Lib.hid hl2
 unfold ruleV ruleC at *
 rw [hc] at FC
 replace BX := Lib.hid BX
 replace FS := Lib.hid FS
 replace FC := Lib.hid FC
 replace FD := Lib.hid FD
 replace FT := Lib.hid FT
 clear hL hW hT hc hm ho
 generalize fr r i = F at *
 generalize tt r i = T at *
 go_enter Tryz.func36, Tryz.ntmps36
 go_wp2_with (first
  | (go_at_call 33; (with_reducible refine (FC.out _ (by (repeat' (first|assumption|exact Below.refl _ _|apply Below.next_alloc|apply Below.drew|(apply Below.next;rotate_left;assumption))))).mono ?_); rintro e w1 ⟨rfl, hB1⟩; replace hB1 := Lib.hid hB1; obtain ⟨y0, x0, x1, x2, x3, x4, x5, x6, x7, x8, x9, x10, x11, x12, x13, x14⟩ := BX.out w1 hB1.out; have b1 := Lib.hid (Below.next_allocs' hB1.out))
  | (go_at_call 68; (with_reducible refine (FS.out _ b1.out).mono ?_); rintro e w2 ⟨rfl, rfl⟩)
  | (go_at_call 69; (with_reducible refine (FD.out _ b1.out).mono ?_); rintro e w2 ⟨v1, rfl, hO1, hB2⟩; obtain ⟨a1, c1, hv1⟩ := hO1.slice; subst hv1; replace hO1 := Lib.hid hO1; have b2 := Lib.hid (Below.next b1.out hB2); replace hB2 := Lib.hid hB2; clear y0 x0 x1 x2 x3 x4 x5 x6 x7 x8 x9 x10 x11 x12 x13 x14; obtain ⟨y0, x0, x1, x2, x3, x4, x5, x6, x7, x8, x9, x10, x11, x12, x13, x14⟩ := BX.out w2 (Below.next hB1.out hB2.out))
  | (go_at_call 70; (with_reducible refine (FT.out _ b2.out).mono ?_); rintro e w3 ⟨v2, rfl, hO2, hB3⟩; obtain ⟨a2, c2, hv2⟩ := hO2.slice; subst hv2; replace hO2 := Lib.hid hO2; replace hB3 := Lib.hid hB3))
 go_ret3
 exact gives_p hl1 hl2 rfl rfl hO1.out hO2.out b1.out hB2.out hB3.out
set_option maxHeartbeats 8000000 in
set_option maxRecDepth 100000 in
theorem parts_none (w : World) (r : R) (sv : Nat → Value) (s i : Int) (hT : Tab w) (hL : Lists w r sv) (hW : Wide r) (ho : okE r s i = true) (hf : r.freq ≤ 2) (hd : (dys r s i).length = 0) :
  Calls Tryz.prog 36 #[ruleV r sv, .int .i64 s, .int .i64 i] w (GivesP w r s i) := by
 have FC : ∀ W, Below w.heap.size w W → Calls Tryz.prog 33 #[ruleV r sv] W fun e w' => e = .returned (.int .i64 (chkR r)) ∧ Below W.heap.size W w' := fun W hB => rcheck_any W r sv (hL.later hB) hW
 have FS : ∀ W, Below w.heap.size w W → Calls Tryz.prog 68 #[.int .u8 r.freq, .int .i64 r.wkst, .int .i64 i] W fun e w' => e = .returned (.tuple #[.int .i64 (fr r i), .int .i64 (tt r i)]) ∧ W = w' := fun W hB => stretch_any _ _ _ W (hT.later hB) hW.2.1.1
 have BX := fun W => @Tm.rboxT w r sv 33 W
 obtain ⟨hm, hlt⟩ : Tm.mayT r s = true ∧ fr r i < tt r i := by unfold okE at ho; simpa using ho
 obtain ⟨s0, s1, hc⟩ : 0 ≤ s ∧ s ≤ 315537897599 ∧ chkR r = 0 := by unfold Tm.mayT at hm; simpa using hm
 obtain ⟨fb0, -, fb1⟩ : 0 ≤ fr r i ∧ fr r i ≤ tt r i ∧ tt r i ≤ 315537897600 := frm_bd hW.2.1.1
 have FD : ∀ W, Below w.heap.size w W → Calls Tryz.prog 69 #[ruleV r sv, .int .i64 s, .int .i64 (fr r i / 86400), .int .i64 ((tt r i - 1) / 86400 + 1)] W (Gives W (dys r s i)) := fun W hB => by
  have := Da.of_any W r sv s (fr r i / 86400) ((tt r i - 1) / 86400 + 1) (hT.later hB) (hL.later hB) hW (by omega) (by omega)
  rw [show (tt r i - 1) / 86400 + 1 = (tt r i + 86399) / 86400 by omega] at this ⊢
  exact this
 obtain ⟨l1, hl1⟩ : ∃ l, l = dys r s i := ⟨_, rfl⟩
 obtain ⟨l2, hl2⟩ : ∃ l, l = tmsP r s i := ⟨_, rfl⟩
 have hz : l2 = [] := by rw [hl2]; unfold tmsP; rw [if_pos ⟨by omega, hd⟩]
 have hz1 : l1 = [] := by rw [hl1]; exact List.length_eq_zero_iff.1 hd
 subst hz; subst hz1
 rw [← hl1] at FD
 replace hl1 := Lib.hid hl1
 replace hl2 := Lib.hid hl2
 unfold ruleV ruleC at *
 rw [hc] at FC
 replace BX := Lib.hid BX
 replace FS := Lib.hid FS
 replace FC := Lib.hid FC
 replace FD := Lib.hid FD
 clear hL hW hT hc hm ho hd
 generalize fr r i = F at *
 generalize tt r i = T at *
 go_enter Tryz.func36, Tryz.ntmps36
 go_wp2_with (first
  | (go_at_call 33; (with_reducible refine (FC.out _ (by (repeat' (first|assumption|exact Below.refl _ _|apply Below.next_alloc|apply Below.drew|(apply Below.next;rotate_left;assumption))))).mono ?_); rintro e w1 ⟨rfl, hB1⟩; replace hB1 := Lib.hid hB1; obtain ⟨y0, x0, x1, x2, x3, x4, x5, x6, x7, x8, x9, x10, x11, x12, x13, x14⟩ := BX.out w1 hB1.out; have b1 := Lib.hid (Below.next_allocs' hB1.out))
  | (go_at_call 68; (with_reducible refine (FS.out _ b1.out).mono ?_); rintro e w2 ⟨rfl, rfl⟩)
  | (go_at_call 69; (with_reducible refine (FD.out _ b1.out).mono ?_); rintro e w2 ⟨v1, rfl, hO1, hB2⟩; obtain ⟨a1, c1, hv1⟩ := hO1.slice; subst hv1; replace hO1 := Lib.hid hO1; have b2 := Lib.hid (Below.next b1.out hB2); replace hB2 := Lib.hid hB2; clear y0 x0 x1 x2 x3 x4 x5 x6 x7 x8 x9 x10 x11 x12 x13 x14; obtain ⟨y0, x0, x1, x2, x3, x4, x5, x6, x7, x8, x9, x10, x11, x12, x13, x14⟩ := BX.out w2 (Below.next hB1.out hB2.out)))
 go_ret3
 exact gives_p hl1 hl2 (a1 := none) (c1 := 0) rfl rfl (OwnI.nil _ _) (OwnI.nil _ _) b1.out hB2.out (Below.refl _ _)
set_option maxHeartbeats 8000000 in
set_option maxRecDepth 100000 in
theorem parts_short (w : World) (r : R) (sv : Nat → Value) (s i : Int) (hT : Tab w) (hL : Lists w r sv) (hW : Wide r) (ho : okE r s i = true) (hf : r.freq ≤ 2) (hd : ¬ (dys r s i).length = 0) :
  Calls Tryz.prog 36 #[ruleV r sv, .int .i64 s, .int .i64 i] w (GivesP w r s i) := by
 have FC : ∀ W, Below w.heap.size w W → Calls Tryz.prog 33 #[ruleV r sv] W fun e w' => e = .returned (.int .i64 (chkR r)) ∧ Below W.heap.size W w' := fun W hB => rcheck_any W r sv (hL.later hB) hW
 have FS : ∀ W, Below w.heap.size w W → Calls Tryz.prog 68 #[.int .u8 r.freq, .int .i64 r.wkst, .int .i64 i] W fun e w' => e = .returned (.tuple #[.int .i64 (fr r i), .int .i64 (tt r i)]) ∧ W = w' := fun W hB => stretch_any _ _ _ W (hT.later hB) hW.2.1.1
 have BX := fun W => @Tm.rboxT w r sv 33 W
 obtain ⟨hm, hlt⟩ : Tm.mayT r s = true ∧ fr r i < tt r i := by unfold okE at ho; simpa using ho
 obtain ⟨s0, s1, hc⟩ : 0 ≤ s ∧ s ≤ 315537897599 ∧ chkR r = 0 := by unfold Tm.mayT at hm; simpa using hm
 obtain ⟨fb0, -, fb1⟩ : 0 ≤ fr r i ∧ fr r i ≤ tt r i ∧ tt r i ≤ 315537897600 := frm_bd hW.2.1.1
 have FD : ∀ W, Below w.heap.size w W → Calls Tryz.prog 69 #[ruleV r sv, .int .i64 s, .int .i64 (fr r i / 86400), .int .i64 ((tt r i - 1) / 86400 + 1)] W (Gives W (dys r s i)) := fun W hB => by
  have := Da.of_any W r sv s (fr r i / 86400) ((tt r i - 1) / 86400 + 1) (hT.later hB) (hL.later hB) hW (by omega) (by omega)
  rw [show (tt r i - 1) / 86400 + 1 = (tt r i + 86399) / 86400 by omega] at this ⊢
  exact this
 have FT : ∀ W, Below w.heap.size w W → Calls Tryz.prog 70 #[ruleV r sv, .int .i64 s, .int .i64 (fr r i - fr r i / 86400 * 86400), .int .i64 (tt r i - fr r i / 86400 * 86400)] W (Gives W (tmsP r s i)) := fun W hB => by
  have := Tm.tof_any W r sv s (fr r i % 86400) (fr r i % 86400 + tt r i - fr r i) (hL.later hB) hW
  unfold tmsP tms
  rw [if_neg (by omega), if_neg (by omega)]
  rw [show fr r i - fr r i / 86400 * 86400 = fr r i % 86400 by omega, show tt r i - fr r i / 86400 * 86400 = fr r i % 86400 + tt r i - fr r i by omega]
  exact this
 obtain ⟨l1, hl1⟩ : ∃ l, l = dys r s i := ⟨_, rfl⟩
 obtain ⟨l2, hl2⟩ : ∃ l, l = tmsP r s i := ⟨_, rfl⟩
 rw [← hl1] at FD hd
 rw [← hl2] at FT
 have hd2 : (l1.length == 0) = false := by simpa using hd
 have hd3 : 0 < l1.length := by omega
 replace hl1 := Lib.hid hl1
 replace hl2 := Lib.hid hl2
 unfold ruleV ruleC at *
 rw [hc] at FC
 replace BX := Lib.hid BX
 replace FS := Lib.hid FS
 replace FC := Lib.hid FC
 replace FD := Lib.hid FD
 replace FT := Lib.hid FT
 clear hL hW hT hc hm ho hd
 generalize fr r i = F at *
 generalize tt r i = T at *
 go_enter Tryz.func36, Tryz.ntmps36
 go_wp2_with (first
  | (go_at_call 33; (with_reducible refine (FC.out _ (by (repeat' (first|assumption|exact Below.refl _ _|apply Below.next_alloc|apply Below.drew|(apply Below.next;rotate_left;assumption))))).mono ?_); rintro e w1 ⟨rfl, hB1⟩; replace hB1 := Lib.hid hB1; obtain ⟨y0, x0, x1, x2, x3, x4, x5, x6, x7, x8, x9, x10, x11, x12, x13, x14⟩ := BX.out w1 hB1.out; have b1 := Lib.hid (Below.next_allocs' hB1.out))
  | (go_at_call 68; (with_reducible refine (FS.out _ b1.out).mono ?_); rintro e w2 ⟨rfl, rfl⟩)
  | (go_at_call 69; (with_reducible refine (FD.out _ b1.out).mono ?_); rintro e w2 ⟨v1, rfl, hO1, hB2⟩; obtain ⟨a1, c1, hv1⟩ := hO1.slice; subst hv1; replace hO1 := Lib.hid hO1; have b2 := Lib.hid (Below.next b1.out hB2); replace hB2 := Lib.hid hB2; clear y0 x0 x1 x2 x3 x4 x5 x6 x7 x8 x9 x10 x11 x12 x13 x14; obtain ⟨y0, x0, x1, x2, x3, x4, x5, x6, x7, x8, x9, x10, x11, x12, x13, x14⟩ := BX.out w2 (Below.next hB1.out hB2.out))
  | (go_at_call 70; (with_reducible refine (FT.out _ b2.out).mono ?_); rintro e w3 ⟨v2, rfl, hO2, hB3⟩; obtain ⟨a2, c2, hv2⟩ := hO2.slice; subst hv2; replace hO2 := Lib.hid hO2; replace hB3 := Lib.hid hB3))
 go_ret3
 exact gives_p hl1 hl2 rfl rfl hO1.out hO2.out b1.out hB2.out hB3.out
theorem parts_any (w : World) (r : R) (sv : Nat → Value) (s i : Int) (hT : Tab w) (hL : Lists w r sv) (hW : Wide r) (ho : okE r s i = true) : Calls Tryz.prog 36 #[ruleV r sv, .int .i64 s, .int .i64 i] w (GivesP w r s i) := by
 by_cases hf : 3 ≤ r.freq
 ·exact parts_long w r sv s i hT hL hW ho hf
 ·by_cases hd : (dys r s i).length = 0
  ·exact parts_none w r sv s i hT hL hW ho (by omega) hd
  ·exact parts_short w r sv s i hT hL hW ho (by omega) hd
end Go.Proofs.YtkbohijlhhpfbaaGreatDoor.Xp

import Derived.Test.YtkbohijlhhpfbaaGreatDoorVTj
import Derived.Test.YtkbohijlhhpfbaaGreatDoorVRq
/- What the document's answer lets pass: the walks through errandref24's small functions (printed by gen_rsmall.py). -/
namespace Go.Proofs.YtkbohijlhhpfbaaGreatDoor.Tm
open Go.RowKit Ru Ut Cw Ra
theorem rboxT (w : World) (r : R) (sv : Nat → Value) (t : TypeId) {W : World} (hB : Below (w.alloc (.cells (ruleC r sv) t)).heap.size (w.alloc (.cells (ruleC r sv) t)) W) : w.heap.size < W.heap.size ∧ W.cell? ⟨w.heap.size, 0, none⟩ = some (.int .u8 r.freq) ∧ W.cell? ⟨w.heap.size, 1, none⟩ = some (.int .i64 r.interval) ∧ W.cell? ⟨w.heap.size, 2, none⟩ = some (.int .i64 r.count) ∧ W.cell? ⟨w.heap.size, 3, none⟩ = some (.int .u8 r.uk) ∧ W.cell? ⟨w.heap.size, 4, none⟩ = some (.int .i64 r.us) ∧ W.cell? ⟨w.heap.size, 5, none⟩ = some (sv 4) ∧ W.cell? ⟨w.heap.size, 6, none⟩ = some (sv 5) ∧ W.cell? ⟨w.heap.size, 7, none⟩ = some (sv 6) ∧ W.cell? ⟨w.heap.size, 8, none⟩ = some (sv 7) ∧ W.cell? ⟨w.heap.size, 9, none⟩ = some (sv 8) ∧ W.cell? ⟨w.heap.size, 10, none⟩ = some (sv 9) ∧ W.cell? ⟨w.heap.size, 11, none⟩ = some (sv 10) ∧ W.cell? ⟨w.heap.size, 12, none⟩ = some (sv 11) ∧ W.cell? ⟨w.heap.size, 13, none⟩ = some (sv 12) ∧ W.cell? ⟨w.heap.size, 14, none⟩ = some (.int .i64 r.wkst) := by
 obtain ⟨h0, h1, h2, h3, h4, h5, h6, h7⟩ := (RAt.box w r sv t).later hB
 exact ⟨h0, h1, h2, h3, h4, h5, h7 4 (by decide) (by decide), h7 5 (by decide) (by decide), h7 6 (by decide) (by decide), h7 7 (by decide) (by decide), h7 8 (by decide) (by decide), h7 9 (by decide) (by decide), h7 10 (by decide) (by decide), h7 11 (by decide) (by decide), h7 12 (by decide) (by decide), h6⟩
theorem rfits_any {w : World} {v : Value} {l : List Int} (n : Int) (told : Bool) (s : Int) (hl : Ints w v l) (hn : l.length ≤ 1000) : Calls Tryz.prog 166 #[v, .int .i64 n, .bool told, .int .i64 s] w fun e w' => e = .returned (.bool (okP l told s n)) ∧ Below w.heap.size w w' := by
 have FH := fun W (hB : Below w.heap.size w W) => rHas_any n (hl.below hB) (by omega)
 replace FH := Lib.hid FH
 obtain ⟨av, cap, rfl⟩ := ints_slice hl
 clear hl
 by_cases h0 : 0 < (l.length : Int)
 ·have hr := Lib.hid (show okP l told s n = decide (n ∈ l) by unfold okP; rw [if_pos (by omega)])
  go_enter Tryz.func166, Tryz.ntmps166
  go_wp2_with (first | (go_at_call 44; (with_reducible refine (FH.out _ (Below.refl _ _)).mono ?_); rintro e w1 ⟨rfl, rfl⟩))
  go_ret
  exact ⟨ret_b hr.out.symm, Below.refl _ _⟩
 ·have hr := Lib.hid (show okP l told s n = (!told || decide (n = s)) by unfold okP; rw [if_neg (by omega)])
  obtain rfl : l = [] := List.eq_nil_of_length_eq_zero (by omega)
  clear FH h0
  cases told
  ·replace hr := Lib.hid (show okP [] false s n = true by rw [hr.out]; rfl)
   go_enter Tryz.func166, Tryz.ntmps166
   go_wp2
   go_ret
   exact ⟨ret_b hr.out.symm, Below.refl _ _⟩
  ·by_cases he : n = s
   ·replace hr := Lib.hid (show okP [] true s n = true by rw [hr.out]; simp [he])
    have hq : (n == s) = true := by simp [he]
    clear he
    go_enter Tryz.func166, Tryz.ntmps166
    go_wp2
    go_ret
    exact ⟨ret_b hr.out.symm, Below.refl _ _⟩
   ·replace hr := Lib.hid (show okP [] true s n = false by rw [hr.out]; simp [he])
    have hq : (n == s) = false := by simp [he]
    clear he
    go_enter Tryz.func166, Tryz.ntmps166
    go_wp2
    go_ret
    exact ⟨ret_b hr.out.symm, Below.refl _ _⟩
def hOk (r : R) (start n : Int) : Bool := okP r.hour (toldH r) (start % 86400 / 3600) n
def mOk (r : R) (start n : Int) : Bool := okP r.min (toldM r) (start / 60 % 60) n
def sOk (r : R) (start n : Int) : Bool := okP r.sec (toldS r) (start % 60) n
set_option maxHeartbeats 2000000 in
set_option maxRecDepth 100000 in
theorem rhour_any (w : World) (r : R) (sv : Nat → Value) (start n : Int) (hL : Lists w r sv) (hW : Wide r) (h0 : 0 ≤ start) (h1 : start ≤ 315537897599) : Calls Tryz.prog 121 #[ruleV r sv, .int .i64 start, .int .i64 n] w fun e w' => e = .returned (.bool (hOk r start n)) ∧ Below w.heap.size w w' := by
 have FF : ∀ W, Below w.heap.size w W → Calls Tryz.prog 166 #[sv 6, .int .i64 n, .bool (decide (3 ≤ r.freq)), .int .i64 (start % 86400 / 3600)] W fun e w' => e = .returned (.bool (hOk r start n)) ∧ Below W.heap.size W w' := fun W hB => rfits_any n (decide (3 ≤ r.freq)) (start % 86400 / 3600) ((hL.1 6 (by decide) (by decide) (by decide)).below hB) (hW.1.1 6 (by decide) (by decide) (by decide))
 have q1 : (start % 86400).tdiv 3600 = start % 86400 / 3600 := Int.tdiv_eq_ediv_of_nonneg (by omega)
 have q2 : (start / 60).tmod 60 = start / 60 % 60 := Int.tmod_eq_emod_of_nonneg (by omega)
 have q3 : IntKind.i64.wrap (start % 86400 / 3600) = start % 86400 / 3600 := Go.IntWalk.i64_in _ (by omega)
 unfold ruleV ruleC at *
 replace FF := Lib.hid FF
 clear hL hW
 go_enter Tryz.func121, Tryz.ntmps121
 go_wp2_with (first | (go_at_call 166; (try simp only [q1, q2, q3]); (with_reducible refine (FF.out _ (by (repeat' (first|assumption|exact Below.refl _ _|apply Below.next_alloc|apply Below.drew|(apply Below.next;rotate_left;assumption))))).mono ?_); rintro e w1 ⟨rfl, hB⟩))
 go_ret
 exact ⟨rfl, by (repeat' (first|assumption|exact Below.refl _ _|apply Below.next_alloc|apply Below.drew|(apply Below.next;rotate_left;assumption)))⟩
set_option maxHeartbeats 2000000 in
set_option maxRecDepth 100000 in
theorem rminute_any (w : World) (r : R) (sv : Nat → Value) (start n : Int) (hL : Lists w r sv) (hW : Wide r) (h0 : 0 ≤ start) (h1 : start ≤ 315537897599) : Calls Tryz.prog 122 #[ruleV r sv, .int .i64 start, .int .i64 n] w fun e w' => e = .returned (.bool (mOk r start n)) ∧ Below w.heap.size w w' := by
 have FF : ∀ W, Below w.heap.size w W → Calls Tryz.prog 166 #[sv 5, .int .i64 n, .bool (decide (2 ≤ r.freq)), .int .i64 (start / 60 % 60)] W fun e w' => e = .returned (.bool (mOk r start n)) ∧ Below W.heap.size W w' := fun W hB => rfits_any n (decide (2 ≤ r.freq)) (start / 60 % 60) ((hL.1 5 (by decide) (by decide) (by decide)).below hB) (hW.1.1 5 (by decide) (by decide) (by decide))
 have q1 : (start % 86400).tdiv 3600 = start % 86400 / 3600 := Int.tdiv_eq_ediv_of_nonneg (by omega)
 have q2 : (start / 60).tmod 60 = start / 60 % 60 := Int.tmod_eq_emod_of_nonneg (by omega)
 have q3 : IntKind.i64.wrap (start % 86400 / 3600) = start % 86400 / 3600 := Go.IntWalk.i64_in _ (by omega)
 unfold ruleV ruleC at *
 replace FF := Lib.hid FF
 clear hL hW
 go_enter Tryz.func122, Tryz.ntmps122
 go_wp2_with (first | (go_at_call 166; (try simp only [q1, q2, q3]); (with_reducible refine (FF.out _ (by (repeat' (first|assumption|exact Below.refl _ _|apply Below.next_alloc|apply Below.drew|(apply Below.next;rotate_left;assumption))))).mono ?_); rintro e w1 ⟨rfl, hB⟩))
 go_ret
 exact ⟨rfl, by (repeat' (first|assumption|exact Below.refl _ _|apply Below.next_alloc|apply Below.drew|(apply Below.next;rotate_left;assumption)))⟩
set_option maxHeartbeats 2000000 in
set_option maxRecDepth 100000 in
theorem rsecond_any (w : World) (r : R) (sv : Nat → Value) (start n : Int) (hL : Lists w r sv) (hW : Wide r) (h0 : 0 ≤ start) (h1 : start ≤ 315537897599) : Calls Tryz.prog 123 #[ruleV r sv, .int .i64 start, .int .i64 n] w fun e w' => e = .returned (.bool (sOk r start n)) ∧ Below w.heap.size w w' := by
 have FF : ∀ W, Below w.heap.size w W → Calls Tryz.prog 166 #[sv 4, .int .i64 n, .bool (decide (1 ≤ r.freq)), .int .i64 (start % 60)] W fun e w' => e = .returned (.bool (sOk r start n)) ∧ Below W.heap.size W w' := fun W hB => rfits_any n (decide (1 ≤ r.freq)) (start % 60) ((hL.1 4 (by decide) (by decide) (by decide)).below hB) (hW.1.1 4 (by decide) (by decide) (by decide))
 have q1 : (start % 86400).tdiv 3600 = start % 86400 / 3600 := Int.tdiv_eq_ediv_of_nonneg (by omega)
 have q2 : (start / 60).tmod 60 = start / 60 % 60 := Int.tmod_eq_emod_of_nonneg (by omega)
 have q3 : IntKind.i64.wrap (start % 86400 / 3600) = start % 86400 / 3600 := Go.IntWalk.i64_in _ (by omega)
 unfold ruleV ruleC at *
 replace FF := Lib.hid FF
 clear hL hW
 go_enter Tryz.func123, Tryz.ntmps123
 go_wp2_with (first | (go_at_call 166; (try simp only [q1, q2, q3]); (with_reducible refine (FF.out _ (by (repeat' (first|assumption|exact Below.refl _ _|apply Below.next_alloc|apply Below.drew|(apply Below.next;rotate_left;assumption))))).mono ?_); rintro e w1 ⟨rfl, hB⟩))
 go_ret
 exact ⟨rfl, by (repeat' (first|assumption|exact Below.refl _ _|apply Below.next_alloc|apply Below.drew|(apply Below.next;rotate_left;assumption)))⟩
set_option maxHeartbeats 2000000 in
set_option maxRecDepth 100000 in
theorem rmay_any (w : World) (r : R) (sv : Nat → Value) (start : Int) (hL : Lists w r sv) (hW : Wide r) : Calls Tryz.prog 120 #[ruleV r sv, .int .i64 start] w fun e w' => e = .returned (.bool (mayT r start)) ∧ Below w.heap.size w w' := by
 have FC : ∀ W, Below w.heap.size w W → Calls Tryz.prog 37 #[ruleV r sv] W fun e w' => e = .returned (.int .i64 (chkR r)) ∧ Below W.heap.size W w' := fun W hB => rcheckR_any W r sv (hL.later hB) hW.1 hW.2.1.2 hW.2.1.1
 unfold ruleV ruleC at *
 clear hL hW
 by_cases hc : chkR r = 0
 ·rw [hc] at FC
  replace FC := Lib.hid FC
  by_cases h0 : 0 ≤ start
  ·by_cases h1 : start ≤ 315537897599
   ·have hr := Lib.hid (show mayT r start = true by unfold mayT; rw [decide_eq_true hc, decide_eq_true h0, decide_eq_true h1]; rfl)
    clear hc
    go_enter Tryz.func120, Tryz.ntmps120
    go_wp2_with (first | (go_at_call 37; (with_reducible refine (FC.out _ (by (repeat' (first|assumption|exact Below.refl _ _|apply Below.next_alloc|apply Below.drew|(apply Below.next;rotate_left;assumption))))).mono ?_); rintro e w1 ⟨rfl, hB⟩))
    go_ret
    exact ⟨ret_b hr.out.symm, by (repeat' (first|assumption|exact Below.refl _ _|apply Below.next_alloc|apply Below.drew|(apply Below.next;rotate_left;assumption)))⟩
   ·have hr := Lib.hid (show mayT r start = false by unfold mayT; rw [decide_eq_false h1]; simp)
    clear hc
    go_enter Tryz.func120, Tryz.ntmps120
    go_wp2_with (first | (go_at_call 37; (with_reducible refine (FC.out _ (by (repeat' (first|assumption|exact Below.refl _ _|apply Below.next_alloc|apply Below.drew|(apply Below.next;rotate_left;assumption))))).mono ?_); rintro e w1 ⟨rfl, hB⟩))
    go_ret
    exact ⟨ret_b ((decide_eq_false (by omega)).trans hr.out.symm), by (repeat' (first|assumption|exact Below.refl _ _|apply Below.next_alloc|apply Below.drew|(apply Below.next;rotate_left;assumption)))⟩
  ·have hr := Lib.hid (show mayT r start = false by unfold mayT; rw [decide_eq_false h0]; simp)
   clear hc
   go_enter Tryz.func120, Tryz.ntmps120
   go_wp2_with (first | (go_at_call 37; (with_reducible refine (FC.out _ (by (repeat' (first|assumption|exact Below.refl _ _|apply Below.next_alloc|apply Below.drew|(apply Below.next;rotate_left;assumption))))).mono ?_); rintro e w1 ⟨rfl, hB⟩))
   go_ret
   exact ⟨ret_b hr.out.symm, by (repeat' (first|assumption|exact Below.refl _ _|apply Below.next_alloc|apply Below.drew|(apply Below.next;rotate_left;assumption)))⟩
 ·have hr := Lib.hid (show mayT r start = false by unfold mayT; rw [decide_eq_false hc]; simp)
  have hq : (chkR r == 0) = false := by simp [hc]
  replace FC := Lib.hid FC
  clear hc
  go_enter Tryz.func120, Tryz.ntmps120
  go_wp2_with (first | (go_at_call 37; (with_reducible refine (FC.out _ (by (repeat' (first|assumption|exact Below.refl _ _|apply Below.next_alloc|apply Below.drew|(apply Below.next;rotate_left;assumption))))).mono ?_); rintro e w1 ⟨rfl, hB⟩))
  go_ret
  exact ⟨ret_b hr.out.symm, by (repeat' (first|assumption|exact Below.refl _ _|apply Below.next_alloc|apply Below.drew|(apply Below.next;rotate_left;assumption)))⟩
end Go.Proofs.YtkbohijlhhpfbaaGreatDoor.Tm
/- What the document's answer gives for a day: the walks through errandref24's Passes, Of and Count (printed by gen_rof.py). -/
namespace Go.Proofs.YtkbohijlhhpfbaaGreatDoor.Tm
open Go.RowKit Ru Ut Cw Ra
theorem upI_succ (k : Nat) : upI (k + 1) = upI k ++ [(k : Int)] := by unfold upI; rw [List.range_succ]; simp
def hF (r : R) (start : Int) (k : Nat) : List Int := (upI k).filter (hOk r start)
def mF (r : R) (start : Int) (k : Nat) : List Int := (upI k).filter (mOk r start)
def sF (r : R) (start : Int) (k : Nat) : List Int := (upI k).filter (sOk r start)
theorem filt_yes {p : Int → Bool} {k : Nat} (h : p k = true) : (upI (k + 1)).filter p = (upI k).filter p ++ [(k : Int)] := by rw [upI_succ, List.filter_append]; simp [h]
theorem filt_no {p : Int → Bool} {k : Nat} (h : p k = false) : (upI (k + 1)).filter p = (upI k).filter p := by rw [upI_succ, List.filter_append]; simp [h]
theorem filt_le (p : Int → Bool) (k : Nat) : ((upI k).filter p).length ≤ k := Nat.le_trans (List.length_filter_le _ _) (by rw [upI_length]; exact Nat.le_refl _)
def RH (r : R) (start a b : Int) (k : Nat) : List Int := (hF r start k).flatMap fun h => minOut a b h (mF r start 60) (sF r start 60)
def RM (r : R) (start a b : Int) (k m : Nat) : List Int := RH r start a b k ++ minOut a b k (mF r start m) (sF r start 60)
def RS (r : R) (start a b : Int) (k m s : Nat) : List Int := RM r start a b k m ++ secOut a b k m (sF r start s)
theorem RM_zero (r : R) (start a b : Int) (k : Nat) : RM r start a b k 0 = RH r start a b k := by unfold RM mF upI minOut; simp
theorem RS_zero (r : R) (start a b : Int) (k m : Nat) : RS r start a b k m 0 = RM r start a b k m := by unfold RS sF upI secOut; simp
theorem RH_no {r : R} {start a b : Int} {k : Nat} (h : hOk r start k = false) : RH r start a b (k + 1) = RH r start a b k := by unfold RH hF; rw [filt_no h]
theorem RH_yes {r : R} {start a b : Int} {k : Nat} (h : hOk r start k = true) : RH r start a b (k + 1) = RM r start a b k 60 := by unfold RM RH hF; rw [filt_yes h]; simp
theorem RM_no {r : R} {start a b : Int} {k m : Nat} (h : mOk r start m = false) : RM r start a b k (m + 1) = RM r start a b k m := by unfold RM mF; rw [filt_no h]
theorem RM_yes {r : R} {start a b : Int} {k m : Nat} (h : mOk r start m = true) : RM r start a b k (m + 1) = RS r start a b k m 60 := by unfold RS RM mF; rw [filt_yes h, min_snoc, List.append_assoc]
theorem RS_no {r : R} {start a b : Int} {k m s : Nat} (h : sOk r start s = false) : RS r start a b k m (s + 1) = RS r start a b k m s := by unfold RS sF; rw [filt_no h]
theorem RS_out {r : R} {start a b : Int} {k m s : Nat} (h : sOk r start s = true) (h1 : ¬ (a ≤ (k : Int) * 3600 + m * 60 + s ∧ (k : Int) * 3600 + m * 60 + s < b)) : RS r start a b k m (s + 1) = RS r start a b k m s := by unfold RS sF; rw [filt_yes h, sec_out h1]
theorem RS_in {r : R} {start a b : Int} {k m s : Nat} (h : sOk r start s = true) (h1 : a ≤ (k : Int) * 3600 + m * 60 + s) (h2 : (k : Int) * 3600 + m * 60 + s < b) : RS r start a b k m (s + 1) = RS r start a b k m s ++ [(k : Int) * 3600 + m * 60 + s] := by unfold RS sF; rw [filt_yes h, sec_in h1 h2, List.append_assoc]
theorem RH_le (r : R) (start a b : Int) {k : Nat} (hk : k ≤ 24) : (RH r start a b k).length ≤ 86400 := by
 refine Nat.le_trans (flat_le _ 3600 (fun h => Nat.le_trans (min_le ..) ?_) _) ?_
 ·have h1 := filt_le (mOk r start) 60
  have h2 := filt_le (sOk r start) 60
  exact Nat.le_trans (Nat.mul_le_mul h1 h2) (by decide)
 ·have := filt_le (hOk r start) k
  have := Nat.mul_le_mul_right 3600 (Nat.le_trans this hk)
  unfold hF
  omega
theorem RS_le (r : R) (start a b : Int) {k m s : Nat} (hk : k ≤ 24) (hm : m ≤ 60) (hs : s ≤ 60) : (RS r start a b k m s).length ≤ 1000000 := by
 unfold RS RM
 rw [List.length_append, List.length_append]
 have h1 := RH_le r start a b hk
 have h2 := min_le a b k (mF r start m) (sF r start 60)
 have h3 := sec_le a b k m (sF r start s)
 have h4 := filt_le (mOk r start) m
 have h5 := filt_le (sOk r start) 60
 have h6 := filt_le (sOk r start) s
 have h7 := Nat.mul_le_mul (Nat.le_trans h4 hm) h5
 unfold mF sF at *
 omega
def rsecs (r : R) (start a b : Int) : List Int := if mayT r start = true ∧ 0 ≤ a ∧ a ≤ b ∧ b ≤ 86400 then RH r start a b 24 else []
theorem rgivesT {w W : World} {B : Nat} {v : Value} {l m : List Int} (h : OwnI W B v m) (hl : m = l) (hb : w.heap.size ≤ B) (hB : Below w.heap.size w W) : Gives w l (.returned v) W := by subst hl; exact ⟨_, rfl, h.base hb, hB⟩
set_option maxHeartbeats 2000000 in
set_option maxRecDepth 100000 in
theorem rof_no (w : World) (r : R) (sv : Nat → Value) (start a b : Int) (hL : Lists w r sv) (hW : Wide r) (hno : ¬ (mayT r start = true ∧ 0 ≤ a ∧ a ≤ b ∧ b ≤ 86400)) : Calls Tryz.prog 85 #[ruleV r sv, .int .i64 start, .int .i64 a, .int .i64 b] w (Gives w []) := by
 have FM : ∀ W, Below w.heap.size w W → Calls Tryz.prog 120 #[ruleV r sv, .int .i64 start] W fun e w' => e = .returned (.bool (mayT r start)) ∧ Below W.heap.size W w' := fun W hB => rmay_any W r sv start (hL.later hB) hW
 unfold ruleV ruleC at *
 clear hL hW
 cases hm : mayT r start
 ·rw [hm] at FM
  replace FM := Lib.hid FM
  clear hno hm
  go_enter Tryz.func85, Tryz.ntmps85
  go_wp2_with (first | (go_at_call 120; (with_reducible refine (FM.out _ (by (repeat' (first|assumption|exact Below.refl _ _|apply Below.next_alloc|apply Below.drew|(apply Below.next;rotate_left;assumption))))).mono ?_); rintro e w1 ⟨rfl, hB⟩))
  go_ret
  exact gives_nil _ _ (by (repeat' (first|assumption|exact Below.refl _ _|apply Below.next_alloc|apply Below.drew|(apply Below.next;rotate_left;assumption))))
 ·rw [hm] at FM hno
  replace FM := Lib.hid FM
  clear hm
  by_cases h1 : a < 0
  ·clear hno
   go_enter Tryz.func85, Tryz.ntmps85
   go_wp2_with (first | (go_at_call 120; (with_reducible refine (FM.out _ (by (repeat' (first|assumption|exact Below.refl _ _|apply Below.next_alloc|apply Below.drew|(apply Below.next;rotate_left;assumption))))).mono ?_); rintro e w1 ⟨rfl, hB⟩))
   go_ret
   exact gives_nil _ _ (by (repeat' (first|assumption|exact Below.refl _ _|apply Below.next_alloc|apply Below.drew|(apply Below.next;rotate_left;assumption))))
  by_cases h2 : b < a
  ·clear hno
   go_enter Tryz.func85, Tryz.ntmps85
   go_wp2_with (first | (go_at_call 120; (with_reducible refine (FM.out _ (by (repeat' (first|assumption|exact Below.refl _ _|apply Below.next_alloc|apply Below.drew|(apply Below.next;rotate_left;assumption))))).mono ?_); rintro e w1 ⟨rfl, hB⟩))
   go_ret
   exact gives_nil _ _ (by (repeat' (first|assumption|exact Below.refl _ _|apply Below.next_alloc|apply Below.drew|(apply Below.next;rotate_left;assumption))))
  have h3 : 86400 < b := by
   refine Classical.not_not.1 fun h => hno ⟨rfl, by omega, by omega, by omega⟩
  clear hno
  go_enter Tryz.func85, Tryz.ntmps85
  go_wp2_with (first | (go_at_call 120; (with_reducible refine (FM.out _ (by (repeat' (first|assumption|exact Below.refl _ _|apply Below.next_alloc|apply Below.drew|(apply Below.next;rotate_left;assumption))))).mono ?_); rintro e w1 ⟨rfl, hB⟩))
  go_ret
  exact gives_nil _ _ (by (repeat' (first|assumption|exact Below.refl _ _|apply Below.next_alloc|apply Below.drew|(apply Below.next;rotate_left;assumption))))
set_option maxHeartbeats 16000000 in
set_option maxRecDepth 100000 in
theorem rof_yes (w : World) (r : R) (sv : Nat → Value) (start a b : Int) (hL : Lists w r sv) (hW : Wide r) (hm : mayT r start = true) (h1 : 0 ≤ a) (h2 : a ≤ b) (h3 : b ≤ 86400) : Calls Tryz.prog 85 #[ruleV r sv, .int .i64 start, .int .i64 a, .int .i64 b] w (Gives w (RH r start a b 24)) := by
 have FM : ∀ W, Below w.heap.size w W → Calls Tryz.prog 120 #[ruleV r sv, .int .i64 start] W fun e w' => e = .returned (.bool true) ∧ Below W.heap.size W w' := fun W hB => by have := rmay_any W r sv start (hL.later hB) hW; rwa [hm] at this
 obtain ⟨s0, s1, -⟩ := may_parts hm
 have FH : ∀ n W, Below w.heap.size w W → Calls Tryz.prog 121 #[ruleV r sv, .int .i64 start, .int .i64 n] W fun e w' => e = .returned (.bool (hOk r start n)) ∧ Below W.heap.size W w' := fun n W hB => rhour_any W r sv start n (hL.later hB) hW s0 s1
 have FI : ∀ n W, Below w.heap.size w W → Calls Tryz.prog 122 #[ruleV r sv, .int .i64 start, .int .i64 n] W fun e w' => e = .returned (.bool (mOk r start n)) ∧ Below W.heap.size W w' := fun n W hB => rminute_any W r sv start n (hL.later hB) hW s0 s1
 have FS : ∀ n W, Below w.heap.size w W → Calls Tryz.prog 123 #[ruleV r sv, .int .i64 start, .int .i64 n] W fun e w' => e = .returned (.bool (sOk r start n)) ∧ Below W.heap.size W w' := fun n W hB => rsecond_any W r sv start n (hL.later hB) hW s0 s1
 have BX := fun W => @rboxT w r sv 27 W
 unfold ruleV ruleC at *
 replace BX := Lib.hid BX
 replace FM := Lib.hid FM
 replace FH := Lib.hid FH
 replace FI := Lib.hid FI
 replace FS := Lib.hid FS
 clear hL hW hm s0 s1
 go_enter Tryz.func85, Tryz.ntmps85
 go_wp2_with (first | (go_at_call 120; (with_reducible refine (FM.out _ (by (repeat' (first|assumption|exact Below.refl _ _|apply Below.next_alloc|apply Below.drew|(apply Below.next;rotate_left;assumption))))).mono ?_); rintro e w1 ⟨rfl, hB⟩))
 have bx := Lib.hid hB
 have b1 := Lib.hid (Below.next_allocs' hB)
 clear hB
 go_loopw [9, 10] (fun v i wr => ∃ k : Nat, k ≤ 24 ∧ i = .int .i64 k ∧ OwnI wr w1.heap.size v (RH r start a b k) ∧ Hid (Below w1.heap.size w1 wr)) (fun _ i _ => 24 - (intOf i).toNat)
 case atStart => exact ⟨0, by omega, rfl, OwnI.nil _ _, Lib.hid (Below.refl _ _)⟩
 case round =>
  obtain ⟨k, hk, rfl, hown, hB⟩ := hrel
  obtain ⟨wo, rfl⟩ : ∃ x, x = wr := ⟨_, rfl⟩
  by_cases hkb : k < 24
  ·have hk1 : (k : Int) < 24 := by omega
   obtain ⟨va, vc, rfl⟩ := hown.slice
   replace hown := Lib.hid hown
   cases gH : hOk r start k
   ·as_aux_lemma =>
    have FH2 := FH.out k
    rw [gH] at FH2
    replace FH2 := Lib.hid FH2
    have hr := Lib.hid (RH_no (a := a) (b := b) gH)
    go_wp2
    go_loopw [9, 11] (fun v i wr2 => v = .slice va (RH r start a b k).length vc ∧ i = .int .i64 0 ∧ Hid (Below wo.heap.size wo wr2)) (fun _ _ _ => 0)
    case atStart => exact ⟨rfl, rfl, Lib.hid (Below.refl _ _)⟩
    case round =>
     obtain ⟨rfl, rfl, hB2⟩ := hrel
     obtain ⟨y0, x0, x1, x2, x3, x4, x5, x6, x7, x8, x9, x10, x11, x12, x13, x14⟩ := BX.out wr (Below.next (Below.next bx.out hB.out) hB2.out)
     have b2 := Lib.hid (Below.next (Below.next b1.out hB.out) hB2.out)
     go_wp2_with (first | (go_at_call 121; (with_reducible refine (FH2.out _ b2.out).mono ?_); rintro e w4 ⟨rfl, hB4⟩))
     go_roundw
     case rel => exact ⟨k + 1, by omega, by go_num, by rw [hr.out]; exact hown.out.below (Below.next hB2.out hB4), Lib.hid (Below.next (Below.next hB.out hB2.out) hB4)⟩
     case measure => simp [intOf]; omega
   ·have FH2 := FH.out k
    rw [gH] at FH2
    replace FH2 := Lib.hid FH2
    have hr := Lib.hid (RH_yes (a := a) (b := b) gH)
    go_wp2
    go_loopw [9, 11] (fun v i wr2 => ∃ m : Nat, m ≤ 60 ∧ i = .int .i64 m ∧ OwnI wr2 w1.heap.size v (RM r start a b k m) ∧ Hid (Below w1.heap.size w1 wr2)) (fun _ i _ => 60 - (intOf i).toNat)
    case atStart => exact ⟨0, by omega, rfl, by rw [RM_zero]; exact hown.out, hB⟩
    case round =>
     clear hown hB
     obtain ⟨m, hm, rfl, hown, hB⟩ := hrel
     obtain ⟨y0, x0, x1, x2, x3, x4, x5, x6, x7, x8, x9, x10, x11, x12, x13, x14⟩ := BX.out wr (Below.next bx.out hB.out)
     have b2 := Lib.hid (Below.next b1.out hB.out)
     by_cases hmb : m < 60
     ·have hm1 : (m : Int) < 60 := by omega
      obtain ⟨va, vc, rfl⟩ := hown.slice
      replace hown := Lib.hid hown
      cases gM : mOk r start m
      ·as_aux_lemma =>
       have FI2 := FI.out m
       rw [gM] at FI2
       replace FI2 := Lib.hid FI2
       have hr2 := Lib.hid (RM_no (a := a) (b := b) (k := k) gM)
       go_wp2_with (first | (go_at_call 121; (with_reducible refine (FH2.out _ b2.out).mono ?_); rintro e w4 ⟨rfl, hB4⟩))
       have b4 := Lib.hid hB4
       clear hB4
       go_loopw [9, 12] (fun v i wr3 => v = .slice va (RM r start a b k m).length vc ∧ i = .int .i64 0 ∧ Hid (Below w4.heap.size w4 wr3)) (fun _ _ _ => 0)
       case atStart => exact ⟨rfl, rfl, Lib.hid (Below.refl _ _)⟩
       case round =>
        clear y0 x0 x1 x2 x3 x4 x5 x6 x7 x8 x9 x10 x11 x12 x13 x14
        obtain ⟨rfl, rfl, hB3⟩ := hrel
        have b3 := Lib.hid (Below.next b4.out hB3.out)
        obtain ⟨y0, x0, x1, x2, x3, x4, x5, x6, x7, x8, x9, x10, x11, x12, x13, x14⟩ := BX.out wr (Below.next (Below.next bx.out hB.out) b3.out)
        have b5 := Lib.hid (Below.next b2.out b3.out)
        go_wp2_with (first | (go_at_call 122; (with_reducible refine (FI2.out _ b5.out).mono ?_); rintro e w6 ⟨rfl, hB6⟩))
        go_roundw
        case rel => exact ⟨m + 1, by omega, by go_num, by rw [hr2.out]; exact hown.out.below (Below.next b3.out hB6), Lib.hid (Below.next (Below.next hB.out b3.out) hB6)⟩
        case measure => simp [intOf]; omega
      ·have FI2 := FI.out m
       rw [gM] at FI2
       replace FI2 := Lib.hid FI2
       have hr2 := Lib.hid (RM_yes (a := a) (b := b) (k := k) gM)
       go_wp2_with (first | (go_at_call 121; (with_reducible refine (FH2.out _ b2.out).mono ?_); rintro e w4 ⟨rfl, hB4⟩))
       have b4 := Lib.hid hB4
       clear hB4
       go_loopw [9, 12] (fun v i wr3 => ∃ s : Nat, s ≤ 60 ∧ i = .int .i64 s ∧ OwnI wr3 w1.heap.size v (RS r start a b k m s) ∧ Hid (Below w1.heap.size w1 wr3)) (fun _ i _ => 60 - (intOf i).toNat)
       case atStart => exact ⟨0, by omega, rfl, by rw [RS_zero]; exact hown.out.below b4.out, Lib.hid (Below.next hB.out b4.out)⟩
       case round =>
        clear y0 x0 x1 x2 x3 x4 x5 x6 x7 x8 x9 x10 x11 x12 x13 x14 hown hB b2 b4
        obtain ⟨s, hs, rfl, hown, hB⟩ := hrel
        obtain ⟨y0, x0, x1, x2, x3, x4, x5, x6, x7, x8, x9, x10, x11, x12, x13, x14⟩ := BX.out wr (Below.next bx.out hB.out)
        have b2 := Lib.hid (Below.next b1.out hB.out)
        by_cases hsb : s < 60
        ·have hs1 : (s : Int) < 60 := by omega
         obtain ⟨va, vc, rfl⟩ := hown.slice
         replace hown := Lib.hid hown
         have hlen := Lib.hid (RS_le r start a b (k := k) (m := m) (s := s) (by omega) (by omega) (by omega))
         cases gS : sOk r start s
         ·as_aux_lemma =>
          have FS2 := FS.out s
          rw [gS] at FS2
          replace FS2 := Lib.hid FS2
          have hr3 := Lib.hid (RS_no (a := a) (b := b) (k := k) (m := m) gS)
          go_wp2_with (first
           | (go_at_call 122; (with_reducible refine (FI2.out _ b2.out).mono ?_); rintro e w6 ⟨rfl, hB6⟩; replace hB6 := Lib.hid hB6; obtain ⟨y0, x0, x1, x2, x3, x4, x5, x6, x7, x8, x9, x10, x11, x12, x13, x14⟩ := BX.out w6 (Below.next (Below.next bx.out hB.out) hB6.out))
           | (go_at_call 123; (with_reducible refine (FS2.out _ (Below.next b2.out hB6.out)).mono ?_); rintro e w7 ⟨rfl, hB7⟩))
          go_roundw
          case rel => exact ⟨s + 1, by omega, by go_num, by rw [hr3.out]; exact hown.out.below (Below.next hB6.out hB7), Lib.hid (Below.next (Below.next hB.out hB6.out) hB7)⟩
          case measure => simp [intOf]; omega
         ·have FS2 := FS.out s
          rw [gS] at FS2
          replace FS2 := Lib.hid FS2
          by_cases t1 : a ≤ (k : Int) * 3600 + m * 60 + s
          ·by_cases t2 : (k : Int) * 3600 + m * 60 + s < b
           ·as_aux_lemma =>
            have hr3 := Lib.hid (RS_in gS t1 t2)
            go_wp2_with (first
             | (go_at_call 122; (with_reducible refine (FI2.out _ b2.out).mono ?_); rintro e w6 ⟨rfl, hB6⟩; replace hB6 := Lib.hid hB6; obtain ⟨y0, x0, x1, x2, x3, x4, x5, x6, x7, x8, x9, x10, x11, x12, x13, x14⟩ := BX.out w6 (Below.next (Below.next bx.out hB.out) hB6.out))
             | (go_at_call 123; (with_reducible refine (FS2.out _ (Below.next b2.out hB6.out)).mono ?_); rintro e w7 ⟨rfl, hB7⟩; replace hB7 := Lib.hid (Below.next hB6.out hB7))
             | (at_builtin; refine push_int rfl _ _ rfl w1.heap.size _ (RS r start a b k m s) rfl (hown.out.below hB7.out) rfl hlen.out (Below.next hB.out hB7.out).size ?_; intro v5 w5 hown5 hB5))
            go_roundw
            case rel => exact ⟨s + 1, by omega, by go_num, by rw [hr3.out]; exact hown5, Lib.hid ((Below.next hB.out hB7.out).trans hB5)⟩
            case measure => simp [intOf]; omega
           ·as_aux_lemma =>
            have hr3 := Lib.hid (RS_out (a := a) (b := b) (k := k) (m := m) gS (fun h => t2 h.2))
            go_wp2_with (first
             | (go_at_call 122; (with_reducible refine (FI2.out _ b2.out).mono ?_); rintro e w6 ⟨rfl, hB6⟩; replace hB6 := Lib.hid hB6; obtain ⟨y0, x0, x1, x2, x3, x4, x5, x6, x7, x8, x9, x10, x11, x12, x13, x14⟩ := BX.out w6 (Below.next (Below.next bx.out hB.out) hB6.out))
             | (go_at_call 123; (with_reducible refine (FS2.out _ (Below.next b2.out hB6.out)).mono ?_); rintro e w7 ⟨rfl, hB7⟩))
            go_roundw
            case rel => exact ⟨s + 1, by omega, by go_num, by rw [hr3.out]; exact hown.out.below (Below.next hB6.out hB7), Lib.hid (Below.next (Below.next hB.out hB6.out) hB7)⟩
            case measure => simp [intOf]; omega
          ·as_aux_lemma =>
           have hr3 := Lib.hid (RS_out (a := a) (b := b) (k := k) (m := m) gS (fun h => t1 h.1))
           go_wp2_with (first
            | (go_at_call 122; (with_reducible refine (FI2.out _ b2.out).mono ?_); rintro e w6 ⟨rfl, hB6⟩; replace hB6 := Lib.hid hB6; obtain ⟨y0, x0, x1, x2, x3, x4, x5, x6, x7, x8, x9, x10, x11, x12, x13, x14⟩ := BX.out w6 (Below.next (Below.next bx.out hB.out) hB6.out))
            | (go_at_call 123; (with_reducible refine (FS2.out _ (Below.next b2.out hB6.out)).mono ?_); rintro e w7 ⟨rfl, hB7⟩))
           go_roundw
           case rel => exact ⟨s + 1, by omega, by go_num, by rw [hr3.out]; exact hown.out.below (Below.next hB6.out hB7), Lib.hid (Below.next (Below.next hB.out hB6.out) hB7)⟩
           case measure => simp [intOf]; omega
        ·obtain rfl : s = 60 := by omega
         obtain ⟨va, vc, rfl⟩ := hown.slice
         replace hown := Lib.hid hown
         go_wp2
         go_roundw
         case rel => exact ⟨m + 1, by omega, by go_num, by rw [hr2.out]; exact hown.out, hB⟩
         case measure => simp [intOf]; omega
     ·obtain rfl : m = 60 := by omega
      obtain ⟨va, vc, rfl⟩ := hown.slice
      replace hown := Lib.hid hown
      go_wp2
      go_roundw
      case rel => exact ⟨k + 1, by omega, by go_num, by rw [hr.out]; exact hown.out, hB⟩
      case measure => simp [intOf]; omega
  ·obtain rfl : k = 24 := by omega
   replace hown := Lib.hid hown
   go_wp2
   go_ret
   exact rgivesT hown.out rfl b1.out.size (Below.next b1.out hB.out)
theorem rtof_any (w : World) (r : R) (sv : Nat → Value) (start a b : Int) (hL : Lists w r sv) (hW : Wide r) : Calls Tryz.prog 85 #[ruleV r sv, .int .i64 start, .int .i64 a, .int .i64 b] w (Gives w (rsecs r start a b)) := by
 unfold rsecs
 split
 ·rename_i h; exact rof_yes w r sv start a b hL hW h.1 h.2.1 h.2.2.1 h.2.2.2
 ·rename_i h; exact rof_no w r sv start a b hL hW h
end Go.Proofs.YtkbohijlhhpfbaaGreatDoor.Tm
/- Whether a second passes, by the document's answer: the walk through errandref24's Passes; both sides are one (printed by gen_rpass.py). -/
namespace Go.Proofs.YtkbohijlhhpfbaaGreatDoor.Tm
open Go.RowKit Ru Ut Cw Ra
def rpassT (r : R) (start t : Int) : Bool := mayT r start && (decide (0 ≤ t) && (decide (t < 86400) && (hOk r start (t / 3600) && (mOk r start (t / 60 % 60) && sOk r start (t % 60)))))
theorem lists_eq {r : R} {start : Int} (hm : mayT r start = true) : hourL r start = hF r start 24 ∧ minL r start = mF r start 60 ∧ secL r start = sF r start 60 := by
 obtain ⟨h0, h1, hc⟩ := may_parts hm
 obtain ⟨f1, f2, f3⟩ := fine_of hc
 refine ⟨ch_filter f1 (by omega) (by omega), ?_, ch_filter f3 (by omega) (by omega)⟩
 unfold minL mF
 rw [ch_filter f2 (by omega) (by omega)]
 have : start % 86400 / 60 % 60 = start / 60 % 60 := by omega
 rw [this]
 rfl
theorem in_filter {p : Int → Bool} {n : Nat} {x : Int} (h0 : 0 ≤ x) (h1 : x < n) : decide (x ∈ (upI n).filter p) = p x := by
 rw [Bool.eq_iff_iff, decide_eq_true_iff, List.mem_filter, upI_mem]
 exact ⟨fun h => h.2, fun h => ⟨⟨h0, h1⟩, h⟩⟩
theorem pass_eq (r : R) (start t : Int) : passT r start t = rpassT r start t := by
 unfold passT rpassT
 cases hm : mayT r start
 ·rfl
 ·obtain ⟨e1, e2, e3⟩ := lists_eq hm
  by_cases h0 : 0 ≤ t
  ·by_cases h1 : t < 86400
   ·rw [e1, e2, e3]
    unfold hF mF sF
    rw [in_filter (by omega) (by omega), in_filter (by omega) (by omega), in_filter (by omega) (by omega)]
   ·rw [decide_eq_false h1]; simp
  ·rw [decide_eq_false h0]; simp
theorem hour_skip {a b h : Int} {ms ss : List Int} (hms : ∀ x ∈ ms, 0 ≤ x ∧ x < 60) (hss : ∀ x ∈ ss, 0 ≤ x ∧ x < 60) : hourOut a b h ms ss = minOut a b h ms ss := by
 unfold hourOut
 split
 ·rename_i hs
  symm
  unfold minOut
  rw [List.flatMap_eq_nil_iff]
  intro m hm
  unfold secOut
  rw [List.filter_eq_nil_iff]
  intro x hx
  obtain ⟨s, hs2, rfl⟩ := List.mem_map.1 hx
  have := hms m hm
  have := hss s hs2
  simp
  omega
 ·rfl
theorem day_eq {a b : Int} {hs ms ss : List Int} (hms : ∀ x ∈ ms, 0 ≤ x ∧ x < 60) (hss : ∀ x ∈ ss, 0 ≤ x ∧ x < 60) : dayOut a b hs ms ss = hs.flatMap fun h => minOut a b h ms ss := by
 unfold dayOut
 congr 1
 funext h
 exact hour_skip hms hss
theorem filt_in (p : Int → Bool) (n : Nat) : ∀ x ∈ (upI n).filter p, 0 ≤ x ∧ x < n := fun _ hx => upI_mem.1 (List.mem_filter.1 hx).1
theorem secs_eq (r : R) (start a b : Int) : secsOf r start a b = rsecs r start a b := by
 unfold secsOf rsecs
 split
 ·rename_i h
  obtain ⟨e1, e2, e3⟩ := lists_eq h.1
  unfold secs
  rw [e1, e2, e3]
  exact day_eq (filt_in _ _) (filt_in _ _)
 ·rfl
end Go.Proofs.YtkbohijlhhpfbaaGreatDoor.Tm
/- What every right program lets pass of a day: the walk through errandlaw24's awake (printed by gen_tawake.py). -/
namespace Go.Proofs.YtkbohijlhhpfbaaGreatDoor.Tm
open Go.RowKit Ru Ut Cw Ra
theorem nilI (W : World) : Ints W (.slice none 0 0) [] := .inl ⟨rfl, none, 0, rfl, fun _ => rfl⟩
theorem nilD (W : World) : Days W (.slice none 0 0) [] := .inl ⟨rfl, none, 0, rfl, fun _ => rfl⟩
theorem q_cases {P : Nat → Prop} (h4 : P 4) (h5 : P 5) (h6 : P 6) (h8 : P 8) (h9 : P 9) (h10 : P 10) (h11 : P 11) (h12 : P 12) : ∀ q, 4 ≤ q → q ≤ 12 → q ≠ 7 → P q := fun q a b c => by
 have hc : q = 4 ∨ q = 5 ∨ q = 6 ∨ q = 8 ∨ q = 9 ∨ q = 10 ∨ q = 11 ∨ q = 12 := by omega
 rcases hc with rfl | rfl | rfl | rfl | rfl | rfl | rfl | rfl <;> assumption
end Go.Proofs.YtkbohijlhhpfbaaGreatDoor.Tm

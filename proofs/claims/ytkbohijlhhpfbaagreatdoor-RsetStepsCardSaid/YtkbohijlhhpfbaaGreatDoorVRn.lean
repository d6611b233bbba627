import Derived.Test.YtkbohijlhhpfbaaGreatDoorVRm
import Derived.Deep.RegionHeld3
import Derived.Test.YtkbohijlhhpfbaaGreatDoorVYa
/- The walk through recur's Check. -/
namespace Go.Proofs.YtkbohijlhhpfbaaGreatDoor.Ra
open Go.RowKit Ru Ut Cw
def Wide (r : R) : Prop := Short r ∧ (0 ≤ r.freq ∧ 0 ≤ r.uk ∧ r.uk ≤ 255) ∧ ∀ q, 4 ≤ q → q ≤ 12 → q ≠ 7 → ∀ x ∈ lst r q, (Lit.int .i64 x).wf = true
theorem hi_bd (q : Nat) : 0 ≤ hi q ∧ hi q ≤ 1000 := by unfold hi; repeat' split <;> omega
def ruleV (r : R) (sv : Nat → Value) : Value := .agg (ruleC r sv)
set_option maxHeartbeats 8000000 in
set_option maxRecDepth 100000 in
theorem rcheck_any (w : World) (r : R) (sv : Nat → Value) (hL : Lists w r sv) (hW : Wide r) : Calls Tryz.prog 33 #[ruleV r sv] w fun e w' => e = .returned (.int .i64 (chkR r)) ∧ Below w.heap.size w w' := by
 have hbox := RAt.box w r sv 33
 have hLb := hL.later (Below.next_alloc (Below.refl _ w) (.cells (ruleC r sv) 33))
 have H1 := head_any (w.alloc (.cells (ruleC r sv) 33)) w.heap.size r sv hbox hW.2.1.2
 have hlt0 : w.heap.size < (w.alloc (.cells (ruleC r sv) 33)).heap.size := by simp
 have hbw := Below.next_alloc (Below.refl _ w) (.cells (ruleC r sv) 33)
 have hbox := Lib.hid hbox
 have hLb := Lib.hid hLb
 unfold ruleV ruleC at *
 by_cases h0 : head r = 0
 ·rw [h0] at H1
  have H1h := Lib.hid H1
  clear H1
  have hr := Lib.hid (show chkR r = if errs r ≠ 0 then errs r else if fits r = true then 0 else 9 by unfold chkR; rw [if_neg (by omega)])
  clear h0
  go_enter Tryz.func33, Tryz.ntmps33
  go_wp2_with (first | (go_at_call 62; refine H1h.out.mono ?_; rintro e w1 ⟨rfl, hB⟩))
  have hB1 := Lib.hid hB
  clear hB
  go_loopw [4, 5] (fun p _ wr => ∃ q : Nat, 4 ≤ q ∧ q ≤ 13 ∧ p = .int .i64 q ∧ Hid (∀ i, 4 ≤ i → i < q → err r i = 0) ∧ Hid (Below w1.heap.size w1 wr)) (fun p _ _ => 13 - (intOf p).toNat)
  case atStart => exact ⟨4, by omega, by omega, rfl, Lib.hid (fun i h1 h2 => by omega), Lib.hid (Below.refl _ _)⟩
  case round =>
   obtain ⟨q, q4, q13, rfl, hz, hBr⟩ := hrel
   have hBB := Lib.hid (Below.next hB1.out hBr.out)
   have hR := Lib.hid (hbox.out.later hBB.out)
   have hLL := Lib.hid (hLb.out.later hBB.out)
   by_cases hq : q ≤ 12
   ·have hi12 : (q : Int) ≤ 12 := by omega
    by_cases hq7 : q = 7
    ·subst hq7
     have c8 := hR.out.2.2.2.2.2.2.2 7 (by decide) (by decide)
     have F := Lib.hid (show Calls Tryz.prog 63 #[sv 7] wr fun e w' => e = .returned (.int .i64 (err r 7)) ∧ Below wr.heap.size wr w' from soundDays_any hLL.out.2 hW.1.2)
     by_cases he : err r 7 = 0
     ·have hz2 := Lib.hid (show ∀ i, 4 ≤ i → i < 8 → err r i = 0 from fun i h1 h2 => by
       by_cases h : i = 7
       ·rw [h, he]
       ·exact hz.out i h1 (by omega))
      rw [he] at F
      clear he
      go_wp2_with (first | (go_at_call 63; refine F.out.mono ?_; rintro e w2 ⟨rfl, hB2⟩))
      go_roundw
      case rel => exact ⟨8, by omega, by omega, by go_num, hz2, Lib.hid (Below.next hBr.out hB2)⟩
      case measure => simp [intOf]
     ·have hr2 := Lib.hid (show chkR r = err r 7 by rw [hr.out, errs_first q4 (by omega) hz.out he, if_pos he])
      have hne : (err r 7 != 0) = true := by simp [he]
      clear he
      go_wp2_with (first | (go_at_call 63; refine F.out.mono ?_; rintro e w2 ⟨rfl, hB2⟩))
      go_ret
      exact ⟨ret_i hr2.out.symm, Below.next hbw (Below.next hBB.out hB2)⟩
    ·have cq := hR.out.2.2.2.2.2.2.2 q q4 hq
     have hbl := hR.out.1
     have hq8 : ((q : Int) == 7) = false := by simp; omega
     have Sl := Lib.hid (show ∀ w', Below wr.heap.size wr w' → w'.cell? ⟨w.heap.size, q + 1, none⟩ = some (sv q) from fun w' h => (h.cell (p := ⟨w.heap.size, q + 1, none⟩) hbl).trans cq)
     have FL := Lib.hid (fun w' => list_any q w.heap.size q4 hq hq7 w')
     have FW := Lib.hid (fun w' => within_any q q4 hq hq7 w')
     have FS := Lib.hid (show ∀ W, Below wr.heap.size wr W → Calls Tryz.prog 64 #[sv q, endsV q] W fun e w' => e = .returned (.int .i64 (err r q)) ∧ Below W.heap.size W w' from fun W h => by
      have := sound_any ((hLL.out.1 q q4 hq hq7).below h) (hW.1.1 q q4 hq hq7) (hW.2.2 q q4 hq hq7) (lo q) (hi q) (sg q) (hi_bd q).1 (hi_bd q).2
      rw [show err r q = wrong (bad (lo q) (hi q) (sg q)) (lst r q) by unfold err; rw [if_neg hq7]]
      exact this)
     by_cases he : err r q = 0
     ·have hz2 := Lib.hid (show ∀ i, 4 ≤ i → i < q + 1 → err r i = 0 from fun i h1 h2 => by
       by_cases h : i = q
       ·rw [h, he]
       ·exact hz.out i h1 (by omega))
      rw [he] at FS
      clear he
      go_wp2
      go_region_held3 (fun w' => w'.cell? ⟨w.heap.size, q + 1, none⟩ = some (sv q)) (first | go_keep | exact Sl.out _ (by (repeat' (first|assumption|exact Below.refl _ _|apply Below.next_alloc|apply Below.drew|(apply Below.next;rotate_left;assumption)))))
       (first
        | (go_at_call 65; refine (FL.out _).mono ?_; rintro e w' ⟨rfl, rfl⟩)
        | (go_at_call 66; refine (FW.out _).mono ?_; rintro e w2 ⟨rfl, hB2⟩)
        | (go_at_call 64; refine (FS.out _ (by (repeat' (first|assumption|exact Below.refl _ _|apply Below.next_alloc|apply Below.drew|(apply Below.next;rotate_left;assumption))))).mono ?_; rintro e w3 ⟨rfl, hB3⟩))
      all_goals
       go_wp2
       go_roundw
       case rel => exact ⟨q + 1, by omega, by omega, by go_num, hz2, Lib.hid (Below.next hBr.out (by (repeat' (first|assumption|exact Below.refl _ _|apply Below.next_alloc|apply Below.drew|(apply Below.next;rotate_left;assumption)))))⟩
       case measure => simp [intOf]; omega
     ·have hr2 := Lib.hid (show chkR r = err r q by rw [hr.out, errs_first q4 (by omega) hz.out he, if_pos he])
      have hne : (err r q != 0) = true := by simp [he]
      clear he
      go_wp2
      go_region_held3 (fun w' => w'.cell? ⟨w.heap.size, q + 1, none⟩ = some (sv q)) (first | go_keep | exact Sl.out _ (by (repeat' (first|assumption|exact Below.refl _ _|apply Below.next_alloc|apply Below.drew|(apply Below.next;rotate_left;assumption)))))
       (first
        | (go_at_call 65; refine (FL.out _).mono ?_; rintro e w' ⟨rfl, rfl⟩)
        | (go_at_call 66; refine (FW.out _).mono ?_; rintro e w2 ⟨rfl, hB2⟩)
        | (go_at_call 64; refine (FS.out _ (by (repeat' (first|assumption|exact Below.refl _ _|apply Below.next_alloc|apply Below.drew|(apply Below.next;rotate_left;assumption))))).mono ?_; rintro e w3 ⟨rfl, hB3⟩))
      all_goals
       go_wp2
       go_ret
       exact ⟨ret_i hr2.out.symm, Below.next hbw (Below.next hBB.out (by (repeat' (first|assumption|exact Below.refl _ _|apply Below.next_alloc|apply Below.drew|(apply Below.next;rotate_left;assumption)))))⟩
   ·obtain rfl : q = 13 := by omega
    have hr2 := Lib.hid (show chkR r = if fits r = true then 0 else 9 by rw [hr.out, errs_zero hz.out, if_neg (by decide)])
    have FF := fits_any wr w.heap.size r sv hR.out hLL.out hW.1 hW.2.1.1
    cases hf : fits r
    ·rw [hf] at FF
     have hr3 := Lib.hid (hr2.out.trans (if_neg (by rw [hf]; decide)))
     have FFh := Lib.hid FF
     clear FF hf
     go_wp2_with (first | (go_at_call 67; refine FFh.out.mono ?_; rintro e w2 ⟨rfl, hB2⟩))
     go_ret
     exact ⟨ret_i hr3.out.symm, Below.next hbw (Below.next hBB.out hB2)⟩
    ·rw [hf] at FF
     have hr3 := Lib.hid (hr2.out.trans (if_pos hf))
     have FFh := Lib.hid FF
     clear FF hf
     go_wp2_with (first | (go_at_call 67; refine FFh.out.mono ?_; rintro e w2 ⟨rfl, hB2⟩))
     go_ret
     exact ⟨ret_i hr3.out.symm, Below.next hbw (Below.next hBB.out hB2)⟩
 ·have hr := Lib.hid (show chkR r = head r by unfold chkR; rw [if_pos h0])
  have hq : (head r != 0) = true := by simp [h0]
  have H1h := Lib.hid H1
  clear h0 H1
  go_enter Tryz.func33, Tryz.ntmps33
  go_wp2_with (first | (go_at_call 62; refine H1h.out.mono ?_; rintro e w1 ⟨rfl, hB⟩))
  go_ret
  exact ⟨ret_i hr.out.symm, Below.next_allocs' hB⟩
end Go.Proofs.YtkbohijlhhpfbaaGreatDoor.Ra
/- The walks through dayset's small functions. -/
namespace Go.Proofs.YtkbohijlhhpfbaaGreatDoor.Da
open Go.RowKit Ru Ut Cw Ra
theorem which_any (a : Int) (h0 : 0 ≤ a) (h1 : a ≤ 1000000) (w : World) : Calls Tryz.prog 149 #[.int .i64 a] w fun e w' => e = .returned (.int .i64 (Dy.which a)) ∧ w = w' := by
 go_enter Tryz.func149, Tryz.ntmps149
 go_wp2
 go_ret
 exact ⟨rfl, rfl⟩
theorem hasB {l : List Int} {a b : Int} : Dy.has l a b = (decide (l.length = 0) || (decide (a ∈ l) || decide (b ∈ l))) := rfl
set_option maxHeartbeats 1000000 in
theorem has_any {w : World} {v : Value} {l : List Int} (a b : Int) (hl : Ints w v l) (hn : l.length ≤ 1000) : Calls Tryz.prog 150 #[v, .int .i64 a, .int .i64 b] w fun e w' => e = .returned (.bool (Dy.has l a b)) ∧ w = w' := by
 have F1 := Ra.has_any a hl (by omega)
 have F2 := Ra.has_any b hl (by omega)
 obtain ⟨p, c, rfl⟩ := hl.slice
 clear hl
 by_cases h0 : l.length = 0
 ·have hr := Lib.hid (show Dy.has l a b = true by rw [hasB, decide_eq_true h0]; rfl)
  have hq : ((l.length : Int) == 0) = true := by simp [h0]
  clear F1 F2 h0
  go_enter Tryz.func150, Tryz.ntmps150
  go_wp2
  go_ret
  exact ⟨ret_b hr.out.symm, rfl⟩
 ·have hq : ((l.length : Int) == 0) = false := by rw [beq_eq_false_iff_ne]; omega
  by_cases ha : a ∈ l
  ·have hr := Lib.hid (show Dy.has l a b = true by rw [hasB, decide_eq_false h0, decide_eq_true ha]; rfl)
   rw [decide_eq_true ha] at F1
   have F1 := Lib.hid F1
   clear F2 ha h0
   go_enter Tryz.func150, Tryz.ntmps150
   go_wp2_with (first | (go_at_call 173; with_reducible refine F1.out.mono ?_; rintro e w' ⟨rfl, rfl⟩))
   go_ret
   exact ⟨ret_b hr.out.symm, rfl⟩
  ·have hr := Lib.hid (show Dy.has l a b = decide (b ∈ l) by rw [hasB, decide_eq_false h0, decide_eq_false ha]; rfl)
   rw [decide_eq_false ha] at F1
   have G1 := Lib.hid F1
   have G2 := Lib.hid F2
   clear F1 F2 ha h0
   go_enter Tryz.func150, Tryz.ntmps150
   go_wp2_with (first | (go_at_call 173; with_reducible refine G1.out.mono ?_; rintro e w' ⟨rfl, rfl⟩; clear G1) | (go_at_call 173; with_reducible refine G2.out.mono ?_; rintro e w' ⟨rfl, rfl⟩))
   go_ret
   exact ⟨ret_b hr.out.symm, rfl⟩
end Go.Proofs.YtkbohijlhhpfbaaGreatDoor.Da
/- The walk through the closure of dayset's onDay. -/
namespace Go.Proofs.YtkbohijlhhpfbaaGreatDoor.Da
open Go.RowKit Ru Ut Cw Ra
set_option maxHeartbeats 4000000 in
theorem onDay1_any (W : World) (bf bw o cap : Nat) (p q wd n0 n1 : Int) (hf : bf < W.heap.size) (hw : bw < W.heap.size) (c3 : W.cell? ⟨bf, 3, none⟩ = some (.int .i64 wd)) (cw : W.cell? ⟨bw, 0, none⟩ = some (.slice (some ⟨bf, o, none⟩) 2 cap)) (c0 : W.cell? ⟨bf, o, none⟩ = some (.int .i64 n0)) (c1 : W.cell? ⟨bf, o + 1, none⟩ = some (.int .i64 n1)) :
  Calls Tryz.prog 176 #[.agg #[.int .i64 p, .int .i64 q], .pointer (some ⟨bf, 0, none⟩), .pointer (some ⟨bw, 0, none⟩)] W fun e w' => e = .returned (.bool (decide (q = wd) && (decide (p = 0) || (decide (p = n0) || decide (p = n1))))) ∧ Below W.heap.size W w' := by
 by_cases h1 : q = wd
 ·have g1 : (q == wd) = true := by simp [h1]
  by_cases h2 : p = 0
  ·have g2 : (p == 0) = true := by simp [h2]
   have hr := Lib.hid (show (decide (q = wd) && (decide (p = 0) || (decide (p = n0) || decide (p = n1)))) = true by simp [h1, h2])
   clear h1 h2
   go_enter Tryz.func176, Tryz.ntmps176
   go_wp2
   go_quiet (fail)
   go_wp2
   go_ret
   exact ⟨ret_b hr.out.symm, Base.below_drewN (by (repeat' (first|assumption|exact Below.refl _ _|apply Below.next_alloc|apply Below.drew|(apply Below.next;rotate_left;assumption)))) _⟩
  ·have g2 : (p == 0) = false := by simp [h2]
   by_cases h3 : p = n0
   ·have g3 : (p == n0) = true := by simp [h3]
    have hr := Lib.hid (show (decide (q = wd) && (decide (p = 0) || (decide (p = n0) || decide (p = n1)))) = true by simp [h1, h3])
    clear h1 h2 h3
    go_enter Tryz.func176, Tryz.ntmps176
    go_wp2
    go_quiet (fail)
    go_wp2
    go_ret
    exact ⟨ret_b hr.out.symm, Base.below_drewN (by (repeat' (first|assumption|exact Below.refl _ _|apply Below.next_alloc|apply Below.drew|(apply Below.next;rotate_left;assumption)))) _⟩
   ·have g3 : (p == n0) = false := by simp [h3]
    have hr := Lib.hid (show (decide (q = wd) && (decide (p = 0) || (decide (p = n0) || decide (p = n1)))) = (p == n1) by
     by_cases h4 : p = n1 <;> simp [h1, h2, h3, h4])
    clear h1 h2 h3
    cases g4 : p == n1
    all_goals
     go_enter Tryz.func176, Tryz.ntmps176
     go_wp2
     go_quiet (fail)
     go_wp2
     go_ret
     exact ⟨ret_b (by rw [hr.out, g4]), Base.below_drewN (by (repeat' (first|assumption|exact Below.refl _ _|apply Below.next_alloc|apply Below.drew|(apply Below.next;rotate_left;assumption)))) _⟩
 ·have g1 : (q == wd) = false := by simp [h1]
  have hr := Lib.hid (show (decide (q = wd) && (decide (p = 0) || (decide (p = n0) || decide (p = n1)))) = false by simp [h1])
  clear h1
  go_enter Tryz.func176, Tryz.ntmps176
  go_wp2
  go_quiet (fail)
  go_wp2
  go_ret
  exact ⟨ret_b hr.out.symm, Base.below_drewN (by (repeat' (first|assumption|exact Below.refl _ _|apply Below.next_alloc|apply Below.drew|(apply Below.next;rotate_left;assumption)))) _⟩
end Go.Proofs.YtkbohijlhhpfbaaGreatDoor.Da
/- The walks through slices.IndexFunc and slices.ContainsFunc over weekdays with one closure (printed by gen_func.py). -/
namespace Go.Proofs.YtkbohijlhhpfbaaGreatDoor.Ra
open Go.RowKit Ru Ut Cw
set_option maxHeartbeats 2000000 in
theorem indexFuncO_any {w : World} {v : Value} {l : List (Int × Int)} (k1 : Value) (k2 : Value) (P : Int × Int → Bool) (hl : Days w v l) (hn : l.length ≤ 1000000) (hp : ∀ W, Below w.heap.size w W → ∀ p q, (p, q) ∈ l → Calls Tryz.prog 176 #[.agg #[.int .i64 p, .int .i64 q], k1, k2] W fun e W' => e = .returned (.bool (P (p, q))) ∧ Below W.heap.size W W') :
  Calls Tryz.prog 145 #[v, .func (.func 176) #[] #[k1, k2]] w fun e w' => (∃ i : Int, e = .returned (.int .i64 i) ∧ decide (0 ≤ i) = l.any P) ∧ Below w.heap.size w w' := by
 rcases hl with ⟨rfl, a, cap, rfl, ha⟩ | ⟨h0, b, o, cap, rfl, hlt, hcap, hcell⟩
 ·go_enter Tryz.func145, Tryz.ntmps145
  go_wp2
  refine wp_loop_rounds 1 ?_
  rw [rounds_succ]
  go_wp2
  go_ret
  exact ⟨⟨_, rfl, by simp⟩, by (repeat' (first|assumption|exact Below.refl _ _|apply Below.next_alloc|apply Below.drew|(apply Below.next;rotate_left;assumption)))⟩
 ·have HC := Lib.hid hcell
  have HP := Lib.hid hp
  clear hcell hp
  go_enter Tryz.func145, Tryz.ntmps145
  go_wp2
  go_loopw [8] (fun i wr => ∃ k : Nat, k ≤ l.length ∧ i = .int .i64 k ∧ Hid ((l.take k).any P = false) ∧ Below w.heap.size w wr) (fun i _ => l.length - (intOf i).toNat)
  case atStart => exact ⟨0, by omega, rfl, Lib.hid (by simp), Below.refl _ _⟩
  case round =>
   obtain ⟨k, k1, rfl, hx, hB⟩ := hrel
   by_cases hk : k < l.length
   ·obtain ⟨c1, c2⟩ := days_cells hlt HC.out hB k hk
    have i2 : (k : Int) < (l.length : Int) := by omega
    have i3 : (0 : Int) ≤ (k : Int) := by omega
    obtain ⟨n, hn'⟩ : ∃ n, l[k] = n := ⟨_, rfl⟩
    have hmem : l[k] ∈ l := List.getElem_mem hk
    rw [hn'] at c1 c2 hmem
    have hany := Lib.hid (show P n = true → l.any P = true from fun h => any_of hk (by rw [hn']; exact h))
    have hnext := Lib.hid (show P n = false → (l.take (k + 1)).any P = false from fun h => by rw [any_take hk, hx.out, hn', h]; rfl)
    clear hn' hx
    obtain ⟨p, q⟩ := n
    simp only at c1 c2
    have F := Lib.hid (HP.out wr hB p q hmem)
    clear hmem
    generalize hPb : P (p, q) = t at F
    cases t
    ·have hx2 := Lib.hid (hnext.out hPb)
     clear hPb
     go_wp2_with (go_at_call 176; refine F.out.mono ?_; rintro e w1 ⟨rfl, hB1⟩)
     go_roundw
     case rel => exact ⟨k + 1, by omega, by go_num, hx2, Below.next hB hB1⟩
     case measure => simp [intOf]; omega
    ·have hx2 := Lib.hid (hany.out hPb)
     clear hPb
     go_wp2_with (go_at_call 176; refine F.out.mono ?_; rintro e w1 ⟨rfl, hB1⟩)
     go_ret
     exact ⟨⟨_, rfl, by rw [decide_eq_true (by omega), hx2.out]⟩, Below.next hB hB1⟩
   ·have hm := Lib.hid (show l.any P = false by have := hx.out; rwa [List.take_of_length_le (by omega)] at this)
    go_wp2
    go_ret
    exact ⟨⟨_, rfl, by rw [hm.out]; rfl⟩, hB⟩
theorem containsFuncO_any {w : World} {v : Value} {l : List (Int × Int)} (k1 : Value) (k2 : Value) (P : Int × Int → Bool) (hl : Days w v l) (hn : l.length ≤ 1000000) (hp : ∀ W, Below w.heap.size w W → ∀ p q, (p, q) ∈ l → Calls Tryz.prog 176 #[.agg #[.int .i64 p, .int .i64 q], k1, k2] W fun e W' => e = .returned (.bool (P (p, q))) ∧ Below W.heap.size W W') :
  Calls Tryz.prog 104 #[v, .func (.func 176) #[] #[k1, k2]] w fun e w' => e = .returned (.bool (l.any P)) ∧ Below w.heap.size w w' := by
 have F := Lib.hid (indexFuncO_any k1 k2 P hl hn hp)
 have hv : ∃ a m c, v = .slice a m c := by
  rcases hl with ⟨_, a, cap, rfl, _⟩ | ⟨_, b, o, cap, rfl, _⟩
  ·exact ⟨_, _, _, rfl⟩
  ·exact ⟨_, _, _, rfl⟩
 obtain ⟨a, m, c, rfl⟩ := hv
 clear hl hp
 go_enter Tryz.func104, Tryz.ntmps104
 go_wp2_with (go_at_call 145; refine F.out.mono ?_; rintro e w1 ⟨⟨i, rfl, hi⟩, hB⟩)
 go_ret
 exact ⟨by first | rfl | exact ret_b hi, hB⟩
end Go.Proofs.YtkbohijlhhpfbaaGreatDoor.Ra
/- The walk through errandref21's Check (printed by gen_check.py). -/
namespace Go.Proofs.YtkbohijlhhpfbaaGreatDoor.Ra
open Go.RowKit Ru Ut Cw
theorem first_nine (W : World) (t : TypeId) (x4 x5 x6 x7 x8 x9 x10 x11 x12 : Int) : Calls Tryz.prog 72 #[.slice (some ⟨W.heap.size, 0, none⟩) 9 9] (W.alloc (.cells #[.int .i64 x4, .int .i64 x5, .int .i64 x6, .int .i64 x7, .int .i64 x8, .int .i64 x9, .int .i64 x10, .int .i64 x11, .int .i64 x12] t)) fun e w' => e = .returned (.int .i64 (firstNZ [x4, x5, x6, x7, x8, x9, x10, x11, x12])) ∧ W.alloc (.cells #[.int .i64 x4, .int .i64 x5, .int .i64 x6, .int .i64 x7, .int .i64 x8, .int .i64 x9, .int .i64 x10, .int .i64 x11, .int .i64 x12] t) = w' := by
 refine first_any (.inr ⟨by simp, W.heap.size, 0, 9, rfl, by simp, by simp, fun i hi => ?_⟩) (by simp)
 have hc := World.cell?_alloc_new (w := W) #[.int .i64 x4, .int .i64 x5, .int .i64 x6, .int .i64 x7, .int .i64 x8, .int .i64 x9, .int .i64 x10, .int .i64 x11, .int .i64 x12] t (0 + i)
 rw [hc]
 match i, hi with
 | 0, _ | 1, _ | 2, _ | 3, _ | 4, _ | 5, _ | 6, _ | 7, _ | 8, _ => rfl
theorem chkR_eq {r : R} (h : ¬ 6 < r.freq) (h2 : ¬ (r.interval < 1 ∨ 1000 < r.interval ∨ r.count < 0 ∨ 1000 < r.count ∨ r.wkst < 0 ∨ 6 < r.wkst)) : chkR r = if untilE r ≠ 0 then untilE r else if errs r ≠ 0 then errs r else if fits r = true then 0 else 9 := by
 unfold chkR; rw [head_rest h h2]; rfl
theorem chkR_one {r : R} (h : 6 < r.freq) : chkR r = 11 := by unfold chkR; rw [head_one h]; rfl
theorem chkR_two {r : R} (h : ¬ 6 < r.freq) (h2 : r.interval < 1 ∨ 1000 < r.interval ∨ r.count < 0 ∨ 1000 < r.count ∨ r.wkst < 0 ∨ 6 < r.wkst) : chkR r = 8 := by unfold chkR; rw [head_two h h2]; rfl
theorem others_sum (r : R) : others r = (r.sec.length : Int) + r.min.length + r.hour.length + r.day.length + r.mday.length + r.yday.length + r.weekno.length + r.month.length := by unfold others; omega
theorem fin9f {r : R} (h : chkR r = if fits r = true then 0 else 9) (hN : numbered r.day = false) (hb : (0 < r.mday.length ∧ r.freq = 4) ∨ (0 < r.yday.length ∧ 3 ≤ r.freq ∧ r.freq ≤ 5) ∨ (0 < r.weekno.length ∧ ¬ r.freq = 6) ∨ (0 < r.setpos.length ∧ (r.sec.length : Int) + r.min.length + r.hour.length + r.day.length + r.mday.length + r.yday.length + r.weekno.length + r.month.length = 0)) : chkR r = 9 := by
 rw [h, if_neg]
 rw [fits_iff, hN, others_sum]
 simp only [Bool.false_eq_true, false_and, not_false_eq_true, true_and]
 omega
theorem fin0f {r : R} (h : chkR r = if fits r = true then 0 else 9) (hN : numbered r.day = false) (hb : ¬ ((0 < r.mday.length ∧ r.freq = 4) ∨ (0 < r.yday.length ∧ 3 ≤ r.freq ∧ r.freq ≤ 5) ∨ (0 < r.weekno.length ∧ ¬ r.freq = 6) ∨ (0 < r.setpos.length ∧ (r.sec.length : Int) + r.min.length + r.hour.length + r.day.length + r.mday.length + r.yday.length + r.weekno.length + r.month.length = 0))) : chkR r = 0 := by
 rw [h, if_pos]
 rw [fits_iff, hN, others_sum]
 simp only [Bool.false_eq_true, false_and, not_false_eq_true, true_and]
 omega
theorem fin9t {r : R} (h : chkR r = if fits r = true then 0 else 9) (hN : numbered r.day = true) (hb : r.freq < 5 ∨ 0 < r.weekno.length ∨ (0 < r.mday.length ∧ r.freq = 4) ∨ (0 < r.yday.length ∧ 3 ≤ r.freq ∧ r.freq ≤ 5) ∨ (0 < r.weekno.length ∧ ¬ r.freq = 6) ∨ (0 < r.setpos.length ∧ (r.sec.length : Int) + r.min.length + r.hour.length + r.day.length + r.mday.length + r.yday.length + r.weekno.length + r.month.length = 0)) : chkR r = 9 := by
 rw [h, if_neg]
 rw [fits_iff, hN, others_sum]
 simp only [true_and]
 omega
theorem fin0t {r : R} (h : chkR r = if fits r = true then 0 else 9) (hN : numbered r.day = true) (hb : ¬ (r.freq < 5 ∨ 0 < r.weekno.length ∨ (0 < r.mday.length ∧ r.freq = 4) ∨ (0 < r.yday.length ∧ 3 ≤ r.freq ∧ r.freq ≤ 5) ∨ (0 < r.weekno.length ∧ ¬ r.freq = 6) ∨ (0 < r.setpos.length ∧ (r.sec.length : Int) + r.min.length + r.hour.length + r.day.length + r.mday.length + r.yday.length + r.weekno.length + r.month.length = 0))) : chkR r = 0 := by
 rw [h, if_pos]
 rw [fits_iff, hN, others_sum]
 simp only [true_and]
 omega
set_option maxHeartbeats 16000000 in
set_option maxRecDepth 100000 in
theorem rcheckA_any (w : World) (r : R) (sv : Nat → Value) (hL : Lists w r sv) (hn : Short r) (hu : 0 ≤ r.uk ∧ r.uk ≤ 255) (hbad : 6 < r.freq ∨ (r.interval < 1 ∨ 1000 < r.interval ∨ r.count < 0 ∨ 1000 < r.count ∨ r.wkst < 0 ∨ 6 < r.wkst) ∨ ¬ untilE r = 0) : Calls Tryz.prog 37 #[.agg (ruleC r sv)] w fun e w' => e = .returned (.int .i64 (chkR r)) ∧ Below w.heap.size w w' := by
 have FU := fun W => until_any W r sv hu
 obtain ⟨x4, g4⟩ : ∃ x, err r 4 = x := ⟨_, rfl⟩
 obtain ⟨x5, g5⟩ : ∃ x, err r 5 = x := ⟨_, rfl⟩
 obtain ⟨x6, g6⟩ : ∃ x, err r 6 = x := ⟨_, rfl⟩
 obtain ⟨x7, g7⟩ : ∃ x, err r 7 = x := ⟨_, rfl⟩
 obtain ⟨x8, g8⟩ : ∃ x, err r 8 = x := ⟨_, rfl⟩
 obtain ⟨x9, g9⟩ : ∃ x, err r 9 = x := ⟨_, rfl⟩
 obtain ⟨x10, g10⟩ : ∃ x, err r 10 = x := ⟨_, rfl⟩
 obtain ⟨x11, g11⟩ : ∃ x, err r 11 = x := ⟨_, rfl⟩
 obtain ⟨x12, g12⟩ : ∃ x, err r 12 = x := ⟨_, rfl⟩
 have F4 : ∀ W, Below w.heap.size w W → Calls Tryz.prog 73 #[sv 4, .int .i64 0, .int .i64 59, .bool false] W fun e w' => e = .returned (.int .i64 x4) ∧ Below W.heap.size W w' := fun W hB => by
  have := rlist_any ((hL.1 4 (by decide) (by decide) (by decide)).below hB) (hn.1 4 (by decide) (by decide) (by decide)) 0 59 false (by decide) (by decide) (by decide); rwa [show wrong (bad 0 59 false) (lst r 4) = err r 4 from rfl, g4] at this
 have F5 : ∀ W, Below w.heap.size w W → Calls Tryz.prog 73 #[sv 5, .int .i64 0, .int .i64 59, .bool false] W fun e w' => e = .returned (.int .i64 x5) ∧ Below W.heap.size W w' := fun W hB => by
  have := rlist_any ((hL.1 5 (by decide) (by decide) (by decide)).below hB) (hn.1 5 (by decide) (by decide) (by decide)) 0 59 false (by decide) (by decide) (by decide); rwa [show wrong (bad 0 59 false) (lst r 5) = err r 5 from rfl, g5] at this
 have F6 : ∀ W, Below w.heap.size w W → Calls Tryz.prog 73 #[sv 6, .int .i64 0, .int .i64 23, .bool false] W fun e w' => e = .returned (.int .i64 x6) ∧ Below W.heap.size W w' := fun W hB => by
  have := rlist_any ((hL.1 6 (by decide) (by decide) (by decide)).below hB) (hn.1 6 (by decide) (by decide) (by decide)) 0 23 false (by decide) (by decide) (by decide); rwa [show wrong (bad 0 23 false) (lst r 6) = err r 6 from rfl, g6] at this
 have F7 : ∀ W, Below w.heap.size w W → Calls Tryz.prog 74 #[sv 7] W fun e w' => e = .returned (.int .i64 x7) ∧ Below W.heap.size W w' := fun W hB => by
  have := rdays_any (hL.2.below hB) hn.2; rwa [show wrong badDay r.day = err r 7 from rfl, g7] at this
 have F8 : ∀ W, Below w.heap.size w W → Calls Tryz.prog 73 #[sv 8, .int .i64 1, .int .i64 31, .bool true] W fun e w' => e = .returned (.int .i64 x8) ∧ Below W.heap.size W w' := fun W hB => by
  have := rlist_any ((hL.1 8 (by decide) (by decide) (by decide)).below hB) (hn.1 8 (by decide) (by decide) (by decide)) 1 31 true (by decide) (by decide) (by decide); rwa [show wrong (bad 1 31 true) (lst r 8) = err r 8 from rfl, g8] at this
 have F9 : ∀ W, Below w.heap.size w W → Calls Tryz.prog 73 #[sv 9, .int .i64 1, .int .i64 366, .bool true] W fun e w' => e = .returned (.int .i64 x9) ∧ Below W.heap.size W w' := fun W hB => by
  have := rlist_any ((hL.1 9 (by decide) (by decide) (by decide)).below hB) (hn.1 9 (by decide) (by decide) (by decide)) 1 366 true (by decide) (by decide) (by decide); rwa [show wrong (bad 1 366 true) (lst r 9) = err r 9 from rfl, g9] at this
 have F10 : ∀ W, Below w.heap.size w W → Calls Tryz.prog 73 #[sv 10, .int .i64 1, .int .i64 53, .bool true] W fun e w' => e = .returned (.int .i64 x10) ∧ Below W.heap.size W w' := fun W hB => by
  have := rlist_any ((hL.1 10 (by decide) (by decide) (by decide)).below hB) (hn.1 10 (by decide) (by decide) (by decide)) 1 53 true (by decide) (by decide) (by decide); rwa [show wrong (bad 1 53 true) (lst r 10) = err r 10 from rfl, g10] at this
 have F11 : ∀ W, Below w.heap.size w W → Calls Tryz.prog 73 #[sv 11, .int .i64 1, .int .i64 12, .bool false] W fun e w' => e = .returned (.int .i64 x11) ∧ Below W.heap.size W w' := fun W hB => by
  have := rlist_any ((hL.1 11 (by decide) (by decide) (by decide)).below hB) (hn.1 11 (by decide) (by decide) (by decide)) 1 12 false (by decide) (by decide) (by decide); rwa [show wrong (bad 1 12 false) (lst r 11) = err r 11 from rfl, g11] at this
 have F12 : ∀ W, Below w.heap.size w W → Calls Tryz.prog 73 #[sv 12, .int .i64 1, .int .i64 366, .bool true] W fun e w' => e = .returned (.int .i64 x12) ∧ Below W.heap.size W w' := fun W hB => by
  have := rlist_any ((hL.1 12 (by decide) (by decide) (by decide)).below hB) (hn.1 12 (by decide) (by decide) (by decide)) 1 366 true (by decide) (by decide) (by decide); rwa [show wrong (bad 1 366 true) (lst r 12) = err r 12 from rfl, g12] at this
 have FN : ∀ W, Below w.heap.size w W → Calls Tryz.prog 75 #[sv 7] W fun e w' => e = .returned (.bool (numbered r.day)) ∧ W = w' := fun W hB => numbered_any (hL.2.below hB) (by have := hn.2; omega)
 have hE : errs r = firstNZ [x4, x5, x6, x7, x8, x9, x10, x11, x12] := by unfold errs; rw [g4, g5, g6, g7, g8, g9, g10, g11, g12]
 obtain ⟨a4, k4, e4⟩ := (hL.1 4 (by decide) (by decide) (by decide)).slice
 change sv 4 = .slice a4 r.sec.length k4 at e4
 have n4 : r.sec.length ≤ 1000 := hn.1 4 (by decide) (by decide) (by decide)
 obtain ⟨a5, k5, e5⟩ := (hL.1 5 (by decide) (by decide) (by decide)).slice
 change sv 5 = .slice a5 r.min.length k5 at e5
 have n5 : r.min.length ≤ 1000 := hn.1 5 (by decide) (by decide) (by decide)
 obtain ⟨a6, k6, e6⟩ := (hL.1 6 (by decide) (by decide) (by decide)).slice
 change sv 6 = .slice a6 r.hour.length k6 at e6
 have n6 : r.hour.length ≤ 1000 := hn.1 6 (by decide) (by decide) (by decide)
 obtain ⟨a7, k7, e7⟩ := hL.2.slice
 have n7 := hn.2
 obtain ⟨a8, k8, e8⟩ := (hL.1 8 (by decide) (by decide) (by decide)).slice
 change sv 8 = .slice a8 r.mday.length k8 at e8
 have n8 : r.mday.length ≤ 1000 := hn.1 8 (by decide) (by decide) (by decide)
 obtain ⟨a9, k9, e9⟩ := (hL.1 9 (by decide) (by decide) (by decide)).slice
 change sv 9 = .slice a9 r.yday.length k9 at e9
 have n9 : r.yday.length ≤ 1000 := hn.1 9 (by decide) (by decide) (by decide)
 obtain ⟨a10, k10, e10⟩ := (hL.1 10 (by decide) (by decide) (by decide)).slice
 change sv 10 = .slice a10 r.weekno.length k10 at e10
 have n10 : r.weekno.length ≤ 1000 := hn.1 10 (by decide) (by decide) (by decide)
 obtain ⟨a11, k11, e11⟩ := (hL.1 11 (by decide) (by decide) (by decide)).slice
 change sv 11 = .slice a11 r.month.length k11 at e11
 have n11 : r.month.length ≤ 1000 := hn.1 11 (by decide) (by decide) (by decide)
 obtain ⟨a12, k12, e12⟩ := (hL.1 12 (by decide) (by decide) (by decide)).slice
 change sv 12 = .slice a12 r.setpos.length k12 at e12
 have n12 : r.setpos.length ≤ 1000 := hn.1 12 (by decide) (by decide) (by decide)
 have RB := RAt.box w r sv 27
 unfold ruleC at *
 rw [e4] at FU F4 RB ⊢
 rw [e5] at FU F5 RB ⊢
 rw [e6] at FU F6 RB ⊢
 rw [e7] at FU F7 FN RB ⊢
 rw [e8] at FU F8 RB ⊢
 rw [e9] at FU F9 RB ⊢
 rw [e10] at FU F10 RB ⊢
 rw [e11] at FU F11 RB ⊢
 rw [e12] at FU F12 RB ⊢
 replace e4 := Lib.hid e4
 replace e5 := Lib.hid e5
 replace e6 := Lib.hid e6
 replace e7 := Lib.hid e7
 replace e8 := Lib.hid e8
 replace e9 := Lib.hid e9
 replace e10 := Lib.hid e10
 replace e11 := Lib.hid e11
 replace e12 := Lib.hid e12
 replace F4 := Lib.hid F4
 replace F5 := Lib.hid F5
 replace F6 := Lib.hid F6
 replace F7 := Lib.hid F7
 replace F8 := Lib.hid F8
 replace F9 := Lib.hid F9
 replace F10 := Lib.hid F10
 replace F11 := Lib.hid F11
 replace F12 := Lib.hid F12
 replace FN := Lib.hid FN
 replace FU := Lib.hid FU
 replace RB := Lib.hid RB
 replace hE := Lib.hid hE
 clear hL hn g4 g5 g6 g7 g8 g9 g10 g11 g12
 replace hbad := Lib.hid hbad
 by_cases h1 : 6 < r.freq
 ·have hr := Lib.hid (chkR_one h1)
  go_enter Tryz.func37, Tryz.ntmps37
  go_wp2
  go_ret
  exact ⟨ret_i hr.out.symm, by (repeat' (first|assumption|exact Below.refl _ _|apply Below.next_alloc|apply Below.drew|(apply Below.next;rotate_left;assumption)))⟩
 by_cases c0 : r.interval < 1
 ·have hr := Lib.hid (chkR_two h1 (.inl c0))
  go_enter Tryz.func37, Tryz.ntmps37
  go_wp2
  go_ret
  exact ⟨ret_i hr.out.symm, by (repeat' (first|assumption|exact Below.refl _ _|apply Below.next_alloc|apply Below.drew|(apply Below.next;rotate_left;assumption)))⟩
 by_cases c1 : 1000 < r.interval
 ·have hr := Lib.hid (chkR_two h1 (.inr (.inl c1)))
  go_enter Tryz.func37, Tryz.ntmps37
  go_wp2
  go_ret
  exact ⟨ret_i hr.out.symm, by (repeat' (first|assumption|exact Below.refl _ _|apply Below.next_alloc|apply Below.drew|(apply Below.next;rotate_left;assumption)))⟩
 by_cases c2 : r.count < 0
 ·have hr := Lib.hid (chkR_two h1 (.inr (.inr (.inl c2))))
  go_enter Tryz.func37, Tryz.ntmps37
  go_wp2
  go_ret
  exact ⟨ret_i hr.out.symm, by (repeat' (first|assumption|exact Below.refl _ _|apply Below.next_alloc|apply Below.drew|(apply Below.next;rotate_left;assumption)))⟩
 by_cases c3 : 1000 < r.count
 ·have hr := Lib.hid (chkR_two h1 (.inr (.inr (.inr (.inl c3)))))
  go_enter Tryz.func37, Tryz.ntmps37
  go_wp2
  go_ret
  exact ⟨ret_i hr.out.symm, by (repeat' (first|assumption|exact Below.refl _ _|apply Below.next_alloc|apply Below.drew|(apply Below.next;rotate_left;assumption)))⟩
 by_cases c4 : r.wkst < 0
 ·have hr := Lib.hid (chkR_two h1 (.inr (.inr (.inr (.inr (.inl c4))))))
  go_enter Tryz.func37, Tryz.ntmps37
  go_wp2
  go_ret
  exact ⟨ret_i hr.out.symm, by (repeat' (first|assumption|exact Below.refl _ _|apply Below.next_alloc|apply Below.drew|(apply Below.next;rotate_left;assumption)))⟩
 by_cases c5 : 6 < r.wkst
 ·have hr := Lib.hid (chkR_two h1 (.inr (.inr (.inr (.inr (.inr (c5)))))))
  go_enter Tryz.func37, Tryz.ntmps37
  go_wp2
  go_ret
  exact ⟨ret_i hr.out.symm, by (repeat' (first|assumption|exact Below.refl _ _|apply Below.next_alloc|apply Below.drew|(apply Below.next;rotate_left;assumption)))⟩
 have hr := Lib.hid (chkR_eq h1 (by omega))
 have hu0 : ¬ untilE r = 0 := by have := hbad.out; omega
 have q0 : (untilE r != 0) = true := by simp [hu0]
 replace hr := Lib.hid (hr.out.trans (if_pos hu0))
 clear hu0
 go_enter Tryz.func37, Tryz.ntmps37
 go_wp2_with (first | (go_at_call 71; (with_reducible refine (FU.out _).mono ?_); rintro e w1 ⟨rfl, hB⟩))
 go_ret
 exact ⟨ret_i hr.out.symm, Below.next_allocs' hB⟩
set_option maxHeartbeats 16000000 in
set_option maxRecDepth 100000 in
theorem rcheckZ_any (w : World) (r : R) (sv : Nat → Value) (hL : Lists w r sv) (hn : Short r) (hu : 0 ≤ r.uk ∧ r.uk ≤ 255) (h1 : ¬ 6 < r.freq) (h2 : ¬ (r.interval < 1 ∨ 1000 < r.interval ∨ r.count < 0 ∨ 1000 < r.count ∨ r.wkst < 0 ∨ 6 < r.wkst)) (hu0 : untilE r = 0) (hze : ¬ errs r = 0) : Calls Tryz.prog 37 #[.agg (ruleC r sv)] w fun e w' => e = .returned (.int .i64 (chkR r)) ∧ Below w.heap.size w w' := by
 have FU := fun W => until_any W r sv hu
 obtain ⟨x4, g4⟩ : ∃ x, err r 4 = x := ⟨_, rfl⟩
 obtain ⟨x5, g5⟩ : ∃ x, err r 5 = x := ⟨_, rfl⟩
 obtain ⟨x6, g6⟩ : ∃ x, err r 6 = x := ⟨_, rfl⟩
 obtain ⟨x7, g7⟩ : ∃ x, err r 7 = x := ⟨_, rfl⟩
 obtain ⟨x8, g8⟩ : ∃ x, err r 8 = x := ⟨_, rfl⟩
 obtain ⟨x9, g9⟩ : ∃ x, err r 9 = x := ⟨_, rfl⟩
 obtain ⟨x10, g10⟩ : ∃ x, err r 10 = x := ⟨_, rfl⟩
 obtain ⟨x11, g11⟩ : ∃ x, err r 11 = x := ⟨_, rfl⟩
 obtain ⟨x12, g12⟩ : ∃ x, err r 12 = x := ⟨_, rfl⟩
 have F4 : ∀ W, Below w.heap.size w W → Calls Tryz.prog 73 #[sv 4, .int .i64 0, .int .i64 59, .bool false] W fun e w' => e = .returned (.int .i64 x4) ∧ Below W.heap.size W w' := fun W hB => by
  have := rlist_any ((hL.1 4 (by decide) (by decide) (by decide)).below hB) (hn.1 4 (by decide) (by decide) (by decide)) 0 59 false (by decide) (by decide) (by decide); rwa [show wrong (bad 0 59 false) (lst r 4) = err r 4 from rfl, g4] at this
 have F5 : ∀ W, Below w.heap.size w W → Calls Tryz.prog 73 #[sv 5, .int .i64 0, .int .i64 59, .bool false] W fun e w' => e = .returned (.int .i64 x5) ∧ Below W.heap.size W w' := fun W hB => by
  have := rlist_any ((hL.1 5 (by decide) (by decide) (by decide)).below hB) (hn.1 5 (by decide) (by decide) (by decide)) 0 59 false (by decide) (by decide) (by decide); rwa [show wrong (bad 0 59 false) (lst r 5) = err r 5 from rfl, g5] at this
 have F6 : ∀ W, Below w.heap.size w W → Calls Tryz.prog 73 #[sv 6, .int .i64 0, .int .i64 23, .bool false] W fun e w' => e = .returned (.int .i64 x6) ∧ Below W.heap.size W w' := fun W hB => by
  have := rlist_any ((hL.1 6 (by decide) (by decide) (by decide)).below hB) (hn.1 6 (by decide) (by decide) (by decide)) 0 23 false (by decide) (by decide) (by decide); rwa [show wrong (bad 0 23 false) (lst r 6) = err r 6 from rfl, g6] at this
 have F7 : ∀ W, Below w.heap.size w W → Calls Tryz.prog 74 #[sv 7] W fun e w' => e = .returned (.int .i64 x7) ∧ Below W.heap.size W w' := fun W hB => by
  have := rdays_any (hL.2.below hB) hn.2; rwa [show wrong badDay r.day = err r 7 from rfl, g7] at this
 have F8 : ∀ W, Below w.heap.size w W → Calls Tryz.prog 73 #[sv 8, .int .i64 1, .int .i64 31, .bool true] W fun e w' => e = .returned (.int .i64 x8) ∧ Below W.heap.size W w' := fun W hB => by
  have := rlist_any ((hL.1 8 (by decide) (by decide) (by decide)).below hB) (hn.1 8 (by decide) (by decide) (by decide)) 1 31 true (by decide) (by decide) (by decide); rwa [show wrong (bad 1 31 true) (lst r 8) = err r 8 from rfl, g8] at this
 have F9 : ∀ W, Below w.heap.size w W → Calls Tryz.prog 73 #[sv 9, .int .i64 1, .int .i64 366, .bool true] W fun e w' => e = .returned (.int .i64 x9) ∧ Below W.heap.size W w' := fun W hB => by
  have := rlist_any ((hL.1 9 (by decide) (by decide) (by decide)).below hB) (hn.1 9 (by decide) (by decide) (by decide)) 1 366 true (by decide) (by decide) (by decide); rwa [show wrong (bad 1 366 true) (lst r 9) = err r 9 from rfl, g9] at this
 have F10 : ∀ W, Below w.heap.size w W → Calls Tryz.prog 73 #[sv 10, .int .i64 1, .int .i64 53, .bool true] W fun e w' => e = .returned (.int .i64 x10) ∧ Below W.heap.size W w' := fun W hB => by
  have := rlist_any ((hL.1 10 (by decide) (by decide) (by decide)).below hB) (hn.1 10 (by decide) (by decide) (by decide)) 1 53 true (by decide) (by decide) (by decide); rwa [show wrong (bad 1 53 true) (lst r 10) = err r 10 from rfl, g10] at this
 have F11 : ∀ W, Below w.heap.size w W → Calls Tryz.prog 73 #[sv 11, .int .i64 1, .int .i64 12, .bool false] W fun e w' => e = .returned (.int .i64 x11) ∧ Below W.heap.size W w' := fun W hB => by
  have := rlist_any ((hL.1 11 (by decide) (by decide) (by decide)).below hB) (hn.1 11 (by decide) (by decide) (by decide)) 1 12 false (by decide) (by decide) (by decide); rwa [show wrong (bad 1 12 false) (lst r 11) = err r 11 from rfl, g11] at this
 have F12 : ∀ W, Below w.heap.size w W → Calls Tryz.prog 73 #[sv 12, .int .i64 1, .int .i64 366, .bool true] W fun e w' => e = .returned (.int .i64 x12) ∧ Below W.heap.size W w' := fun W hB => by
  have := rlist_any ((hL.1 12 (by decide) (by decide) (by decide)).below hB) (hn.1 12 (by decide) (by decide) (by decide)) 1 366 true (by decide) (by decide) (by decide); rwa [show wrong (bad 1 366 true) (lst r 12) = err r 12 from rfl, g12] at this
 have FN : ∀ W, Below w.heap.size w W → Calls Tryz.prog 75 #[sv 7] W fun e w' => e = .returned (.bool (numbered r.day)) ∧ W = w' := fun W hB => numbered_any (hL.2.below hB) (by have := hn.2; omega)
 have hE : errs r = firstNZ [x4, x5, x6, x7, x8, x9, x10, x11, x12] := by unfold errs; rw [g4, g5, g6, g7, g8, g9, g10, g11, g12]
 obtain ⟨a4, k4, e4⟩ := (hL.1 4 (by decide) (by decide) (by decide)).slice
 change sv 4 = .slice a4 r.sec.length k4 at e4
 have n4 : r.sec.length ≤ 1000 := hn.1 4 (by decide) (by decide) (by decide)
 obtain ⟨a5, k5, e5⟩ := (hL.1 5 (by decide) (by decide) (by decide)).slice
 change sv 5 = .slice a5 r.min.length k5 at e5
 have n5 : r.min.length ≤ 1000 := hn.1 5 (by decide) (by decide) (by decide)
 obtain ⟨a6, k6, e6⟩ := (hL.1 6 (by decide) (by decide) (by decide)).slice
 change sv 6 = .slice a6 r.hour.length k6 at e6
 have n6 : r.hour.length ≤ 1000 := hn.1 6 (by decide) (by decide) (by decide)
 obtain ⟨a7, k7, e7⟩ := hL.2.slice
 have n7 := hn.2
 obtain ⟨a8, k8, e8⟩ := (hL.1 8 (by decide) (by decide) (by decide)).slice
 change sv 8 = .slice a8 r.mday.length k8 at e8
 have n8 : r.mday.length ≤ 1000 := hn.1 8 (by decide) (by decide) (by decide)
 obtain ⟨a9, k9, e9⟩ := (hL.1 9 (by decide) (by decide) (by decide)).slice
 change sv 9 = .slice a9 r.yday.length k9 at e9
 have n9 : r.yday.length ≤ 1000 := hn.1 9 (by decide) (by decide) (by decide)
 obtain ⟨a10, k10, e10⟩ := (hL.1 10 (by decide) (by decide) (by decide)).slice
 change sv 10 = .slice a10 r.weekno.length k10 at e10
 have n10 : r.weekno.length ≤ 1000 := hn.1 10 (by decide) (by decide) (by decide)
 obtain ⟨a11, k11, e11⟩ := (hL.1 11 (by decide) (by decide) (by decide)).slice
 change sv 11 = .slice a11 r.month.length k11 at e11
 have n11 : r.month.length ≤ 1000 := hn.1 11 (by decide) (by decide) (by decide)
 obtain ⟨a12, k12, e12⟩ := (hL.1 12 (by decide) (by decide) (by decide)).slice
 change sv 12 = .slice a12 r.setpos.length k12 at e12
 have n12 : r.setpos.length ≤ 1000 := hn.1 12 (by decide) (by decide) (by decide)
 have RB := RAt.box w r sv 27
 unfold ruleC at *
 rw [e4] at FU F4 RB ⊢
 rw [e5] at FU F5 RB ⊢
 rw [e6] at FU F6 RB ⊢
 rw [e7] at FU F7 FN RB ⊢
 rw [e8] at FU F8 RB ⊢
 rw [e9] at FU F9 RB ⊢
 rw [e10] at FU F10 RB ⊢
 rw [e11] at FU F11 RB ⊢
 rw [e12] at FU F12 RB ⊢
 replace e4 := Lib.hid e4
 replace e5 := Lib.hid e5
 replace e6 := Lib.hid e6
 replace e7 := Lib.hid e7
 replace e8 := Lib.hid e8
 replace e9 := Lib.hid e9
 replace e10 := Lib.hid e10
 replace e11 := Lib.hid e11
 replace e12 := Lib.hid e12
 replace F4 := Lib.hid F4
 replace F5 := Lib.hid F5
 replace F6 := Lib.hid F6
 replace F7 := Lib.hid F7
 replace F8 := Lib.hid F8
 replace F9 := Lib.hid F9
 replace F10 := Lib.hid F10
 replace F11 := Lib.hid F11
 replace F12 := Lib.hid F12
 replace FN := Lib.hid FN
 replace FU := Lib.hid FU
 replace RB := Lib.hid RB
 replace hE := Lib.hid hE
 clear hL hn g4 g5 g6 g7 g8 g9 g10 g11 g12
 have hr := Lib.hid (chkR_eq h1 h2)
 obtain ⟨c0, c1, c2, c3, c4, c5⟩ : ¬ r.interval < 1 ∧ ¬ 1000 < r.interval ∧ ¬ r.count < 0 ∧ ¬ 1000 < r.count ∧ ¬ r.wkst < 0 ∧ ¬ 6 < r.wkst := by omega
 clear h2
 rw [hu0] at FU
 replace hr := Lib.hid (hr.out.trans (if_neg (by omega)))
 clear hu0
 obtain ⟨z, hz⟩ : ∃ z, firstNZ [x4, x5, x6, x7, x8, x9, x10, x11, x12] = z := ⟨_, rfl⟩
 rw [hz] at hE
 have FF := fun W t => first_nine W t x4 x5 x6 x7 x8 x9 x10 x11 x12
 rw [hz] at FF
 replace FF := Lib.hid FF
 clear hz
 rw [hE.out] at hr
 have hz : ¬ z = 0 := by rw [← hE.out]; exact hze
 clear hze
 have qz : (z != 0) = true := by simp [hz]
 replace hr := Lib.hid (hr.out.trans (if_pos hz))
 clear hz
 go_enter Tryz.func37, Tryz.ntmps37
 go_wp2_with (first | (go_at_call 71; (with_reducible refine (FU.out _).mono ?_); rintro e w1 ⟨rfl, hB⟩))
 replace RB := Lib.hid (RB.out.later hB)
 have BW := Lib.hid (Below.next_allocs' hB)
 clear hB
 have SL : ∀ W, Below w1.heap.size w1 W → (W.cell? ⟨w.heap.size, 5, none⟩ = some (.slice a4 r.sec.length k4) ∧ W.cell? ⟨w.heap.size, 6, none⟩ = some (.slice a5 r.min.length k5) ∧ W.cell? ⟨w.heap.size, 7, none⟩ = some (.slice a6 r.hour.length k6) ∧ W.cell? ⟨w.heap.size, 8, none⟩ = some (.slice a7 r.day.length k7) ∧ W.cell? ⟨w.heap.size, 9, none⟩ = some (.slice a8 r.mday.length k8) ∧ W.cell? ⟨w.heap.size, 10, none⟩ = some (.slice a9 r.yday.length k9) ∧ W.cell? ⟨w.heap.size, 11, none⟩ = some (.slice a10 r.weekno.length k10) ∧ W.cell? ⟨w.heap.size, 12, none⟩ = some (.slice a11 r.month.length k11) ∧ W.cell? ⟨w.heap.size, 13, none⟩ = some (.slice a12 r.setpos.length k12)) := fun W hB => by
  have h := (RB.out.later hB).2.2.2.2.2.2.2
  exact ⟨(h 4 (by decide) (by decide)).trans (by rw [e4.out]), (h 5 (by decide) (by decide)).trans (by rw [e5.out]), (h 6 (by decide) (by decide)).trans (by rw [e6.out]), (h 7 (by decide) (by decide)).trans (by rw [e7.out]), (h 8 (by decide) (by decide)).trans (by rw [e8.out]), (h 9 (by decide) (by decide)).trans (by rw [e9.out]), (h 10 (by decide) (by decide)).trans (by rw [e10.out]), (h 11 (by decide) (by decide)).trans (by rw [e11.out]), (h 12 (by decide) (by decide)).trans (by rw [e12.out])⟩
 obtain ⟨s4, s5, s6, s7, s8, s9, s10, s11, s12⟩ := SL w1 (Below.refl _ _)
 replace SL := Lib.hid SL
 go_region_held3 (fun w' => w'.cell? ⟨w.heap.size, 5, none⟩ = some (.slice a4 r.sec.length k4) ∧ w'.cell? ⟨w.heap.size, 6, none⟩ = some (.slice a5 r.min.length k5) ∧ w'.cell? ⟨w.heap.size, 7, none⟩ = some (.slice a6 r.hour.length k6) ∧ w'.cell? ⟨w.heap.size, 8, none⟩ = some (.slice a7 r.day.length k7) ∧ w'.cell? ⟨w.heap.size, 9, none⟩ = some (.slice a8 r.mday.length k8) ∧ w'.cell? ⟨w.heap.size, 10, none⟩ = some (.slice a9 r.yday.length k9) ∧ w'.cell? ⟨w.heap.size, 11, none⟩ = some (.slice a10 r.weekno.length k10) ∧ w'.cell? ⟨w.heap.size, 12, none⟩ = some (.slice a11 r.month.length k11) ∧ w'.cell? ⟨w.heap.size, 13, none⟩ = some (.slice a12 r.setpos.length k12)) (first | go_keep | exact SL.out _ (by (repeat' (first|assumption|exact Below.refl _ _|apply Below.next_alloc|apply Below.drew|(apply Below.next;rotate_left;assumption)))))
  (first
   | (go_at_call 73; (with_reducible refine (F4.out _ (Below.next BW.out (by (repeat' (first|assumption|exact Below.refl _ _|apply Below.next_alloc|apply Below.drew|(apply Below.next;rotate_left;assumption)))))).mono ?_); rintro e y4 ⟨rfl, hB4⟩)
   | (go_at_call 73; (with_reducible refine (F5.out _ (Below.next BW.out (by (repeat' (first|assumption|exact Below.refl _ _|apply Below.next_alloc|apply Below.drew|(apply Below.next;rotate_left;assumption)))))).mono ?_); rintro e y5 ⟨rfl, hB5⟩)
   | (go_at_call 73; (with_reducible refine (F6.out _ (Below.next BW.out (by (repeat' (first|assumption|exact Below.refl _ _|apply Below.next_alloc|apply Below.drew|(apply Below.next;rotate_left;assumption)))))).mono ?_); rintro e y6 ⟨rfl, hB6⟩)
   | (go_at_call 74; (with_reducible refine (F7.out _ (Below.next BW.out (by (repeat' (first|assumption|exact Below.refl _ _|apply Below.next_alloc|apply Below.drew|(apply Below.next;rotate_left;assumption)))))).mono ?_); rintro e y7 ⟨rfl, hB7⟩)
   | (go_at_call 73; (with_reducible refine (F8.out _ (Below.next BW.out (by (repeat' (first|assumption|exact Below.refl _ _|apply Below.next_alloc|apply Below.drew|(apply Below.next;rotate_left;assumption)))))).mono ?_); rintro e y8 ⟨rfl, hB8⟩)
   | (go_at_call 73; (with_reducible refine (F9.out _ (Below.next BW.out (by (repeat' (first|assumption|exact Below.refl _ _|apply Below.next_alloc|apply Below.drew|(apply Below.next;rotate_left;assumption)))))).mono ?_); rintro e y9 ⟨rfl, hB9⟩)
   | (go_at_call 73; (with_reducible refine (F10.out _ (Below.next BW.out (by (repeat' (first|assumption|exact Below.refl _ _|apply Below.next_alloc|apply Below.drew|(apply Below.next;rotate_left;assumption)))))).mono ?_); rintro e y10 ⟨rfl, hB10⟩)
   | (go_at_call 73; (with_reducible refine (F11.out _ (Below.next BW.out (by (repeat' (first|assumption|exact Below.refl _ _|apply Below.next_alloc|apply Below.drew|(apply Below.next;rotate_left;assumption)))))).mono ?_); rintro e y11 ⟨rfl, hB11⟩)
   | (go_at_call 73; (with_reducible refine (F12.out _ (Below.next BW.out (by (repeat' (first|assumption|exact Below.refl _ _|apply Below.next_alloc|apply Below.drew|(apply Below.next;rotate_left;assumption)))))).mono ?_); rintro e y12 ⟨rfl, hB12⟩)
   | (go_at_call 72; (with_reducible refine (FF.out _ _).mono ?_); rintro e yf ⟨rfl, rfl⟩))
 all_goals
  go_wp2
  go_ret
  exact ⟨ret_i hr.out.symm, Below.next BW.out (by (repeat' (first|assumption|exact Below.refl _ _|apply Below.next_alloc|apply Below.drew|(apply Below.next;rotate_left;assumption))))⟩
end Go.Proofs.YtkbohijlhhpfbaaGreatDoor.Ra

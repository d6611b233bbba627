import Derived.Test.YtkbohijlhhpfbaaGreatDoorVYa
import Derived.Test.YtkbohijlhhpfbaaGreatDoorVCwb
import Derived.Test.YtkbohijlhhpfbaaGreatDoorVUt
import Derived.Test.YtkbohijlhhpfbaaGreatDoorVBase
import Derived.Laws.StructEq
import Derived.Laws.IdiomStrings
/- The loop of moment's fields, in plain lists. -/
namespace Go.Proofs.YtkbohijlhhpfbaaGreatDoor.Mo
def go : Nat → Int → List UInt8 → Option (Int × List UInt8)
 | 0, n, l => some (n, l)
 | _ + 1, _, [] => none
 | k + 1, n, c :: l => if dig c = true then go k (n * 10 + dv c) l else none
def rest (ns : List Int) (k : Nat) (n : Int) (ws : List Nat) (l : List UInt8) : Option (List Int) :=
 (go k n l).bind fun p => (fields ws p.2).map fun ms => ns ++ p.1 :: ms
end Go.Proofs.YtkbohijlhhpfbaaGreatDoor.Mo
/- The walks through moment's small functions. -/
namespace Go.Proofs.YtkbohijlhhpfbaaGreatDoor.Ma
open Go.RowKit Mo Ut Cw
theorem sound_any (k s : Int) (hk : 0 ≤ k ∧ k ≤ 255) (w : World) : Calls Tryz.prog 137 #[.int .u8 k, .int .i64 s] w fun e w' => e = .returned (.int .i64 (why k s)) ∧ w = w' := by
 by_cases h0 : k = 0
 ·subst h0
  go_enter Tryz.func137, Tryz.ntmps137
  go_wp2
  go_ret
  exact ⟨by simp [why], rfl⟩
 ·by_cases h3 : 3 < k
  ·go_enter Tryz.func137, Tryz.ntmps137
   go_wp2
   go_ret
   exact ⟨by simp [why, h3], rfl⟩
  ·have hw := Lib.hid (show why k s = if s < 0 ∨ 315537897599 < s then 8 else 0 by unfold why; rw [if_neg (by omega)])
   by_cases hs : s < 0
   ·go_enter Tryz.func137, Tryz.ntmps137
    go_wp2
    go_ret
    exact ⟨by rw [hw.out, if_pos (.inl hs)]; rfl, rfl⟩
   ·by_cases hm : 315537897599 < s
    ·go_enter Tryz.func137, Tryz.ntmps137
     go_wp2
     go_ret
     exact ⟨by rw [hw.out, if_pos (.inr hm)]; rfl, rfl⟩
    ·go_enter Tryz.func137, Tryz.ntmps137
     go_wp2
     go_ret
     exact ⟨by rw [hw.out, if_neg (by omega)]; rfl, rfl⟩
theorem why_le {k s : Int} (h : why k s = 0) : 1 ≤ k ∧ k ≤ 3 ∧ 0 ≤ s ∧ s ≤ 315537897599 := by
 unfold why at h
 by_cases h1 : k < 1 ∨ 3 < k
 ·rw [if_pos h1] at h; omega
 ·rw [if_neg h1] at h
  by_cases h2 : s < 0 ∨ 315537897599 < s
  ·rw [if_pos h2] at h; omega
  ·omega
def val (k s : Int) : Value := .agg #[.int .u8 k, .int .i64 s]
def atV (k s : Int) : Value := if why k s = 0 then val k (secOf k s) else val 0 0
theorem ret_a {a b : Value} {c d : Int} (h : a = b) (h' : c = d) : Ending.returned (.tuple #[a, .int .i64 c]) = .returned (.tuple #[b, .int .i64 d]) := by rw [h, h']
set_option maxHeartbeats 1000000 in
theorem at_any (k s : Int) (hk : 0 ≤ k ∧ k ≤ 255) (w : World) : Calls Tryz.prog 96 #[.int .u8 k, .int .i64 s] w fun e w' => e = .returned (.tuple #[atV k s, .int .i64 (why k s)]) ∧ Below w.heap.size w w' := by
 have F := fun w => sound_any k s hk w
 by_cases h : why k s = 0
 ·have hb := why_le h
  have hr := Lib.hid (show atV k s = val k (secOf k s) by unfold atV; rw [if_pos h])
  rw [h] at F ⊢
  clear h
  have FH := Lib.hid F
  clear F
  by_cases h1 : k = 1
  ·subst h1
   have hs := Lib.hid (show secOf 1 s = s - s % 86400 from rfl)
   go_enter Tryz.func96, Tryz.ntmps96
   go_wp2_with (first | (go_at_call 137; refine (FH.out _).mono ?_; rintro e w' ⟨rfl, rfl⟩))
   refine bodyPost_ret (v := .tuple #[val 1 (s - s % 86400), .int .i64 0]) (by simp [results, Tryz.results96, go_sem, val]) rfl ?_
   exact ⟨ret_a (by rw [hr.out, hs.out]) rfl, by (repeat' (first|assumption|exact Below.refl _ _|apply Below.next_alloc|apply Below.drew|(apply Below.next;rotate_left;assumption)))⟩
  ·have hs := Lib.hid (show secOf k s = s by unfold secOf; rw [if_neg h1])
   go_enter Tryz.func96, Tryz.ntmps96
   go_wp2_with (first | (go_at_call 137; refine (FH.out _).mono ?_; rintro e w' ⟨rfl, rfl⟩))
   refine bodyPost_ret (v := .tuple #[val k s, .int .i64 0]) (by simp [results, Tryz.results96, go_sem, val]) rfl ?_
   exact ⟨ret_a (by rw [hr.out, hs.out]) rfl, by (repeat' (first|assumption|exact Below.refl _ _|apply Below.next_alloc|apply Below.drew|(apply Below.next;rotate_left;assumption)))⟩
 ·have hr := Lib.hid (show atV k s = val 0 0 by unfold atV; rw [if_neg h])
  have hq : (why k s == 0) = false := by simp [h]
  have FH := Lib.hid F
  have hq2 : (why k s != 0) = true := by simp [h]
  clear F h
  go_enter Tryz.func96, Tryz.ntmps96
  go_wp2_with (first | (go_at_call 137; refine (FH.out _).mono ?_; rintro e w' ⟨rfl, rfl⟩))
  refine bodyPost_ret (v := .tuple #[val 0 0, .int .i64 (why k s)]) (by simp [results, Tryz.results96, go_sem, val]) rfl ?_
  exact ⟨ret_a hr.out.symm rfl, by (repeat' (first|assumption|exact Below.refl _ _|apply Below.next_alloc|apply Below.drew|(apply Below.next;rotate_left;assumption)))⟩
theorem eqV (a b c d : Int) (W : World) : (Op.equalIn 10000 30 (.agg #[.int .u8 a, .int .i64 b]) (.agg #[.int .u8 c, .int .i64 d])).run Tryz.prog W = .ok (decide (a = c) && decide (b = d)) W := by
 rw [run_equalIn_struct W 9999 _ _ _ (by kernel_rfl) (by kernel_rfl)]
 by_cases h1 : a = c <;> by_cases h2 : b = d <;> simp [go_sem, Tryz.underlying30, Tryz.underlying3, Tryz.underlying5, h1, h2]
attribute [local go_sem] eqV
theorem boxed {w w1 : World} {a b : Value} {t : TypeId} (h : Below (w.alloc (.cells #[a, b] t)).heap.size (w.alloc (.cells #[a, b] t)) w1) :
  w.heap.size < w1.heap.size ∧ w1.cell? ⟨w.heap.size, 0, none⟩ = some a ∧ w1.cell? ⟨w.heap.size, 1, none⟩ = some b := by
 have hs := h.size
 have e : (w.alloc (.cells #[a, b] t)).heap.size = w.heap.size + 1 := by simp
 refine ⟨by omega, ?_, ?_⟩
 ·rw [h.cell (by rw [e]; exact Nat.lt_succ_self _)]; exact World.cell?_alloc_mark w #[a, b] t (0, 0) 0
 ·rw [h.cell (by rw [e]; exact Nat.lt_succ_self _)]; exact World.cell?_alloc_mark w #[a, b] t (0, 0) 1
set_option maxHeartbeats 1000000 in
theorem check_any (k s : Int) (hk : 0 ≤ k ∧ k ≤ 255) (w : World) : Calls Tryz.prog 57 #[val k s] w fun e w' => e = .returned (.int .i64 (chk k s)) ∧ Below w.heap.size w w' := by
 have F := fun w => at_any k s hk w
 by_cases h : why k s = 0
 ·rw [h, show atV k s = .agg #[.int .u8 k, .int .i64 (secOf k s)] by unfold atV; rw [if_pos h]; rfl] at F
  have hr := Lib.hid (show chk k s = if secOf k s = s then 0 else 2 by unfold chk; simp [h])
  have FH := Lib.hid F
  clear F h
  unfold val
  by_cases hs : secOf k s = s
  ·rw [hs] at FH
   have hr := Lib.hid (hr.out.trans (if_pos hs))
   clear hs
   go_enter Tryz.func57, Tryz.ntmps57
   go_wp2_with (first | (go_at_call 96; refine (FH.out _).mono ?_; rintro e w1 ⟨rfl, hB1⟩; obtain ⟨hlt, c0, c1⟩ := boxed hB1))
   go_ret
   exact ⟨ret_i hr.out.symm, by (repeat' (first|assumption|exact Below.refl _ _|apply Below.next_alloc|apply Below.drew|(apply Below.next;rotate_left;assumption)))⟩
  ·have hr := Lib.hid (hr.out.trans (if_neg hs))
   go_enter Tryz.func57, Tryz.ntmps57
   go_wp2_with (first | (go_at_call 96; refine (FH.out _).mono ?_; rintro e w1 ⟨rfl, hB1⟩; obtain ⟨hlt, c0, c1⟩ := boxed hB1))
   go_ret
   exact ⟨ret_i hr.out.symm, by (repeat' (first|assumption|exact Below.refl _ _|apply Below.next_alloc|apply Below.drew|(apply Below.next;rotate_left;assumption)))⟩
 ·have hr := Lib.hid (show chk k s = why k s by unfold chk; simp [h])
  rw [show atV k s = .agg #[.int .u8 0, .int .i64 0] by unfold atV; rw [if_neg h]; rfl] at F
  have hq : (why k s != 0) = true := by simp [h]
  have FH := Lib.hid F
  clear F h
  unfold val
  go_enter Tryz.func57, Tryz.ntmps57
  go_wp2_with (first | (go_at_call 96; refine (FH.out _).mono ?_; rintro e w1 ⟨rfl, hB1⟩; obtain ⟨hlt, c0, c1⟩ := boxed hB1))
  go_ret
  exact ⟨ret_i hr.out.symm, by (repeat' (first|assumption|exact Below.refl _ _|apply Below.next_alloc|apply Below.drew|(apply Below.next;rotate_left;assumption)))⟩
end Go.Proofs.YtkbohijlhhpfbaaGreatDoor.Ma
/- The walks through errandref11's small functions. -/
namespace Go.Proofs.YtkbohijlhhpfbaaGreatDoor.Ma
open Go.RowKit Mo Ut Cw
theorem chk_of_why {k s c : Int} (h : why k s = c) (hc : c ≠ 0) : chk k s = c := by unfold chk; rw [h, if_pos hc]
theorem why_in {k s : Int} (h1 : 1 ≤ k) (h3 : k ≤ 3) (h0 : 0 ≤ s) (hm : s ≤ 315537897599) : why k s = 0 := by unfold why; rw [if_neg (by omega), if_neg (by omega)]
theorem why_kind {k s : Int} (h : k < 1 ∨ 3 < k) : why k s = 11 := by unfold why; rw [if_pos h]
theorem why_sec {k s : Int} (h1 : 1 ≤ k) (h3 : k ≤ 3) (h : s < 0 ∨ 315537897599 < s) : why k s = 8 := by unfold why; rw [if_neg (by omega), if_pos h]
theorem chk_in {k s : Int} (h : why k s = 0) : chk k s = if k = 1 ∧ s % 86400 ≠ 0 then 2 else 0 := by
 unfold chk; rw [if_neg (by omega)]; unfold secOf
 by_cases h1 : k = 1
 ·rw [if_pos h1]
  by_cases h2 : s % 86400 = 0
  ·rw [if_pos (by omega), if_neg (by omega)]
  ·rw [if_neg (by omega), if_pos ⟨h1, h2⟩]
 ·rw [if_neg h1, if_pos rfl, if_neg (by omega)]
set_option maxHeartbeats 1000000 in
theorem rcheck_any (k s : Int) (hk : 0 ≤ k ∧ k ≤ 255) (w : World) : Calls Tryz.prog 59 #[val k s] w fun e w' => e = .returned (.int .i64 (chk k s)) ∧ Below w.heap.size w w' := by
 unfold val
 by_cases h0 : k < 1
 ·have hr := Lib.hid (chk_of_why (why_kind (s := s) (.inl h0)) (by decide))
  go_enter Tryz.func59, Tryz.ntmps59
  go_wp2
  go_ret
  exact ⟨ret_i hr.out.symm, by (repeat' (first|assumption|exact Below.refl _ _|apply Below.next_alloc|apply Below.drew|(apply Below.next;rotate_left;assumption)))⟩
 ·by_cases h3 : 3 < k
  ·have hr := Lib.hid (chk_of_why (why_kind (s := s) (.inr h3)) (by decide))
   go_enter Tryz.func59, Tryz.ntmps59
   go_wp2
   go_ret
   exact ⟨ret_i hr.out.symm, by (repeat' (first|assumption|exact Below.refl _ _|apply Below.next_alloc|apply Below.drew|(apply Below.next;rotate_left;assumption)))⟩
  ·by_cases hs : s < 0
   ·have hr := Lib.hid (chk_of_why (why_sec (k := k) (by omega) (by omega) (.inl hs)) (by decide))
    go_enter Tryz.func59, Tryz.ntmps59
    go_wp2
    go_ret
    exact ⟨ret_i hr.out.symm, by (repeat' (first|assumption|exact Below.refl _ _|apply Below.next_alloc|apply Below.drew|(apply Below.next;rotate_left;assumption)))⟩
   ·by_cases hm : 315537897599 < s
    ·have hr := Lib.hid (chk_of_why (why_sec (k := k) (by omega) (by omega) (.inr hm)) (by decide))
     go_enter Tryz.func59, Tryz.ntmps59
     go_wp2
     go_ret
     exact ⟨ret_i hr.out.symm, by (repeat' (first|assumption|exact Below.refl _ _|apply Below.next_alloc|apply Below.drew|(apply Below.next;rotate_left;assumption)))⟩
    ·have hw := chk_in (why_in (k := k) (s := s) (by omega) (by omega) (by omega) (by omega))
     by_cases h1 : k = 1
     ·subst h1
      by_cases hz : s % 86400 = 0
      ·have hr := Lib.hid (hw.trans (if_neg (by omega)))
       clear hw
       go_enter Tryz.func59, Tryz.ntmps59
       go_wp2
       go_ret
       exact ⟨ret_i hr.out.symm, by (repeat' (first|assumption|exact Below.refl _ _|apply Below.next_alloc|apply Below.drew|(apply Below.next;rotate_left;assumption)))⟩
      ·have hr := Lib.hid (hw.trans (if_pos ⟨rfl, hz⟩))
       clear hw
       go_enter Tryz.func59, Tryz.ntmps59
       go_wp2
       go_ret
       exact ⟨ret_i hr.out.symm, by (repeat' (first|assumption|exact Below.refl _ _|apply Below.next_alloc|apply Below.drew|(apply Below.next;rotate_left;assumption)))⟩
     ·have hr := Lib.hid (hw.trans (if_neg (by omega)))
      clear hw
      go_enter Tryz.func59, Tryz.ntmps59
      go_wp2
      go_ret
      exact ⟨ret_i hr.out.symm, by (repeat' (first|assumption|exact Below.refl _ _|apply Below.next_alloc|apply Below.drew|(apply Below.next;rotate_left;assumption)))⟩
end Go.Proofs.YtkbohijlhhpfbaaGreatDoor.Ma

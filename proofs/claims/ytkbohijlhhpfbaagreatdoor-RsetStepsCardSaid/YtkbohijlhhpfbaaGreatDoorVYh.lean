import Derived.Test.YtkbohijlhhpfbaaGreatDoorVRj
import Derived.Test.YtkbohijlhhpfbaaGreatDoorVBase
import Derived.BigQuiet
import Derived.WalkSpells
import Derived.Test.YtkbohijlhhpfbaaGreatDoorVMb
/- The walks through recur's small functions. -/
namespace Go.Proofs.YtkbohijlhhpfbaaGreatDoor.Ra
open Go.RowKit Ru Ut Cw
set_option maxHeartbeats 1000000 in
theorem wdn_any (d : Int) (w : World) : Calls Tryz.prog 101 #[.int .i64 d] w fun e w' => (∃ s, e = .returned (.string s) ∧ (s.toList == []) = (decide (d < 0) || decide (6 < d))) ∧ w = w' := by
 by_cases h0 : d < 0
 ·go_enter Tryz.func101, Tryz.ntmps101
  go_wp2
  go_ret
  exact ⟨⟨_, rfl, by first | (rw [ByteArray.toList_eq]; done) | (rw [ByteArray.toList_eq]; simp [h0]; done) | (rw [ByteArray.toList_eq]; simp; omega)⟩, rfl⟩
 ·by_cases h6 : 6 < d
  ·go_enter Tryz.func101, Tryz.ntmps101
   go_wp2
   go_ret
   exact ⟨⟨_, rfl, by first | (rw [ByteArray.toList_eq]; done) | (rw [ByteArray.toList_eq]; simp [h6]; done) | (rw [ByteArray.toList_eq]; simp; omega)⟩, rfl⟩
  ·have hc : d = 0 ∨ d = 1 ∨ d = 2 ∨ d = 3 ∨ d = 4 ∨ d = 5 ∨ d = 6 := by omega
   clear h0 h6
   rcases hc with rfl | rfl | rfl | rfl | rfl | rfl | rfl
   all_goals
    go_enter Tryz.func101, Tryz.ntmps101
    go_wp2
    go_ret
    exact ⟨⟨_, rfl, by first | (rw [ByteArray.toList_eq]; done) | (rw [ByteArray.toList_eq]; rfl)⟩, rfl⟩
theorem absI_any (n : Int) (h1 : -9000000000000000000 ≤ n) (w : World) : Calls Tryz.prog 103 #[.int .i64 n] w fun e w' => e = .returned (.int .i64 (absI n)) ∧ w = w' := by
 by_cases h : n < 0
 ·go_enter Tryz.func103, Tryz.ntmps103
  go_wp2
  go_ret
  exact ⟨ret_i (by unfold absI; rw [if_pos h]), rfl⟩
 ·go_enter Tryz.func103, Tryz.ntmps103
  go_wp2
  go_ret
  exact ⟨ret_i (by unfold absI; rw [if_neg (by omega)]), rfl⟩
def endsV (q : Nat) : Value := .agg #[.int .i64 (lo q), .int .i64 (hi q), .bool (sg q)]
set_option maxHeartbeats 1000000 in
theorem within_any (q : Nat) (h4 : 4 ≤ q) (h12 : q ≤ 12) (h7 : q ≠ 7) (w : World) : Calls Tryz.prog 66 #[.int .i64 q] w fun e w' => e = .returned (endsV q) ∧ Below w.heap.size w w' := by
 have hc : q = 4 ∨ q = 5 ∨ q = 6 ∨ q = 8 ∨ q = 9 ∨ q = 10 ∨ q = 11 ∨ q = 12 := by omega
 clear h4 h12 h7
 rcases hc with rfl | rfl | rfl | rfl | rfl | rfl | rfl | rfl
 ·go_enter Tryz.func66, Tryz.ntmps66
  go_wp2
  refine bodyPost_ret (v := endsV 4) (by simp [results, Tryz.results66, go_sem, endsV, lo, hi, sg]) rfl ?_
  exact ⟨rfl, by (repeat' (first|assumption|exact Below.refl _ _|apply Below.next_alloc|apply Below.drew|(apply Below.next;rotate_left;assumption)))⟩
 ·go_enter Tryz.func66, Tryz.ntmps66
  go_wp2
  refine bodyPost_ret (v := endsV 5) (by simp [results, Tryz.results66, go_sem, endsV, lo, hi, sg]) rfl ?_
  exact ⟨rfl, by (repeat' (first|assumption|exact Below.refl _ _|apply Below.next_alloc|apply Below.drew|(apply Below.next;rotate_left;assumption)))⟩
 ·go_enter Tryz.func66, Tryz.ntmps66
  go_wp2
  refine bodyPost_ret (v := endsV 6) (by simp [results, Tryz.results66, go_sem, endsV, lo, hi, sg]) rfl ?_
  exact ⟨rfl, by (repeat' (first|assumption|exact Below.refl _ _|apply Below.next_alloc|apply Below.drew|(apply Below.next;rotate_left;assumption)))⟩
 ·go_enter Tryz.func66, Tryz.ntmps66
  go_wp2
  refine bodyPost_ret (v := endsV 8) (by simp [results, Tryz.results66, go_sem, endsV, lo, hi, sg]) rfl ?_
  exact ⟨rfl, by (repeat' (first|assumption|exact Below.refl _ _|apply Below.next_alloc|apply Below.drew|(apply Below.next;rotate_left;assumption)))⟩
 ·go_enter Tryz.func66, Tryz.ntmps66
  go_wp2
  refine bodyPost_ret (v := endsV 9) (by simp [results, Tryz.results66, go_sem, endsV, lo, hi, sg]) rfl ?_
  exact ⟨rfl, by (repeat' (first|assumption|exact Below.refl _ _|apply Below.next_alloc|apply Below.drew|(apply Below.next;rotate_left;assumption)))⟩
 ·go_enter Tryz.func66, Tryz.ntmps66
  go_wp2
  refine bodyPost_ret (v := endsV 10) (by simp [results, Tryz.results66, go_sem, endsV, lo, hi, sg]) rfl ?_
  exact ⟨rfl, by (repeat' (first|assumption|exact Below.refl _ _|apply Below.next_alloc|apply Below.drew|(apply Below.next;rotate_left;assumption)))⟩
 ·go_enter Tryz.func66, Tryz.ntmps66
  go_wp2
  refine bodyPost_ret (v := endsV 11) (by simp [results, Tryz.results66, go_sem, endsV, lo, hi, sg]) rfl ?_
  exact ⟨rfl, by (repeat' (first|assumption|exact Below.refl _ _|apply Below.next_alloc|apply Below.drew|(apply Below.next;rotate_left;assumption)))⟩
 ·go_enter Tryz.func66, Tryz.ntmps66
  go_wp2
  refine bodyPost_ret (v := endsV 12) (by simp [results, Tryz.results66, go_sem, endsV, lo, hi, sg]) rfl ?_
  exact ⟨rfl, by (repeat' (first|assumption|exact Below.refl _ _|apply Below.next_alloc|apply Below.drew|(apply Below.next;rotate_left;assumption)))⟩
theorem list_any (q b : Nat) (h4 : 4 ≤ q) (h12 : q ≤ 12) (h7 : q ≠ 7) (w : World) : Calls Tryz.prog 65 #[.pointer (some ⟨b, 0, none⟩), .int .i64 q] w fun e w' => e = .returned (.pointer (some ⟨b, q + 1, none⟩)) ∧ w = w' := by
 have hc : q = 4 ∨ q = 5 ∨ q = 6 ∨ q = 8 ∨ q = 9 ∨ q = 10 ∨ q = 11 ∨ q = 12 := by omega
 clear h4 h12 h7
 rcases hc with rfl | rfl | rfl | rfl | rfl | rfl | rfl | rfl
 all_goals
  go_enter Tryz.func65, Tryz.ntmps65
  go_wp2
  go_ret
  exact ⟨rfl, rfl⟩
end Go.Proofs.YtkbohijlhhpfbaaGreatDoor.Ra
/- The walk through recur's sound. -/
namespace Go.Proofs.YtkbohijlhhpfbaaGreatDoor.Ra
open Go.RowKit Ru Ut Cw
theorem Below.next_allocs' {w W : World} {o : Obj} (h : Below (w.alloc o).heap.size (w.alloc o) W) : Below w.heap.size w W := Below.next (Below.next_alloc (Below.refl _ w) o) h
theorem ints_take {w wr : World} {blk o cap k : Nat} {l : List Int} (hlt : blk < w.heap.size) (hcap : l.length ≤ cap) (hc : ∀ i (h : i < l.length), w.cell? ⟨blk, o + i, none⟩ = some (.int .i64 l[i])) (hk : k ≤ l.length) (hB : Below w.heap.size w wr) :
  Ints wr (.slice (some ⟨blk, o, none⟩) k cap) (l.take k) := by
 have hlen : (l.take k).length = k := by rw [List.length_take]; omega
 by_cases h0 : k = 0
 ·subst h0
  exact .inl ⟨rfl, _, _, rfl, fun h => by cases h⟩
 ·refine .inr ⟨by omega, blk, o, cap, by rw [hlen], Nat.lt_of_lt_of_le hlt hB.size, by omega, fun i h => ?_⟩
  rw [List.getElem_take]
  exact (hB.cell (p := ⟨blk, o + i, none⟩) hlt).trans (hc i (by omega))
theorem absI_bd (n : Int) : 0 ≤ absI n ∧ (n ≤ absI n) ∧ (-n ≤ absI n) ∧ (absI n = n ∨ absI n = -n) := by unfold absI; split <;> omega
theorem boxed3 {w w1 : World} {a b c : Value} {t : TypeId} (h : Below (w.alloc (.cells #[a, b, c] t)).heap.size (w.alloc (.cells #[a, b, c] t)) w1) :
  w.heap.size < w1.heap.size ∧ w1.cell? ⟨w.heap.size, 0, none⟩ = some a ∧ w1.cell? ⟨w.heap.size, 1, none⟩ = some b ∧ w1.cell? ⟨w.heap.size, 2, none⟩ = some c := by
 have hs := h.size
 have e : (w.alloc (.cells #[a, b, c] t)).heap.size = w.heap.size + 1 := by simp
 refine ⟨by omega, ?_, ?_, ?_⟩
 ·rw [h.cell (by rw [e]; exact Nat.lt_succ_self _)]; exact World.cell?_alloc_mark w #[a, b, c] t (0, 0) 0
 ·rw [h.cell (by rw [e]; exact Nat.lt_succ_self _)]; exact World.cell?_alloc_mark w #[a, b, c] t (0, 0) 1
 ·rw [h.cell (by rw [e]; exact Nat.lt_succ_self _)]; exact World.cell?_alloc_mark w #[a, b, c] t (0, 0) 2
set_option maxHeartbeats 4000000 in
theorem sound_any {w : World} {v : Value} {l : List Int} (hl : Ints w v l) (hn : l.length ≤ 1000) (hw : ∀ x ∈ l, (Lit.int .i64 x).wf = true) (a b : Int) (s : Bool) (b0 : 0 ≤ b) (b1 : b ≤ 1000) :
  Calls Tryz.prog 64 #[v, .agg #[.int .i64 a, .int .i64 b, .bool s]] w fun e w' => e = .returned (.int .i64 (wrong (bad a b s) l)) ∧ Below w.heap.size w w' := by
 have C := fun (wr : World) (v' : Value) (l' : List Int) (x : Int) (h : Ints wr v' l') (hn : l'.length ≤ 1000000) => contains_any x h hn
 rcases hl with ⟨rfl, a', cap, rfl, ha⟩ | ⟨h0, blk, o, cap, rfl, hlt, hcap, hcell⟩
 ·go_enter Tryz.func64, Tryz.ntmps64
  go_wp2
  go_rounds 1
  go_wp2
  go_rounds 1
  go_wp2
  go_ret
  exact ⟨rfl, by (repeat' (first|assumption|exact Below.refl _ _|apply Below.next_alloc|apply Below.drew|(apply Below.next;rotate_left;assumption)))⟩
 ·have HC := Lib.hid hcell
  have HW := Lib.hid hw
  clear hcell hw
  by_cases h12 : 12 < l.length
  ·have hr := Lib.hid (show wrong (bad a b s) l = 20 by unfold wrong; rw [if_pos h12])
   have i12 : (12 : Int) < l.length := by omega
   clear h12
   go_enter Tryz.func64, Tryz.ntmps64
   go_wp2
   go_ret
   exact ⟨ret_i hr.out.symm, by (repeat' (first|assumption|exact Below.refl _ _|apply Below.next_alloc|apply Below.drew|(apply Below.next;rotate_left;assumption)))⟩
  ·have hr := Lib.hid (show wrong (bad a b s) l = if l.any (bad a b s) = true then 8 else if l.Nodup then 0 else 19 by unfold wrong; rw [if_neg h12])
   go_enter Tryz.func64, Tryz.ntmps64
   go_wp2
   go_loopw [14] (fun i wr => ∃ k : Nat, k ≤ l.length ∧ i = .int .i64 k ∧ Hid ((l.take k).any (bad a b s) = false) ∧ Hid (Below (w.alloc (.cells #[.int .i64 a, .int .i64 b, .bool s] 110)).heap.size (w.alloc (.cells #[.int .i64 a, .int .i64 b, .bool s] 110)) wr)) (fun i _ => l.length - (intOf i).toNat)
   case atStart => exact ⟨0, by omega, rfl, Lib.hid (by simp), Lib.hid (Below.refl _ _)⟩
   case round =>
    obtain ⟨k, k1, rfl, hx, hB⟩ := hrel
    obtain ⟨hlt3, e0, e1, e2⟩ := boxed3 hB.out
    by_cases hk : k < l.length
    ·have c1 := (hB.out.cell (p := ⟨blk, o + k, none⟩) (by simp; omega)).trans ((Below.next_alloc (Below.refl _ w) _).cell (p := ⟨blk, o + k, none⟩) hlt |>.trans (HC.out k hk))
     have i2 : (k : Int) < (l.length : Int) := by omega
     have i3 : (0 : Int) ≤ (k : Int) := by omega
     have hwf := bounds_i64 (HW.out _ (List.getElem_mem hk))
     obtain ⟨n, hn'⟩ : ∃ n, l[k] = n := ⟨_, rfl⟩
     rw [hn'] at c1 hwf
     have hany := Lib.hid (show bad a b s n = true → l.any (bad a b s) = true from fun h => any_of hk (by rw [hn']; exact h))
     have hnext := Lib.hid (show bad a b s n = false → (l.take (k + 1)).any (bad a b s) = false from fun h => by rw [any_take hk, hx.out, hn', h]; rfl)
     clear hn' hx
     have n0 := hwf.1
     have n1 := hwf.2
     clear hwf
     have hab := absI_bd n
     by_cases g1 : n < -b
     ·have HB : bad a b s n = true := by simp [bad, g1]
      have d1 := decide_eq_true g1
      have hr8 := Lib.hid (hr.out.trans (if_pos (hany.out HB)))
      clear HB
      go_wp2
      go_quiet ((first | (go_at_call 103; exact Base.qsame (absI_any _ (by omega) _))))
      go_wp2
      go_ret
      exact ⟨ret_i hr8.out.symm, Base.below_drewN (Below.next_allocs' hB.out) _⟩
     ·have d1 := decide_eq_false g1
      by_cases g2 : absI n < a
      ·have HB : bad a b s n = true := by simp [bad, g2]
       have d2 := decide_eq_true g2
       have hr8 := Lib.hid (hr.out.trans (if_pos (hany.out HB)))
       clear HB
       go_wp2
       go_quiet ((first | (go_at_call 103; exact Base.qsame (absI_any _ (by omega) _))))
       go_wp2
       go_ret
       exact ⟨ret_i hr8.out.symm, Base.below_drewN (Below.next_allocs' hB.out) _⟩
      ·have d2 := decide_eq_false g2
       by_cases g3 : b < absI n
       ·have HB : bad a b s n = true := by simp [bad, g3]
        have d3 := decide_eq_true g3
        have hr8 := Lib.hid (hr.out.trans (if_pos (hany.out HB)))
        clear HB
        go_wp2
        go_quiet ((first | (go_at_call 103; exact Base.qsame (absI_any _ (by omega) _))))
        go_wp2
        go_ret
        exact ⟨ret_i hr8.out.symm, Base.below_drewN (Below.next_allocs' hB.out) _⟩
       ·have d3 := decide_eq_false g3
        by_cases g4 : n < 0
        ·have d4 := decide_eq_true g4
         cases s
         ·have HB : bad a b false n = true := by simp [bad, g4]
          have hr8 := Lib.hid (hr.out.trans (if_pos (hany.out HB)))
          clear HB
          go_wp2
          go_quiet ((first | (go_at_call 103; exact Base.qsame (absI_any _ (by omega) _))))
          go_wp2
          go_ret
          exact ⟨ret_i hr8.out.symm, Base.below_drewN (Below.next_allocs' hB.out) _⟩
         ·have HB : bad a b true n = false := by simp [bad, g1, g2, g3]
          have hx2 := Lib.hid (hnext.out HB)
          clear HB
          go_wp2
          go_quiet ((first | (go_at_call 103; exact Base.qsame (absI_any _ (by omega) _))))
          go_wp2
          go_roundw
          case rel => exact ⟨k + 1, by omega, by go_num, hx2, Lib.hid (Base.below_drewN hB.out _)⟩
          case measure => simp [intOf]; omega
        ·have d4 := decide_eq_false g4
         have HB : bad a b s n = false := by simp [bad, g1, g2, g3, g4]
         have hx2 := Lib.hid (hnext.out HB)
         clear HB
         go_wp2
         go_quiet ((first | (go_at_call 103; exact Base.qsame (absI_any _ (by omega) _))))
         go_wp2
         go_roundw
         case rel => exact ⟨k + 1, by omega, by go_num, hx2, Lib.hid (Base.below_drewN hB.out _)⟩
         case measure => simp [intOf]; omega
    ·have hany := Lib.hid (show l.any (bad a b s) = false by have := hx.out; rwa [List.take_of_length_le (by omega)] at this)
     have hr2 := Lib.hid (hr.out.trans (if_neg (by rw [hany.out]; decide)))
     clear hx hany hr
     go_wp2
     go_loopw [49] (fun i wr => ∃ k : Nat, k ≤ l.length ∧ i = .int .i64 k ∧ Hid ((l.take k).Nodup) ∧ Hid (Below (w.alloc (.cells #[.int .i64 a, .int .i64 b, .bool s] 110)).heap.size (w.alloc (.cells #[.int .i64 a, .int .i64 b, .bool s] 110)) wr)) (fun i _ => l.length - (intOf i).toNat)
     case atStart => exact ⟨0, by omega, rfl, Lib.hid (by simp), hB⟩
     case round =>
      clear hB hlt3 e0 e1 e2
      obtain ⟨k, k1, rfl, hx, hB⟩ := hrel
      by_cases hk : k < l.length
      ·have c1 := (hB.out.cell (p := ⟨blk, o + k, none⟩) (by simp; omega)).trans ((Below.next_alloc (Below.refl _ w) _).cell (p := ⟨blk, o + k, none⟩) hlt |>.trans (HC.out k hk))
       have i2 : (k : Int) < (l.length : Int) := by omega
       have i3 : (0 : Int) ≤ (k : Int) := by omega
       have i4 : (k : Int) ≤ (cap : Int) := by omega
       have hI : Hid (Ints _ (.slice (some ⟨blk, o, none⟩) k cap) (l.take k)) := Lib.hid (ints_take hlt hcap HC.out (by omega) (Below.next_allocs' hB.out))
       have CC := Lib.hid (fun x => C _ _ (l.take k) x hI.out (by rw [List.length_take]; omega))
       obtain ⟨n, hn'⟩ : ∃ n, l[k] = n := ⟨_, rfl⟩
       rw [hn'] at c1
       have hnd := Lib.hid ((take_nodup hk hx.out).symm)
       rw [hn'] at hnd
       by_cases hm : n ∈ l.take k
       ·have hbad := Lib.hid (show ¬ l.Nodup from fun h => hnd.out.2 (nodup_take (k + 1) h) hm)
        have d1 := decide_eq_true hm
        have hr3 := Lib.hid (hr2.out.trans (if_neg hbad.out))
        clear hn' hm
        go_wp2_with (first | (go_at_call 42; refine (CC.out _).mono ?_; rintro e w' ⟨rfl, rfl⟩))
        go_ret
        exact ⟨ret_i hr3.out.symm, Below.next_allocs' hB.out⟩
       ·have hx2 := Lib.hid (hnd.out.1 hm)
        have d1 := decide_eq_false hm
        clear hn' hm
        go_wp2_with (first | (go_at_call 42; refine (CC.out _).mono ?_; rintro e w' ⟨rfl, rfl⟩))
        go_roundw
        case rel => exact ⟨k + 1, by omega, by go_num, hx2, hB⟩
        case measure => simp [intOf]; omega
      ·have hr3 := Lib.hid (hr2.out.trans (if_pos (show l.Nodup by have := hx.out; rwa [List.take_of_length_le (by omega)] at this)))
       go_wp2
       go_ret
       exact ⟨ret_i hr3.out.symm, Below.next_allocs' hB.out⟩
end Go.Proofs.YtkbohijlhhpfbaaGreatDoor.Ra
/- Slices of dates as they lie in memory; the walks through rset's alike and at, and the document's dates and has (printed by gen_dates.py). -/
namespace Go.Proofs.YtkbohijlhhpfbaaGreatDoor.Rs
open Go.RowKit Ru Ut Cw Ra
def Vals (w : World) (v : Value) (l : List (Int × Int)) : Prop :=
 (l = [] ∧ ∃ a cap, v = .slice a 0 cap ∧ (a = none → cap = 0)) ∨
 (0 < l.length ∧ ∃ b o cap, v = .slice (some ⟨b, o, none⟩) l.length cap ∧ b < w.heap.size ∧ l.length ≤ cap ∧ ∀ i (h : i < l.length), w.cell? ⟨b, o + i * 2, none⟩ = some (.int .u8 l[i].1) ∧ w.cell? ⟨b, o + i * 2 + 1, none⟩ = some (.int .i64 l[i].2))
theorem Vals.below {w w' : World} {v : Value} {l : List (Int × Int)} (h : Vals w v l) (hb : Below w.heap.size w w') : Vals w' v l := by
 rcases h with h | ⟨h0, b, o, cap, rfl, hlt, hc, hcell⟩
 ·exact .inl h
 ·exact .inr ⟨h0, b, o, cap, rfl, Nat.lt_of_lt_of_le hlt hb.size, hc, fun i h => ⟨(hb.cell (p := ⟨b, o + i * 2, none⟩) hlt).trans (hcell i h).1, (hb.cell (p := ⟨b, o + i * 2 + 1, none⟩) hlt).trans (hcell i h).2⟩⟩
theorem Vals.slice {w : World} {v : Value} {l : List (Int × Int)} (h : Vals w v l) : ∃ a c, v = .slice a l.length c := by
 rcases h with ⟨rfl, a, c, rfl, _⟩ | ⟨_, b, o, c, rfl, _⟩
 ·exact ⟨a, c, rfl⟩
 ·exact ⟨_, c, rfl⟩
theorem Vals.at {w W : World} {v : Value} {a : Option Addr} {c n : Nat} {l : List (Int × Int)} (h : Vals w v l) (hv : v = .slice a n c) (hB : Below w.heap.size w W) {k : Nat} (hk : k < l.length) :
  ∃ b o, a = some ⟨b, o, none⟩ ∧ b < W.heap.size ∧ W.cell? ⟨b, o + k * 2, none⟩ = some (.int .u8 l[k].1) ∧ W.cell? ⟨b, o + k * 2 + 1, none⟩ = some (.int .i64 l[k].2) ∧ l.length ≤ c := by
 rcases h with ⟨rfl, _⟩ | ⟨_, b, o, cap, rfl, hb, hc, hcell⟩
 ·simp at hk
 ·injection hv with e1 e2 e3
  subst e1; subst e2; subst e3
  exact ⟨b, o, rfl, Nat.lt_of_lt_of_le hb hB.size, (hB.cell (p := ⟨b, o + k * 2, none⟩) hb).trans (hcell k hk).1, (hB.cell (p := ⟨b, o + k * 2 + 1, none⟩) hb).trans (hcell k hk).2, hc⟩
theorem vals_cells {w wr : World} {blk o : Nat} {l : List (Int × Int)} (hlt : blk < w.heap.size) (hc : ∀ i (h : i < l.length), w.cell? ⟨blk, o + i * 2, none⟩ = some (.int .u8 l[i].1) ∧ w.cell? ⟨blk, o + i * 2 + 1, none⟩ = some (.int .i64 l[i].2)) (hB : Below w.heap.size w wr) (k : Nat) (hk : k < l.length) :
  wr.cell? ⟨blk, o + k * 2, none⟩ = some (.int .u8 l[k].1) ∧ wr.cell? ⟨blk, o + k * 2 + 1, none⟩ = some (.int .i64 l[k].2) :=
 ⟨(hB.cell (p := ⟨blk, o + k * 2, none⟩) hlt).trans (hc k hk).1, (hB.cell (p := ⟨blk, o + k * 2 + 1, none⟩) hlt).trans (hc k hk).2⟩
def KindsOk (l : List (Int × Int)) : Prop := ∀ x ∈ l, 0 ≤ x.1 ∧ x.1 ≤ 255
def alike (kind : Int) : List (Int × Int) → Int
 | [] => 0
 | x :: l => if Mo.chk x.1 x.2 ≠ 0 then Mo.chk x.1 x.2 else if x.1 ≠ kind then 11 else alike kind l
theorem alike_drop (kind : Int) {l : List (Int × Int)} {k : Nat} (hk : k < l.length) : alike kind (l.drop k) = if Mo.chk l[k].1 l[k].2 ≠ 0 then Mo.chk l[k].1 l[k].2 else if l[k].1 ≠ kind then 11 else alike kind (l.drop (k + 1)) := by
 rw [List.drop_eq_getElem_cons hk]; rfl
def secs (l : List (Int × Int)) : List Int := l.map (·.2)
theorem any_secs (l : List (Int × Int)) (t : Int) : (l.any fun x => decide (x.2 = t)) = decide (t ∈ secs l) := by
 rw [Bool.eq_iff_iff, List.any_eq_true, decide_eq_true_iff]
 unfold secs
 rw [List.mem_map]
 constructor
 ·rintro ⟨x, hx, h⟩; exact ⟨x, hx, by simpa using h⟩
 ·rintro ⟨x, hx, h⟩; exact ⟨x, hx, by simpa using h⟩
set_option maxHeartbeats 2000000 in
theorem indexFuncV_any {w : World} {v : Value} {l : List (Int × Int)} (k1 : Value) (P : Int × Int → Bool) (hl : Vals w v l) (hn : l.length ≤ 1000000) (hp : ∀ W, Below w.heap.size w W → ∀ p q, (p, q) ∈ l → Calls Tryz.prog 94 #[.agg #[.int .u8 p, .int .i64 q], k1] W fun e W' => e = .returned (.bool (P (p, q))) ∧ Below W.heap.size W W') :
  Calls Tryz.prog 136 #[v, .func (.func 94) #[] #[k1]] w fun e w' => (∃ i : Int, e = .returned (.int .i64 i) ∧ decide (0 ≤ i) = l.any P) ∧ Below w.heap.size w w' := by
 rcases hl with ⟨rfl, a, cap, rfl, ha⟩ | ⟨h0, b, o, cap, rfl, hlt, hcap, hcell⟩
 ·go_enter Tryz.func136, Tryz.ntmps136
  go_wp2
  refine wp_loop_rounds 1 ?_
  rw [rounds_succ]
  go_wp2
  go_ret
  exact ⟨⟨_, rfl, by simp⟩, by (repeat' (first|assumption|exact Below.refl _ _|apply Below.next_alloc|apply Below.drew|(apply Below.next;rotate_left;assumption)))⟩
 ·have HC := Lib.hid hcell
  have HP := Lib.hid hp
  clear hcell hp
  go_enter Tryz.func136, Tryz.ntmps136
  go_wp2
  go_loopw [8] (fun i wr => ∃ k : Nat, k ≤ l.length ∧ i = .int .i64 k ∧ Hid ((l.take k).any P = false) ∧ Below w.heap.size w wr) (fun i _ => l.length - (intOf i).toNat)
  case atStart => exact ⟨0, by omega, rfl, Lib.hid (by simp), Below.refl _ _⟩
  case round =>
   obtain ⟨k, k1, rfl, hx, hB⟩ := hrel
   by_cases hk : k < l.length
   ·obtain ⟨c1, c2⟩ := vals_cells hlt HC.out hB k hk
    have i2 : (k : Int) < (l.length : Int) := by omega
    have i3 : (0 : Int) ≤ (k : Int) := by omega
    obtain ⟨n, hn'⟩ : ∃ n, l[k] = n := ⟨_, rfl⟩
    have hmem : l[k] ∈ l := List.getElem_mem hk
    rw [hn'] at c1 c2 hmem
    have hany := Lib.hid (show P n = true → l.any P = true from fun h => any_of hk (by rw [hn']; exact h))
    have hnext := Lib.hid (show P n = false → (l.take (k + 1)).any P = false from fun h => by rw [any_take hk, hx.out, hn', h]; rfl)
    clear hn' hx
    obtain ⟨p, q⟩ := n
    simp only at c1 c2
    have F := Lib.hid (HP.out wr hB p q hmem)
    clear hmem
    generalize hPb : P (p, q) = t at F
    cases t
    ·have hx2 := Lib.hid (hnext.out hPb)
     clear hPb
     go_wp2_with (go_at_call 94; refine F.out.mono ?_; rintro e w1 ⟨rfl, hB1⟩)
     go_roundw
     case rel => exact ⟨k + 1, by omega, by go_num, hx2, Below.next hB hB1⟩
     case measure => simp [intOf]; omega
    ·have hx2 := Lib.hid (hany.out hPb)
     clear hPb
     go_wp2_with (go_at_call 94; refine F.out.mono ?_; rintro e w1 ⟨rfl, hB1⟩)
     go_ret
     exact ⟨⟨_, rfl, by rw [decide_eq_true (by omega), hx2.out]⟩, Below.next hB hB1⟩
   ·have hm := Lib.hid (show l.any P = false by have := hx.out; rwa [List.take_of_length_le (by omega)] at this)
    go_wp2
    go_ret
    exact ⟨⟨_, rfl, by rw [hm.out]; rfl⟩, hB⟩
theorem containsFuncV_any {w : World} {v : Value} {l : List (Int × Int)} (k1 : Value) (P : Int × Int → Bool) (hl : Vals w v l) (hn : l.length ≤ 1000000) (hp : ∀ W, Below w.heap.size w W → ∀ p q, (p, q) ∈ l → Calls Tryz.prog 94 #[.agg #[.int .u8 p, .int .i64 q], k1] W fun e W' => e = .returned (.bool (P (p, q))) ∧ Below W.heap.size W W') :
  Calls Tryz.prog 93 #[v, .func (.func 94) #[] #[k1]] w fun e w' => e = .returned (.bool (l.any P)) ∧ Below w.heap.size w w' := by
 have F := Lib.hid (indexFuncV_any k1 P hl hn hp)
 have hv : ∃ a m c, v = .slice a m c := by
  rcases hl with ⟨_, a, cap, rfl, _⟩ | ⟨_, b, o, cap, rfl, _⟩
  ·exact ⟨_, _, _, rfl⟩
  ·exact ⟨_, _, _, rfl⟩
 obtain ⟨a, m, c, rfl⟩ := hv
 clear hl hp
 go_enter Tryz.func93, Tryz.ntmps93
 go_wp2_with (go_at_call 136; refine F.out.mono ?_; rintro e w1 ⟨⟨i, rfl, hi⟩, hB⟩)
 go_ret
 exact ⟨by first | rfl | exact ret_b hi, hB⟩
set_option maxHeartbeats 2000000 in
theorem at1_any (b : Nat) (k s t : Int) (w : World) (hb : b < w.heap.size) (hc : w.cell? ⟨b, 0, none⟩ = some (.int .i64 t)) : Calls Tryz.prog 94 #[.agg #[.int .u8 k, .int .i64 s], .pointer (some ⟨b, 0, none⟩)] w fun e w' => e = .returned (.bool (decide (s = t))) ∧ Below w.heap.size w w' := by
 by_cases h : s = t
 ·subst h
  rw [decide_eq_true rfl]
  go_enter Tryz.func94, Tryz.ntmps94
  go_wp2
  go_ret
  exact ⟨rfl, by (repeat' (first|assumption|exact Below.refl _ _|apply Below.next_alloc|apply Below.drew|(apply Below.next;rotate_left;assumption)))⟩
 ·rw [decide_eq_false h]
  have h2 : (s == t) = false := by simpa using h
  go_enter Tryz.func94, Tryz.ntmps94
  go_wp2
  go_ret
  exact ⟨rfl, by (repeat' (first|assumption|exact Below.refl _ _|apply Below.next_alloc|apply Below.drew|(apply Below.next;rotate_left;assumption)))⟩
set_option maxHeartbeats 2000000 in
theorem at_any {w : World} {v : Value} {l : List (Int × Int)} (t : Int) (hl : Vals w v l) (hn : l.length ≤ 1000000) : Calls Tryz.prog 53 #[v, .int .i64 t] w fun e w' => e = .returned (.bool (decide (t ∈ secs l))) ∧ Below w.heap.size w w' := by
 have hmf : ∀ (fn : Fn) (first cap : Array Value) (w : World), (Instr.makeFunc fn first cap).run Tryz.prog w = .ok (.func fn first cap) w := fun _ _ _ _ => rfl
 have F := containsFuncV_any (w := w.alloc (.cells #[.int .i64 t] 3)) (.pointer (some ⟨w.heap.size, 0, none⟩)) (fun x => decide (x.2 = t)) (hl.below (Below.next_alloc (Below.refl _ w) _)) hn (fun W hB p q _ =>
  at1_any w.heap.size p q t W (by have := hB.size; rw [World.size_alloc] at this; omega) ((hB.cell (p := ⟨w.heap.size, 0, none⟩) (by simp)).trans (World.cell?_alloc_new w #[.int .i64 t] _ 0)))
 rw [any_secs] at F
 obtain ⟨a, c, rfl⟩ := hl.slice
 replace F := Lib.hid F
 clear hl
 go_enter Tryz.func53, Tryz.ntmps53
 go_wp2_with (first
  | (go_at_call 93; (with_reducible refine F.out.mono ?_); rintro e w1 ⟨rfl, hB⟩))
 go_ret
 exact ⟨rfl, Below.next_allocs' hB⟩
theorem two_box {w W : World} {a b : Value} {t : TypeId} (h : Below (w.alloc (.cells #[a, b] t)).heap.size (w.alloc (.cells #[a, b] t)) W) : w.heap.size < W.heap.size ∧ W.cell? ⟨w.heap.size, 0, none⟩ = some a ∧ W.cell? ⟨w.heap.size, 1, none⟩ = some b := by
 have := h.size
 rw [World.size_alloc] at this
 exact ⟨by omega, (h.cell (p := ⟨w.heap.size, 0, none⟩) (by simp)).trans (World.cell?_alloc_new w #[a, b] t 0), (h.cell (p := ⟨w.heap.size, 1, none⟩) (by simp)).trans (World.cell?_alloc_new w #[a, b] t 1)⟩
set_option maxHeartbeats 4000000 in
theorem alike_any {w : World} {v : Value} {l : List (Int × Int)} (kind : Int) (hl : Vals w v l) (hk : KindsOk l) (hn : l.length ≤ 1000000) : Calls Tryz.prog 58 #[v, .int .u8 kind] w fun e w' => e = .returned (.int .i64 (alike kind l)) ∧ Below w.heap.size w w' := by
 obtain ⟨a, c, hv⟩ := hl.slice
 have hA := Lib.hid (fun W (hB : Below w.heap.size w W) k (hk : k < l.length) => hl.at hv hB hk)
 have hK := Lib.hid hk
 subst hv
 clear hl hk
 go_enter Tryz.func58, Tryz.ntmps58
 go_wp2
 go_loopw [10] (fun i wr => ∃ k : Nat, k ≤ l.length ∧ i = .int .i64 k ∧ Hid (alike kind (l.drop k) = alike kind l) ∧ Hid (Below w.heap.size w wr)) (fun i _ => l.length - (intOf i).toNat)
 case atStart => exact ⟨0, by omega, rfl, Lib.hid (by rw [List.drop_zero]), Lib.hid (Below.refl _ _)⟩
 case round =>
  obtain ⟨k, hk, rfl, hr, hB⟩ := hrel
  by_cases hlt : k < l.length
  ·obtain ⟨b, o, rfl, hb, e1, e2, hcap⟩ := hA.out wr hB.out k hlt
   have hd := alike_drop kind hlt
   have hkk := hK.out l[k] (List.getElem_mem hlt)
   generalize l[k] = x at *
   obtain ⟨q, s⟩ := x
   simp only at e1 e2 hd hkk
   have FC := fun W => Ma.check_any q s hkk W
   unfold Ma.val at FC
   by_cases hc : Mo.chk q s = 0
   ·rw [hc] at FC hd
    by_cases hq : q = kind
    ·subst hq
     have hd2 := Lib.hid (show alike q (l.drop (k + 1)) = alike q l by rw [← hr.out, hd]; simp)
     replace FC := Lib.hid FC
     clear hd hc
     go_wp2_with (first | (go_at_call 57; (with_reducible refine (FC.out _).mono ?_); rintro e w2 ⟨rfl, hB2⟩; obtain ⟨z0, z1, z2⟩ := two_box hB2))
     go_roundw
     case rel => exact ⟨k + 1, by omega, by go_num, hd2, Lib.hid (Below.next hB.out (Below.next_allocs' hB2))⟩
     case measure => simp [intOf]; omega
    ·have hd2 := Lib.hid (show alike kind l = 11 by rw [← hr.out, hd]; simp [hq])
     have hq2 : (q != kind) = true := by simpa using hq
     replace FC := Lib.hid FC
     clear hd hc
     go_wp2_with (first | (go_at_call 57; (with_reducible refine (FC.out _).mono ?_); rintro e w2 ⟨rfl, hB2⟩; obtain ⟨z0, z1, z2⟩ := two_box hB2))
     go_ret
     exact ⟨ret_i hd2.out.symm, Below.next hB.out (Below.next_allocs' hB2)⟩
   ·have hc2 : (Mo.chk q s != 0) = true := by simp [hc]
    have hd2 := Lib.hid (show alike kind l = Mo.chk q s by rw [← hr.out, hd, if_pos hc])
    replace FC := Lib.hid FC
    clear hd hc
    go_wp2_with (first | (go_at_call 57; (with_reducible refine (FC.out _).mono ?_); rintro e w2 ⟨rfl, hB2⟩; obtain ⟨z0, z1, z2⟩ := two_box hB2))
    go_ret
    exact ⟨ret_i hd2.out.symm, Below.next hB.out (Below.next_allocs' hB2)⟩
  ·have hd2 := Lib.hid (show alike kind l = 0 by rw [← hr.out, List.drop_of_length_le (by omega)]; rfl)
   go_wp2
   go_ret
   exact ⟨ret_i hd2.out.symm, hB.out⟩
end Go.Proofs.YtkbohijlhhpfbaaGreatDoor.Rs

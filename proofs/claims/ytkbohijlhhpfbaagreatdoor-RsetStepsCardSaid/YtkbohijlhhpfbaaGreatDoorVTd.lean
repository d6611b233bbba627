import Derived.RangeFuncNested
import Derived.RangeFuncBound
import Derived.RangeFuncCalls
import Derived.RangeFuncLeaves
import Derived.Shelf.Abstract
import Derived.Shelf.RegionOpen
import Derived.WalkKit
import Derived.OwnWalkIn
import Derived.TacticsInMore
import Derived.LoopNIn
import Derived.LoopIn
import Derived.Test.YtkbohijlhhpfbaaGreatDoorVRj
/- Choices: the numbers that they have, and the iterator over them. -/
namespace Go.Proofs.YtkbohijlhhpfbaaGreatDoor.Tm
open Go.RowKit Go.Shelf Ut Ra
attribute [local go_sem] Oper.semAt_some
def num (a : Nat) (l : List Int) (k : Nat) : Int := if k < a then (k : Int) else l[k - a]?.getD 0
def upto (a : Nat) (l : List Int) (k : Nat) : List Int := (List.range k).map (num a l)
theorem upto_succ (a : Nat) (l : List Int) (k : Nat) : upto a l (k + 1) = upto a l k ++ [num a l k] := by simp [upto, List.range_succ]
theorem upto_length (a : Nat) (l : List Int) (k : Nat) : (upto a l k).length = k := by simp [upto]
def chL (a : Nat) (l : List Int) : List Int := (List.range a).map (fun k : Nat => (k : Int)) ++ l
theorem chL_length (a : Nat) (l : List Int) : (chL a l).length = a + l.length := by simp [chL]
theorem upto_take (a : Nat) (l : List Int) {k : Nat} (hk : k ≤ a + l.length) : upto a l k = (chL a l).take k := by
 apply List.ext_getElem
 ·rw [upto_length, List.length_take, chL_length]; omega
 ·intro i h1 h2
  rw [upto_length] at h1
  simp only [upto, List.getElem_map, List.getElem_range, List.getElem_take, chL, num]
  by_cases h : i < a
  ·rw [if_pos h, List.getElem_append_left (by simpa using h)]
   simp
  ·rw [if_neg h, List.getElem_append_right (by simpa using h)]
   simp only [List.length_map]
   rw [List.getElem?_eq_getElem (by omega)]
   simp
theorem upto_all (a : Nat) (l : List Int) : upto a l (a + l.length) = chL a l := by
 rw [upto_take a l (Nat.le_refl _), ← chL_length, List.take_length]
theorem upto_prefix (a : Nat) (l : List Int) {k : Nat} (hk : k ≤ a + l.length) : upto a l k <+: chL a l := by
 rw [upto_take a l hk]; exact List.take_prefix _ _
def KeepsL (L : List Nat) (W W' : World) : Prop := W.heap.size ≤ W'.heap.size ∧ ∀ b ∈ L, W'.heap[b]? = W.heap[b]?
theorem KeepsL.refl (L : List Nat) (W : World) : KeepsL L W W := ⟨Nat.le_refl _, fun _ _ => rfl⟩
theorem KeepsL.trans {L : List Nat} {A B C : World} (h : KeepsL L A B) (k : KeepsL L B C) : KeepsL L A C := ⟨Nat.le_trans h.1 k.1, fun b hb => (k.2 b hb).trans (h.2 b hb)⟩
theorem KeepsL.cell {L : List Nat} {A B : World} (h : KeepsL L A B) {b i : Nat} {v : Value} (hb : b ∈ L) (hc : A.cell? ⟨b, i, none⟩ = some v) : B.cell? ⟨b, i, none⟩ = some v :=
 (World.cell?_of_block (w := A) (a := ⟨b, i, none⟩) (h.2 b hb)).trans hc
theorem KeepsL.putObj {L : List Nat} {W : World} {k : Nat} {o' : Obj} (h : ∀ b ∈ L, b ≠ k) : KeepsL L W (W.putObj k o') :=
 ⟨by simp, fun b hb => World.putObj_heap_other (h b hb)⟩
def IntsL (L : List Nat) (W : World) (v : Value) (l : List Int) : Prop :=
 (l = [] ∧ ∃ a cap, v = .slice a 0 cap) ∨ (0 < l.length ∧ ∃ b o cap, v = .slice (some ⟨b, o, none⟩) l.length cap ∧ b ∈ L ∧ l.length ≤ cap ∧ ∀ i (h : i < l.length), W.cell? ⟨b, o + i, none⟩ = some (.int .i64 l[i]))
theorem IntsL.slice {L : List Nat} {W : World} {v : Value} {l : List Int} (h : IntsL L W v l) : ∃ a c, v = .slice a l.length c := by
 rcases h with ⟨rfl, a, c, rfl⟩ | ⟨-, b, o, c, rfl, -⟩
 ·exact ⟨a, c, rfl⟩
 ·exact ⟨_, c, rfl⟩
theorem IntsL.keep {L : List Nat} {A B : World} {v : Value} {l : List Int} (h : IntsL L A v l) (k : KeepsL L A B) : IntsL L B v l := by
 rcases h with h | ⟨h0, b, o, c, rfl, hb, hc, hcell⟩
 ·exact .inl h
 ·exact .inr ⟨h0, b, o, c, rfl, hb, hc, fun i hi => k.cell hb (hcell i hi)⟩
def ChAt (L : List Nat) (W : World) (B a : Nat) (v : Value) (l : List Int) : Prop := B ∈ L ∧ W.cell? ⟨B, 0, none⟩ = some v ∧ W.cell? ⟨B, 1, none⟩ = some (.int .i64 a) ∧ IntsL L W v l
set_option maxHeartbeats 1000000 in
theorem each_in (F : Fence) (n : Nat) (hF : F.fn 157) (hro : F.round = none) (v : Value) (a : Nat) (w : World) :
  CallsIn F n Tryz.prog 157 #[.agg #[v, .int .i64 a]] w fun e w' => e = .returned (.func (.func 178) #[] #[.pointer (some ⟨w.heap.size, 0, none⟩)]) ∧ w' = w.alloc (.cells #[v, .int .i64 a] 154) := by
 refine callsIn_of_wp Tryz.func157 rfl hF ?_ hro
 simp only [Tryz.ntmps157, List.size_toArray, List.length_cons, List.length_nil, Nat.reduceAdd, Nat.reduceSub, Array.replicate_succ, Array.replicate_zero, List.push_toArray, List.append_toArray, List.nil_append, List.cons_append]
 gi_wp2
 go_ret
 exact ⟨rfl, rfl⟩
set_option maxRecDepth 100000 in
set_option maxHeartbeats 4000000 in
theorem each1_in (F : Fence) (n : Nat) (hF : F.fn 178) (hro : F.round = none) (hn : 1 ≤ n) (lp : Nat) (L : List Nat) (Bn a : Nat) (v : Value) (l : List Int) (ha : a ≤ 1000) (hl : l.length ≤ 1000) (J Jx : List Int → World → Prop)
  (hY : ∀ pre x W, J pre W → pre.length < a + l.length → x ∈ chL a l → YieldAt F (n - 1) Tryz.prog lp #[.int .i64 x] W fun e W' =>
   (e = .returned (.bool true) ∧ J (pre ++ [x]) W' ∧ KeepsL L W W') ∨ (e = .returned (.bool false) ∧ Jx (pre ++ [x]) W'))
  (W : World) (hC : ChAt L W Bn a v l) (h0 : J [] W) :
  CallsIn F n Tryz.prog 178 #[.func (.yield lp) #[] #[], .pointer (some ⟨Bn, 0, none⟩)] W fun e W' => (∃ v, e = .returned v) ∧
   ((∃ ys, ys = chL a l ∧ J ys W') ∨ (∃ pre, pre <+: chL a l ∧ Jx pre W')) := by
 obtain ⟨hBn, hc0, hc1, hI⟩ := hC
 obtain ⟨av, cap, rfl⟩ := hI.slice
 refine callsIn_of_wp Tryz.func178 rfl hF ?_ hro
 simp only [Tryz.ntmps178, List.size_toArray, List.length_cons, List.length_nil, Nat.reduceAdd, Nat.reduceSub, Array.replicate_succ, Array.replicate_zero, List.push_toArray, List.append_toArray, List.nil_append, List.cons_append]
 gi_wp2
 gi_loopw [8] (fun i wr => ∃ k : Nat, k ≤ a ∧ i = .int .i64 k ∧ J (upto a l k) wr ∧ KeepsL L W wr) (fun i _ => a - (intOf i).toNat)
 case atStart => exact ⟨0, Nat.zero_le _, rfl, h0, KeepsL.refl _ _⟩
 case round =>
  obtain ⟨k, hk, rfl, hJs, hnx⟩ := hrel
  by_cases hlt : k < a
  ·have hnum : num a l k = (k : Int) := by unfold num; rw [if_pos hlt]
   obtain ⟨fn, tmps, assign, body, hy, hR⟩ := hY _ (k : Int) wr hJs (by rw [upto_length]; omega) (List.mem_append_left _ (List.mem_map.2 ⟨k, List.mem_range.2 hlt, rfl⟩))
   have i2 : (k : Int) < (a : Int) := by omega
   gi_wp2
   refine hR.mono ?_
   rintro e W3 (⟨rfl, hJ3, hk3⟩ | ⟨rfl, hJx3⟩)
   ·gi_wp2
    go_roundw
    case rel => exact ⟨k + 1, by omega, by go_num, by rw [upto_succ, hnum]; exact hJ3, hnx.trans hk3⟩
    case measure => simp [intOf]; omega
   ·gi_wp2
    refine bodyPost_ret (results_none rfl _ _ _) rfl ?_
    exact ⟨⟨_, rfl⟩, .inr ⟨_, by rw [← hnum, ← upto_succ]; exact upto_prefix a l (by omega), hJx3⟩⟩
  ·obtain rfl : k = a := by omega
   have d0 := hnx.cell hBn hc0
   gi_wp2
   gi_loopw [19] (fun i wr => ∃ j : Nat, j ≤ l.length ∧ i = .int .i64 j ∧ J (upto k l (k + j)) wr ∧ KeepsL L W wr) (fun i _ => l.length - (intOf i).toNat)
   case atStart => exact ⟨0, Nat.zero_le _, rfl, hJs, hnx⟩
   case round =>
    clear hJs hnx d0
    obtain ⟨j, hj, rfl, hJs, hnx⟩ := hrel
    by_cases hjl : j < l.length
    ·have hnum : num k l (k + j) = l[j] := by unfold num; rw [if_neg (by omega), List.getElem?_eq_getElem (by omega)]; simp
     rcases hI with ⟨rfl, -⟩ | ⟨-, b, o, cap', hv, hb, hcap, hcell⟩
     ·simp at hjl
     obtain ⟨rfl, -, rfl⟩ := Value.slice.inj hv
     have c0 := hnx.cell hb (hcell j hjl)
     obtain ⟨fn, tmps, assign, body, hy, hR⟩ := hY _ l[j] wr hJs (by rw [upto_length]; omega) (List.mem_append_right _ (List.getElem_mem hjl))
     have i2 : (j : Int) < (l.length : Int) := by omega
     have i3 : (0 : Int) ≤ (j : Int) := by omega
     gi_wp2
     refine hR.mono ?_
     rintro e W3 (⟨rfl, hJ3, hk3⟩ | ⟨rfl, hJx3⟩)
     ·gi_wp2
      go_roundw
      case rel => exact ⟨j + 1, by omega, by go_num, by rw [← Nat.add_assoc, upto_succ, hnum]; exact hJ3, hnx.trans hk3⟩
      case measure => simp [intOf]; omega
     ·gi_wp2
      refine bodyPost_ret (results_none rfl _ _ _) rfl ?_
      exact ⟨⟨_, rfl⟩, .inr ⟨_, by rw [← hnum, ← upto_succ]; exact upto_prefix k l (by omega), hJx3⟩⟩
    ·obtain rfl : j = l.length := by omega
     gi_wp2
     go_end0
     exact ⟨⟨_, rfl⟩, .inl ⟨_, (upto_all k l), hJs⟩⟩
abbrev Few := { x : Int // 0 ≤ x ∧ x ≤ 100 }
theorem each_few (F : Fence) (n : Nat) (hF : F.fn 178) (hro : F.round = none) (hn : 1 ≤ n) (L : List Nat) (Bn a : Nat) (v : Value) (l : List Int) (ha : a ≤ 1000) (hl : l.length ≤ 1000) (hs : ∀ x ∈ chL a l, 0 ≤ x ∧ x ≤ 100) (w : World) (hL : ∀ b ∈ L, b < w.heap.size) (hC : ChAt L w Bn a v l) :
  SeqStopsK F n Tryz.prog 178 #[.pointer (some ⟨Bn, 0, none⟩)] (fun x : Few => #[Value.int .i64 x.1]) (KeepsL L) (fun ys => ys.map (·.1) = chL a l) (fun _ => True) (a + l.length) w := fun lp J Jx W hW _ _ hY h0 => by
 have hk : KeepsL L w W := ⟨hW.size, fun b hb => hW.block b (hL b hb)⟩
 refine (each1_in F n hF hro hn lp L Bn a v l ha hl (fun ys W => ∃ xs : List Few, xs.map (·.1) = ys ∧ J xs W) (fun ys W => ∃ xs : List Few, xs.map (·.1) = ys ∧ Jx xs W) (fun pre x W1 h1 h2 hx => ?_) W ⟨hC.1, hk.cell hC.1 hC.2.1, hk.cell hC.1 hC.2.2.1, hC.2.2.2.keep hk⟩ ⟨[], rfl, h0⟩).mono ?_
 ·obtain ⟨xs, rfl, hJ⟩ := h1
  obtain ⟨fn, tmps, assign, body, hy, hR⟩ := hY xs ⟨x, hs x hx⟩ W1 hJ (by simpa using h2)
  refine ⟨fn, tmps, assign, body, hy, hR.mono ?_⟩
  rintro e W' (⟨he, hJ', hk'⟩ | ⟨he, hJ'⟩)
  ·exact .inl ⟨he, ⟨_, by simp, hJ'⟩, hk'⟩
  ·exact .inr ⟨he, ⟨_, by simp, hJ'⟩⟩
 ·rintro e W' ⟨he, ⟨ys, hys, xs, hx, hJ⟩ | ⟨pre, hpre, xs, hx, hJ⟩⟩
  ·exact ⟨he, .inl ⟨xs, hx.trans hys, hJ⟩⟩
  ·exact ⟨he, .inr ⟨xs, trivial, hJ⟩⟩
end Go.Proofs.YtkbohijlhhpfbaaGreatDoor.Tm
/- Whether a choice has a number: the walk. -/
namespace Go.Proofs.YtkbohijlhhpfbaaGreatDoor.Tm
open Go.RowKit Go.Shelf Ut Ra
attribute [local go_sem] Oper.semAt_some
theorem keepsL_b {L : List Nat} {W0 : World} (hL : ∀ b ∈ L, b < W0.heap.size) : ∀ (W : World) (l : Nat) (o o' : Obj), W0.heap.size ≤ l → W.heap[l]? = some o → o.isCells = false → o.isWalk = false → KeepsL L W (W.putObj l o') :=
 fun _ _ _ _ h _ _ _ => KeepsL.putObj (fun b hb e => by have := hL b hb; omega)
theorem cell_new_l (W : World) (v : Value) (t : TypeId) : (W.alloc (.cells #[v] t)).cell? ⟨W.heap.size, 0, none⟩ = some v ∧ (W.alloc (.cells #[v] t)).frozen? ⟨W.heap.size, 0, none⟩ = false := by
 have h := World.alloc_heap_new W (.cells #[v] t)
 generalize W.alloc (.cells #[v] t) = X at h ⊢
 constructor <;> simp [World.cell?, World.frozen?, h]
theorem cell_alloc_l {W : World} {a : Addr} {v : Value} (o : Obj) (h : W.cell? a = some v) : (W.alloc o).cell? a = some v := cell_kept h (World.grownBy_alloc W o none) (fun r e => by cases e)
theorem frozen_alloc_l {W : World} {a : Addr} {v : Value} (o : Obj) (h : W.cell? a = some v) (hf : W.frozen? a = false) : (W.alloc o).frozen? a = false := (frozen_kept h (World.grownBy_alloc W o none) (fun r e => by cases e)).trans hf
def blkOf : Value → List Nat
 | .slice (some a) _ _ => [a.block]
 | _ => []
theorem intsL {w W : World} {v : Value} {l : List Int} {L : List Nat} (h : Ints w v l) (hB : Below w.heap.size w W) (hL : ∀ b ∈ blkOf v, b ∈ L) : IntsL L W v l := by
 rcases h with ⟨rfl, a, cap, rfl, -⟩ | ⟨h0, b, o, cap, rfl, hlt, hc, hcell⟩
 ·exact .inl ⟨rfl, a, cap, rfl⟩
 ·exact .inr ⟨h0, b, o, cap, rfl, hL b (by simp [blkOf]), hc, fun i hi => (hB.cell (p := ⟨b, o + i, none⟩) hlt).trans (hcell i hi)⟩
theorem blkOf_lt {w : World} {v : Value} {l : List Int} (h : Ints w v l) (h0 : 0 < l.length) : ∀ b ∈ blkOf v, b < w.heap.size := by
 rcases h with ⟨rfl, -⟩ | ⟨_, b, o, cap, rfl, hlt, _⟩
 ·simp at h0
 ·intro b' hb; simp [blkOf] at hb; subst hb; exact hlt
def blkL (v : Value) (l : List Int) : List Nat := if l.length = 0 then [] else blkOf v
theorem blkL_lt {w : World} {v : Value} {l : List Int} (h : Ints w v l) : ∀ b ∈ blkL v l, b < w.heap.size := by
 unfold blkL
 split
 ·simp
 ·exact blkOf_lt h (by omega)
theorem intsL' {w W : World} {v : Value} {l : List Int} {L : List Nat} (h : Ints w v l) (hB : Below w.heap.size w W) (hL : ∀ b ∈ blkL v l, b ∈ L) : IntsL L W v l := by
 by_cases h0 : l.length = 0
 ·obtain rfl := List.length_eq_zero_iff.1 h0
  rcases h with ⟨-, a, cap, rfl, -⟩ | ⟨h, _⟩
  ·exact .inl ⟨rfl, a, cap, rfl⟩
  ·simp at h
 ·exact intsL h hB (by unfold blkL at hL; rwa [if_neg h0] at hL)
theorem enters1 : ∀ args w, (callFunc 178 args).run Tryz.prog w = .ok (.enter 178 args) w := enters_of Tryz.func178 (by kernel_rfl) rfl
end Go.Proofs.YtkbohijlhhpfbaaGreatDoor.Tm
/- The iterator over a day's seconds: the walk (printed by gen_within.py). -/
namespace Go.Proofs.YtkbohijlhhpfbaaGreatDoor.Tm
open Go.RowKit Go.Shelf Ut Ra
attribute [local go_sem] Oper.semAt_some
def secOut (f t h m : Int) (ss : List Int) : List Int := (ss.map fun s => h * 3600 + m * 60 + s).filter fun x => decide (f ≤ x) && decide (x < t)
def minOut (f t h : Int) (ms ss : List Int) : List Int := ms.flatMap fun m => secOut f t h m ss
def hourOut (f t h : Int) (ms ss : List Int) : List Int := if (h + 1) * 3600 ≤ f ∨ t ≤ h * 3600 then [] else minOut f t h ms ss
def dayOut (f t : Int) (hs ms ss : List Int) : List Int := hs.flatMap fun h => hourOut f t h ms ss
theorem sec_in {f t h m s : Int} {ss : List Int} (h1 : f ≤ h * 3600 + m * 60 + s) (h2 : h * 3600 + m * 60 + s < t) : secOut f t h m (ss ++ [s]) = secOut f t h m ss ++ [h * 3600 + m * 60 + s] := by
 unfold secOut; rw [List.map_append, List.filter_append]; simp [h1, h2]
theorem sec_out {f t h m s : Int} {ss : List Int} (h1 : ¬ (f ≤ h * 3600 + m * 60 + s ∧ h * 3600 + m * 60 + s < t)) : secOut f t h m (ss ++ [s]) = secOut f t h m ss := by
 unfold secOut; rw [List.map_append, List.filter_append]
 simp only [List.map_cons, List.map_nil, List.filter_cons, List.filter_nil]
 rw [if_neg (by simp; omega), List.append_nil]
theorem min_snoc (f t h : Int) (ms : List Int) (m : Int) (ss : List Int) : minOut f t h (ms ++ [m]) ss = minOut f t h ms ss ++ secOut f t h m ss := by unfold minOut; simp
theorem day_snoc (f t : Int) (hs : List Int) (h : Int) (ms ss : List Int) : dayOut f t (hs ++ [h]) ms ss = dayOut f t hs ms ss ++ hourOut f t h ms ss := by unfold dayOut; simp
theorem flat_le {α β : Type} (g : α → List β) (c : Nat) (hg : ∀ x, (g x).length ≤ c) : ∀ l : List α, (l.flatMap g).length ≤ l.length * c
 | [] => by simp
 | x :: l => by
  have := flat_le g c hg l
  have := hg x
  rw [List.flatMap_cons, List.length_append, List.length_cons, Nat.add_mul]
  omega
theorem sec_le (f t h m : Int) (ss : List Int) : (secOut f t h m ss).length ≤ ss.length := by
 unfold secOut
 exact Nat.le_trans (List.length_filter_le _ _) (by simp)
theorem min_le (f t h : Int) (ms ss : List Int) : (minOut f t h ms ss).length ≤ ms.length * ss.length := flat_le _ _ (fun m => sec_le f t h m ss) ms
theorem hour_le (f t h : Int) (ms ss : List Int) : (hourOut f t h ms ss).length ≤ ms.length * ss.length := by
 unfold hourOut
 split
 ·simp
 ·exact min_le f t h ms ss
theorem day_le (f t : Int) (hs ms ss : List Int) : (dayOut f t hs ms ss).length ≤ hs.length * (ms.length * ss.length) := flat_le _ _ (fun h => hour_le f t h ms ss) hs
theorem out_le {f t h m : Int} {hs ms ms' ss ss' : List Int} (h1 : hs.length ≤ 100) (h2 : ms'.length ≤ 100) (h3 : ss'.length ≤ 100) (h4 : ms.length ≤ 100) (h5 : ss.length ≤ 100) : (dayOut f t hs ms ss ++ minOut f t h ms' ss ++ secOut f t h m ss').length ≤ 2000000 := by
 rw [List.length_append, List.length_append]
 have a1 := day_le f t hs ms ss
 have a2 := min_le f t h ms' ss
 have a3 := sec_le f t h m ss'
 have b1 := Nat.mul_le_mul h4 h5
 have b2 := Nat.mul_le_mul h1 b1
 have b3 := Nat.mul_le_mul h2 h5
 omega
def fv (p : List Few) : List Int := p.map (·.1)
theorem fv_snoc (p : List Few) (x : Few) : fv (p ++ [x]) = fv p ++ [x.1] := by simp [fv]
theorem fv_length (p : List Few) : (fv p).length = p.length := by simp [fv]
structure Mine (B : Nat) (J : List Int → World → Prop) (own : World → Nat → Prop) : Prop where
 stays : ∀ pre W W' row, J pre W → W.grownBy W' row → (∀ r, row = some r → B ≤ r ∧ ∃ o : Obj, W.heap[r]? = some o ∧ o.isCells = false) → J pre W'
 owns : ∀ W W' row, B ≤ W.heap.size → W.grownBy W' row → (∀ r, row = some r → B ≤ r ∧ ∃ o : Obj, W.heap[r]? = some o ∧ o.isCells = false) → ∀ b, own W' b → own W b
 lies : ∀ pre W, J pre W → ∀ b, own W b → b < W.heap.size ∧ (b < B ∨ ∃ o : Obj, W.heap[b]? = some o ∧ o.isCells = true)
def After (own : World → Nat → Prop) (W W' : World) : Prop := W.heap.size ≤ W'.heap.size ∧ (∀ b, own W' b → own W b ∨ W.heap.size ≤ b) ∧ ∀ b, b < W.heap.size → ¬ own W b → W'.heap[b]? = W.heap[b]?
def Held (L : List Nat) (own : World → Nat → Prop) (W0 W : World) : Prop := KeepsL L W0 W ∧ ∀ b ∈ L, ¬ own W b
theorem Held.own {B B' : Nat} {J : List Int → World → Prop} {own : World → Nat → Prop} {L : List Nat} {W0 : World} (hM : Mine B J own) (hB : B ≤ W0.heap.size) (hB' : W0.heap.size ≤ B') (hL : ∀ b ∈ L, b < W0.heap.size) {β : Type} : OwnFrom B' (fun (_ : β) W => Held L own W0 W) :=
 fun _ W W' row h hg hr => ⟨⟨Nat.le_trans h.1.1 hg.size, fun b hb => (hg.block b (by have := hL b hb; have := h.1.1; omega) (fun e => by have := (hr b e.symm).1; have := hL b hb; omega)).trans (h.1.2 b hb)⟩,
  fun b hb ho => h.2 b hb (hM.owns W W' row (by have := h.1.1; omega) hg (fun r e => ⟨by have := (hr r e).1; omega, (hr r e).2⟩) b ho)⟩
theorem Mine.from {B B' : Nat} {J : List Int → World → Prop} {own : World → Nat → Prop} (hM : Mine B J own) (hB : B ≤ B') {β : Type} (g : β → List Int) : OwnFrom B' (fun s W => J (g s) W) :=
 fun s W W' row h hg hr => hM.stays (g s) W W' row h hg (fun r e => ⟨by have := (hr r e).1; omega, (hr r e).2⟩)
theorem Mine.alloc {B : Nat} {J : List Int → World → Prop} {own : World → Nat → Prop} (hM : Mine B J own) {pre : List Int} {W : World} (h : J pre W) (o : Obj) : J pre (W.alloc o) :=
 hM.stays pre W _ none h (World.grownBy_alloc W o none) (fun r e => by cases e)
theorem Mine.owned {B : Nat} {J : List Int → World → Prop} {own : World → Nat → Prop} (hM : Mine B J own) {W : World} (hB : B ≤ W.heap.size) (o : Obj) {b : Nat} (h : ¬ own W b) : ¬ own (W.alloc o) b :=
 fun k => h (hM.owns W _ none hB (World.grownBy_alloc W o none) (fun r e => by cases e) b k)
theorem Held.alloc {B : Nat} {J : List Int → World → Prop} {own : World → Nat → Prop} {L : List Nat} {W0 W : World} (hM : Mine B J own) (hB : B ≤ W0.heap.size) (hL : ∀ b ∈ L, b < W0.heap.size) (h : Held L own W0 W) (o : Obj) : Held L own W0 (W.alloc o) :=
 Held.own hM hB (Nat.le_refl _) hL (β := Unit) () W _ none h (World.grownBy_alloc W o none) (fun r e => by cases e)
theorem Mine.new {B : Nat} {J : List Int → World → Prop} {own : World → Nat → Prop} (hM : Mine B J own) {pre : List Int} {W : World} (h : J pre W) (hB : B ≤ W.heap.size) (o : Obj) : ¬ own (W.alloc o) W.heap.size :=
 hM.owned hB o (fun k => Nat.lt_irrefl _ (hM.lies pre W h _ k).1)
theorem After.held {own : World → Nat → Prop} {L : List Nat} {W0 W W' : World} (h : After own W W') (hL : ∀ b ∈ L, b < W0.heap.size) (k : Held L own W0 W) : Held L own W0 W' :=
 ⟨⟨Nat.le_trans k.1.1 h.1, fun b hb => (h.2.2 b (by have := hL b hb; have := k.1.1; omega) (k.2 b hb)).trans (k.1.2 b hb)⟩, fun b hb ho => by
  rcases h.2.1 b ho with ho | ho
  ·exact k.2 b hb ho
  ·have := hL b hb; have := k.1.1; omega⟩
theorem After.keepsL {own : World → Nat → Prop} {L : List Nat} {W0 W W' : World} (h : After own W W') (hL : ∀ b ∈ L, b < W0.heap.size) (k : Held L own W0 W) : KeepsL L W W' :=
 ⟨h.1, fun b hb => h.2.2 b (by have := hL b hb; have := k.1.1; omega) (k.2 b hb)⟩
theorem After.keepsFrom {B B0 : Nat} {J : List Int → World → Prop} {own : World → Nat → Prop} (hM : Mine B J own) {pre : List Int} {W W' : World} (hJ : J pre W) (h : After own W W') (hB : B ≤ B0) : KeepsFrom B0 W W' :=
 ⟨h.1, fun k o hk ho hc => (h.2.2 k (Array.getElem?_eq_some_iff.1 ho).1 (fun hw => by
  rcases (hM.lies pre W hJ k hw).2 with h1 | ⟨o', h1, h2⟩
  ·omega
  ·rw [ho] at h1; cases h1; rw [hc] at h2; cases h2)).trans ho⟩
theorem KeepsFrom.up {B B' : Nat} {X Z : World} (h : KeepsFrom B X Z) (hB : B ≤ B') : KeepsFrom B' X Z := ⟨h.size, fun k o hk ho hc => h.same k o (Nat.le_trans hB hk) ho hc⟩
theorem KeepsL.alloc {L : List Nat} {W : World} (hL : ∀ b ∈ L, b < W.heap.size) (o : Obj) : KeepsL L W (W.alloc o) := ⟨by simp, fun b hb => Below.heap_alloc W o b (hL b hb)⟩
theorem KeepsL.sub {L L' : List Nat} {A B : World} (h : KeepsL L A B) (hs : ∀ b ∈ L', b ∈ L) : KeepsL L' A B := ⟨h.1, fun b hb => h.2 b (hs b hb)⟩
theorem IntsL.sub {L L' : List Nat} {W : World} {v : Value} {l : List Int} (h : IntsL L W v l) (hs : ∀ b ∈ L, b ∈ L') : IntsL L' W v l := by
 rcases h with h | ⟨h0, b, o, c, rfl, hb, hc, hcell⟩
 ·exact .inl h
 ·exact .inr ⟨h0, b, o, c, rfl, hs b hb, hc, hcell⟩
def TimesAt (W : World) (T : Nat) (vh : Value) (ah : Nat) (vm : Value) (am : Nat) (vs : Value) (as_ : Nat) : Prop :=
 W.cell? ⟨T, 0, none⟩ = some vh ∧ W.cell? ⟨T, 1, none⟩ = some (.int .i64 ah) ∧ W.cell? ⟨T, 2, none⟩ = some vm ∧ W.cell? ⟨T, 3, none⟩ = some (.int .i64 am) ∧ W.cell? ⟨T, 4, none⟩ = some vs ∧ W.cell? ⟨T, 5, none⟩ = some (.int .i64 as_)
theorem TimesAt.keep {L : List Nat} {W W' : World} {T : Nat} {vh vm vs : Value} {ah am as_ : Nat} (h : TimesAt W T vh ah vm am vs as_) (k : KeepsL L W W') (hT : T ∈ L) : TimesAt W' T vh ah vm am vs as_ :=
 ⟨k.cell hT h.1, k.cell hT h.2.1, k.cell hT h.2.2.1, k.cell hT h.2.2.2.1, k.cell hT h.2.2.2.2.1, k.cell hT h.2.2.2.2.2⟩
def Caught (L : List Nat) (W : World) (T Bf Bt : Nat) (f t : Int) (vh : Value) (ah : Nat) (lh : List Int) (vm : Value) (am : Nat) (lm : List Int) (vs : Value) (as_ : Nat) (ls : List Int) : Prop :=
 (T ∈ L ∧ Bf ∈ L ∧ Bt ∈ L) ∧ TimesAt W T vh ah vm am vs as_ ∧ (W.cell? ⟨Bf, 0, none⟩ = some (.int .i64 f) ∧ W.cell? ⟨Bt, 0, none⟩ = some (.int .i64 t)) ∧ IntsL L W vh lh ∧ IntsL L W vm lm ∧ IntsL L W vs ls
theorem Caught.keep {L : List Nat} {W W' : World} {T Bf Bt : Nat} {f t : Int} {vh vm vs : Value} {ah am as_ : Nat} {lh lm ls : List Int} (h : Caught L W T Bf Bt f t vh ah lh vm am lm vs as_ ls) (k : KeepsL L W W') : Caught L W' T Bf Bt f t vh ah lh vm am lm vs as_ ls :=
 ⟨h.1, h.2.1.keep k h.1.1, ⟨k.cell h.1.2.1 h.2.2.1.1, k.cell h.1.2.2 h.2.2.1.2⟩, h.2.2.2.1.keep k, h.2.2.2.2.1.keep k, h.2.2.2.2.2.keep k⟩
theorem Caught.sub {L L' : List Nat} {W : World} {T Bf Bt : Nat} {f t : Int} {vh vm vs : Value} {ah am as_ : Nat} {lh lm ls : List Int} (h : Caught L W T Bf Bt f t vh ah lh vm am lm vs as_ ls) (hs : ∀ b ∈ L, b ∈ L') : Caught L' W T Bf Bt f t vh ah lh vm am lm vs as_ ls :=
 ⟨⟨hs _ h.1.1, hs _ h.1.2.1, hs _ h.1.2.2⟩, h.2.1, h.2.2.1, h.2.2.2.1.sub hs, h.2.2.2.2.1.sub hs, h.2.2.2.2.2.sub hs⟩
end Go.Proofs.YtkbohijlhhpfbaaGreatDoor.Tm
/- The iterator over a day's seconds: the walk (printed by gen_within.py). -/
namespace Go.Proofs.YtkbohijlhhpfbaaGreatDoor.Tm
open Go.RowKit Go.Shelf Ut Ra
attribute [local go_sem] Oper.semAt_some
set_option maxRecDepth 100000 in
set_option maxHeartbeats 8000000 in
theorem within1_in (F : Fence) (n : Nat) (h33 : F.fn 157) (h35 : F.fn 156) (h46 : F.fn 178) (hro : F.round = none) (hn : 12 ≤ n)
  (lp : Nat) (w : World) (L0 : List Nat) (T Bf Bt : Nat) (f t : Int) (vh : Value) (ah : Nat) (lh : List Int) (vm : Value) (am : Nat) (lm : List Int) (vs : Value) (as_ : Nat) (ls : List Int)
  (hL0 : ∀ b ∈ L0, b < w.heap.size) (hC : Caught L0 w T Bf Bt f t vh ah lh vm am lm vs as_ ls)
  (hah : ah + lh.length ≤ 100) (ham : am + lm.length ≤ 100) (has : as_ + ls.length ≤ 100) (hsh : ∀ x ∈ (chL ah lh), 0 ≤ x ∧ x ≤ 100) (hsm : ∀ x ∈ (chL am lm), 0 ≤ x ∧ x ≤ 100) (hss : ∀ x ∈ (chL as_ ls), 0 ≤ x ∧ x ≤ 100)
  (hf : 0 ≤ f ∧ f ≤ 86400) (ht : 0 ≤ t ∧ t ≤ 86400)
  (J : List Int → World → Prop) (own : World → Nat → Prop) (hM : Mine w.heap.size J own) (hown : ∀ b ∈ L0, ¬ own w b)
  (hY : ∀ m pre x W1, J pre W1 → pre.length ≤ 2000000 → YieldAt F m Tryz.prog lp #[.int .i64 x] W1 fun e W' => e = .returned (.bool true) ∧ J (pre ++ [x]) W' ∧ After own W1 W')
  (h0 : J [] w) :
  CallsIn F n Tryz.prog 156 #[.func (.yield lp) #[] #[], .pointer (some ⟨T, 0, none⟩), .pointer (some ⟨Bf, 0, none⟩), .pointer (some ⟨Bt, 0, none⟩)] w fun e W' => (∃ v, e = .returned v) ∧ J (dayOut f t (chL ah lh) (chL am lm) (chL as_ ls)) W' := by
 have h1 : 1 ≤ n := by omega
 obtain ⟨⟨hT, hBf, hBt⟩, ⟨t0, t1, t2, t3, t4, t5⟩, ⟨cf, ct⟩, iH, iM, iS⟩ := hC
 refine callsIn_of_wp_marks Tryz.func156 rfl h35 ?_ hro
 simp only [Tryz.ntmps156, List.size_toArray, List.length_cons, List.length_nil, Nat.reduceAdd, Nat.reduceSub, Array.replicate_succ, Array.replicate_zero, List.push_toArray, List.append_toArray, List.nil_append, List.cons_append]
 gi_wp2_with (gi_at_call 157; refine (each_in F (n - 1) h33 hro _ _ _).mono ?_; rintro e w' ⟨rfl, rfl⟩)
 have hJ1 := hM.alloc h0 (.cells #[.func (.yield lp) #[] #[]] 91)
 have hn0 := hM.new h0 (Nat.le_refl _) (.cells #[.func (.yield lp) #[] #[]] 91)
 have hn1 := hM.owned (by simp) (.cells #[vh, .int .i64 ah] 154) hn0
 have hn2 := hM.new hJ1 (by simp) (.cells #[vh, .int .i64 ah] 154)
 have hnL : ∀ b ∈ L0, ¬ own ((w.alloc (.cells #[.func (.yield lp) #[] #[]] 91)).alloc (.cells #[vh, .int .i64 ah] 154)) b := fun b hb => hM.owned (by simp) _ (hM.owned (Nat.le_refl _) _ (hown b hb))
 have hJ0 := hM.alloc hJ1 (.cells #[vh, .int .i64 ah] 154)
 have hk0 : KeepsL L0 w ((w.alloc (.cells #[.func (.yield lp) #[] #[]] 91)).alloc (.cells #[vh, .int .i64 ah] 154)) := (KeepsL.alloc hL0 _).trans (KeepsL.alloc (fun b hb => by have := hL0 b hb; simp; omega) _)
 have cy := cell_alloc_l (.cells #[vh, .int .i64 ah] 154) (cell_new_l w (.func (.yield lp) #[] #[]) 91).1
 have ce0 : ((w.alloc (.cells #[.func (.yield lp) #[] #[]] 91)).alloc (.cells #[vh, .int .i64 ah] 154)).cell? ⟨(w.alloc (.cells #[.func (.yield lp) #[] #[]] 91)).heap.size, 0, none⟩ = some vh := by simp
 have ce1 : ((w.alloc (.cells #[.func (.yield lp) #[] #[]] 91)).alloc (.cells #[vh, .int .i64 ah] 154)).cell? ⟨(w.alloc (.cells #[.func (.yield lp) #[] #[]] 91)).heap.size, 1, none⟩ = some (.int .i64 ah) := by simp
 have hsz : ((w.alloc (.cells #[.func (.yield lp) #[] #[]] 91)).alloc (.cells #[vh, .int .i64 ah] 154)).heap.size = w.heap.size + 1 + 1 := by simp
 rw [World.size_alloc] at hn2 ce0 ce1
 obtain ⟨W0, hW0⟩ : ∃ W0, (w.alloc (.cells #[.func (.yield lp) #[] #[]] 91)).alloc (.cells #[vh, .int .i64 ah] 154) = W0 := ⟨_, rfl⟩
 rw [hW0] at hn1 hn2 hnL hJ0 hk0 cy ce0 ce1 hsz ⊢
 clear hW0 hn0 hJ1
 obtain ⟨L1, hL1e⟩ : ∃ L1, L1 = w.heap.size :: (w.heap.size + 1) :: L0 := ⟨_, rfl⟩
 have hL1 : ∀ b ∈ L1, b < W0.heap.size := fun b hb => by
  rw [hL1e] at hb
  rcases List.mem_cons.1 hb with rfl | hb
  ·omega
  rcases List.mem_cons.1 hb with rfl | hb
  ·omega
  have := hL0 b hb; omega
 have hH0 : Held L1 own W0 W0 := ⟨KeepsL.refl _ _, fun b hb => by
  rw [hL1e] at hb
  rcases List.mem_cons.1 hb with rfl | hb
  ·exact hn1
  rcases List.mem_cons.1 hb with rfl | hb
  ·exact hn2
  exact hnL b hb⟩
 have hsub : ∀ b ∈ L0, b ∈ L1 := fun b hb => by rw [hL1e]; exact List.mem_cons_of_mem _ (List.mem_cons_of_mem _ hb)
 have hy1 : w.heap.size ∈ L1 := by rw [hL1e]; simp
 have he1 : w.heap.size + 1 ∈ L1 := by rw [hL1e]; simp
 have hC1 : Caught L1 W0 T Bf Bt f t vh ah lh vm am lm vs as_ ls := (Caught.keep ⟨⟨hT, hBf, hBt⟩, ⟨t0, t1, t2, t3, t4, t5⟩, ⟨cf, ct⟩, iH, iM, iS⟩ hk0).sub hsub
 clear t0 t1 t2 t3 t4 t5 cf ct iH iM iS hn1 hn2 hnL hL1e hsub hk0
 have lM : (chL am lm).length ≤ 100 := by rw [chL_length]; exact ham
 have lS : (chL as_ ls).length ≤ 100 := by rw [chL_length]; exact has
 refine wpIn_rangeFunc_ownH hro h1 (gf := 178) (lb := #[.pointer (some ⟨w.heap.size + 1, 0, none⟩)]) rfl h46 enters1
  (each_few F (n - 1) h46 hro (by omega) L1 (w.heap.size + 1) ah vh lh (by omega) (by omega) hsh W0 hL1 ⟨he1, ce0, ce1, hC1.2.2.2.1⟩)
  KeepsL.trans (keepsL_b hL1) (Below.refl _ _) (fun _ => rfl)
  (fun pre W => J (dayOut f t (fv pre) (chL am lm) (chL as_ ls)) W ∧ Held L1 own W0 W)
  (fun _ _ _ => False)
  (OwnFrom.and (hM.from (by omega) (fun pre : List Few => dayOut f t (fv pre) (chL am lm) (chL as_ ls))) (Held.own hM (by omega) (Nat.le_refl _) hL1))
  (fun _ _ _ _ _ hs _ _ => hs)
  ⟨hJ0, hH0⟩
  (fun x a' W => ∃ (Bx : Nat) , W.cell? ⟨Bx, 0, none⟩ = some (.int .i64 x.1) ∧ (W0.heap.size ≤ Bx ∧ Bx < W.heap.size) ∧ W0.heap.size ≤ W.heap.size ∧ ¬ own W Bx ∧ a' = { tmps := #[.func (.yield lp) #[] #[], .pointer (some ⟨T, 0, none⟩), .pointer (some ⟨Bf, 0, none⟩), .pointer (some ⟨Bt, 0, none⟩), .pointer (some ⟨w.heap.size, 0, none⟩), .pointer (some ⟨Bx, 0, none⟩), undef, undef, undef, .pointer (some ⟨T, 0, none⟩), .agg #[vh, .int .i64 ah], .func (.func 178) #[] #[.pointer (some ⟨w.heap.size + 1, 0, none⟩)], .int .i64 x.1, undef, undef, undef, undef, undef, undef, undef, undef, undef, undef, undef, undef, undef, undef, undef, undef, undef, undef, undef, undef, undef, undef, undef, undef, undef, undef, undef, undef, undef, undef, undef, undef, undef, undef, undef, undef, undef, undef, undef, undef], defers := [] })
  (fun x a' _ X Z row hs hg hr => by obtain ⟨b, c1, c2, c3, c4, c5⟩ := hs; exact ⟨b, cell_kept c1 hg (fun r e => (hr r e).2), ⟨c2.1, Nat.lt_of_lt_of_le c2.2 hg.size⟩, Nat.le_trans c3 hg.size, fun k => c4 (hM.owns X Z row (by omega) hg (fun r e => ⟨by have := (hr r e).1; omega, (hr r e).2⟩) _ k), c5⟩)
  ?assign ?body ?done ?stop
 case assign =>
  rintro l pre x W K ⟨hJ, hH⟩ hK
  have hWs := hH.1.1
  gi_wp2
  exact hK _ _ ((KeepsOthers.alloc _ _).from _) (KeepsL.alloc (fun b hb => by have := hL1 b hb; omega) _) ⟨hM.alloc hJ _, hH.alloc hM (by omega) hL1 _⟩ ⟨W.heap.size, (cell_new_l _ _ _).1, ⟨hWs, by simp⟩, by simp; omega, hM.new hJ (by omega) _, rfl⟩
 case body =>
  rintro l pre x a' W hl ⟨r, hr⟩ ⟨hJ, hH⟩ ⟨Bx, cx, hBx, hWs, ox, rfl⟩ hlt
  obtain ⟨-, ⟨t0, t1, t2, t3, t4, t5⟩, ⟨cf, ct⟩, -, -, -⟩ := hC1.keep hH.1
  have hx0 := x.2.1
  have hx1 := x.2.2
  have h1' : 1 ≤ n - 1 - 1 := by omega
  have hJn : ∀ {W'}, J (dayOut f t (fv pre) (chL am lm) (chL as_ ls)) W' → hourOut f t x.1 (chL am lm) (chL as_ ls) = [] → J (dayOut f t (fv (pre ++ [x])) (chL am lm) (chL as_ ls)) W' := fun h k => by
   rw [fv_snoc, day_snoc, k, List.append_nil]; exact h
  by_cases hs1 : (x.1 + 1) * 3600 ≤ f
  ·have hout : hourOut f t x.1 (chL am lm) (chL as_ ls) = [] := by unfold hourOut; rw [if_pos (.inl hs1)]
   gi_wp2
   exact ⟨KeepsFrom.refl _ _, KeepsL.refl _ _, hJn hJ hout, hH⟩
  by_cases hs2 : t ≤ x.1 * 3600
  ·have hout : hourOut f t x.1 (chL am lm) (chL as_ ls) = [] := by unfold hourOut; rw [if_pos (.inr hs2)]
   gi_wp2
   exact ⟨KeepsFrom.refl _ _, KeepsL.refl _ _, hJn hJ hout, hH⟩
  have hout : hourOut f t x.1 (chL am lm) (chL as_ ls) = minOut f t x.1 (chL am lm) (chL as_ ls) := by unfold hourOut; rw [if_neg (by omega)]
  gi_wp2_with (gi_at_call 157; refine (CallsIn.inRound l (each_in F (n - 1 - 1 - 1) h33 hro _ _ _)).mono ?_; rintro e w' ⟨rfl, rfl⟩)
  have hWB : w.heap.size ≤ W.heap.size := by omega
  have hJ2 := hM.alloc hJ (.cells #[vm, .int .i64 am] 154)
  have ox2 := hM.owned hWB (.cells #[vm, .int .i64 am] 154) ox
  have oe2 := hM.new hJ hWB (.cells #[vm, .int .i64 am] 154)
  have kl := KeepsL.alloc (W := W) (fun b hb => by have := hL1 b hb; omega) (.cells #[vm, .int .i64 am] 154) (L := L1)
  have hH1 := hH.alloc hM (by omega) hL1 (.cells #[vm, .int .i64 am] 154)
  have kf := (KeepsOthers.alloc W (.cells #[vm, .int .i64 am] 154)).from W0.heap.size
  have cx2 := cell_alloc_l (.cells #[vm, .int .i64 am] 154) cx
  have ce2 : (W.alloc (.cells #[vm, .int .i64 am] 154)).cell? ⟨W.heap.size, 0, none⟩ = some vm := by simp
  have ce3 : (W.alloc (.cells #[vm, .int .i64 am] 154)).cell? ⟨W.heap.size, 1, none⟩ = some (.int .i64 am) := by simp
  have hr2 : (W.alloc (.cells #[vm, .int .i64 am] 154)).heap[l]? = some (.loop r) := (Below.heap_alloc W _ l (Array.getElem?_eq_some_iff.1 hr).1).trans hr
  have hsz2 : (W.alloc (.cells #[vm, .int .i64 am] 154)).heap.size = W.heap.size + 1 := by simp
  obtain ⟨W2, hW2⟩ : ∃ W2, W.alloc (.cells #[vm, .int .i64 am] 154) = W2 := ⟨_, rfl⟩
  rw [hW2] at hJ2 ox2 oe2 kl hH1 kf cx2 ce2 ce3 hr2 hsz2 ⊢
  clear hW2
  obtain ⟨L2, hL2e⟩ : ∃ L2, L2 = Bx :: W.heap.size :: L1 := ⟨_, rfl⟩
  have hL2 : ∀ b ∈ L2, b < W2.heap.size := fun b hb => by
   rw [hL2e] at hb
   rcases List.mem_cons.1 hb with rfl | hb
   ·omega
   rcases List.mem_cons.1 hb with rfl | hb
   ·omega
   have := hL1 b hb; omega
  have hH2 : Held L2 own W2 W2 := ⟨KeepsL.refl _ _, fun b hb => by
   rw [hL2e] at hb
   rcases List.mem_cons.1 hb with rfl | hb
   ·exact ox2
   rcases List.mem_cons.1 hb with rfl | hb
   ·exact oe2
   exact hH1.2 b hb⟩
  have hsub2 : ∀ b ∈ L1, b ∈ L2 := fun b hb => by rw [hL2e]; exact List.mem_cons_of_mem _ (List.mem_cons_of_mem _ hb)
  have hx2 : Bx ∈ L2 := by rw [hL2e]; simp
  have he2 : W.heap.size ∈ L2 := by rw [hL2e]; simp
  have hC2 := (hC1.keep hH1.1).sub hsub2
  have cy2 := hH1.1.cell hy1 cy
  clear hL2e ox2 oe2 t0 t1 t2 t3 t4 t5 cf ct
  refine wpIn_rangeFunc_ownN (l₀ := l) (r₀ := r) rfl hr2 h1' (gf := 178) (lb := #[.pointer (some ⟨W.heap.size, 0, none⟩)]) rfl h46 enters1
   ((each_few F (n - 1 - 1 - 1) h46 hro (by omega) L2 W.heap.size am vm lm (by omega) (by omega) hsm W2 hL2 ⟨he2, ce2, ce3, hC2.2.2.2.2.1⟩).inRound l)
   KeepsL.trans (keepsL_b hL2) (Below.refl _ _) (fun _ => rfl)
   (fun pre' W' => (J (dayOut f t (fv pre) (chL am lm) (chL as_ ls) ++ minOut f t x.1 (fv pre') (chL as_ ls)) W' ∧ Held L2 own W2 W') ∧ KeepsFrom W0.heap.size W W')
   (fun _ _ _ => False)
   (OwnFrom.and (OwnFrom.and (hM.from (by omega) (fun pre' : List Few => dayOut f t (fv pre) (chL am lm) (chL as_ ls) ++ minOut f t x.1 (fv pre') (chL as_ ls))) (Held.own hM (by omega) (Nat.le_refl _) hL2)) (ownFrom_keepsFrom (by omega)))
   (fun _ _ _ _ _ hs _ _ => hs)
   ⟨⟨by rw [show minOut f t x.1 (fv ([] : List Few)) (chL as_ ls) = [] from rfl, List.append_nil]; exact hJ2, hH2⟩, kf⟩
   (fun y a'' W' => ∃ (By : Nat) (u13 : Value) (u14 : Value) (u15 : Value) (u16 : Value) (u17 : Value) (u18 : Value) (u19 : Value) (u20 : Value) (u21 : Value) (u22 : Value) (u23 : Value), W'.cell? ⟨By, 0, none⟩ = some (.int .i64 y.1) ∧ (W2.heap.size ≤ By ∧ By < W'.heap.size) ∧ W2.heap.size ≤ W'.heap.size ∧ ¬ own W' By ∧ a'' = { tmps := #[.func (.yield lp) #[] #[], .pointer (some ⟨T, 0, none⟩), .pointer (some ⟨Bf, 0, none⟩), .pointer (some ⟨Bt, 0, none⟩), .pointer (some ⟨w.heap.size, 0, none⟩), .pointer (some ⟨Bx, 0, none⟩), .pointer (some ⟨By, 0, none⟩), undef, undef, .pointer (some ⟨T, 0, none⟩), .agg #[vh, .int .i64 ah], .func (.func 178) #[] #[.pointer (some ⟨w.heap.size + 1, 0, none⟩)], .int .i64 x.1, u13, u14, u15, u16, u17, u18, u19, u20, u21, u22, u23, .pointer (some ⟨T, 2, none⟩), .agg #[vm, .int .i64 am], .func (.func 178) #[] #[.pointer (some ⟨W.heap.size, 0, none⟩)], .int .i64 y.1, undef, undef, undef, undef, undef, undef, undef, undef, undef, undef, undef, undef, undef, undef, undef, undef, undef, undef, undef, undef, undef, undef, undef, undef, undef], defers := [] })
   (fun x a' _ X Z row hs hg hr => by obtain ⟨b, u13, u14, u15, u16, u17, u18, u19, u20, u21, u22, u23, c1, c2, c3, c4, c5⟩ := hs; exact ⟨b, u13, u14, u15, u16, u17, u18, u19, u20, u21, u22, u23, cell_kept c1 hg (fun r e => (hr r e).2), ⟨c2.1, Nat.lt_of_lt_of_le c2.2 hg.size⟩, Nat.le_trans c3 hg.size, fun k => c4 (hM.owns X Z row (by omega) hg (fun r e => ⟨by have := (hr r e).1; omega, (hr r e).2⟩) _ k), c5⟩)
   ?assign2 ?body2 ?done2 ?stop2
  case assign2 =>
   rintro l2 pre' y W' K ⟨⟨hJ, hH⟩, hKF⟩ hK
   have hWs := hH.1.1
   gi_wp2
   exact hK _ _ ((KeepsOthers.alloc _ _).from _) (KeepsL.alloc (fun b hb => by have := hL2 b hb; omega) _) ⟨⟨hM.alloc hJ _, hH.alloc hM (by omega) hL2 _⟩, hKF.trans ((KeepsOthers.alloc _ _).from _)⟩ ⟨W'.heap.size, _, _, _, _, _, _, _, _, _, _, _, (cell_new_l _ _ _).1, ⟨hWs, by simp⟩, by simp; omega, hM.new hJ (by omega) _, rfl⟩
  case done2 =>
   rintro ys W' hys ⟨⟨hJ', hH'⟩, hKF⟩
   gi_wp2
   refine ⟨hKF, kl.trans (hH'.1.sub hsub2), ?_, ⟨hH1.1.trans (hH'.1.sub hsub2), fun b hb => hH'.2 b (hsub2 b hb)⟩⟩
   rw [fv_snoc, day_snoc, hout]
   rw [show fv ys = _ from hys] at hJ'
   exact hJ'
  case stop2 =>
   rintro c pre' W' _ h
   exact h.elim
  case body2 =>
   rintro l2 pre' y a'' W' hl2 ⟨r2, hr2'⟩ ⟨⟨hJ', hH'⟩, hKF⟩ ⟨By, u13, u14, u15, u16, u17, u18, u19, u20, u21, u22, u23, cyy, hBy, hWs2, oy, rfl⟩ hlt2
   obtain ⟨-, ⟨t0, t1, t2, t3, t4, t5⟩, -, -, -, -⟩ := hC2.keep hH'.1
   have hy0 := y.2.1
   have hy100 := y.2.2
   have h1'' : 1 ≤ n - 1 - 1 - 1 - 1 := by omega
   gi_wp2_with (gi_at_call 157; refine (CallsIn.inRound l2 (each_in F (n - 1 - 1 - 1 - 1 - 1) h33 hro _ _ _)).mono ?_; rintro e w' ⟨rfl, rfl⟩)
   have hWB' : w.heap.size ≤ W'.heap.size := by omega
   have hJ3 := hM.alloc hJ' (.cells #[vs, .int .i64 as_] 154)
   have oy3 := hM.owned hWB' (.cells #[vs, .int .i64 as_] 154) oy
   have oe3 := hM.new hJ' hWB' (.cells #[vs, .int .i64 as_] 154)
   have kl3 := KeepsL.alloc (W := W') (fun b hb => by have := hL2 b hb; omega) (.cells #[vs, .int .i64 as_] 154) (L := L2)
   have hH13 := hH'.alloc hM (by omega) hL2 (.cells #[vs, .int .i64 as_] 154)
   have kf3 := (KeepsOthers.alloc W' (.cells #[vs, .int .i64 as_] 154)).from W0.heap.size
   have cy3 := cell_alloc_l (.cells #[vs, .int .i64 as_] 154) cyy
   have ce4 : (W'.alloc (.cells #[vs, .int .i64 as_] 154)).cell? ⟨W'.heap.size, 0, none⟩ = some vs := by simp
   have ce5 : (W'.alloc (.cells #[vs, .int .i64 as_] 154)).cell? ⟨W'.heap.size, 1, none⟩ = some (.int .i64 as_) := by simp
   have hr3 : (W'.alloc (.cells #[vs, .int .i64 as_] 154)).heap[l2]? = some (.loop r2) := (Below.heap_alloc W' _ l2 (Array.getElem?_eq_some_iff.1 hr2').1).trans hr2'
   have hsz3 : (W'.alloc (.cells #[vs, .int .i64 as_] 154)).heap.size = W'.heap.size + 1 := by simp
   obtain ⟨W3, hW3⟩ : ∃ W3, W'.alloc (.cells #[vs, .int .i64 as_] 154) = W3 := ⟨_, rfl⟩
   rw [hW3] at hJ3 oy3 oe3 kl3 hH13 kf3 cy3 ce4 ce5 hr3 hsz3 ⊢
   clear hW3
   obtain ⟨L3, hL3e⟩ : ∃ L3, L3 = By :: W'.heap.size :: L2 := ⟨_, rfl⟩
   have hL3 : ∀ b ∈ L3, b < W3.heap.size := fun b hb => by
    rw [hL3e] at hb
    rcases List.mem_cons.1 hb with rfl | hb
    ·omega
    rcases List.mem_cons.1 hb with rfl | hb
    ·omega
    have := hL2 b hb; omega
   have hH3 : Held L3 own W3 W3 := ⟨KeepsL.refl _ _, fun b hb => by
    rw [hL3e] at hb
    rcases List.mem_cons.1 hb with rfl | hb
    ·exact oy3
    rcases List.mem_cons.1 hb with rfl | hb
    ·exact oe3
    exact hH13.2 b hb⟩
   have hsub3 : ∀ b ∈ L2, b ∈ L3 := fun b hb => by rw [hL3e]; exact List.mem_cons_of_mem _ (List.mem_cons_of_mem _ hb)
   have hy3 : By ∈ L3 := by rw [hL3e]; simp
   have he3 : W'.heap.size ∈ L3 := by rw [hL3e]; simp
   have hC3 := (hC2.keep hH13.1).sub hsub3
   have cyw := hH13.1.cell (hsub2 _ hy1) cy2
   have cxw := hH13.1.cell hx2 cx2
   clear hL3e oy3 oe3 t0 t1 t2 t3 t4 t5
   refine wpIn_rangeFunc_ownN (l₀ := l2) (r₀ := r2) rfl hr3 h1'' (gf := 178) (lb := #[.pointer (some ⟨W'.heap.size, 0, none⟩)]) rfl h46 enters1
    ((each_few F (n - 1 - 1 - 1 - 1 - 1) h46 hro (by omega) L3 W'.heap.size as_ vs ls (by omega) (by omega) hss W3 hL3 ⟨he3, ce4, ce5, hC3.2.2.2.2.2⟩).inRound l2)
    KeepsL.trans (keepsL_b hL3) (Below.refl _ _) (fun _ => rfl)
    (fun pre'' W'' => (J (dayOut f t (fv pre) (chL am lm) (chL as_ ls) ++ minOut f t x.1 (fv pre') (chL as_ ls) ++ secOut f t x.1 y.1 (fv pre'')) W'' ∧ Held L3 own W3 W'') ∧ KeepsFrom W0.heap.size W' W'')
    (fun _ _ _ => False)
    (OwnFrom.and (OwnFrom.and (hM.from (by omega) (fun pre'' : List Few => dayOut f t (fv pre) (chL am lm) (chL as_ ls) ++ minOut f t x.1 (fv pre') (chL as_ ls) ++ secOut f t x.1 y.1 (fv pre''))) (Held.own hM (by omega) (Nat.le_refl _) hL3)) (ownFrom_keepsFrom (by omega)))
    (fun _ _ _ _ _ hs _ _ => hs)
    ⟨⟨by rw [show secOut f t x.1 y.1 (fv ([] : List Few)) = [] from rfl, List.append_nil]; exact hJ3, hH3⟩, kf3⟩
    (fun z a3 _ => a3 = { tmps := #[.func (.yield lp) #[] #[], .pointer (some ⟨T, 0, none⟩), .pointer (some ⟨Bf, 0, none⟩), .pointer (some ⟨Bt, 0, none⟩), .pointer (some ⟨w.heap.size, 0, none⟩), .pointer (some ⟨Bx, 0, none⟩), .pointer (some ⟨By, 0, none⟩), .int .i64 z.1, undef, .pointer (some ⟨T, 0, none⟩), .agg #[vh, .int .i64 ah], .func (.func 178) #[] #[.pointer (some ⟨w.heap.size + 1, 0, none⟩)], .int .i64 x.1, u13, u14, u15, u16, u17, u18, u19, u20, u21, u22, u23, .pointer (some ⟨T, 2, none⟩), .agg #[vm, .int .i64 am], .func (.func 178) #[] #[.pointer (some ⟨W.heap.size, 0, none⟩)], .int .i64 y.1, .pointer (some ⟨T, 4, none⟩), .agg #[vs, .int .i64 as_], .func (.func 178) #[] #[.pointer (some ⟨W'.heap.size, 0, none⟩)], .int .i64 z.1, undef, undef, undef, undef, undef, undef, undef, undef, undef, undef, undef, undef, undef, undef, undef, undef, undef, undef, undef, undef, undef], defers := [] })
    (fun _ _ _ _ _ _ hs _ _ => hs)
    ?assign3 ?body3 ?done3 ?stop3
   case assign3 =>
    rintro l3 pre'' z W'' K hi hK
    gi_wp2
    exact hK _ _ (KeepsFrom.refl _ _) (KeepsL.refl _ _) hi rfl
   case done3 =>
    rintro zs W'' hzs ⟨⟨hJ'', hH''⟩, hKF''⟩
    gi_wp2
    refine ⟨KeepsFrom.up hKF'' (by omega), kl3.trans (hH''.1.sub hsub3), ⟨?_, ⟨hH13.1.trans (hH''.1.sub hsub3), fun b hb => hH''.2 b (hsub3 b hb)⟩⟩, hKF.trans hKF''⟩
    rw [fv_snoc, min_snoc, ← List.append_assoc]
    rw [show fv zs = _ from hzs] at hJ''
    exact hJ''
   case stop3 =>
    rintro c pre'' W'' _ h
    exact h.elim
   case body3 =>
    rintro l3 pre'' z a3 W'' hl3 _ ⟨⟨hJ'', hH''⟩, hKF''⟩ rfl hlt3
    obtain ⟨-, -, ⟨cf, ct⟩, -, -, -⟩ := hC3.keep hH''.1
    have cx4 := hH''.1.cell (hsub3 _ hx2) cxw
    have cy4 := hH''.1.cell hy3 cy3
    have cyw4 := hH''.1.cell (hsub3 _ (hsub2 _ hy1)) cyw
    have hz0 := z.2.1
    have hz100 := z.2.2
    by_cases hs3 : f ≤ x.1 * 3600 + y.1 * 60 + z.1
    ·by_cases hs4 : x.1 * 3600 + y.1 * 60 + z.1 < t
     ·have hlen : (dayOut f t (fv pre) (chL am lm) (chL as_ ls) ++ minOut f t x.1 (fv pre') (chL as_ ls) ++ secOut f t x.1 y.1 (fv pre'')).length ≤ 2000000 := out_le (by rw [fv_length]; omega) (by rw [fv_length]; omega) (by rw [fv_length]; omega) lM lS
      have hsn := sec_in (ss := (fv pre'')) hs3 hs4
      obtain ⟨fn, tmps, assign, body, hy, hR⟩ := hY (n - 1 - 1 - 1 - 1 - 1 - 1 - 1) _ (x.1 * 3600 + y.1 * 60 + z.1) W'' hJ'' hlen
      gi_wp2
      refine ⟨fun _ => by omega, RoundIn.mono (F := ((F.inRound l).inRound l2).inRound l3) hR ?_⟩
      rintro e W4 ⟨rfl, hJ4, hA4⟩
      gi_wp2
      have kf4 := After.keepsFrom (B0 := W0.heap.size) hM hJ'' hA4 (by omega)
      refine ⟨KeepsFrom.up kf4 (by omega), hA4.keepsL hL3 hH'', ⟨?_, hA4.held hL3 hH''⟩, hKF''.trans kf4⟩
      rw [fv_snoc, hsn, ← List.append_assoc]
      exact hJ4
     ·have hsn := sec_out (ss := (fv pre'')) (f := f) (t := t) (h := x.1) (m := y.1) (s := z.1) (fun h => hs4 h.2)
      gi_wp2
      refine ⟨fun _ h => (by cases h), ?_⟩
      gi_wp2
      refine ⟨KeepsFrom.refl _ _, KeepsL.refl _ _, ⟨?_, hH''⟩, hKF''⟩
      rw [fv_snoc, hsn]
      exact hJ''
    ·have hsn := sec_out (ss := (fv pre'')) (f := f) (t := t) (h := x.1) (m := y.1) (s := z.1) (fun h => hs3 h.1)
     gi_wp2
     refine ⟨fun _ h => (by cases h), ?_⟩
     gi_wp2
     refine ⟨KeepsFrom.refl _ _, KeepsL.refl _ _, ⟨?_, hH''⟩, hKF''⟩
     rw [fv_snoc, hsn]
     exact hJ''
 case done =>
  rintro D xs W hD hxs ⟨hJ, hH⟩ hK
  gi_wp2
  refine ⟨by simp, .inl ⟨_, _, rfl, run_takeDeferred hK, ?_⟩⟩
  refine ⟨_, results_none rfl _ _ _, ⟨_, rfl⟩, ?_⟩
  rw [show fv xs = _ from hxs] at hJ
  exact hM.stays _ W _ (some D) hJ (grownBy_putObj' W D _) (fun r e => by cases e; exact ⟨by omega, _, hK, rfl⟩)
 case stop =>
  rintro D c pre W _ _ h _
  exact h.elim
end Go.Proofs.YtkbohijlhhpfbaaGreatDoor.Tm

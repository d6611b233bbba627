import Derived.RangeFuncNested
import Derived.RangeFuncBound
import Derived.RangeFuncCalls
import Derived.RangeFuncLeaves
import Derived.Shelf.Abstract
import Derived.Shelf.RegionOpen
import Derived.WalkKit
import Derived.OwnWalkIn
import Derived.TacticsInMore
import Derived.LoopNIn
import Derived.LoopIn
import Derived.Test.YtkbohijlhhpfbaaGreatDoorRj
/- Choices: the numbers that they have, and the iterator over them. -/
namespace Go.Proofs.YtkbohijlhhpfbaaGreatDoor.Tm
open Go.RowKit Go.Shelf Ut Ra
attribute [local go_sem] Oper.semAt_some
/-- the number at a place: those below a, then those of a list -/
def num (a : Nat) (l : List Int) (k : Nat) : Int := if k < a then (k : Int) else l[k - a]?.getD 0
def upto (a : Nat) (l : List Int) (k : Nat) : List Int := (List.range k).map (num a l)
theorem upto_zero (a : Nat) (l : List Int) : upto a l 0 = [] := rfl
theorem upto_succ (a : Nat) (l : List Int) (k : Nat) : upto a l (k + 1) = upto a l k ++ [num a l k] := by simp [upto, List.range_succ]
theorem upto_length (a : Nat) (l : List Int) (k : Nat) : (upto a l k).length = k := by simp [upto]
/-- what a choice has -/
def chL (a : Nat) (l : List Int) : List Int := (List.range a).map (fun k : Nat => (k : Int)) ++ l
theorem chL_length (a : Nat) (l : List Int) : (chL a l).length = a + l.length := by simp [chL]
theorem upto_take (a : Nat) (l : List Int) {k : Nat} (hk : k ≤ a + l.length) : upto a l k = (chL a l).take k := by
  apply List.ext_getElem
  · rw [upto_length, List.length_take, chL_length]; omega
  · intro i h1 h2
    rw [upto_length] at h1
    simp only [upto, List.getElem_map, List.getElem_range, List.getElem_take, chL, num]
    by_cases h : i < a
    · rw [if_pos h, List.getElem_append_left (by simpa using h)]
      simp
    · rw [if_neg h, List.getElem_append_right (by simpa using h)]
      simp only [List.length_map]
      rw [List.getElem?_eq_getElem (by omega)]
      simp
theorem upto_all (a : Nat) (l : List Int) : upto a l (a + l.length) = chL a l := by
  rw [upto_take a l (Nat.le_refl _), ← chL_length, List.take_length]
theorem upto_prefix (a : Nat) (l : List Int) {k : Nat} (hk : k ≤ a + l.length) : upto a l k <+: chL a l := by
  rw [upto_take a l hk]; exact List.take_prefix _ _
/-- these blocks lie as they lay -/
def KeepsL (L : List Nat) (W W' : World) : Prop := W.heap.size ≤ W'.heap.size ∧ ∀ b ∈ L, W'.heap[b]? = W.heap[b]?
theorem KeepsL.refl (L : List Nat) (W : World) : KeepsL L W W := ⟨Nat.le_refl _, fun _ _ => rfl⟩
theorem KeepsL.trans {L : List Nat} {A B C : World} (h : KeepsL L A B) (k : KeepsL L B C) : KeepsL L A C := ⟨Nat.le_trans h.1 k.1, fun b hb => (k.2 b hb).trans (h.2 b hb)⟩
theorem KeepsL.cell {L : List Nat} {A B : World} (h : KeepsL L A B) {b i : Nat} {v : Value} (hb : b ∈ L) (hc : A.cell? ⟨b, i, none⟩ = some v) : B.cell? ⟨b, i, none⟩ = some v :=
  (World.cell?_of_block (w := A) (a := ⟨b, i, none⟩) (h.2 b hb)).trans hc
theorem KeepsL.putObj {L : List Nat} {W : World} {k : Nat} {o' : Obj} (h : ∀ b ∈ L, b ≠ k) : KeepsL L W (W.putObj k o') :=
  ⟨by simp, fun b hb => World.putObj_heap_other (h b hb)⟩
/-- the slice value v reads as the integers l, in a block of L -/
def IntsL (L : List Nat) (W : World) (v : Value) (l : List Int) : Prop :=
  (l = [] ∧ ∃ a cap, v = .slice a 0 cap) ∨ (0 < l.length ∧ ∃ b o cap, v = .slice (some ⟨b, o, none⟩) l.length cap ∧ b ∈ L ∧ l.length ≤ cap ∧ ∀ i (h : i < l.length), W.cell? ⟨b, o + i, none⟩ = some (.int .i64 l[i]))
theorem IntsL.slice {L : List Nat} {W : World} {v : Value} {l : List Int} (h : IntsL L W v l) : ∃ a c, v = .slice a l.length c := by
  rcases h with ⟨rfl, a, c, rfl⟩ | ⟨-, b, o, c, rfl, -⟩
  · exact ⟨a, c, rfl⟩
  · exact ⟨_, c, rfl⟩
theorem IntsL.keep {L : List Nat} {A B : World} {v : Value} {l : List Int} (h : IntsL L A v l) (k : KeepsL L A B) : IntsL L B v l := by
  rcases h with h | ⟨h0, b, o, c, rfl, hb, hc, hcell⟩
  · exact .inl h
  · exact .inr ⟨h0, b, o, c, rfl, hb, hc, fun i hi => k.cell hb (hcell i hi)⟩
/-- the box B holds the choice (v, a), whose list reads as l -/
def ChAt (L : List Nat) (W : World) (B a : Nat) (v : Value) (l : List Int) : Prop := B ∈ L ∧ W.cell? ⟨B, 0, none⟩ = some v ∧ W.cell? ⟨B, 1, none⟩ = some (.int .i64 a) ∧ IntsL L W v l
set_option maxHeartbeats 1000000 in
theorem each_in (F : Fence) (n : Nat) (hF : F.fn 157) (hro : F.round = none) (v : Value) (a : Nat) (w : World) :
    CallsIn F n Tryz.prog 157 #[.agg #[v, .int .i64 a]] w fun e w' => e = .returned (.func (.func 178) #[] #[.pointer (some ⟨w.heap.size, 0, none⟩)]) ∧ w' = w.alloc (.cells #[v, .int .i64 a] 154) := by
  refine callsIn_of_wp Tryz.func157 rfl hF ?_ hro
  simp only [Tryz.ntmps157, List.size_toArray, List.length_cons, List.length_nil, Nat.reduceAdd, Nat.reduceSub, Array.replicate_succ, Array.replicate_zero, List.push_toArray, List.append_toArray, List.nil_append, List.cons_append]
  gi_wp2
  go_ret
  exact ⟨rfl, rfl⟩
set_option maxRecDepth 100000 in
set_option maxHeartbeats 4000000 in
/-- the iterator: every loop body that keeps the blocks of L -/
theorem each1_in (F : Fence) (n : Nat) (hF : F.fn 178) (hro : F.round = none) (hn : 1 ≤ n) (lp : Nat) (L : List Nat) (Bn a : Nat) (v : Value) (l : List Int) (ha : a ≤ 1000) (hl : l.length ≤ 1000) (J Jx : List Int → World → Prop)
    (hY : ∀ pre x W, J pre W → pre.length < a + l.length → x ∈ chL a l → YieldAt F (n - 1) Tryz.prog lp #[.int .i64 x] W fun e W' =>
      (e = .returned (.bool true) ∧ J (pre ++ [x]) W' ∧ KeepsL L W W') ∨ (e = .returned (.bool false) ∧ Jx (pre ++ [x]) W'))
    (W : World) (hC : ChAt L W Bn a v l) (h0 : J [] W) :
    CallsIn F n Tryz.prog 178 #[.func (.yield lp) #[] #[], .pointer (some ⟨Bn, 0, none⟩)] W fun e W' => (∃ v, e = .returned v) ∧
      ((∃ ys, ys = chL a l ∧ J ys W') ∨ (∃ pre, pre <+: chL a l ∧ Jx pre W')) := by
  obtain ⟨hBn, hc0, hc1, hI⟩ := hC
  obtain ⟨av, cap, rfl⟩ := hI.slice
  refine callsIn_of_wp Tryz.func178 rfl hF ?_ hro
  simp only [Tryz.ntmps178, List.size_toArray, List.length_cons, List.length_nil, Nat.reduceAdd, Nat.reduceSub, Array.replicate_succ, Array.replicate_zero, List.push_toArray, List.append_toArray, List.nil_append, List.cons_append]
  gi_wp2
  gi_loopw [8] (fun i wr => ∃ k : Nat, k ≤ a ∧ i = .int .i64 k ∧ J (upto a l k) wr ∧ KeepsL L W wr) (fun i _ => a - (intOf i).toNat)
  case atStart => exact ⟨0, Nat.zero_le _, rfl, h0, KeepsL.refl _ _⟩
  case round =>
    obtain ⟨k, hk, rfl, hJs, hnx⟩ := hrel
    by_cases hlt : k < a
    · have hnum : num a l k = (k : Int) := by unfold num; rw [if_pos hlt]
      obtain ⟨fn, tmps, assign, body, hy, hR⟩ := hY _ (k : Int) wr hJs (by rw [upto_length]; omega) (List.mem_append_left _ (List.mem_map.2 ⟨k, List.mem_range.2 hlt, rfl⟩))
      have i2 : (k : Int) < (a : Int) := by omega
      gi_wp2
      refine hR.mono ?_
      rintro e W3 (⟨rfl, hJ3, hk3⟩ | ⟨rfl, hJx3⟩)
      · gi_wp2
        go_roundw
        case rel => exact ⟨k + 1, by omega, by go_num, by rw [upto_succ, hnum]; exact hJ3, hnx.trans hk3⟩
        case measure => simp [intOf]; omega
      · gi_wp2
        refine bodyPost_ret (results_none rfl _ _ _) rfl ?_
        exact ⟨⟨_, rfl⟩, .inr ⟨_, by rw [← hnum, ← upto_succ]; exact upto_prefix a l (by omega), hJx3⟩⟩
    · obtain rfl : k = a := by omega
      have d0 := hnx.cell hBn hc0
      gi_wp2
      gi_loopw [19] (fun i wr => ∃ j : Nat, j ≤ l.length ∧ i = .int .i64 j ∧ J (upto k l (k + j)) wr ∧ KeepsL L W wr) (fun i _ => l.length - (intOf i).toNat)
      case atStart => exact ⟨0, Nat.zero_le _, rfl, hJs, hnx⟩
      case round =>
        clear hJs hnx d0
        obtain ⟨j, hj, rfl, hJs, hnx⟩ := hrel
        by_cases hjl : j < l.length
        · have hnum : num k l (k + j) = l[j] := by unfold num; rw [if_neg (by omega), List.getElem?_eq_getElem (by omega)]; simp
          rcases hI with ⟨rfl, -⟩ | ⟨-, b, o, cap', hv, hb, hcap, hcell⟩
          · simp at hjl
          obtain ⟨rfl, -, rfl⟩ := Value.slice.inj hv
          have c0 := hnx.cell hb (hcell j hjl)
          obtain ⟨fn, tmps, assign, body, hy, hR⟩ := hY _ l[j] wr hJs (by rw [upto_length]; omega) (List.mem_append_right _ (List.getElem_mem hjl))
          have i2 : (j : Int) < (l.length : Int) := by omega
          have i3 : (0 : Int) ≤ (j : Int) := by omega
          gi_wp2
          refine hR.mono ?_
          rintro e W3 (⟨rfl, hJ3, hk3⟩ | ⟨rfl, hJx3⟩)
          · gi_wp2
            go_roundw
            case rel => exact ⟨j + 1, by omega, by go_num, by rw [← Nat.add_assoc, upto_succ, hnum]; exact hJ3, hnx.trans hk3⟩
            case measure => simp [intOf]; omega
          · gi_wp2
            refine bodyPost_ret (results_none rfl _ _ _) rfl ?_
            exact ⟨⟨_, rfl⟩, .inr ⟨_, by rw [← hnum, ← upto_succ]; exact upto_prefix k l (by omega), hJx3⟩⟩
        · obtain rfl : j = l.length := by omega
          gi_wp2
          go_end0
          exact ⟨⟨_, rfl⟩, .inl ⟨_, (upto_all k l), hJs⟩⟩
theorem each_stops (F : Fence) (n : Nat) (hF : F.fn 178) (hro : F.round = none) (hn : 1 ≤ n) (L : List Nat) (Bn a : Nat) (v : Value) (l : List Int) (ha : a ≤ 1000) (hl : l.length ≤ 1000) (w : World) (hL : ∀ b ∈ L, b < w.heap.size) (hC : ChAt L w Bn a v l) :
    SeqStopsK F n Tryz.prog 178 #[.pointer (some ⟨Bn, 0, none⟩)] (fun x : Int => #[Value.int .i64 x]) (KeepsL L) (fun ys => ys = chL a l) (fun pre => pre <+: chL a l) (a + l.length) w := fun lp J Jx W hW _ _ hY h0 => by
  have hk : KeepsL L w W := ⟨hW.size, fun b hb => hW.block b (hL b hb)⟩
  exact each1_in F n hF hro hn lp L Bn a v l ha hl J Jx (fun pre x W1 h1 h2 _ => hY pre x W1 h1 h2) W ⟨hC.1, hk.cell hC.1 hC.2.1, hk.cell hC.1 hC.2.2.1, hC.2.2.2.keep hk⟩ h0
/-- a number from 0 to 100 -/
abbrev Few := { x : Int // 0 ≤ x ∧ x ≤ 100 }
/-- the same contract, where each number is known to be small -/
theorem each_few (F : Fence) (n : Nat) (hF : F.fn 178) (hro : F.round = none) (hn : 1 ≤ n) (L : List Nat) (Bn a : Nat) (v : Value) (l : List Int) (ha : a ≤ 1000) (hl : l.length ≤ 1000) (hs : ∀ x ∈ chL a l, 0 ≤ x ∧ x ≤ 100) (w : World) (hL : ∀ b ∈ L, b < w.heap.size) (hC : ChAt L w Bn a v l) :
    SeqStopsK F n Tryz.prog 178 #[.pointer (some ⟨Bn, 0, none⟩)] (fun x : Few => #[Value.int .i64 x.1]) (KeepsL L) (fun ys => ys.map (·.1) = chL a l) (fun _ => True) (a + l.length) w := fun lp J Jx W hW _ _ hY h0 => by
  have hk : KeepsL L w W := ⟨hW.size, fun b hb => hW.block b (hL b hb)⟩
  refine (each1_in F n hF hro hn lp L Bn a v l ha hl (fun ys W => ∃ xs : List Few, xs.map (·.1) = ys ∧ J xs W) (fun ys W => ∃ xs : List Few, xs.map (·.1) = ys ∧ Jx xs W) (fun pre x W1 h1 h2 hx => ?_) W ⟨hC.1, hk.cell hC.1 hC.2.1, hk.cell hC.1 hC.2.2.1, hC.2.2.2.keep hk⟩ ⟨[], rfl, h0⟩).mono ?_
  · obtain ⟨xs, rfl, hJ⟩ := h1
    obtain ⟨fn, tmps, assign, body, hy, hR⟩ := hY xs ⟨x, hs x hx⟩ W1 hJ (by simpa using h2)
    refine ⟨fn, tmps, assign, body, hy, hR.mono ?_⟩
    rintro e W' (⟨he, hJ', hk'⟩ | ⟨he, hJ'⟩)
    · exact .inl ⟨he, ⟨_, by simp, hJ'⟩, hk'⟩
    · exact .inr ⟨he, ⟨_, by simp, hJ'⟩⟩
  · rintro e W' ⟨he, ⟨ys, hys, xs, hx, hJ⟩ | ⟨pre, hpre, xs, hx, hJ⟩⟩
    · exact ⟨he, .inl ⟨xs, hx.trans hys, hJ⟩⟩
    · exact ⟨he, .inr ⟨xs, trivial, hJ⟩⟩
end Go.Proofs.YtkbohijlhhpfbaaGreatDoor.Tm

/- Whether a choice has a number: the walk. -/
namespace Go.Proofs.YtkbohijlhhpfbaaGreatDoor.Tm
open Go.RowKit Go.Shelf Ut Ra
attribute [local go_sem] Oper.semAt_some
theorem keepsL_b {L : List Nat} {W0 : World} (hL : ∀ b ∈ L, b < W0.heap.size) : ∀ (W : World) (l : Nat) (o o' : Obj), W0.heap.size ≤ l → W.heap[l]? = some o → o.isCells = false → o.isWalk = false → KeepsL L W (W.putObj l o') :=
  fun _ _ _ _ h _ _ _ => KeepsL.putObj (fun b hb e => by have := hL b hb; omega)
theorem cell_new_l (W : World) (v : Value) (t : TypeId) : (W.alloc (.cells #[v] t)).cell? ⟨W.heap.size, 0, none⟩ = some v ∧ (W.alloc (.cells #[v] t)).frozen? ⟨W.heap.size, 0, none⟩ = false := by
  have h := World.alloc_heap_new W (.cells #[v] t)
  generalize W.alloc (.cells #[v] t) = X at h ⊢
  constructor <;> simp [World.cell?, World.frozen?, h]
theorem cell_alloc_l {W : World} {a : Addr} {v : Value} (o : Obj) (h : W.cell? a = some v) : (W.alloc o).cell? a = some v := cell_kept h (World.grownBy_alloc W o none) (fun r e => by cases e)
theorem frozen_alloc_l {W : World} {a : Addr} {v : Value} (o : Obj) (h : W.cell? a = some v) (hf : W.frozen? a = false) : (W.alloc o).frozen? a = false := (frozen_kept h (World.grownBy_alloc W o none) (fun r e => by cases e)).trans hf
/-- the blocks of a list of integers -/
def blkOf : Value → List Nat
  | .slice (some a) _ _ => [a.block]
  | _ => []
theorem intsL {w W : World} {v : Value} {l : List Int} {L : List Nat} (h : Ints w v l) (hB : Below w.heap.size w W) (hL : ∀ b ∈ blkOf v, b ∈ L) : IntsL L W v l := by
  rcases h with ⟨rfl, a, cap, rfl, -⟩ | ⟨h0, b, o, cap, rfl, hlt, hc, hcell⟩
  · exact .inl ⟨rfl, a, cap, rfl⟩
  · exact .inr ⟨h0, b, o, cap, rfl, hL b (by simp [blkOf]), hc, fun i hi => (hB.cell (p := ⟨b, o + i, none⟩) hlt).trans (hcell i hi)⟩
theorem blkOf_lt {w : World} {v : Value} {l : List Int} (h : Ints w v l) (h0 : 0 < l.length) : ∀ b ∈ blkOf v, b < w.heap.size := by
  rcases h with ⟨rfl, -⟩ | ⟨_, b, o, cap, rfl, hlt, _⟩
  · simp at h0
  · intro b' hb; simp [blkOf] at hb; subst hb; exact hlt
/-- a list's block, where it has one that is read -/
def blkL (v : Value) (l : List Int) : List Nat := if l.length = 0 then [] else blkOf v
theorem blkL_lt {w : World} {v : Value} {l : List Int} (h : Ints w v l) : ∀ b ∈ blkL v l, b < w.heap.size := by
  unfold blkL
  split
  · simp
  · exact blkOf_lt h (by omega)
theorem intsL' {w W : World} {v : Value} {l : List Int} {L : List Nat} (h : Ints w v l) (hB : Below w.heap.size w W) (hL : ∀ b ∈ blkL v l, b ∈ L) : IntsL L W v l := by
  by_cases h0 : l.length = 0
  · obtain rfl := List.length_eq_zero_iff.1 h0
    rcases h with ⟨-, a, cap, rfl, -⟩ | ⟨h, _⟩
    · exact .inl ⟨rfl, a, cap, rfl⟩
    · simp at h
  · exact intsL h hB (by unfold blkL at hL; rwa [if_neg h0] at hL)
theorem enters1 : ∀ args w, (callFunc 178 args).run Tryz.prog w = .ok (.enter 178 args) w := enters_of Tryz.func178 (by kernel_rfl) rfl
end Go.Proofs.YtkbohijlhhpfbaaGreatDoor.Tm


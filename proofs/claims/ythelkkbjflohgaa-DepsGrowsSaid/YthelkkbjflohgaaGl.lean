/- Rows of texts, sorted, compacted, cut by the library. -/
import Derived.Test.YthelkkbjflohgaaGj
import Derived.Test.YthelkkbjflohgaaGk
import Derived.Test.YthelkkbjflohgaaSh
import Derived.Sort.OwnSorted
import Derived.Sort.Walk0
namespace Go.Proofs.Ythelkkbjflohgaa.Ds
open Go.RowKit Ut Gr Go.Maps Go.Sort
def bs (s : ByteArray) : List UInt8 := s.data.toList
def un (l : List UInt8) : ByteArray := ⟨l.toArray⟩
theorem bs_un (l : List UInt8) : bs (un l) = l := rfl
theorem un_bs (s : ByteArray) : un (bs s) = s := rfl
theorem map_bs_un (l : List (List UInt8)) : (l.map un).map bs = l := by rw [List.map_map]; exact List.map_id _
theorem map_un_bs (l : List ByteArray) : (l.map bs).map un = l := by rw [List.map_map]; exact List.map_id _
theorem enc_bs (l : List ByteArray) : (l.map bs).map encStr = sc l := by unfold sc; rw [List.map_map]; rfl
theorem enc_un (l : List (List UInt8)) : l.map encStr = sc (l.map un) := by unfold sc; rw [List.map_map]; rfl
/-- a row that the call owns, whose block is known -/
theorem OwnS.block {w : World} {B : Nat} {v : Value} {l : List ByteArray} (h : OwnS w B v l) (h0 : 0 < l.length) :
    ∃ g cap cur, v = .slice (some ⟨g, 0, none⟩) l.length cap ∧ B ≤ g ∧ w.heap[g]? = some (.cells cur 9 (0, 0)) ∧ l.length ≤ cap ∧ cap ≤ maxLen ∧ cur.size = cap * 1 ∧ Holds encStr w g 0 (l.map bs).toArray ∧ g < w.heap.size := by
  rcases h with ⟨_, ⟨_, hn⟩ | ⟨g, cap, cur, rfl, hb, hg, hc, hm, hs, ht⟩⟩
  · omega
  · exact ⟨g, cap, cur, rfl, hb, hg, hc, hm, hs, holds_of_block hg (by rw [List.length_map, enc_bs]; rwa [Nat.mul_one] at ht), (Array.getElem?_eq_some_iff.1 hg).1⟩
/-- the same row, shorter -/
theorem OwnS.cut {w : World} {B g cap : Nat} {l m : List ByteArray} (h : OwnS w B (.slice (some ⟨g, 0, none⟩) (l ++ m).length cap) (l ++ m)) : OwnS w B (.slice (some ⟨g, 0, none⟩) l.length cap) l := by
  rcases h with ⟨_, ⟨hv, _⟩ | ⟨g', cap', cur, hv, hb, hg, hc, hm, hs, ht⟩⟩
  · cases hv
  · obtain ⟨e1, _, e2⟩ := Value.slice.inj hv
    injection e1 with e1
    injection e1 with e1
    subst e1; subst e2
    refine ⟨by rw [sc_length, Nat.mul_one], .inr ⟨g, cap, cur, rfl, hb, hg, by rw [List.length_append] at hc; omega, hm, hs, ?_⟩⟩
    have h2 := congrArg (List.take l.length) ht
    rw [List.take_take, sc_append, List.take_left' (sc_length l), Nat.min_eq_left (by simp)] at h2
    rwa [Nat.mul_one]
/-- behind a call that has put other texts into the row -/
theorem own_put {w : World} {B g cap n : Nat} {os : Array Obj} {cur : Array Value} {l : List ByteArray} {T : List (List UInt8)} (hl : T.length = l.length) (hb : B ≤ g) (hg : w.heap[g]? = some (.cells cur 9 (0, 0))) (hc : l.length ≤ cap) (hm : cap ≤ maxLen) (hs : cur.size = cap * 1) :
    OwnS (grow (putRow encStr (Sort.ahead w n) g 0 T.toArray) os) B (.slice (some ⟨g, 0, none⟩) (T.map un).length cap) (T.map un) := by
  have h := ownsRow_sorted (n := n) (os := os) (ss := l.map bs) (ts := T) (by rw [hl, List.length_map]) hb hg (by rw [List.length_map]; exact hc) hm hs
  rw [List.length_map, ← hl, enc_un] at h
  unfold OwnS
  rw [List.length_map]
  exact h
theorem below_put {w : World} {B g n : Nat} {os : Array Obj} (hB : B ≤ w.heap.size) (hb : B ≤ g) (d : Array (List UInt8)) : Below B w (grow (putRow encStr (Sort.ahead w n) g 0 d) os) :=
  (Below.refl B w).grown (grownBy_sorted d) hB fun k hk => by cases hk; exact hb
def sortL (l : List ByteArray) : List ByteArray := ((l.map bs).mergeSort fun x y => decide (x ≤ y)).map un
def compL (l : List ByteArray) : List ByteArray := (Lib.compact (l.map bs)).map un
theorem sort_any {w : World} {B : Nat} {v : Value} {l : List ByteArray} (h : OwnS w B v l) (hB : B ≤ w.heap.size) (hn : l.length ≤ 1000) : Calls Try.prog 29 #[v] w fun e w' => e = .returned (.tuple #[]) ∧ OwnS w' B v (sortL l) ∧ Below B w w' := by
  by_cases h0 : 0 < l.length
  · obtain ⟨g, cap, cur, rfl, hb, hg, hc, hm, hs, hH, hlt⟩ := h.block h0
    have hc' := Try.slices_Sort_string g 0 cap (l.map bs) w hH hlt (by rw [List.length_map]; omega)
    rw [List.length_map] at hc'
    refine hc'.mono fun e w' ⟨he, n, os, hw⟩ => ?_
    subst hw
    have := own_put (n := n) (os := os) (l := l) (T := (l.map bs).mergeSort fun x y => decide (x ≤ y)) (by rw [List.length_mergeSort, List.length_map]) hb hg hc hm hs
    rw [List.length_map, List.length_mergeSort, List.length_map] at this
    exact ⟨he, this, below_put hB hb _⟩
  · obtain rfl : l = [] := List.eq_nil_of_length_eq_zero (by omega)
    obtain ⟨a, c, rfl⟩ := h.slice
    refine (Try.slices_Sort_string_none a c w).mono fun e w' ⟨he, hw⟩ => ?_
    subst hw
    exact ⟨he, by simpa [sortL] using h, Below.refl _ _⟩
theorem compact_any {w : World} {B : Nat} {v : Value} {l : List ByteArray} (h : OwnS w B v l) (hB : B ≤ w.heap.size) (hn : l.length ≤ 1000) (hcl : (Lib.compact (l.map bs)).length ≤ l.length) : Calls Try.prog 30 #[v] w fun e w' => ∃ u, e = .returned u ∧ OwnS w' B u (compL l) ∧ Below B w w' := by
  by_cases h0 : 0 < l.length
  · obtain ⟨g, cap, cur, rfl, hb, hg, hc, hm, hs, hH, hlt⟩ := h.block h0
    have hc' := Try.slices_Compact_string g 0 cap (l.map bs) w hH (by rw [List.length_map]; omega) (by rw [List.length_map]; omega)
    rw [List.length_map] at hc'
    refine hc'.mono fun e w' ⟨he, n, hw⟩ => ?_
    subst hw
    have := own_put (n := n) (os := #[]) (l := l) (T := Lib.compact (l.map bs) ++ List.replicate (l.length - (Lib.compact (l.map bs)).length) []) (by rw [List.length_append, List.length_replicate]; omega) hb hg hc hm hs
    rw [grow_empty, List.map_append] at this
    have h3 := OwnS.cut this
    rw [List.length_map] at h3
    exact ⟨_, he, h3, by have := below_put (n := n) (os := #[]) hB hb (d := (Lib.compact (l.map bs) ++ List.replicate (l.length - (Lib.compact (l.map bs)).length) []).toArray); rwa [grow_empty] at this⟩
  · obtain rfl : l = [] := List.eq_nil_of_length_eq_zero (by omega)
    obtain ⟨a, c, rfl⟩ := h.slice
    refine (Try.slices_Compact_string_empty a c w).mono fun e w' ⟨he, hw⟩ => ?_
    subst hw
    exact ⟨_, he, by simpa [compL, Lib.compact, Lib.compactUpTo] using h, Below.refl _ _⟩
theorem deleteS_any {w : World} {B : Nat} {v : Value} {l : List ByteArray} (i : Nat) (hi : i < l.length) (h : OwnS w B v l) (hn : l.length ≤ 1000) : Calls Try.prog 34 #[v, .int .i64 i, .int .i64 (i + 1)] w fun e w' => ∃ u, e = .returned u ∧ OwnS w' B u (l.eraseIdx i) ∧ u.ownBlock = v.ownBlock ∧ w.grownBy w' v.ownBlock := by
  obtain ⟨g, cap, cur, rfl, hb, hg, hc, hm, hs, hH, hlt⟩ := h.block (by omega)
  have hc' := Try.slices_Delete_string g 0 cap i (i + 1) (l.map bs) w hH (by rw [List.length_map]; omega) (by unfold maxLen at hm; omega) (by omega) (by rw [List.length_map]; omega)
  rw [List.length_map] at hc'
  have hT : ((l.map bs).take i ++ (l.map bs).drop (i + 1)) = (l.eraseIdx i).map bs := by rw [List.eraseIdx_eq_take_drop_succ, List.map_append, List.map_take, List.map_drop]
  have he0 : (l.eraseIdx i).length = l.length - 1 := by rw [List.length_eraseIdx]; rw [if_pos hi]
  refine hc'.mono fun e w' ⟨he, n, hw⟩ => ?_
  subst hw
  rw [hT, show i + 1 - i = 1 by omega]
  have := own_put (n := n) (os := #[]) (l := l) (T := (l.eraseIdx i).map bs ++ List.replicate 1 []) (by rw [List.length_append, List.length_map, he0, List.length_replicate]; omega) hb hg hc hm hs
  rw [grow_empty, List.map_append, map_un_bs] at this
  have h3 := OwnS.cut this
  rw [he0] at h3
  exact ⟨_, by rw [he, show l.length - (i + 1 - i) = l.length - 1 by omega], h3, rfl, by have := grownBy_sorted (w := w) (g := g) (n := n) (os := #[]) ((l.eraseIdx i).map bs ++ List.replicate 1 []).toArray; rwa [grow_empty] at this⟩
theorem cloneS_any {w : World} {v : Value} {l : List ByteArray} (h : Strs w v l) (hn : l.length ≤ 1000) : Calls Try.prog 28 #[v] w (GivesS w l) := by
  rcases h with ⟨rfl, a, c, rfl, ha⟩ | ⟨h0, b, o, c, rfl, hlt, hc, hcell⟩
  · cases a with
    | none =>
      refine (Try.slices_Clone_string_nil 0 c w).mono fun e w' ⟨he, hw⟩ => ?_
      subst hw
      exact ⟨_, he, OwnS.nil _ _, Below.refl _ _⟩
    | some a => exact (Try.slices_Clone_string_zero a c w).mono fun e w' ⟨v', he, ho, _, hB⟩ => ⟨v', he, ho, hB⟩
  · refine (Try.slices_Clone_string b o l.length c l w (Nat.le_refl _) (by omega) (fun j hj => ?_)).mono fun e w' ⟨v', he, ho, _, hB⟩ => ⟨v', he, ?_, hB⟩
    · rw [List.getD_eq_getElem?_getD, List.getElem?_eq_getElem hj]; exact hcell j hj
    · rw [List.take_length] at ho; exact ho
end Go.Proofs.Ythelkkbjflohgaa.Ds

/- The walks through the searches over edges (printed by gen_idx.py). -/
import Derived.Test.YthelkkbjflohgaaGe
import Derived.ChangeKeysEq
namespace Go.Proofs.Ythelkkbjflohgaa.Ds
open Go.RowKit Ut Gr Go.Maps
theorem beqB (a b : ByteArray) : (a == b) = decide (a = b) := by rw [beq_toListBytes, eqS]
theorem boxed2 {w w1 : World} {a b : Value} {t : TypeId} (h : Below (w.alloc (.cells #[a, b] t)).heap.size (w.alloc (.cells #[a, b] t)) w1) :
    w.heap.size < w1.heap.size ∧ w1.cell? ⟨w.heap.size, 0, none⟩ = some a ∧ w1.cell? ⟨w.heap.size, 1, none⟩ = some b := by
  have hs := h.size
  rw [World.size_alloc] at hs
  exact ⟨by omega, (h.cell (p := ⟨w.heap.size, 0, none⟩) (by rw [World.size_alloc]; exact Nat.lt_succ_self _)).trans ((World.cell?_alloc_new w _ t 0).trans rfl), (h.cell (p := ⟨w.heap.size, 1, none⟩) (by rw [World.size_alloc]; exact Nat.lt_succ_self _)).trans ((World.cell?_alloc_new w _ t 1).trans rfl)⟩
theorem next_allocs {w W : World} {o : Obj} (h : Below (w.alloc o).heap.size (w.alloc o) W) : Below w.heap.size w W := Below.next (Below.next_alloc (Below.refl _ w) o) h
theorem any_snoc {α : Type} {P : α → Bool} {l : List α} {k : Nat} (hk : k < l.length) : (l.take (k + 1)).any P = ((l.take k).any P || P l[k]) := by rw [List.take_succ_eq_append_getElem hk, List.any_append]; simp
/-- where the first one stands of which P holds; -1: nowhere -/
def idxF {α : Type} (P : α → Bool) (l : List α) : Int := if l.findIdx P < l.length then (l.findIdx P : Int) else -1
theorem idx_at {α : Type} {P : α → Bool} {l : List α} {k : Nat} (hk : k < l.length) (h : (l.take k).any P = false) (hp : P l[k] = true) : idxF P l = k := by
  have e : l.findIdx P = k := by
    rw [List.findIdx_eq hk]
    refine ⟨hp, fun j hj => ?_⟩
    rw [List.any_eq_false] at h
    have := h l[j] (by rw [List.mem_take_iff_getElem]; exact ⟨j, by omega, rfl⟩)
    simpa using this
  unfold idxF
  rw [e, if_pos hk]
theorem idx_none {α : Type} {P : α → Bool} {l : List α} (h : l.any P = false) : idxF P l = -1 := by
  unfold idxF
  rw [if_neg]
  rw [List.findIdx_lt_length]
  rintro ⟨x, hx, hp⟩
  rw [List.any_eq_false] at h
  exact h x hx hp
theorem idx_spec {α : Type} {P : α → Bool} {l : List α} : (idxF P l = -1 ∧ l.any P = false) ∨ ∃ k : Nat, ∃ h : k < l.length, idxF P l = k ∧ P l[k] = true ∧ (l.take k).any P = false := by
  by_cases h : l.findIdx P < l.length
  · refine .inr ⟨l.findIdx P, h, by unfold idxF; rw [if_pos h], List.findIdx_getElem (w := h), ?_⟩
    rw [List.any_eq_false]
    intro x hx
    rw [List.mem_take_iff_getElem] at hx
    obtain ⟨j, hj, rfl⟩ := hx
    have := List.not_of_lt_findIdx (xs := l) (p := P) (i := j) (by omega)
    simpa using this
  · refine .inl ⟨by unfold idxF; rw [if_neg h], ?_⟩
    rw [List.any_eq_false]
    intro x hx hp
    exact h (List.findIdx_lt_length.2 ⟨x, hx, hp⟩)
theorem eqE (a b c d : ByteArray) (W : World) : (Op.equalIn 10000 44 (.agg #[.string a, .string b]) (.agg #[.string c, .string d])).run Try.prog W = .ok (decide (a = c) && decide (b = d)) W := by
  rw [run_equalIn_struct W 9999 _ _ _ (by kernel_rfl) (by kernel_rfl)]
  by_cases h1 : a = c <;> by_cases h2 : b = d <;> simp [go_sem, Try.underlying44, Try.underlying9, h1, h2, eqS]
theorem eqE_no {a b c d : ByteArray} (h : ¬ (a, b) = (c, d)) (W : World) : (Op.equalIn 10000 44 (.agg #[.string a, .string b]) (.agg #[.string c, .string d])).run Try.prog W = .ok false W := by
  rw [eqE]
  by_cases h1 : a = c
  · have h2 : ¬ b = d := fun h2 => h (by rw [h1, h2])
    simp [h2]
  · simp [h1]
theorem eqE_yes (a b : ByteArray) (W : World) : (Op.equalIn 10000 44 (.agg #[.string a, .string b]) (.agg #[.string a, .string b])).run Try.prog W = .ok true W := by rw [eqE]; simp
theorem eqR (a b c d : ByteArray) (W : World) : (Op.equalIn 10000 25 (.agg #[.string a, .string b]) (.agg #[.string c, .string d])).run Try.prog W = .ok (decide (a = c) && decide (b = d)) W := by
  rw [run_equalIn_struct W 9999 _ _ _ (by kernel_rfl) (by kernel_rfl)]
  by_cases h1 : a = c <;> by_cases h2 : b = d <;> simp [go_sem, Try.underlying25, Try.underlying9, h1, h2, eqS]
theorem eqR_no {a b c d : ByteArray} (h : ¬ (a, b) = (c, d)) (W : World) : (Op.equalIn 10000 25 (.agg #[.string a, .string b]) (.agg #[.string c, .string d])).run Try.prog W = .ok false W := by
  rw [eqR]
  by_cases h1 : a = c
  · have h2 : ¬ b = d := fun h2 => h (by rw [h1, h2])
    simp [h2]
  · simp [h1]
theorem eqR_yes (a b : ByteArray) (W : World) : (Op.equalIn 10000 25 (.agg #[.string a, .string b]) (.agg #[.string a, .string b])).run Try.prog W = .ok true W := by rw [eqR]; simp
set_option maxHeartbeats 2000000 in
theorem indexE_any {w : World} {v : Value} {l : List (ByteArray × ByteArray)} (x y : ByteArray) (hl : Edgs w v l) (hn : l.length ≤ 1000000) :
    Calls Try.prog 48 #[v, .agg #[.string x, .string y]] w fun e w' => (∃ i : Int, e = .returned (.int .i64 i) ∧ decide (0 ≤ i) = isIn (x, y) l) ∧ Below w.heap.size w w' := by
  rcases hl with ⟨rfl, a, cap, rfl, ha⟩ | ⟨h0, b, o, cap, rfl, hlt, hcap, hcell⟩
  · go_enter Try.func48, Try.ntmps48
    go_wp2
    refine wp_loop_rounds 1 ?_
    rw [rounds_succ]
    go_wp2
    go_ret
    exact ⟨⟨_, rfl, by rw [isIn_no (by simp)]; rfl⟩, by (repeat' (first | assumption | exact Below.refl _ _ | apply Below.next_alloc | apply Below.drew | (apply Below.next; rotate_left; assumption)))⟩
  · have HC := Lib.hid hcell
    clear hcell
    go_enter Try.func48, Try.ntmps48
    go_wp2
    go_loopw [8] (fun i wr => ∃ k : Nat, k ≤ l.length ∧ i = .int .i64 k ∧ Hid ((x, y) ∉ l.take k) ∧ Hid (Below (w.alloc (.cells #[.string x, .string y] 44)).heap.size (w.alloc (.cells #[.string x, .string y] 44)) wr)) (fun i _ => l.length - (intOf i).toNat)
    case atStart => exact ⟨0, by omega, rfl, Lib.hid (by simp), Lib.hid (Below.refl _ _)⟩
    case round =>
      obtain ⟨k, k1, rfl, hx, hB⟩ := hrel
      by_cases hk : k < l.length
      · have c1 := ((next_allocs hB.out).cell (p := ⟨b, o + k * 2, none⟩) hlt).trans (HC.out k hk).1
        have c2 := ((next_allocs hB.out).cell (p := ⟨b, o + k * 2 + 1, none⟩) hlt).trans (HC.out k hk).2
        obtain ⟨hlt3, e0, e1⟩ := boxed2 hB.out
        have i2 : (k : Int) < (l.length : Int) := by omega
        have i3 : (0 : Int) ≤ (k : Int) := by omega
        by_cases he : (x, y) = l[k]
        · have hm := Lib.hid (show (x, y) ∈ l by rw [he]; exact List.getElem_mem hk)
          rw [← he] at c1 c2
          have hE := eqE_yes x y
          clear he
          go_wp2
          go_quiet (fail)
          go_wp2
          go_ret
          exact ⟨⟨_, rfl, by rw [decide_eq_true (by omega), isIn_yes hm.out]⟩, Base.below_drewN (next_allocs hB.out) _⟩
        · have hx2 := Lib.hid (show (x, y) ∉ l.take (k + 1) by
            rw [List.take_succ_eq_append_getElem hk, List.mem_append]
            rintro (h | h)
            · exact hx.out h
            · exact he (List.mem_singleton.1 h))
          have hE := eqE_no (a := x) (b := y) (c := l[k].1) (d := l[k].2) he
          clear he hx
          go_wp2
          go_quiet (fail)
          go_wp2
          go_roundw
          case rel => exact ⟨k + 1, by omega, by go_num, hx2, Lib.hid (Base.below_drewN hB.out _)⟩
          case measure => simp [intOf]; omega
      · have hm := Lib.hid (show (x, y) ∉ l by have := hx.out; rwa [List.take_of_length_le (by omega)] at this)
        go_wp2
        go_ret
        exact ⟨⟨_, rfl, by rw [isIn_no hm.out]; rfl⟩, next_allocs hB.out⟩
theorem containsE_any {w : World} {v : Value} {l : List (ByteArray × ByteArray)} (x y : ByteArray) (hl : Edgs w v l) (hn : l.length ≤ 1000000) :
    Calls Try.prog 40 #[v, .agg #[.string x, .string y]] w fun e w' => e = .returned (.bool (isIn (x, y) l)) ∧ Below w.heap.size w w' := by
  have F := Lib.hid (fun W (hB : Below w.heap.size w W) => indexE_any x y (hl.below hB) hn)
  obtain ⟨a, c, rfl⟩ := hl.slice
  clear hl
  go_enter Try.func40, Try.ntmps40
  go_wp2_with (first | (go_at_call 48; (with_reducible refine (F.out _ (by (repeat' (first | assumption | exact Below.refl _ _ | apply Below.next_alloc | apply Below.drew | (apply Below.next; rotate_left; assumption))))).mono ?_); rintro e w' ⟨⟨i, rfl, hi⟩, hB⟩))
  go_ret
  exact ⟨rfl, next_allocs hB⟩
set_option maxHeartbeats 2000000 in
theorem there_any {w : World} {v : Value} {l : List (ByteArray × ByteArray)} (x y : ByteArray) (hl : Edgs w v l) (hn : l.length ≤ 1000000) :
    Calls Try.prog 41 #[v, .agg #[.string x, .string y]] w fun e w' => e = .returned (.bool (isIn (x, y) l)) ∧ Below w.heap.size w w' := by
  rcases hl with ⟨rfl, a, cap, rfl, ha⟩ | ⟨h0, b, o, cap, rfl, hlt, hcap, hcell⟩
  · go_enter Try.func41, Try.ntmps41
    go_wp2
    refine wp_loop_rounds 1 ?_
    rw [rounds_succ]
    go_wp2
    go_ret
    exact ⟨by rw [isIn_no (by simp)]; rfl, by (repeat' (first | assumption | exact Below.refl _ _ | apply Below.next_alloc | apply Below.drew | (apply Below.next; rotate_left; assumption)))⟩
  · have HC := Lib.hid hcell
    clear hcell
    go_enter Try.func41, Try.ntmps41
    go_wp2
    go_loopw [5] (fun i wr => ∃ k : Nat, k ≤ l.length ∧ i = .int .i64 k ∧ Hid ((x, y) ∉ l.take k) ∧ Hid (Below (w.alloc (.cells #[.string x, .string y] 25)).heap.size (w.alloc (.cells #[.string x, .string y] 25)) wr)) (fun i _ => l.length - (intOf i).toNat)
    case atStart => exact ⟨0, by omega, rfl, Lib.hid (by simp), Lib.hid (Below.refl _ _)⟩
    case round =>
      obtain ⟨k, k1, rfl, hx, hB⟩ := hrel
      by_cases hk : k < l.length
      · have c1 := ((next_allocs hB.out).cell (p := ⟨b, o + k * 2, none⟩) hlt).trans (HC.out k hk).1
        have c2 := ((next_allocs hB.out).cell (p := ⟨b, o + k * 2 + 1, none⟩) hlt).trans (HC.out k hk).2
        obtain ⟨hlt3, e0, e1⟩ := boxed2 hB.out
        have i2 : (k : Int) < (l.length : Int) := by omega
        have i3 : (0 : Int) ≤ (k : Int) := by omega
        by_cases he : (x, y) = l[k]
        · have hm := Lib.hid (show (x, y) ∈ l by rw [he]; exact List.getElem_mem hk)
          rw [← he] at c1 c2
          have hE := eqR_yes x y
          clear he
          go_wp2
          go_quiet (fail)
          go_wp2
          go_ret
          exact ⟨by rw [isIn_yes hm.out]; rfl, Base.below_drewN (next_allocs hB.out) _⟩
        · have hx2 := Lib.hid (show (x, y) ∉ l.take (k + 1) by
            rw [List.take_succ_eq_append_getElem hk, List.mem_append]
            rintro (h | h)
            · exact hx.out h
            · exact he (List.mem_singleton.1 h))
          have hE := eqR_no (a := l[k].1) (b := l[k].2) (c := x) (d := y) (fun h => he h.symm)
          clear he hx
          go_wp2
          go_quiet (fail)
          go_wp2
          go_roundw
          case rel => exact ⟨k + 1, by omega, by go_num, hx2, Lib.hid (Base.below_drewN hB.out _)⟩
          case measure => simp [intOf]; omega
      · have hm := Lib.hid (show (x, y) ∉ l by have := hx.out; rwa [List.take_of_length_le (by omega)] at this)
        go_wp2
        go_ret
        exact ⟨by rw [isIn_no hm.out]; rfl, next_allocs hB.out⟩
end Go.Proofs.Ythelkkbjflohgaa.Ds

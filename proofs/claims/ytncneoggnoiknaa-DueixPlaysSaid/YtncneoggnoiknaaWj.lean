/- The walks through the reference's Has and Same. -/
import Derived.Test.YtncneoggnoiknaaWa
import Derived.Test.YtncneoggnoiknaaRw
import Derived.Test.YtncneoggnoiknaaBase
import Derived.Deep.RegionHeld3
import Derived.Laws.StructEq
import Derived.Outline
namespace Go.Proofs.Ytncneoggnoiknaa.Du
open Go.RowKit Sp Ut Me
theorem eqR (a b : E) (W : World) : (Op.equalIn 10000 30 (.agg #[.int .i64 a.1, .string a.2]) (.agg #[.int .i64 b.1, .string b.2])).run Try.prog W = .ok (decide (a = b)) W := by
  rw [run_equalIn_struct W 9999 _ _ _ (by kernel_rfl) (by kernel_rfl)]
  obtain ⟨x, s⟩ := a
  obtain ⟨y, t⟩ := b
  by_cases h1 : x = y <;> by_cases h2 : s = t <;> simp [go_sem, Try.underlying30, Try.underlying3, Try.underlying9, h1, h2, eq_iff]
theorem eqD (a b : E) (W : World) : (Op.equalIn 10000 29 (.agg #[.int .i64 a.1, .string a.2]) (.agg #[.int .i64 b.1, .string b.2])).run Try.prog W = .ok (decide (a = b)) W := by
  rw [run_equalIn_struct W 9999 _ _ _ (by kernel_rfl) (by kernel_rfl)]
  obtain ⟨x, s⟩ := a
  obtain ⟨y, t⟩ := b
  by_cases h1 : x = y <;> by_cases h2 : s = t <;> simp [go_sem, Try.underlying29, Try.underlying3, Try.underlying9, h1, h2, eq_iff]
theorem eqR_is {x y : Int} {s t : ByteArray} {q : Bool} (h : decide (((x, s) : E) = (y, t)) = q) (W : World) : (Op.equalIn 10000 30 (.agg #[.int .i64 x, .string s]) (.agg #[.int .i64 y, .string t])).run Try.prog W = .ok q W := by
  rw [← h]; exact eqR (x, s) (y, t) W
theorem eqD_is {x y : Int} {s t : ByteArray} {q : Bool} (h : decide (((x, s) : E) = (y, t)) = q) (W : World) : (Op.equalIn 10000 29 (.agg #[.int .i64 x, .string s]) (.agg #[.int .i64 y, .string t])).run Try.prog W = .ok q W := by
  rw [← h]; exact eqD (x, s) (y, t) W
theorem has_no {l : List E} {e : E} (h : e ∉ l) : hasE l e = false := by
  cases hh : hasE l e
  · rfl
  · exact absurd (has_iff.1 hh) h
set_option maxHeartbeats 2000000 in
theorem rhas_any {w : World} {v : Value} {l : List E} (y : Int) (t : ByteArray) (hl : Ents w v l) (hn : l.length ≤ 1000000) : Calls Try.prog 11 #[v, .agg #[.int .i64 y, .string t]] w fun e w' => e = .returned (.bool (hasE l (y, t))) ∧ Below w.heap.size w w' := by
  rcases hl with ⟨rfl, a, cap, rfl, ha⟩ | ⟨h0, b, o, cap, rfl, hlt, hcap, hcell⟩
  · go_enter Try.func11, Try.ntmps11
    go_wp2
    go_rounds 1
    go_ret
    exact ⟨rfl, by (repeat' (first | assumption | exact Below.refl _ _ | apply Below.next_alloc | apply Below.drew | (apply Below.next; rotate_left; assumption)))⟩
  · have HC := Lib.hid hcell
    clear hcell
    have hbb := boxed2 (Below.refl (w.alloc (.cells #[.int .i64 y, .string t] 30)).heap.size (w.alloc (.cells #[.int .i64 y, .string t] 30)))
    obtain ⟨W0, hW0⟩ : ∃ W0, W0 = w.alloc (.cells #[.int .i64 y, .string t] 30) := ⟨_, rfl⟩
    have hB0 : Below w.heap.size w W0 := by rw [hW0]; exact (Below.refl _ w).alloc (Nat.le_refl _) _
    rw [← hW0] at hbb
    obtain ⟨q0, q1, q2⟩ := hbb
    go_enter Try.func11, Try.ntmps11
    go_wp2
    go_loopw [5] (fun i wr => ∃ k : Nat, k ≤ l.length ∧ i = .int .i64 k ∧ Hid ((y, t) ∉ l.take k) ∧ Hid (Below W0.heap.size W0 wr)) (fun i _ => l.length - (intOf i).toNat)
    case atStart => exact ⟨0, by omega, rfl, Lib.hid (by simp), Lib.hid (by rw [hW0]; exact Below.refl _ _)⟩
    case round =>
      obtain ⟨k, k1, rfl, hx, hB⟩ := hrel
      have hBw : Below w.heap.size w wr := hB0.trans (hB.out.mono hB0.size)
      by_cases hk : k < l.length
      · obtain ⟨c1, c2⟩ := HC.out k hk
        have c1 := (hBw.cell (p := ⟨b, o + k * 2, none⟩) hlt).trans c1
        have c2 := (hBw.cell (p := ⟨b, o + k * 2 + 1, none⟩) hlt).trans c2
        have b1 := (hB.out.cell (p := ⟨w.heap.size, 0, none⟩) q0).trans q1
        have b2 := (hB.out.cell (p := ⟨w.heap.size, 1, none⟩) q0).trans q2
        have i2 : (k : Int) < (l.length : Int) := by omega
        have i3 : (0 : Int) ≤ (k : Int) := by omega
        obtain ⟨x, s, hxs⟩ : ∃ x s, l[k] = (x, s) := ⟨_, _, rfl⟩
        rw [hxs] at c1 c2
        have HXS := Lib.hid hxs
        clear hxs hBw
        by_cases he : ((x, s) : E) = (y, t)
        · have EQ := fun W => eqR_is (decide_eq_true he) W
          have hm := Lib.hid (show hasE l (y, t) = true from has_iff.2 (by rw [← he, ← HXS.out]; exact List.getElem_mem hk))
          clear he
          go_wp2
          go_quiet (fail)
          go_wp2
          go_ret
          exact ⟨ret_b hm.out.symm, Below.next hB0 (Base.below_drewN hB.out _)⟩
        · have EQ := fun W => eqR_is (decide_eq_false he) W
          have hx2 := Lib.hid (show (y, t) ∉ l.take (k + 1) by
            rw [List.take_succ_eq_append_getElem hk, List.mem_append, HXS.out, List.mem_singleton]
            rintro (h | h)
            · exact hx.out h
            · exact he h.symm)
          clear he
          go_wp2
          go_quiet (fail)
          go_wp2
          go_roundw
          case rel => exact ⟨k + 1, by omega, by go_num, hx2, Lib.hid (Base.below_drewN hB.out _)⟩
          case measure => simp [intOf]; omega
      · have hm := Lib.hid (show hasE l (y, t) = false from has_no (by have := hx.out; rwa [List.take_of_length_le (by omega)] at this))
        clear hBw
        go_wp2
        go_ret
        exact ⟨ret_b hm.out.symm, Below.next hB0 hB.out⟩
def sameE (a b : List E) : Bool := decide (a = b)
theorem same_len {a b : List E} (h : a.length ≠ b.length) : sameE a b = false := decide_eq_false fun e => h (by rw [e])
set_option maxHeartbeats 4000000 in
theorem rsame_any {w : World} {v v' : Value} {l m : List E} (hl : Ents w v l) (hm : Ents w v' m) (hn : l.length ≤ 1000000) (hn' : m.length ≤ 1000000) : Calls Try.prog 18 #[v, v'] w fun e w' => e = .returned (.bool (sameE l m)) ∧ Below w.heap.size w w' := by
  by_cases hlen : l.length = m.length
  · rcases hl with ⟨rfl, a, cap, rfl, ha⟩ | ⟨h0, b, o, cap, rfl, hlt, hcap, hcell⟩
    · obtain rfl : m = [] := List.length_eq_zero_iff.1 (by simpa using hlen.symm)
      obtain ⟨a', c', rfl⟩ := hm.slice
      clear hlen hm
      go_enter Try.func18, Try.ntmps18
      go_wp2
      go_rounds 1
      go_ret
      exact ⟨rfl, by (repeat' (first | assumption | exact Below.refl _ _ | apply Below.next_alloc | apply Below.drew | (apply Below.next; rotate_left; assumption)))⟩
    · rcases hm with ⟨rfl, _⟩ | ⟨h0', b', o', cap', rfl, hlt', hcap', hcell'⟩
      · simp only [List.length_nil] at hlen; omega
      · have HC := Lib.hid hcell
        have HC' := Lib.hid hcell'
        clear hcell hcell'
        obtain ⟨n, hnn⟩ : ∃ n, l.length = n := ⟨_, rfl⟩
        have hnm : m.length = n := by omega
        have HN := Lib.hid hnn
        have HM := Lib.hid hnm
        rw [hnn] at hn h0 hcap ⊢
        rw [hnm] at hn' h0' hcap' ⊢
        clear hlen hnn hnm
        go_enter Try.func18, Try.ntmps18
        go_wp2
        go_loopw [5] (fun i wr => ∃ k : Nat, k ≤ n ∧ i = .int .i64 k ∧ Hid (l.take k = m.take k) ∧ Hid (Below w.heap.size w wr)) (fun i _ => n - (intOf i).toNat)
        case atStart => exact ⟨0, by omega, rfl, Lib.hid (by simp), Lib.hid (Below.refl _ _)⟩
        case round =>
          obtain ⟨k, k1, rfl, hx, hB⟩ := hrel
          by_cases hk : k < n
          · have hkl : k < l.length := by have := HN.out; omega
            have hkm : k < m.length := by have := HM.out; omega
            obtain ⟨c1, c2⟩ := HC.out k hkl
            obtain ⟨c3, c4⟩ := HC'.out k hkm
            have c1 := (hB.out.cell (p := ⟨b, o + k * 2, none⟩) hlt).trans c1
            have c2 := (hB.out.cell (p := ⟨b, o + k * 2 + 1, none⟩) hlt).trans c2
            have c3 := (hB.out.cell (p := ⟨b', o' + k * 2, none⟩) hlt').trans c3
            have c4 := (hB.out.cell (p := ⟨b', o' + k * 2 + 1, none⟩) hlt').trans c4
            have i2 : (k : Int) < (n : Int) := by omega
            have i3 : (0 : Int) ≤ (k : Int) := by omega
            obtain ⟨x, s, hxs⟩ : ∃ x s, l[k] = (x, s) := ⟨_, _, rfl⟩
            obtain ⟨z, u, hzu⟩ : ∃ z u, m[k] = (z, u) := ⟨_, _, rfl⟩
            rw [hxs] at c1 c2
            rw [hzu] at c3 c4
            have HXS := Lib.hid hxs
            have HZU := Lib.hid hzu
            clear hxs hzu
            by_cases he : ((x, s) : E) = (z, u)
            · have EQ := fun W => eqR_is (decide_eq_true he) W
              have hx2 := Lib.hid (show l.take (k + 1) = m.take (k + 1) by
                rw [List.take_succ_eq_append_getElem hkl, List.take_succ_eq_append_getElem hkm, hx.out, HXS.out, HZU.out, he])
              clear he
              go_wp2
              go_quiet (fail)
              go_wp2
              go_roundw
              case rel => exact ⟨k + 1, by omega, by go_num, hx2, Lib.hid (Base.below_drewN hB.out _)⟩
              case measure => simp [intOf]; omega
            · have EQ := fun W => eqR_is (decide_eq_false he) W
              have hm2 := Lib.hid (show sameE l m = false from decide_eq_false fun h => he (by
                have h1 := HXS.out
                have h2 := HZU.out
                rw [← h1, ← h2]
                simp only [h]))
              clear he
              go_wp2
              go_quiet (fail)
              go_wp2
              go_ret
              exact ⟨ret_b hm2.out.symm, Base.below_drewN hB.out _⟩
          · have hm2 := Lib.hid (show sameE l m = true from decide_eq_true (by
              have := hx.out
              rwa [List.take_of_length_le (by have := HN.out; omega), List.take_of_length_le (by have := HM.out; omega)] at this))
            go_wp2
            go_ret
            exact ⟨ret_b hm2.out.symm, hB.out⟩
  · have hs := Lib.hid (same_len hlen)
    obtain ⟨a, c, rfl⟩ := hl.slice
    obtain ⟨a', c', rfl⟩ := hm.slice
    have hne : ((l.length : Int) == (m.length : Int)) = false := by rw [beq_eq_false_iff_ne]; omega
    have hne2 : ((l.length : Int) != (m.length : Int)) = true := by rw [bne_iff_ne]; omega
    clear hl hm hlen
    go_enter Try.func18, Try.ntmps18
    go_wp2
    go_ret
    exact ⟨ret_b hs.out.symm, by (repeat' (first | assumption | exact Below.refl _ _ | apply Below.next_alloc | apply Below.drew | (apply Below.next; rotate_left; assumption)))⟩
end Go.Proofs.Ytncneoggnoiknaa.Du

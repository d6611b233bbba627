/- What the laws of this layer use besides: a rule in its box; errandref20's SameInts (gathered by gen_help.py). -/
import Derived.Test.YtkbohijlhhpfbaaGreatDoorTn
import Derived.Test.YtkbohijlhhpfbaaGreatDoorLc
namespace Go.Proofs.YtkbohijlhhpfbaaGreatDoor.Tm
open Go.RowKit Ru Ut Cw Ra
def BoxR (W : World) (b : Nat) (r : R) (sv : Nat → Value) : Prop := W.cell? ⟨b, 0, none⟩ = some (.int .u8 r.freq) ∧ W.cell? ⟨b, 1, none⟩ = some (.int .i64 r.interval) ∧ W.cell? ⟨b, 2, none⟩ = some (.int .i64 r.count) ∧ W.cell? ⟨b, 3, none⟩ = some (.int .u8 r.uk) ∧ W.cell? ⟨b, 4, none⟩ = some (.int .i64 r.us) ∧ W.cell? ⟨b, 5, none⟩ = some (sv 4) ∧ W.cell? ⟨b, 6, none⟩ = some (sv 5) ∧ W.cell? ⟨b, 7, none⟩ = some (sv 6) ∧ W.cell? ⟨b, 8, none⟩ = some (sv 7) ∧ W.cell? ⟨b, 9, none⟩ = some (sv 8) ∧ W.cell? ⟨b, 10, none⟩ = some (sv 9) ∧ W.cell? ⟨b, 11, none⟩ = some (sv 10) ∧ W.cell? ⟨b, 12, none⟩ = some (sv 11) ∧ W.cell? ⟨b, 13, none⟩ = some (sv 12) ∧ W.cell? ⟨b, 14, none⟩ = some (.int .i64 r.wkst)
theorem BoxR.keep {W W2 : World} {b : Nat} {r : R} {sv : Nat → Value} (h : BoxR W b r sv) (hb : b < W.heap.size) (hB : Below W.heap.size W W2) : BoxR W2 b r sv := by
  have k : ∀ i v, W.cell? ⟨b, i, none⟩ = some v → W2.cell? ⟨b, i, none⟩ = some v := fun i v hv => (hB.cell (p := ⟨b, i, none⟩) hb).trans hv
  obtain ⟨h0, h1, h2, h3, h4, h5, h6, h7, h8, h9, h10, h11, h12, h13, h14⟩ := h
  exact ⟨k _ _ h0, k _ _ h1, k _ _ h2, k _ _ h3, k _ _ h4, k _ _ h5, k _ _ h6, k _ _ h7, k _ _ h8, k _ _ h9, k _ _ h10, k _ _ h11, k _ _ h12, k _ _ h13, k _ _ h14⟩
theorem BoxR.new (w : World) (r : R) (sv : Nat → Value) (t : TypeId) : BoxR (w.alloc (.cells (ruleC r sv) t)) w.heap.size r sv :=
  ⟨(World.cell?_alloc_new w (ruleC r sv) t 0).trans rfl, (World.cell?_alloc_new w (ruleC r sv) t 1).trans rfl, (World.cell?_alloc_new w (ruleC r sv) t 2).trans rfl, (World.cell?_alloc_new w (ruleC r sv) t 3).trans rfl, (World.cell?_alloc_new w (ruleC r sv) t 4).trans rfl, (World.cell?_alloc_new w (ruleC r sv) t 5).trans rfl, (World.cell?_alloc_new w (ruleC r sv) t 6).trans rfl, (World.cell?_alloc_new w (ruleC r sv) t 7).trans rfl, (World.cell?_alloc_new w (ruleC r sv) t 8).trans rfl, (World.cell?_alloc_new w (ruleC r sv) t 9).trans rfl, (World.cell?_alloc_new w (ruleC r sv) t 10).trans rfl, (World.cell?_alloc_new w (ruleC r sv) t 11).trans rfl, (World.cell?_alloc_new w (ruleC r sv) t 12).trans rfl, (World.cell?_alloc_new w (ruleC r sv) t 13).trans rfl, (World.cell?_alloc_new w (ruleC r sv) t 14).trans rfl⟩
theorem size1 {w W : World} {o : Obj} (h : Below (w.alloc o).heap.size (w.alloc o) W) : w.heap.size < W.heap.size := by
  have := h.size; rw [World.size_alloc] at this; omega
theorem Below.next_allocs'' {w W : World} {o p : Obj} (h : Below ((w.alloc o).alloc p).heap.size ((w.alloc o).alloc p) W) : Below (w.alloc o).heap.size (w.alloc o) W := Below.next_allocs' h
theorem two_cell {w w1 : World} {o : Obj} {A : Array Value} {T : TypeId} (hB : Below ((w.alloc o).alloc (.cells A T)).heap.size ((w.alloc o).alloc (.cells A T)) w1) (i : Nat) {v : Value} (h : A[i]? = some v) : w1.cell? ⟨w.heap.size + 1, i, none⟩ = some v := by
  have h0 := World.cell?_alloc_new (w.alloc o) A T i
  rw [World.size_alloc] at h0
  exact (hB.cell (p := ⟨w.heap.size + 1, i, none⟩) (by simp only [World.size_alloc]; omega)).trans (h0.trans h)
theorem size2 {w w1 : World} {o p : Obj} (hB : Below ((w.alloc o).alloc p).heap.size ((w.alloc o).alloc p) w1) : w.heap.size + 1 < w1.heap.size := by
  have := hB.size
  simp only [World.size_alloc] at this
  omega
theorem kk_two {w : World} {A : Array Value} {T : TypeId} {b : Nat} {r : R} {sv : Nat → Value} (h : BoxR w b r sv) (hb : b < w.heap.size) : BoxR (w.alloc (.cells A T)) b r sv := h.keep hb (Below.next_alloc (Below.refl _ _) _)
theorem same_take {l m : List Int} (h : l.length = m.length) {k : Nat} (hk : l.length ≤ k) (ht : l.take k = m.take k) : l = m := by
  rwa [List.take_of_length_le hk, List.take_of_length_le (by omega)] at ht
theorem rSame_any {w : World} {v u : Value} {l m : List Int} (hl : Ints w v l) (hm : Ints w u m) (hn : l.length ≤ 1000000) (hn2 : m.length ≤ 1000000) : Calls Tryz.prog 14 #[v, u] w fun e w' => e = .returned (.bool (decide (l = m))) ∧ Below w.heap.size w w' := by
  by_cases hlen : l.length = m.length
  · rcases hl with ⟨rfl, a1, c1, rfl, -⟩ | ⟨h0, b, o, cap, rfl, hlt, hcap, hcell⟩
    · obtain rfl : m = [] := List.length_eq_zero_iff.1 hlen.symm
      obtain ⟨a2, c2, rfl⟩ := (ints_slice hm)
      clear hm hlen
      go_enter Tryz.func14, Tryz.ntmps14
      go_wp2
      refine wp_loop_rounds 1 ?_
      rw [rounds_succ]
      go_wp2
      go_ret
      exact ⟨rfl, by (repeat' (first | assumption | exact Below.refl _ _ | apply Below.next_alloc | apply Below.drew | (apply Below.next; rotate_left; assumption)))⟩
    · rcases hm with ⟨rfl, -⟩ | ⟨-, b2, o2, cap2, rfl, hlt2, hcap2, hcell2⟩
      · exact absurd hlen (by rw [List.length_nil]; omega)
      have HC := Lib.hid hcell
      have HD := Lib.hid hcell2
      rw [← hlen]
      have HL := Lib.hid hlen
      clear hcell hcell2
      go_enter Tryz.func14, Tryz.ntmps14
      go_wp2
      go_loopw [5] (fun i wr => ∃ k : Nat, k ≤ l.length ∧ i = .int .i64 k ∧ Hid (l.take k = m.take k) ∧ Hid (Below w.heap.size w wr)) (fun i _ => l.length - (intOf i).toNat)
      case atStart => exact ⟨0, by omega, rfl, Lib.hid (by simp), Lib.hid (Below.refl _ _)⟩
      case round =>
        obtain ⟨k, k1, rfl, hx, hB⟩ := hrel
        by_cases hk : k < l.length
        · have q1 := (hB.out.cell (p := ⟨b, o + k, none⟩) hlt).trans (HC.out k hk)
          have q2 := (hB.out.cell (p := ⟨b2, o2 + k, none⟩) hlt2).trans (HD.out k (by omega))
          have i2 : (k : Int) < (l.length : Int) := by omega
          have i3 : (0 : Int) ≤ (k : Int) := by omega
          have hs := Lib.hid (List.take_succ_eq_append_getElem hk)
          have hs2 := Lib.hid (List.take_succ_eq_append_getElem (show k < m.length by omega))
          obtain ⟨x, hx1⟩ : ∃ x, l[k] = x := ⟨_, rfl⟩
          obtain ⟨y, hy1⟩ : ∃ y, m[k]'(by omega) = y := ⟨_, rfl⟩
          rw [hx1] at q1 hs
          rw [hy1] at q2 hs2
          clear hlen hx1 hy1
          by_cases he : x = y
          · have t1 : (x != y) = false := by simp [he]
            have hx2 := Lib.hid (show l.take (k + 1) = m.take (k + 1) by rw [hs.out, hs2.out, hx.out, he])
            clear he
            go_wp2
            go_quiet (fail)
            go_wp2
            go_roundw
            case rel => exact ⟨k + 1, by omega, by go_num, hx2, Lib.hid (Base.below_drewN hB.out _)⟩
            case measure => simp [intOf]; omega
          · have t1 : (x != y) = true := by simp [he]
            have hr := Lib.hid (decide_eq_false (show ¬ l = m from fun h => by
              have h1 := hs.out
              rw [h, hs2.out] at h1
              have := List.append_inj_right' h1 rfl
              exact he (List.cons.inj this).1.symm))
            clear he
            go_wp2
            go_quiet (fail)
            go_wp2
            go_ret
            exact ⟨ret_b hr.out.symm, Base.below_drewN hB.out _⟩
        · have hr := Lib.hid (decide_eq_true (same_take HL.out (by omega) hx.out))
          go_wp2
          go_ret
          exact ⟨ret_b hr.out.symm, hB.out⟩
  · have hr := Lib.hid (decide_eq_false (show ¬ l = m from fun h => hlen (by rw [h])))
    obtain ⟨a1, c1, rfl⟩ := (ints_slice hl)
    obtain ⟨a2, c2, rfl⟩ := (ints_slice hm)
    have t0 : ((l.length : Int) != (m.length : Int)) = true := by simp; omega
    clear hl hm hlen
    go_enter Tryz.func14, Tryz.ntmps14
    go_wp2
    go_ret
    exact ⟨ret_b hr.out.symm, by (repeat' (first | assumption | exact Below.refl _ _ | apply Below.next_alloc | apply Below.drew | (apply Below.next; rotate_left; assumption)))⟩
theorem secsOf_few (r : R) (start a b : Int) : (secsOf r start a b).length ≤ 86400 := by
  rw [secs_eq]
  unfold rsecs
  split
  · exact RH_le r start a b (Nat.le_refl _)
  · simp
end Go.Proofs.YtkbohijlhhpfbaaGreatDoor.Tm

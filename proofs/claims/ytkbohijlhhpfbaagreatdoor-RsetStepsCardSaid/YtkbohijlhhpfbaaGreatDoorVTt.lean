import Derived.Test.YtkbohijlhhpfbaaGreatDoorVTn
import Derived.Test.YtkbohijlhhpfbaaGreatDoorVLc
/- What the laws of this layer use besides: a rule in its box; errandref20's SameInts (gathered by gen_help.py). -/
namespace Go.Proofs.YtkbohijlhhpfbaaGreatDoor.Tm
open Go.RowKit Ru Ut Cw Ra
def BoxR (W : World) (b : Nat) (r : R) (sv : Nat → Value) : Prop := W.cell? ⟨b, 0, none⟩ = some (.int .u8 r.freq) ∧ W.cell? ⟨b, 1, none⟩ = some (.int .i64 r.interval) ∧ W.cell? ⟨b, 2, none⟩ = some (.int .i64 r.count) ∧ W.cell? ⟨b, 3, none⟩ = some (.int .u8 r.uk) ∧ W.cell? ⟨b, 4, none⟩ = some (.int .i64 r.us) ∧ W.cell? ⟨b, 5, none⟩ = some (sv 4) ∧ W.cell? ⟨b, 6, none⟩ = some (sv 5) ∧ W.cell? ⟨b, 7, none⟩ = some (sv 6) ∧ W.cell? ⟨b, 8, none⟩ = some (sv 7) ∧ W.cell? ⟨b, 9, none⟩ = some (sv 8) ∧ W.cell? ⟨b, 10, none⟩ = some (sv 9) ∧ W.cell? ⟨b, 11, none⟩ = some (sv 10) ∧ W.cell? ⟨b, 12, none⟩ = some (sv 11) ∧ W.cell? ⟨b, 13, none⟩ = some (sv 12) ∧ W.cell? ⟨b, 14, none⟩ = some (.int .i64 r.wkst)
theorem BoxR.keep {W W2 : World} {b : Nat} {r : R} {sv : Nat → Value} (h : BoxR W b r sv) (hb : b < W.heap.size) (hB : Below W.heap.size W W2) : BoxR W2 b r sv := by
 have k : ∀ i v, W.cell? ⟨b, i, none⟩ = some v → W2.cell? ⟨b, i, none⟩ = some v := fun i v hv => (hB.cell (p := ⟨b, i, none⟩) hb).trans hv
 obtain ⟨h0, h1, h2, h3, h4, h5, h6, h7, h8, h9, h10, h11, h12, h13, h14⟩ := h
 exact ⟨k _ _ h0, k _ _ h1, k _ _ h2, k _ _ h3, k _ _ h4, k _ _ h5, k _ _ h6, k _ _ h7, k _ _ h8, k _ _ h9, k _ _ h10, k _ _ h11, k _ _ h12, k _ _ h13, k _ _ h14⟩
theorem BoxR.new (w : World) (r : R) (sv : Nat → Value) (t : TypeId) : BoxR (w.alloc (.cells (ruleC r sv) t)) w.heap.size r sv :=
 ⟨(World.cell?_alloc_new w (ruleC r sv) t 0).trans rfl, (World.cell?_alloc_new w (ruleC r sv) t 1).trans rfl, (World.cell?_alloc_new w (ruleC r sv) t 2).trans rfl, (World.cell?_alloc_new w (ruleC r sv) t 3).trans rfl, (World.cell?_alloc_new w (ruleC r sv) t 4).trans rfl, (World.cell?_alloc_new w (ruleC r sv) t 5).trans rfl, (World.cell?_alloc_new w (ruleC r sv) t 6).trans rfl, (World.cell?_alloc_new w (ruleC r sv) t 7).trans rfl, (World.cell?_alloc_new w (ruleC r sv) t 8).trans rfl, (World.cell?_alloc_new w (ruleC r sv) t 9).trans rfl, (World.cell?_alloc_new w (ruleC r sv) t 10).trans rfl, (World.cell?_alloc_new w (ruleC r sv) t 11).trans rfl, (World.cell?_alloc_new w (ruleC r sv) t 12).trans rfl, (World.cell?_alloc_new w (ruleC r sv) t 13).trans rfl, (World.cell?_alloc_new w (ruleC r sv) t 14).trans rfl⟩
theorem size1 {w W : World} {o : Obj} (h : Below (w.alloc o).heap.size (w.alloc o) W) : w.heap.size < W.heap.size := by
 have := h.size; rw [World.size_alloc] at this; omega
theorem same_take {l m : List Int} (h : l.length = m.length) {k : Nat} (hk : l.length ≤ k) (ht : l.take k = m.take k) : l = m := by
 rwa [List.take_of_length_le hk, List.take_of_length_le (by omega)] at ht
theorem rSame_any {w : World} {v u : Value} {l m : List Int} (hl : Ints w v l) (hm : Ints w u m) (hn : l.length ≤ 1000000) (hn2 : m.length ≤ 1000000) : Calls Tryz.prog 14 #[v, u] w fun e w' => e = .returned (.bool (decide (l = m))) ∧ Below w.heap.size w w' := by
 by_cases hlen : l.length = m.length
 ·rcases hl with ⟨rfl, a1, c1, rfl, -⟩ | ⟨h0, b, o, cap, rfl, hlt, hcap, hcell⟩
  ·obtain rfl : m = [] := List.length_eq_zero_iff.1 hlen.symm
   obtain ⟨a2, c2, rfl⟩ := (ints_slice hm)
   clear hm hlen
   go_enter Tryz.func14, Tryz.ntmps14
   go_wp2
   refine wp_loop_rounds 1 ?_
   rw [rounds_succ]
   go_wp2
   go_ret
   exact ⟨rfl, by (repeat' (first|assumption|exact Below.refl _ _|apply Below.next_alloc|apply Below.drew|(apply Below.next;rotate_left;assumption)))⟩
  ·rcases hm with ⟨rfl, -⟩ | ⟨-, b2, o2, cap2, rfl, hlt2, hcap2, hcell2⟩
   ·exact absurd hlen (by rw [List.length_nil]; omega)
   have HC := Lib.hid hcell
   have HD := Lib.hid hcell2
   rw [← hlen]
   have HL := Lib.hid hlen
   clear hcell hcell2
   go_enter Tryz.func14, Tryz.ntmps14
   go_wp2
   go_loopw [5] (fun i wr => ∃ k : Nat, k ≤ l.length ∧ i = .int .i64 k ∧ Hid (l.take k = m.take k) ∧ Hid (Below w.heap.size w wr)) (fun i _ => l.length - (intOf i).toNat)
   case atStart => exact ⟨0, by omega, rfl, Lib.hid (by simp), Lib.hid (Below.refl _ _)⟩
   case round =>
    obtain ⟨k, k1, rfl, hx, hB⟩ := hrel
    by_cases hk : k < l.length
    ·have q1 := (hB.out.cell (p := ⟨b, o + k, none⟩) hlt).trans (HC.out k hk)
     have q2 := (hB.out.cell (p := ⟨b2, o2 + k, none⟩) hlt2).trans (HD.out k (by omega))
     have i2 : (k : Int) < (l.length : Int) := by omega
     have i3 : (0 : Int) ≤ (k : Int) := by omega
     have hs := Lib.hid (List.take_succ_eq_append_getElem hk)
     have hs2 := Lib.hid (List.take_succ_eq_append_getElem (show k < m.length by omega))
     obtain ⟨x, hx1⟩ : ∃ x, l[k] = x := ⟨_, rfl⟩
     obtain ⟨y, hy1⟩ : ∃ y, m[k]'(by omega) = y := ⟨_, rfl⟩
     rw [hx1] at q1 hs
     rw [hy1] at q2 hs2
     clear hlen hx1 hy1
     by_cases he : x = y
     ·have t1 : (x != y) = false := by simp [he]
      have hx2 := Lib.hid (show l.take (k + 1) = m.take (k + 1) by rw [hs.out, hs2.out, hx.out, he])
      clear he
      go_wp2
      go_quiet (fail)
      go_wp2
      go_roundw
      case rel => exact ⟨k + 1, by omega, by go_num, hx2, Lib.hid (Base.below_drewN hB.out _)⟩
      case measure => simp [intOf]; omega
     ·have t1 : (x != y) = true := by simp [he]
      have hr := Lib.hid (decide_eq_false (show ¬ l = m from fun h => by
       have h1 := hs.out
       rw [h, hs2.out] at h1
       have := List.append_inj_right' h1 rfl
       exact he (List.cons.inj this).1.symm))
      clear he
      go_wp2
      go_quiet (fail)
      go_wp2
      go_ret
      exact ⟨ret_b hr.out.symm, Base.below_drewN hB.out _⟩
    ·have hr := Lib.hid (decide_eq_true (same_take HL.out (by omega) hx.out))
     go_wp2
     go_ret
     exact ⟨ret_b hr.out.symm, hB.out⟩
 ·have hr := Lib.hid (decide_eq_false (show ¬ l = m from fun h => hlen (by rw [h])))
  obtain ⟨a1, c1, rfl⟩ := (ints_slice hl)
  obtain ⟨a2, c2, rfl⟩ := (ints_slice hm)
  have t0 : ((l.length : Int) != (m.length : Int)) = true := by simp; omega
  clear hl hm hlen
  go_enter Tryz.func14, Tryz.ntmps14
  go_wp2
  go_ret
  exact ⟨ret_b hr.out.symm, by (repeat' (first|assumption|exact Below.refl _ _|apply Below.next_alloc|apply Below.drew|(apply Below.next;rotate_left;assumption)))⟩
end Go.Proofs.YtkbohijlhhpfbaaGreatDoor.Tm
/- The seconds of a stretch are those that pass one by one: the plain law. -/
namespace Go.Proofs.YtkbohijlhhpfbaaGreatDoor.Tm
open Ru
theorem mem_sec {a b h m x : Int} {ss : List Int} : x ∈ secOut a b h m ss ↔ ∃ s ∈ ss, x = h * 3600 + m * 60 + s ∧ a ≤ x ∧ x < b := by
 unfold secOut
 rw [List.mem_filter, List.mem_map, Bool.and_eq_true, decide_eq_true_iff, decide_eq_true_iff]
 constructor
 ·rintro ⟨⟨s, hs, rfl⟩, h1, h2⟩
  exact ⟨s, hs, rfl, h1, h2⟩
 ·rintro ⟨s, hs, rfl, h1, h2⟩
  exact ⟨⟨s, hs, rfl⟩, h1, h2⟩
theorem rise_sec {a b h m : Int} {ss : List Int} (hr : ss.Pairwise (· < ·)) : (secOut a b h m ss).Pairwise (· < ·) := by
 unfold secOut
 refine List.Pairwise.filter _ ?_
 rw [List.pairwise_map]
 exact hr.imp fun h => by omega
theorem rise_min {a b h : Int} {ms ss : List Int} (hm : ms.Pairwise (· < ·)) (hs : ss.Pairwise (· < ·)) (bs : ∀ x ∈ ss, 0 ≤ x ∧ x < 60) : (minOut a b h ms ss).Pairwise (· < ·) := by
 unfold minOut
 rw [List.pairwise_flatMap]
 refine ⟨fun m _ => rise_sec hs, hm.imp fun {m m'} hlt x hx y hy => ?_⟩
 obtain ⟨s, h1, rfl, -⟩ := mem_sec.1 hx
 obtain ⟨s', h2, rfl, -⟩ := mem_sec.1 hy
 have := bs s h1
 have := bs s' h2
 omega
theorem mem_min {a b h x : Int} {ms ss : List Int} : x ∈ minOut a b h ms ss ↔ ∃ m ∈ ms, ∃ s ∈ ss, x = h * 3600 + m * 60 + s ∧ a ≤ x ∧ x < b := by
 unfold minOut
 rw [List.mem_flatMap]
 constructor
 ·rintro ⟨m, h1, h2⟩; exact ⟨m, h1, mem_sec.1 h2⟩
 ·rintro ⟨m, h1, h2⟩; exact ⟨m, h1, mem_sec.2 h2⟩
theorem rise_RH (r : R) (start a b : Int) (k : Nat) : (RH r start a b k).Pairwise (· < ·) := by
 unfold RH
 rw [List.pairwise_flatMap]
 refine ⟨fun h _ => rise_min ((upI_rise 60).filter _) ((upI_rise 60).filter _) (filt_in _ _), ((upI_rise k).filter _).imp fun {h h'} hlt x hx y hy => ?_⟩
 obtain ⟨m, m1, s, s1, rfl, -⟩ := mem_min.1 hx
 obtain ⟨m', m2, s', s2, rfl, -⟩ := mem_min.1 hy
 have := filt_in _ _ m m1
 have := filt_in _ _ m' m2
 have := filt_in _ _ s s1
 have := filt_in _ _ s' s2
 omega
theorem mem_RH {r : R} {start a b x : Int} : x ∈ RH r start a b 24 ↔ 0 ≤ x ∧ x < 86400 ∧ a ≤ x ∧ x < b ∧ hOk r start (x / 3600) = true ∧ mOk r start (x / 60 % 60) = true ∧ sOk r start (x % 60) = true := by
 unfold RH
 rw [List.mem_flatMap]
 constructor
 ·rintro ⟨h, h1, h2⟩
  obtain ⟨m, m1, s, s1, rfl, ha, hb⟩ := mem_min.1 h2
  have e1 := filt_in _ _ h h1
  have e2 := filt_in _ _ m m1
  have e3 := filt_in _ _ s s1
  have d1 : (h * 3600 + m * 60 + s) / 3600 = h := by omega
  have d2 : (h * 3600 + m * 60 + s) / 60 % 60 = m := by omega
  have d3 : (h * 3600 + m * 60 + s) % 60 = s := by omega
  rw [d1, d2, d3]
  exact ⟨by omega, by omega, ha, hb, (List.mem_filter.1 h1).2, (List.mem_filter.1 m1).2, (List.mem_filter.1 s1).2⟩
 ·rintro ⟨h0, h1, ha, hb, p1, p2, p3⟩
  refine ⟨x / 3600, List.mem_filter.2 ⟨upI_mem.2 (by omega), p1⟩, mem_min.2 ⟨x / 60 % 60, List.mem_filter.2 ⟨upI_mem.2 (by omega), p2⟩, x % 60, List.mem_filter.2 ⟨upI_mem.2 (by omega), p3⟩, by omega, ha, hb⟩⟩
def rng (a : Int) (n : Nat) : List Int := (List.range n).map fun k : Nat => a + (k : Int)
theorem rng_mem {a x : Int} {n : Nat} : x ∈ rng a n ↔ a ≤ x ∧ x < a + n := by
 unfold rng
 rw [List.mem_map]
 constructor
 ·rintro ⟨k, hk, rfl⟩
  have := List.mem_range.1 hk
  omega
 ·rintro ⟨h0, h1⟩
  exact ⟨(x - a).toNat, List.mem_range.2 (by omega), by omega⟩
theorem rng_rise (a : Int) (n : Nat) : (rng a n).Pairwise (· < ·) := by
 unfold rng
 rw [List.pairwise_map]
 exact List.pairwise_lt_range.imp fun h => by omega
def one (r : R) (start a : Int) (n : Nat) : List Int := (rng a n).filter (passT r start)
theorem secs_one (r : R) {start a b : Int} (ha : 0 ≤ a) (hab : a ≤ b) (hb : b ≤ 86400) : secsOf r start a b = one r start a (b - a).toNat := by
 rw [secs_eq]
 unfold rsecs one
 cases hm : mayT r start
 ·rw [if_neg (fun h => by cases h.1)]
  symm
  rw [List.filter_eq_nil_iff]
  intro x _
  unfold passT
  rw [hm]
  simp
 ·rw [if_pos ⟨rfl, ha, hab, hb⟩]
  refine rise_ext (rise_RH ..) ((rng_rise ..).filter _) fun x => ?_
  rw [mem_RH, List.mem_filter, rng_mem, pass_eq]
  unfold rpassT
  rw [hm]
  simp only [Bool.true_and, Bool.and_eq_true, decide_eq_true_iff]
  constructor
  ·rintro ⟨h0, h1, h2, h3, h4, h5, h6⟩
   exact ⟨by omega, h0, h1, h4, h5, h6⟩
  ·rintro ⟨h, h0, h1, h4, h5, h6⟩
   exact ⟨h0, h1, by omega, by omega, h4, h5, h6⟩
end Go.Proofs.YtkbohijlhhpfbaaGreatDoor.Tm

/- The walk through free: has a text a way to none that is left? -/
import Derived.Test.YthelkkbjflohgaaGi
import Derived.Maps.RangeWalk
namespace Go.Proofs.Ythelkkbjflohgaa.Ds
open Go.RowKit Ut Gr Go.Maps
noncomputable def freeB (l : List (ByteArray × ByteArray)) (L : List ByteArray) (s : ByteArray) : Bool := !(L.any fun y => way l s y)
theorem keyOf_s {key : Value} {k : Lit} (h : keyOf Try.prog 9 key = some k) : ∃ x : ByteArray, key = .string x ∧ k = kl x ∧ x.size ≤ maxLen := by
  have hk := Try.underlying9
  cases key <;> simp [keyOf, hk, mapKey] at h
  rename_i s
  obtain ⟨hs, rfl⟩ := h
  exact ⟨s, rfl, rfl, hs⟩
theorem free_yes {l : List (ByteArray × ByteArray)} {L S : List ByteArray} {s : ByteArray} (hS : ∀ x, x ∈ S ↔ Leads l s x) (h : ∀ x ∈ S, x ∉ L) : freeB l L s = true := by
  unfold freeB
  rw [Bool.not_eq_true', List.any_eq_false]
  intro y hy hw
  exact h y ((hS y).2 (way_iff.1 hw)) hy
theorem free_no {l : List (ByteArray × ByteArray)} {L : List ByteArray} {s x : ByteArray} (hx : x ∈ L) (h : Leads l s x) : freeB l L s = false := by
  unfold freeB
  rw [Bool.not_eq_false', List.any_eq_true]
  exact ⟨x, hx, way_iff.2 h⟩
set_option maxHeartbeats 4000000 in
set_option maxRecDepth 100000 in
theorem free_any {w : World} {v : Value} {l : List (ByteArray × ByteArray)} {L : List ByteArray} {m nL : Nat} (s : ByteArray) (hl : Edgs w v l) (hn : l.length ≤ 1000) (hz : Short l) (hL : MapS w m nL L) :
    Calls Try.prog 33 #[v, .string s, .map (some m)] w fun e w' => e = .returned (.bool (freeB l L s)) ∧ Below w.heap.size w w' := by
  have FV := Lib.hid (visit_any s hl hn hz)
  have hL := Lib.hid hL
  clear hl hz
  go_enter Try.func33, Try.ntmps33
  go_wp2_with (first
    | (go_at_call 37; (with_reducible refine FV.out.mono ?_); rintro e w1 ⟨S, rfl, ⟨D, hown, hD⟩, hS, hB1⟩; have hD := Lib.hid hD; have hS := Lib.hid hS; have hown := Lib.hid hown; have b1 := Lib.hid hB1)
    | (at_range; refine wpList_range_own _ rfl _ 55 rfl 9 3 lawS Try.underlying55 _ w.heap.size 1000 D rfl hown.out ?_; intro w2 hrg0 hg0 hs0))
  go_frame
  have hb0 := Lib.hid (b1.out.grown hg0 b1.out.size (fun _ h => by cases h))
  have hr0 := b1.out.size
  go_loopw [7] (fun _ wr => ∃ left cnt, wr.ranges Try.prog 9 (plainElem Try.prog 3) w.heap.size w1.heap.size 1000 D left cnt ∧ Hid ((∀ z, left z = true → Maps.has D z = true) ∧ ∀ x ∈ S, left (kl x) = false → x ∉ L) ∧ Hid (Below w.heap.size w wr)) (fun _ wr => wr.rangeLeft w.heap.size w1.heap.size)
  case atStart =>
    refine ⟨_, _, hrg0, Lib.hid ⟨fun z h => h, fun x hx h => ?_⟩, hb0⟩
    rw [(hD.out.2 x).2, isIn_yes hx] at h
    cases h
  case round =>
    obtain ⟨left, cnt, hrg, hleft, hB⟩ := hrel
    go_wp2_with (first
      | (at_next; refine wpList_next_ranges _ rfl _ rfl 9 lawS _ Value.string (Value.int .i64) (fun key k h => by obtain ⟨x, rfl, _⟩ := keyOf_s h; exact ⟨x, rfl⟩) (fun v y hv => by obtain ⟨c, rfl, _⟩ := plainElem_int_inv Try.underlying3 hv; exact ⟨c, rfl⟩) w.heap.size w1.heap.size 1000 D left cnt rfl hrg ?_ ?_))
    · intro _ hl0
      have hr := Lib.hid (free_yes hS.out (fun x hx => hleft.out.2 x hx (hl0 (kl x))))
      go_wp2
      go_ret
      exact ⟨by rw [hr.out]; rfl, hB.out⟩
    · intro x c k y1 y2 w3 cnt1 hkey hlx hy hat hrg1 hlt hg1 hs1 hen
      obtain ⟨x', hx', rfl, hxs⟩ := keyOf_s hkey
      cases hx'
      have hxS : x ∈ S := by
        have h1 := hleft.out.1 _ hlx
        rw [(hD.out.2 x).2] at h1
        exact isIn_iff.1 h1
      have hm := hL.out.lt
      have hB3 := Lib.hid (hB.out.grown hg1 hB.out.size (fun j hj => by cases hj; exact hr0))
      have hL3 := Lib.hid (hL.out.below hB3.out)
      replace hat := Lib.hid hat
      replace hlx := Lib.hid hlx
      by_cases hxL : x ∈ L
      · have hr := Lib.hid (free_no hxL ((hS.out x).1 hxS))
        go_wp2_with (first
          | (at_lookup; refine look_set rfl _ _ rfl m nL L rfl hL3.out x rfl hxs 1 (by rw [isIn_yes hxL]; rfl) ?_))
        go_ret
        exact ⟨by rw [hr.out]; rfl, hB3.out⟩
      · have hnext := Lib.hid (show (∀ z, (left z && !z.sameKey (kl x)) = true → Maps.has D z = true) ∧ ∀ u ∈ S, (left (kl u) && !(kl u).sameKey (kl x)) = false → u ∉ L from ⟨fun z h => hleft.out.1 z (by rw [Bool.and_eq_true] at h; exact h.1), fun u hu h => by
          by_cases he : u = x
          · subst he; exact hxL
          · have hk : (kl u).sameKey (kl x) = false := sameKey_ne (fun e => he (kl_inj e))
            rw [hk] at h
            exact hleft.out.2 u hu (by simpa using h)⟩)
        go_wp2_with (first
          | (at_lookup; refine look_set rfl _ _ rfl m nL L rfl hL3.out x rfl hxs 0 (by rw [isIn_no hxL]; rfl) ?_))
        go_roundw
        case rel => exact ⟨_, cnt1, hrg1, hnext, hB3⟩
        case measure => rw [hrg1.left_eq, hrg.left_eq]; exact hlt
end Go.Proofs.Ythelkkbjflohgaa.Ds

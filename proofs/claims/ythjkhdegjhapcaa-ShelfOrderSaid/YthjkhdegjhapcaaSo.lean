/- The walks through errandlaw30's laws: ShelfPuts and ShelfFinds. -/
import Derived.Test.YthjkhdegjhapcaaSn
namespace Go.Proofs.Ythjkhdegjhapcaa.Sa
open Go.RowKit Sp
theorem few_len {es : List Ent} (h : few es = true) : es.length ≤ 60 := by
  unfold few at h
  exact of_decide_eq_true (Bool.and_eq_true_iff.mp h).1
theorem sortedB_of {es : List Ent} (h : Sorted es) : sortedB es = true := sortedB_true fun j hj => by
  have := List.pairwise_iff_getElem.mp h j (j + 1) (by omega) hj (by omega)
  exact this
theorem drop_g {v : Value} {es : List Ent} {t : ByteArray} {w : World} (hE : Ents w v es) (hs : Sorted es) (hn : es.length ≤ 1000) :
    Calls Try.prog 10 #[v, .string t] w (Gives (rdrop es t) w) := (drop_any t hE hs hn).mono fun _ _ h => h.gives (pdrop_eq t hs)
theorem rDrop_g {v : Value} {es : List Ent} {t : ByteArray} {w : World} (hE : Ents w v es) (hn : es.length ≤ 1000) :
    Calls Try.prog 13 #[v, .string t] w (Gives (rdrop es t) w) := (rDrop_any t hE hn).mono fun _ _ h => h.gives rfl
theorem back_g {v : Value} {es : List Ent} {w : World} (hE : Ents w v es) (hn : es.length ≤ 1000) :
    Calls Try.prog 12 #[v] w (Gives es w) := (back_any hE hn).mono fun _ _ h => h.gives rfl
theorem own_g {v : Value} {es : List Ent} {w : World} (hE : Ents w v es) (hn : es.length ≤ 1000) :
    Calls Try.prog 15 #[v] w (Gives es w) := (own_any hE hn).mono fun _ _ h => h.gives rfl
theorem same_g {va vb : Value} {xs : List Ent} {w : World} (hA : Ents w va xs) (hB : Ents w vb xs) (hna : xs.length ≤ 1000000) :
    Calls Try.prog 11 #[va, vb] w fun e w' => e = .returned (.bool true) ∧ Below w.heap.size w w' := by
  have := same_any hA hB hna
  rwa [decide_eq_true (rfl : xs = xs)] at this
theorem sorted_g {v : Value} {es : List Ent} {w : World} (hE : Ents w v es) (hs : Sorted es) (hn : es.length ≤ 1000000) :
    Calls Try.prog 14 #[v] w fun e w' => e = .returned (.bool true) ∧ Below w.heap.size w w' := by
  have := sorted_any hE hn
  rwa [sortedB_of hs] at this
theorem mk_few {es : List Ent} (h : es.length ≤ 60) : (mk es).length ≤ 60 := Nat.le_trans (mk_len es) h
theorem rd_few {es : List Ent} (h : es.length ≤ 60) (t : ByteArray) : (rdrop (mk es) t).length ≤ 60 := Nat.le_trans (rdrop_len _ _) (mk_few h)
/-- A call made a list of texts that reads as the keys. -/
theorem MadeS.cells {es : List Ent} {w w' : World} {e : Ending} (h : MadeS es w e w') : ∃ a cap, e = .returned (.slice a es.length cap) ∧ Below w.heap.size w w' ∧
    (0 < es.length → ∃ g, a = some ⟨g, 0, none⟩ ∧ g < w'.heap.size ∧ es.length ≤ cap ∧ Hid (∀ h (hh : h < es.length), w'.cell? ⟨g, h, none⟩ = some (.string es[h].1))) := by
  obtain ⟨v', rfl, ⟨_, ⟨rfl, hn⟩ | ⟨g, cap, cur, rfl, hb, hg, hc, hm, hs, ht⟩⟩, h2⟩ := h
  · exact ⟨none, 0, by rw [hn], h2, fun h => by omega⟩
  · refine ⟨_, cap, rfl, h2, fun h0 => ⟨g, rfl, ?_, hc, Lib.hid fun k hk => ?_⟩⟩
    · rcases Nat.lt_or_ge g w'.heap.size with h | h
      · exact h
      · rw [Array.getElem?_eq_none h] at hg; cases hg
    · have hk2 : (keysOf es)[k]? = some (.string es[k].1) := by unfold keysOf; rw [List.getElem?_map, List.getElem?_eq_getElem hk]; rfl
      rw [← ht] at hk2
      have a1 := List.getElem?_take_some hk2
      rw [Array.getElem?_toList] at a1
      simp [World.cell?, hg, a1]
set_option maxHeartbeats 1000000 in
set_option maxRecDepth 100000 in
theorem puts_any {v : Value} {es : List Ent} {key : ByteArray} {w : World} (hE : Ents w v es) :
    Calls Try.prog 3 #[v, .string key] w fun e w' => e = .returned (.bool true) ∧ Below w.heap.size w w' := by
  have F := Lib.hid (few_any (w := w) hE)
  cases hf : few es
  · rw [hf] at F
    go_enter Try.func3, Try.ntmps3
    go_wp2_with (first
      | (go_at_call 7; refine (F.out).mono ?_; rintro e w' ⟨rfl, rfl⟩)
      | (go_at_call 8; refine (awake_any _).mono ?_; rintro e w1 ⟨rfl, hB1⟩))
    go_ret
    exact ⟨rfl, by (repeat' (first | assumption | exact Below.refl _ _ | apply Below.next_alloc | apply Below.drew | (apply Below.next; rotate_left; assumption)))⟩
  · rw [hf] at F
    have hn := few_len hf
    clear hf
    by_cases hk : (60 : Int) < (key.size : Int)
    · go_enter Try.func3, Try.ntmps3
      go_wp2_with (first
        | (go_at_call 7; refine (F.out).mono ?_; rintro e w' ⟨rfl, rfl⟩)
        | (go_at_call 8; refine (awake_any _).mono ?_; rintro e w1 ⟨rfl, hB1⟩))
      go_ret
      exact ⟨rfl, by (repeat' (first | assumption | exact Below.refl _ _ | apply Below.next_alloc | apply Below.drew | (apply Below.next; rotate_left; assumption)))⟩
    · have hd := rd_few hn key
      have hm := mk_few hn
      have hms := Lib.hid (mk_sorted es)
      have hds := Lib.hid (sorted_rdrop key (mk_sorted es))
      go_enter Try.func3, Try.ntmps3
      go_wp2_with (first
        | (go_at_call 7; refine (F.out).mono ?_; rintro e w' ⟨rfl, rfl⟩)
        | (go_at_call 9; refine (made_any (by (apply Ents.below; (with_reducible assumption); (repeat' (first | assumption | exact Below.refl _ _ | apply Below.next_alloc | apply Below.drew | (apply Below.next; rotate_left; assumption))))) hn).mono ?_; rintro e w1 ⟨va, ub, rfl, hA, hR, hB1⟩; obtain ⟨pb, cb, rfl, _⟩ := len_of hR)
        | (go_at_call 10; refine (drop_g (by (apply Ents.below; (with_reducible assumption); (repeat' (first | assumption | exact Below.refl _ _ | apply Below.next_alloc | apply Below.drew | (apply Below.next; rotate_left; assumption))))) (Hid.out (by with_reducible assumption)) (by omega)).mono ?_; rintro e w2 ⟨vd, rfl, hD, hB2⟩)
        | (go_at_call 15; refine (own_g (by (apply Ents.below; (with_reducible assumption); (repeat' (first | assumption | exact Below.refl _ _ | apply Below.next_alloc | apply Below.drew | (apply Below.next; rotate_left; assumption))))) (by omega)).mono ?_; rintro e w3 ⟨vo, rfl, hO, hB3⟩)
        | (go_at_call 13; refine (rDrop_g (by (apply Ents.below; (with_reducible assumption); (repeat' (first | assumption | exact Below.refl _ _ | apply Below.next_alloc | apply Below.drew | (apply Below.next; rotate_left; assumption))))) (by omega)).mono ?_; rintro e w4 ⟨vr, rfl, hQ, hB4⟩)
        | (go_at_call 12; refine (back_g (by (apply Ents.below; (with_reducible assumption); (repeat' (first | assumption | exact Below.refl _ _ | apply Below.next_alloc | apply Below.drew | (apply Below.next; rotate_left; assumption))))) (by omega)).mono ?_; rintro e w5 ⟨vb, rfl, hV, hB5⟩)
        | (go_at_call 11; refine (same_g (by (apply Ents.below; (with_reducible assumption); (repeat' (first | assumption | exact Below.refl _ _ | apply Below.next_alloc | apply Below.drew | (apply Below.next; rotate_left; assumption))))) (by (apply Ents.below; (with_reducible assumption); (repeat' (first | assumption | exact Below.refl _ _ | apply Below.next_alloc | apply Below.drew | (apply Below.next; rotate_left; assumption))))) (by omega)).mono ?_; rintro e w6 ⟨rfl, hB7⟩)
        | (go_at_call 14; refine (sorted_g (by (apply Ents.below; (with_reducible assumption); (repeat' (first | assumption | exact Below.refl _ _ | apply Below.next_alloc | apply Below.drew | (apply Below.next; rotate_left; assumption))))) (Hid.out (by with_reducible assumption)) (by omega)).mono ?_; rintro e w7 ⟨rfl, hB9⟩)
        | (go_at_call 14; refine (sorted_any (by (apply Ents.below; (with_reducible assumption); (repeat' (first | assumption | exact Below.refl _ _ | apply Below.next_alloc | apply Below.drew | (apply Below.next; rotate_left; assumption))))) (by omega)).mono ?_; rintro e w7 ⟨rfl, hB11⟩)
        | (go_at_call 16; refine (rSorted_any (by (apply Ents.below; (with_reducible assumption); (repeat' (first | assumption | exact Below.refl _ _ | apply Below.next_alloc | apply Below.drew | (apply Below.next; rotate_left; assumption))))) (by omega)).mono ?_; rintro e w8 ⟨rfl, hB12⟩)
        | (go_at_call 17; refine (keys_any (by (apply Ents.below; (with_reducible assumption); (repeat' (first | assumption | exact Below.refl _ _ | apply Below.next_alloc | apply Below.drew | (apply Below.next; rotate_left; assumption))))) (by omega)).mono ?_; intro e w9 hK; obtain ⟨ak, ck, rfl, hB13, hKC⟩ := hK.cells; clear hK)
        | (go_at_call 8; refine (awake_any _).mono ?_; rintro e w10 ⟨rfl, hB14⟩))
      have hRe : Ents w9 (.slice pb (mk es).length cb) (mk es) := by (apply Ents.below; (with_reducible assumption); (repeat' (first | assumption | exact Below.refl _ _ | apply Below.next_alloc | apply Below.drew | (apply Below.next; rotate_left; assumption))))
      have hBw : Below w.heap.size w w9 := by (repeat' (first | assumption | exact Below.refl _ _ | apply Below.next_alloc | apply Below.drew | (apply Below.next; rotate_left; assumption)))
      clear hms hds hn hd hA hR hV hQ hO hD
      generalize mk es = ms at *
      by_cases h0 : 0 < ms.length
      · obtain ⟨g, rfl, hg, hgc, HK⟩ := hKC h0
        rcases hRe with ⟨rfl, _⟩ | ⟨_, b, o, cap, heq, hlt, hcap, hcell⟩
        · exact absurd h0 (by simp)
        · obtain ⟨rfl, _, rfl⟩ := Value.slice.inj heq
          have HC := Lib.hid hcell
          clear hcell heq hKC
          go_loopw [9] (fun i wr => ∃ k : Nat, k ≤ ms.length ∧ i = .int .i64 k ∧ Below w9.heap.size w9 wr) (fun i _ => ms.length - (intOf i).toNat)
          case atStart => exact ⟨0, by omega, rfl, Below.refl _ _⟩
          case round =>
            obtain ⟨k, k1, rfl, hB⟩ := hrel
            by_cases hk : k < ms.length
            · have c1 := (hB.cell (p := ⟨b, o + k * 2, none⟩) hlt).trans (HC.out k hk).1
              have c2 := (hB.cell (p := ⟨g, k, none⟩) hg).trans (HK.out k hk)
              have i2 : (k : Int) < (ms.length : Int) := by omega
              have i3 : (0 : Int) ≤ (k : Int) := by omega
              have i4 : k < cb := by omega
              have i5 : k < ck := by omega
              go_wp2
              go_quiet (fail)
              go_wp2
              go_roundw
              case rel => exact ⟨k + 1, by omega, by go_num, Base.below_drewN hB _⟩
              case measure => simp [intOf]; omega
            · have hkk : k = ms.length := by omega
              subst hkk
              go_wp2_with (first | (go_at_call 8; refine (awake_any _).mono ?_; rintro e w10 ⟨rfl, hB15⟩))
              go_ret
              exact ⟨rfl, (hBw.trans (hB.mono hBw.size)).trans (hB15.mono (Nat.le_trans hBw.size hB.size))⟩
      · have hz : ms.length = 0 := by omega
        rw [hz]
        refine wp_loop_rounds 1 ?_
        rw [rounds_succ]
        go_wp2_with (first | (go_at_call 8; refine (awake_any _).mono ?_; rintro e w10 ⟨rfl, hB15⟩))
        go_ret
        exact ⟨rfl, hBw.trans (hB15.mono hBw.size)⟩
end Go.Proofs.Ythjkhdegjhapcaa.Sa

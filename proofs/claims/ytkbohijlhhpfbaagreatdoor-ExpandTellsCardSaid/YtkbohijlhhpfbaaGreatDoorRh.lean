import Derived.Test.YtkbohijlhhpfbaaGreatDoorRf
/- A rule as it lies in memory; the walk through its head. -/
namespace Go.Proofs.YtkbohijlhhpfbaaGreatDoor.Ra
open Go.RowKit Ru Ut Cw
/-- the rule r lies at the head of block b; sv: its lists' values, by their parts' numbers -/
def RAt (W : World) (b : Nat) (r : R) (sv : Nat → Value) : Prop :=
  b < W.heap.size ∧ W.cell? ⟨b, 0, none⟩ = some (.int .u8 r.freq) ∧ W.cell? ⟨b, 1, none⟩ = some (.int .i64 r.interval) ∧ W.cell? ⟨b, 2, none⟩ = some (.int .i64 r.count) ∧ W.cell? ⟨b, 3, none⟩ = some (.int .u8 r.uk) ∧ W.cell? ⟨b, 4, none⟩ = some (.int .i64 r.us) ∧
    W.cell? ⟨b, 14, none⟩ = some (.int .i64 r.wkst) ∧ (∀ q, 4 ≤ q → q ≤ 12 → W.cell? ⟨b, q + 1, none⟩ = some (sv q))
/-- the values sv read as the rule's lists -/
def Lists (W : World) (r : R) (sv : Nat → Value) : Prop := (∀ q, 4 ≤ q → q ≤ 12 → q ≠ 7 → Ints W (sv q) (lst r q)) ∧ Days W (sv 7) r.day
theorem RAt.later {W W2 : World} {b : Nat} {r : R} {sv : Nat → Value} (h : RAt W b r sv) (hB : Below W.heap.size W W2) : RAt W2 b r sv := by
  obtain ⟨h0, h1, h2, h3, h4, h5, h6, h7⟩ := h
  have keep : ∀ i v, W.cell? ⟨b, i, none⟩ = some v → W2.cell? ⟨b, i, none⟩ = some v := fun i v hv => (hB.cell (p := ⟨b, i, none⟩) h0).trans hv
  exact ⟨Nat.lt_of_lt_of_le h0 hB.size, keep _ _ h1, keep _ _ h2, keep _ _ h3, keep _ _ h4, keep _ _ h5, keep _ _ h6, fun q h4 h12 => keep _ _ (h7 q h4 h12)⟩
theorem Lists.later {W W2 : World} {r : R} {sv : Nat → Value} (h : Lists W r sv) (hB : Below W.heap.size W W2) : Lists W2 r sv :=
  ⟨fun q h4 h12 h7 => (h.1 q h4 h12 h7).below hB, h.2.below hB⟩
/-- a rule by value -/
def ruleC (r : R) (sv : Nat → Value) : Array Value := #[.int .u8 r.freq, .int .i64 r.interval, .int .i64 r.count, .int .u8 r.uk, .int .i64 r.us, sv 4, sv 5, sv 6, sv 7, sv 8, sv 9, sv 10, sv 11, sv 12, .int .i64 r.wkst]
theorem RAt.box (w : World) (r : R) (sv : Nat → Value) (t : TypeId) : RAt (w.alloc (.cells (ruleC r sv) t)) w.heap.size r sv := by
  refine ⟨by simp, World.cell?_alloc_mark w (ruleC r sv) t (0, 0) 0, World.cell?_alloc_mark w (ruleC r sv) t (0, 0) 1, World.cell?_alloc_mark w (ruleC r sv) t (0, 0) 2, World.cell?_alloc_mark w (ruleC r sv) t (0, 0) 3, World.cell?_alloc_mark w (ruleC r sv) t (0, 0) 4, World.cell?_alloc_mark w (ruleC r sv) t (0, 0) 14, fun q h4 h12 => ?_⟩
  have hc : q = 4 ∨ q = 5 ∨ q = 6 ∨ q = 7 ∨ q = 8 ∨ q = 9 ∨ q = 10 ∨ q = 11 ∨ q = 12 := by omega
  rcases hc with rfl | rfl | rfl | rfl | rfl | rfl | rfl | rfl | rfl
  · exact World.cell?_alloc_mark w (ruleC r sv) t (0, 0) 5
  · exact World.cell?_alloc_mark w (ruleC r sv) t (0, 0) 6
  · exact World.cell?_alloc_mark w (ruleC r sv) t (0, 0) 7
  · exact World.cell?_alloc_mark w (ruleC r sv) t (0, 0) 8
  · exact World.cell?_alloc_mark w (ruleC r sv) t (0, 0) 9
  · exact World.cell?_alloc_mark w (ruleC r sv) t (0, 0) 10
  · exact World.cell?_alloc_mark w (ruleC r sv) t (0, 0) 11
  · exact World.cell?_alloc_mark w (ruleC r sv) t (0, 0) 12
  · exact World.cell?_alloc_mark w (ruleC r sv) t (0, 0) 13
theorem head_one {r : R} (h : 6 < r.freq) : head r = 11 := by unfold head; rw [if_pos h]
theorem head_two {r : R} (h : ¬ 6 < r.freq) (h2 : r.interval < 1 ∨ 1000 < r.interval ∨ r.count < 0 ∨ 1000 < r.count ∨ r.wkst < 0 ∨ 6 < r.wkst) : head r = 8 := by unfold head; rw [if_neg h, if_pos h2]
theorem head_rest {r : R} (h : ¬ 6 < r.freq) (h2 : ¬ (r.interval < 1 ∨ 1000 < r.interval ∨ r.count < 0 ∨ 1000 < r.count ∨ r.wkst < 0 ∨ 6 < r.wkst)) :
    head r = if r.uk = 0 ∧ r.us = 0 then 0 else if r.uk = 0 then 2 else if Mo.chk r.uk r.us ≠ 0 then Mo.chk r.uk r.us else if 0 < r.count then 9 else 0 := by unfold head; rw [if_neg h, if_neg h2]
attribute [local go_sem] Ma.eqV
set_option maxHeartbeats 4000000 in
set_option maxRecDepth 100000 in
theorem head_any (w : World) (b : Nat) (r : R) (sv : Nat → Value) (hR : RAt w b r sv) (hu : 0 ≤ r.uk ∧ r.uk ≤ 255) : Calls Tryz.prog 62 #[.pointer (some ⟨b, 0, none⟩)] w fun e w' => e = .returned (.int .i64 (head r)) ∧ Below w.heap.size w w' := by
  obtain ⟨hb, c0, c1, c2, c3, c4, c14, -⟩ := hR
  by_cases h1 : 6 < r.freq
  · have hr := Lib.hid (head_one h1)
    go_enter Tryz.func62, Tryz.ntmps62
    go_wp2
    go_ret
    exact ⟨ret_i hr.out.symm, by (repeat' (first | assumption | exact Below.refl _ _ | apply Below.next_alloc | apply Below.drew | (apply Below.next; rotate_left; assumption)))⟩
  · by_cases h2 : r.interval < 1
    · have hr := Lib.hid (head_two h1 (.inl h2))
      go_enter Tryz.func62, Tryz.ntmps62
      go_wp2
      go_ret
      exact ⟨ret_i hr.out.symm, by (repeat' (first | assumption | exact Below.refl _ _ | apply Below.next_alloc | apply Below.drew | (apply Below.next; rotate_left; assumption)))⟩
    · by_cases h3 : 1000 < r.interval
      · have hr := Lib.hid (head_two h1 (.inr (.inl h3)))
        go_enter Tryz.func62, Tryz.ntmps62
        go_wp2
        go_ret
        exact ⟨ret_i hr.out.symm, by (repeat' (first | assumption | exact Below.refl _ _ | apply Below.next_alloc | apply Below.drew | (apply Below.next; rotate_left; assumption)))⟩
      · by_cases h4 : r.count < 0
        · have hr := Lib.hid (head_two h1 (.inr (.inr (.inl h4))))
          go_enter Tryz.func62, Tryz.ntmps62
          go_wp2
          go_ret
          exact ⟨ret_i hr.out.symm, by (repeat' (first | assumption | exact Below.refl _ _ | apply Below.next_alloc | apply Below.drew | (apply Below.next; rotate_left; assumption)))⟩
        · by_cases h5 : 1000 < r.count
          · have hr := Lib.hid (head_two h1 (.inr (.inr (.inr (.inl h5)))))
            go_enter Tryz.func62, Tryz.ntmps62
            go_wp2
            go_ret
            exact ⟨ret_i hr.out.symm, by (repeat' (first | assumption | exact Below.refl _ _ | apply Below.next_alloc | apply Below.drew | (apply Below.next; rotate_left; assumption)))⟩
          · by_cases h6 : r.wkst < 0 ∨ 6 < r.wkst
            · have hr := Lib.hid (head_two h1 (.inr (.inr (.inr (.inr h6)))))
              have F := Lib.hid (wdn_bad h6)
              clear h6
              go_enter Tryz.func62, Tryz.ntmps62
              go_wp2_with (first | (go_at_call 101; refine (F.out _).mono ?_; rintro e w' ⟨⟨t, rfl, ht⟩, rfl⟩))
              go_ret
              exact ⟨ret_i hr.out.symm, by (repeat' (first | assumption | exact Below.refl _ _ | apply Below.next_alloc | apply Below.drew | (apply Below.next; rotate_left; assumption)))⟩
            · have hr := Lib.hid (head_rest h1 (by omega))
              have F := Lib.hid (wdn_good h6)
              clear h6
              by_cases h7 : r.uk = 0
              · rw [h7] at c3
                by_cases h8 : r.us = 0
                · rw [h8] at c4
                  have hr := Lib.hid (hr.out.trans (if_pos ⟨h7, h8⟩))
                  clear h7 h8 hu
                  go_enter Tryz.func62, Tryz.ntmps62
                  go_wp2_with (first | (go_at_call 101; refine (F.out _).mono ?_; rintro e w' ⟨⟨t, rfl, ht⟩, rfl⟩))
                  go_ret
                  exact ⟨ret_i hr.out.symm, by (repeat' (first | assumption | exact Below.refl _ _ | apply Below.next_alloc | apply Below.drew | (apply Below.next; rotate_left; assumption)))⟩
                · have hr := Lib.hid (hr.out.trans ((if_neg (fun h => h8 h.2)).trans (if_pos h7)))
                  clear h7 hu
                  go_enter Tryz.func62, Tryz.ntmps62
                  go_wp2_with (first | (go_at_call 101; refine (F.out _).mono ?_; rintro e w' ⟨⟨t, rfl, ht⟩, rfl⟩))
                  go_ret
                  exact ⟨ret_i hr.out.symm, by (repeat' (first | assumption | exact Below.refl _ _ | apply Below.next_alloc | apply Below.drew | (apply Below.next; rotate_left; assumption)))⟩
              · have hq : (r.uk == 0) = false := by simp [h7]
                have hr := Lib.hid (hr.out.trans ((if_neg (fun h => h7 h.1)).trans (if_neg h7)))
                have G := fun w => Ma.check_any r.uk r.us hu w
                unfold Ma.val at G
                by_cases h9 : Mo.chk r.uk r.us = 0
                · rw [h9] at G
                  have GH := Lib.hid G
                  have hr := Lib.hid (hr.out.trans (if_neg (by omega)))
                  clear h9 G hu
                  by_cases h10 : 0 < r.count
                  · have hr := Lib.hid (hr.out.trans (if_pos h10))
                    go_enter Tryz.func62, Tryz.ntmps62
                    go_wp2_with (first | (go_at_call 101; refine (F.out _).mono ?_; rintro e w' ⟨⟨t, rfl, ht⟩, rfl⟩) | (go_at_call 57; refine (GH.out _).mono ?_; rintro e w1 ⟨rfl, hB⟩; have c2 := (hB.cell (p := ⟨b, 2, none⟩) hb).trans c2))
                    go_ret
                    exact ⟨ret_i hr.out.symm, by (repeat' (first | assumption | exact Below.refl _ _ | apply Below.next_alloc | apply Below.drew | (apply Below.next; rotate_left; assumption)))⟩
                  · have hr := Lib.hid (hr.out.trans (if_neg h10))
                    go_enter Tryz.func62, Tryz.ntmps62
                    go_wp2_with (first | (go_at_call 101; refine (F.out _).mono ?_; rintro e w' ⟨⟨t, rfl, ht⟩, rfl⟩) | (go_at_call 57; refine (GH.out _).mono ?_; rintro e w1 ⟨rfl, hB⟩; have c2 := (hB.cell (p := ⟨b, 2, none⟩) hb).trans c2))
                    go_ret
                    exact ⟨ret_i hr.out.symm, by (repeat' (first | assumption | exact Below.refl _ _ | apply Below.next_alloc | apply Below.drew | (apply Below.next; rotate_left; assumption)))⟩
                · have hr := Lib.hid (hr.out.trans (if_pos h9))
                  have hq2 : (Mo.chk r.uk r.us != 0) = true := by simp [h9]
                  have GH := Lib.hid G
                  clear h9 G hu
                  go_enter Tryz.func62, Tryz.ntmps62
                  go_wp2_with (first | (go_at_call 101; refine (F.out _).mono ?_; rintro e w' ⟨⟨t, rfl, ht⟩, rfl⟩) | (go_at_call 57; refine (GH.out _).mono ?_; rintro e w1 ⟨rfl, hB⟩; have c2 := (hB.cell (p := ⟨b, 2, none⟩) hb).trans c2))
                  go_ret
                  exact ⟨ret_i hr.out.symm, by (repeat' (first | assumption | exact Below.refl _ _ | apply Below.next_alloc | apply Below.drew | (apply Below.next; rotate_left; assumption)))⟩
end Go.Proofs.YtkbohijlhhpfbaaGreatDoor.Ra

/- The walk through recur's fits (printed by gen_fits.py). -/
namespace Go.Proofs.YtkbohijlhhpfbaaGreatDoor.Ra
open Go.RowKit Ru Ut Cw
/-- how long the lists are up to a part -/
def sumTo (r : R) : Nat → Int
  | 0 => r.day.length
  | n + 1 => sumTo r n + if 4 ≤ n ∧ n ≠ 7 then ((lst r n).length : Int) else 0
theorem others_eq (r : R) : others r = sumTo r 12 := by simp [sumTo, others, lst]
def Short (r : R) : Prop := (∀ q, 4 ≤ q → q ≤ 12 → q ≠ 7 → (lst r q).length ≤ 1000) ∧ r.day.length ≤ 1000
theorem sumTo_bd (r : R) (h : Short r) : ∀ q, q ≤ 12 → 0 ≤ sumTo r q ∧ sumTo r q ≤ 1000 + 1000 * q
  | 0, _ => by simp only [sumTo]; have := h.2; omega
  | n + 1, hn => by
    have ih := sumTo_bd r h n (by omega)
    simp only [sumTo]
    by_cases hc : 4 ≤ n ∧ n ≠ 7
    · rw [if_pos hc]; have := h.1 n hc.1 (by omega) hc.2; omega
    · rw [if_neg hc]; omega
theorem Ints.slice {w : World} {v : Value} {l : List Int} (h : Ints w v l) : ∃ a c, v = .slice a l.length c := by
  rcases h with ⟨rfl, a, cap, rfl, _⟩ | ⟨_, b, o, cap, rfl, _⟩
  · exact ⟨_, _, rfl⟩
  · exact ⟨_, _, rfl⟩
theorem Days.slice {w : World} {v : Value} {l : List (Int × Int)} (h : Days w v l) : ∃ a c, v = .slice a l.length c := by
  rcases h with ⟨rfl, a, cap, rfl, _⟩ | ⟨_, b, o, cap, rfl, _⟩
  · exact ⟨_, _, rfl⟩
  · exact ⟨_, _, rfl⟩
theorem b_and {a b : Bool} {p q : Prop} (h1 : a = true ↔ p) (h2 : b = true ↔ q) : (a && b) = true ↔ p ∧ q := by rw [Bool.and_eq_true, h1, h2]
theorem b_or {a b : Bool} {p q : Prop} (h1 : a = true ↔ p) (h2 : b = true ↔ q) : (a || b) = true ↔ p ∨ q := by rw [Bool.or_eq_true, h1, h2]
theorem b_not {a : Bool} {p : Prop} (h1 : a = true ↔ p) : (!a) = true ↔ ¬ p := by rw [← h1]; cases a <;> simp
theorem b_dec {p : Prop} [Decidable p] : decide p = true ↔ p := decide_eq_true_iff
theorem fits_iff (r : R) : fits r = true ↔ ¬ (numbered r.day = true ∧ (r.freq < 5 ∨ 0 < r.weekno.length)) ∧ (¬ (0 < r.mday.length ∧ r.freq = 4) ∧ (¬ (0 < r.weekno.length ∧ ¬ r.freq = 6) ∧ (¬ (0 < r.yday.length ∧ (r.freq = 3 ∨ (r.freq = 4 ∨ r.freq = 5))) ∧ (r.setpos.length = 0 ∨ 0 < others r)))) := by
  unfold fits
  exact b_and (b_not (b_and Iff.rfl (b_or b_dec b_dec))) (b_and (b_not (b_and b_dec b_dec)) (b_and (b_not (b_and b_dec (b_not b_dec))) (b_and (b_not (b_and b_dec (b_or b_dec (b_or b_dec b_dec)))) (b_or b_dec b_dec))))
theorem fits_out {r : R} {a : Bool} (hA : numbered r.day = a) (h : (a = true ∧ (r.freq < 5 ∨ 0 < r.weekno.length)) ∨ (0 < r.mday.length ∧ r.freq = 4) ∨ (0 < r.weekno.length ∧ ¬ r.freq = 6) ∨ (0 < r.yday.length ∧ (r.freq = 3 ∨ r.freq = 4 ∨ r.freq = 5))) : fits r = false := by
  rw [Bool.eq_false_iff]
  intro hh
  rw [fits_iff, hA] at hh
  obtain ⟨h1, h2, h3, h4, _⟩ := hh
  rcases h with h | h | h | h
  · exact h1 h
  · exact h2 h
  · exact h3 h
  · exact h4 h
theorem fits_in {r : R} {a : Bool} (hA : numbered r.day = a) (h0 : ¬ ((a = true ∧ (r.freq < 5 ∨ 0 < r.weekno.length)) ∨ (0 < r.mday.length ∧ r.freq = 4) ∨ (0 < r.weekno.length ∧ ¬ r.freq = 6) ∨ (0 < r.yday.length ∧ (r.freq = 3 ∨ r.freq = 4 ∨ r.freq = 5)))) : fits r = (decide (r.setpos.length = 0) || decide (0 < others r)) := by
  rw [Bool.eq_iff_iff, fits_iff, hA, Bool.or_eq_true, decide_eq_true_iff, decide_eq_true_iff]
  exact ⟨fun h => h.2.2.2.2, fun h => ⟨fun x => h0 (.inl x), fun x => h0 (.inr (.inl x)), fun x => h0 (.inr (.inr (.inl x))), fun x => h0 (.inr (.inr (.inr x))), h⟩⟩
theorem lens_bd {W : World} {r : R} {sv : Nat → Value} (_ : Lists W r sv) (h : Short r) : r.day.length ≤ 1000 := h.2
theorem fits1_any (p q : Int) (w : World) : Calls Tryz.prog 105 #[.agg #[.int .i64 p, .int .i64 q]] w fun e w' => e = .returned (.bool (!decide (p = 0))) ∧ Below w.heap.size w w' := by
  by_cases h : p = 0
  · subst h
    go_enter Tryz.func105, Tryz.ntmps105
    go_wp2
    go_ret
    exact ⟨rfl, by (repeat' (first | assumption | exact Below.refl _ _ | apply Below.next_alloc | apply Below.drew | (apply Below.next; rotate_left; assumption)))⟩
  · have hq : (p != 0) = true := by simp [h]
    have hr := Lib.hid (show (!decide (p = 0)) = true by simp [h])
    clear h
    go_enter Tryz.func105, Tryz.ntmps105
    go_wp2
    go_ret
    exact ⟨ret_b hr.out.symm, by (repeat' (first | assumption | exact Below.refl _ _ | apply Below.next_alloc | apply Below.drew | (apply Below.next; rotate_left; assumption)))⟩
set_option maxHeartbeats 8000000 in
set_option maxRecDepth 100000 in
theorem fits_any (w : World) (b : Nat) (r : R) (sv : Nat → Value) (hR : RAt w b r sv) (hL : Lists w r sv) (hn : Short r) (f0 : 0 ≤ r.freq) : Calls Tryz.prog 67 #[.pointer (some ⟨b, 0, none⟩)] w fun e w' => e = .returned (.bool (fits r)) ∧ Below w.heap.size w w' := by
  have F := containsFuncF_any (fun d => !decide (d.1 = 0)) hL.2 (by have := hn.2; omega) (fun W _ p q _ => fits1_any p q W)
  have hnum : r.day.any (fun d => !decide (d.1 = 0)) = numbered r.day := rfl
  rw [hnum] at F
  clear hnum
  obtain ⟨a7, k7, e7⟩ := hL.2.slice
  obtain ⟨a8, k8, e8⟩ := (hL.1 8 (by decide) (by decide) (by decide)).slice
  obtain ⟨a9, k9, e9⟩ := (hL.1 9 (by decide) (by decide) (by decide)).slice
  obtain ⟨a10, k10, e10⟩ := (hL.1 10 (by decide) (by decide) (by decide)).slice
  obtain ⟨a12, k12, e12⟩ := (hL.1 12 (by decide) (by decide) (by decide)).slice
  rw [e7] at F
  have x8 := (hR.2.2.2.2.2.2.2 7 (by decide) (by decide)).trans (congrArg some e7)
  have E7 := Lib.hid e7
  have E8 := Lib.hid (show sv 8 = .slice a8 r.mday.length k8 from e8)
  have E9 := Lib.hid (show sv 9 = .slice a9 r.yday.length k9 from e9)
  have E10 := Lib.hid (show sv 10 = .slice a10 r.weekno.length k10 from e10)
  have E12 := Lib.hid (show sv 12 = .slice a12 r.setpos.length k12 from e12)
  have HR := Lib.hid hR
  have HL := Lib.hid hL
  have Hn := Lib.hid hn
  clear e7 e8 e9 e10 e12 hR hL hn
  cases hA : numbered r.day
  all_goals
    rw [hA] at F
    have FC := Lib.hid F
    clear F
    go_enter Tryz.func67, Tryz.ntmps67
    go_wp2_with (first
      | (go_at_call 104; refine FC.out.mono ?_; rintro e w1 ⟨rfl, hB⟩; obtain ⟨hb, c0, -, -, -, -, -, h7⟩ := HR.out.later hB; have c8 := (h7 7 (by decide) (by decide)).trans (congrArg some E7.out); have c9 := (h7 8 (by decide) (by decide)).trans (congrArg some E8.out); have c10 := (h7 9 (by decide) (by decide)).trans (congrArg some E9.out); have c11 := (h7 10 (by decide) (by decide)).trans (congrArg some E10.out); have c13 := (h7 12 (by decide) (by decide)).trans (congrArg some E12.out); have H7 := Lib.hid h7; clear h7))
    all_goals first
      | (go_ret; (try simp only [beq_iff_eq] at *); (try simp only [bne_iff_ne] at *); (try simp only [beq_eq_false_iff_ne] at *); (try simp only [bne_eq_false_iff_eq] at *); first | exact ⟨ret_b (fits_out hA (.inr (by omega))).symm, hB⟩ | exact ⟨ret_b (fits_out hA (.inl ⟨rfl, by omega⟩)).symm, hB⟩ | exact ⟨ret_b (by rw [fits_in hA (by rintro (⟨hx, hy⟩ | hx); (first | omega | cases hx); omega), decide_eq_true (by omega)]; rfl), hB⟩)
      | skip
    all_goals
      have hr := Lib.hid (show fits r = decide (0 < sumTo r 12) by (try simp only [beq_iff_eq] at *); (try simp only [bne_iff_ne] at *); (try simp only [beq_eq_false_iff_ne] at *); (try simp only [bne_eq_false_iff_eq] at *); rw [fits_in hA (by rintro (⟨hx, hy⟩ | hx); (first | omega | cases hx); omega), decide_eq_false (by omega), others_eq]; rfl)
      clear c8 c9 c10 c11 c13
      (try (rename ((r.freq == 3) = false ∧ (r.freq == 4) = false) ∧ (r.freq == 5) = false => hh; clear hh)); (try (rename (r.freq == 4) = false ∧ (r.freq == 5) = false => hh; clear hh)); (try (rename (r.freq == 3) = false ∧ (r.freq == 4) = false => hh; clear hh)); (try (rename (r.freq == 5) = false => hh; clear hh)); (try (rename (r.freq == 3) = false => hh; clear hh)); (try (rename ¬ r.freq = 5 => hh; clear hh)); (try (rename ¬ r.freq = 6 => hh; clear hh)); (try (rename r.freq = 6 => hh; clear hh)); (try (rename 0 < r.mday.length => hh; clear hh)); (try (rename ¬ 0 < r.mday.length => hh; clear hh)); (try (rename 0 < r.weekno.length => hh; clear hh)); (try (rename ¬ 0 < r.weekno.length => hh; clear hh)); (try (rename 0 < r.yday.length => hh; clear hh)); (try (rename ¬ 0 < r.yday.length => hh; clear hh)); (try (rename ¬ r.freq = 4 => hh; clear hh)); (try (rename ¬ r.freq = 3 => hh; clear hh)); (try (rename r.freq = 4 => hh; clear hh)); (try (rename r.freq = 3 => hh; clear hh)); (try (rename (r.freq == 4) = false ∧ (r.freq != 6) = false => hh; clear hh)); (try (rename (r.freq == 4) = false => hh; clear hh)); (try (rename (r.freq == 3) = false ∧ (r.freq == 5) = false => hh; clear hh)); (try (rename ((r.setpos.length : Int) == 0) = false => hh; clear hh)); (try (rename ¬ r.freq < 5 => hh; clear hh)); (try (rename 5 ≤ r.freq => hh; clear hh)); (try (rename (r.freq != 6) = false => hh; clear hh)); (try (rename r.mday = [] => hh; clear hh)); (try (rename r.weekno = [] => hh; clear hh)); (try (rename r.yday = [] => hh; clear hh))
      have hlen := lens_bd HL.out Hn.out
      go_loopw [4, 5] (fun o p wr => ∃ q : Nat, 4 ≤ q ∧ q ≤ 12 ∧ p = .int .i64 q ∧ o = .int .i64 (sumTo r q) ∧ w1 = wr) (fun _ p _ => 12 - (intOf p).toNat)
      case atStart => exact ⟨4, by omega, by omega, rfl, by simp [sumTo], rfl⟩
      case round =>
        obtain ⟨q, q4, q12, rfl, rfl, rfl⟩ := hrel
        have hs := sumTo_bd r Hn.out q (by omega)
        have hs0 := hs.1
        have hs1 := hs.2
        clear hs
        by_cases hq : q < 12
        · by_cases hq7 : q = 7
          · subst hq7
            have hx := Lib.hid (show sumTo r 8 = sumTo r 7 by simp [sumTo])
            go_wp2
            go_roundw
            case rel => exact ⟨8, by omega, by omega, by go_num, by rw [hx.out], trivial⟩
            case measure => simp [intOf]
          · have hx := Lib.hid (show sumTo r (q + 1) = sumTo r q + (lst r q).length by simp only [sumTo]; rw [if_pos ⟨q4, hq7⟩])
            obtain ⟨a, c, he⟩ := (HL.out.1 q q4 (by omega) hq7).slice
            have cq := (H7.out q q4 (by omega)).trans (congrArg some he)
            have hlq := Hn.out.1 q q4 (by omega) hq7
            have hq8 : ((q : Int) != 7) = true := by simp; omega
            have FL := Lib.hid (fun w => list_any q b q4 (by omega) hq7 w)
            clear he
            go_wp2_with (first | (go_at_call 65; refine (FL.out _).mono ?_; rintro e w' ⟨rfl, rfl⟩))
            go_roundw
            case rel => exact ⟨q + 1, by omega, by omega, by go_num, by rw [hx.out], trivial⟩
            case measure => simp [intOf]; omega
        · obtain rfl : q = 12 := by omega
          go_wp2
          go_ret
          exact ⟨ret_b hr.out.symm, hB⟩
end Go.Proofs.YtkbohijlhhpfbaaGreatDoor.Ra


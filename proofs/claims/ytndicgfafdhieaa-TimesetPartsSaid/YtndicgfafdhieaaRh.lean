/- The walk through recur's fits (printed by gen_fits.py). -/
import Derived.Test.YtndicgfafdhieaaRg
namespace Go.Proofs.Ytndicgfafdhieaa.Ra
open Go.RowKit Ru Ut Cw
/-- how long the lists are up to a part -/
def sumTo (r : R) : Nat → Int
  | 0 => r.day.length
  | n + 1 => sumTo r n + if 4 ≤ n ∧ n ≠ 7 then ((lst r n).length : Int) else 0
theorem others_eq (r : R) : others r = sumTo r 12 := by simp [sumTo, others, lst]
def Short (r : R) : Prop := (∀ q, 4 ≤ q → q ≤ 12 → q ≠ 7 → (lst r q).length ≤ 1000) ∧ r.day.length ≤ 1000
theorem sumTo_bd (r : R) (h : Short r) : ∀ q, q ≤ 12 → 0 ≤ sumTo r q ∧ sumTo r q ≤ 1000 + 1000 * q
  | 0, _ => by simp only [sumTo]; have := h.2; omega
  | n + 1, hn => by
    have ih := sumTo_bd r h n (by omega)
    simp only [sumTo]
    by_cases hc : 4 ≤ n ∧ n ≠ 7
    · rw [if_pos hc]; have := h.1 n hc.1 (by omega) hc.2; omega
    · rw [if_neg hc]; omega
theorem Ints.slice {w : World} {v : Value} {l : List Int} (h : Ints w v l) : ∃ a c, v = .slice a l.length c := by
  rcases h with ⟨rfl, a, cap, rfl, _⟩ | ⟨_, b, o, cap, rfl, _⟩
  · exact ⟨_, _, rfl⟩
  · exact ⟨_, _, rfl⟩
theorem Days.slice {w : World} {v : Value} {l : List (Int × Int)} (h : Days w v l) : ∃ a c, v = .slice a l.length c := by
  rcases h with ⟨rfl, a, cap, rfl, _⟩ | ⟨_, b, o, cap, rfl, _⟩
  · exact ⟨_, _, rfl⟩
  · exact ⟨_, _, rfl⟩
theorem b_and {a b : Bool} {p q : Prop} (h1 : a = true ↔ p) (h2 : b = true ↔ q) : (a && b) = true ↔ p ∧ q := by rw [Bool.and_eq_true, h1, h2]
theorem b_or {a b : Bool} {p q : Prop} (h1 : a = true ↔ p) (h2 : b = true ↔ q) : (a || b) = true ↔ p ∨ q := by rw [Bool.or_eq_true, h1, h2]
theorem b_not {a : Bool} {p : Prop} (h1 : a = true ↔ p) : (!a) = true ↔ ¬ p := by rw [← h1]; cases a <;> simp
theorem b_dec {p : Prop} [Decidable p] : decide p = true ↔ p := decide_eq_true_iff
theorem fits_iff (r : R) : fits r = true ↔ ¬ (numbered r.day = true ∧ (r.freq < 5 ∨ 0 < r.weekno.length)) ∧ (¬ (0 < r.mday.length ∧ r.freq = 4) ∧ (¬ (0 < r.weekno.length ∧ ¬ r.freq = 6) ∧ (¬ (0 < r.yday.length ∧ (r.freq = 3 ∨ (r.freq = 4 ∨ r.freq = 5))) ∧ (r.setpos.length = 0 ∨ 0 < others r)))) := by
  unfold fits
  exact b_and (b_not (b_and Iff.rfl (b_or b_dec b_dec))) (b_and (b_not (b_and b_dec b_dec)) (b_and (b_not (b_and b_dec (b_not b_dec))) (b_and (b_not (b_and b_dec (b_or b_dec (b_or b_dec b_dec)))) (b_or b_dec b_dec))))
theorem fits_out {r : R} {a : Bool} (hA : numbered r.day = a) (h : (a = true ∧ (r.freq < 5 ∨ 0 < r.weekno.length)) ∨ (0 < r.mday.length ∧ r.freq = 4) ∨ (0 < r.weekno.length ∧ ¬ r.freq = 6) ∨ (0 < r.yday.length ∧ (r.freq = 3 ∨ r.freq = 4 ∨ r.freq = 5))) : fits r = false := by
  rw [Bool.eq_false_iff]
  intro hh
  rw [fits_iff, hA] at hh
  obtain ⟨h1, h2, h3, h4, _⟩ := hh
  rcases h with h | h | h | h
  · exact h1 h
  · exact h2 h
  · exact h3 h
  · exact h4 h
theorem fits_in {r : R} {a : Bool} (hA : numbered r.day = a) (h0 : ¬ ((a = true ∧ (r.freq < 5 ∨ 0 < r.weekno.length)) ∨ (0 < r.mday.length ∧ r.freq = 4) ∨ (0 < r.weekno.length ∧ ¬ r.freq = 6) ∨ (0 < r.yday.length ∧ (r.freq = 3 ∨ r.freq = 4 ∨ r.freq = 5)))) : fits r = (decide (r.setpos.length = 0) || decide (0 < others r)) := by
  rw [Bool.eq_iff_iff, fits_iff, hA, Bool.or_eq_true, decide_eq_true_iff, decide_eq_true_iff]
  exact ⟨fun h => h.2.2.2.2, fun h => ⟨fun x => h0 (.inl x), fun x => h0 (.inr (.inl x)), fun x => h0 (.inr (.inr (.inl x))), fun x => h0 (.inr (.inr (.inr x))), h⟩⟩
theorem lens_bd {W : World} {r : R} {sv : Nat → Value} (_ : Lists W r sv) (h : Short r) : r.day.length ≤ 1000 := h.2
theorem fits1_any (p q : Int) (w : World) : Calls Try.prog 53 #[.agg #[.int .i64 p, .int .i64 q]] w fun e w' => e = .returned (.bool (!decide (p = 0))) ∧ Below w.heap.size w w' := by
  by_cases h : p = 0
  · subst h
    go_enter Try.func53, Try.ntmps53
    go_wp2
    go_ret
    exact ⟨rfl, by (repeat' (first | assumption | exact Below.refl _ _ | apply Below.next_alloc | apply Below.drew | (apply Below.next; rotate_left; assumption)))⟩
  · have hq : (p != 0) = true := by simp [h]
    have hr := Lib.hid (show (!decide (p = 0)) = true by simp [h])
    clear h
    go_enter Try.func53, Try.ntmps53
    go_wp2
    go_ret
    exact ⟨ret_b hr.out.symm, by (repeat' (first | assumption | exact Below.refl _ _ | apply Below.next_alloc | apply Below.drew | (apply Below.next; rotate_left; assumption)))⟩
set_option maxHeartbeats 8000000 in
set_option maxRecDepth 100000 in
theorem fits_any (w : World) (b : Nat) (r : R) (sv : Nat → Value) (hR : RAt w b r sv) (hL : Lists w r sv) (hn : Short r) (f0 : 0 ≤ r.freq) : Calls Try.prog 43 #[.pointer (some ⟨b, 0, none⟩)] w fun e w' => e = .returned (.bool (fits r)) ∧ Below w.heap.size w w' := by
  have F := containsFuncF_any (fun d => !decide (d.1 = 0)) hL.2 (by have := hn.2; omega) (fun W _ p q _ => fits1_any p q W)
  have hnum : r.day.any (fun d => !decide (d.1 = 0)) = numbered r.day := rfl
  rw [hnum] at F
  clear hnum
  obtain ⟨a7, k7, e7⟩ := hL.2.slice
  obtain ⟨a8, k8, e8⟩ := (hL.1 8 (by decide) (by decide) (by decide)).slice
  obtain ⟨a9, k9, e9⟩ := (hL.1 9 (by decide) (by decide) (by decide)).slice
  obtain ⟨a10, k10, e10⟩ := (hL.1 10 (by decide) (by decide) (by decide)).slice
  obtain ⟨a12, k12, e12⟩ := (hL.1 12 (by decide) (by decide) (by decide)).slice
  rw [e7] at F
  have x8 := (hR.2.2.2.2.2.2.2 7 (by decide) (by decide)).trans (congrArg some e7)
  have E7 := Lib.hid e7
  have E8 := Lib.hid (show sv 8 = .slice a8 r.mday.length k8 from e8)
  have E9 := Lib.hid (show sv 9 = .slice a9 r.yday.length k9 from e9)
  have E10 := Lib.hid (show sv 10 = .slice a10 r.weekno.length k10 from e10)
  have E12 := Lib.hid (show sv 12 = .slice a12 r.setpos.length k12 from e12)
  have HR := Lib.hid hR
  have HL := Lib.hid hL
  have Hn := Lib.hid hn
  clear e7 e8 e9 e10 e12 hR hL hn
  cases hA : numbered r.day
  all_goals
    rw [hA] at F
    have FC := Lib.hid F
    clear F
    go_enter Try.func43, Try.ntmps43
    go_wp2_with (first
      | (go_at_call 52; refine FC.out.mono ?_; rintro e w1 ⟨rfl, hB⟩; obtain ⟨hb, c0, -, -, -, -, -, h7⟩ := HR.out.later hB; have c8 := (h7 7 (by decide) (by decide)).trans (congrArg some E7.out); have c9 := (h7 8 (by decide) (by decide)).trans (congrArg some E8.out); have c10 := (h7 9 (by decide) (by decide)).trans (congrArg some E9.out); have c11 := (h7 10 (by decide) (by decide)).trans (congrArg some E10.out); have c13 := (h7 12 (by decide) (by decide)).trans (congrArg some E12.out); have H7 := Lib.hid h7; clear h7))
    all_goals first
      | (go_ret; (try simp only [beq_iff_eq] at *); (try simp only [bne_iff_ne] at *); (try simp only [beq_eq_false_iff_ne] at *); (try simp only [bne_eq_false_iff_eq] at *); first | exact ⟨ret_b (fits_out hA (.inr (by omega))).symm, hB⟩ | exact ⟨ret_b (fits_out hA (.inl ⟨rfl, by omega⟩)).symm, hB⟩ | exact ⟨ret_b (by rw [fits_in hA (by rintro (⟨hx, hy⟩ | hx); (first | omega | cases hx); omega), decide_eq_true (by omega)]; rfl), hB⟩)
      | skip
    all_goals
      have hr := Lib.hid (show fits r = decide (0 < sumTo r 12) by (try simp only [beq_iff_eq] at *); (try simp only [bne_iff_ne] at *); (try simp only [beq_eq_false_iff_ne] at *); (try simp only [bne_eq_false_iff_eq] at *); rw [fits_in hA (by rintro (⟨hx, hy⟩ | hx); (first | omega | cases hx); omega), decide_eq_false (by omega), others_eq]; rfl)
      clear c8 c9 c10 c11 c13
      (try (rename ((r.freq == 3) = false ∧ (r.freq == 4) = false) ∧ (r.freq == 5) = false => hh; clear hh)); (try (rename (r.freq == 4) = false ∧ (r.freq == 5) = false => hh; clear hh)); (try (rename (r.freq == 3) = false ∧ (r.freq == 4) = false => hh; clear hh)); (try (rename (r.freq == 5) = false => hh; clear hh)); (try (rename (r.freq == 3) = false => hh; clear hh)); (try (rename ¬ r.freq = 5 => hh; clear hh)); (try (rename ¬ r.freq = 6 => hh; clear hh)); (try (rename r.freq = 6 => hh; clear hh)); (try (rename 0 < r.mday.length => hh; clear hh)); (try (rename ¬ 0 < r.mday.length => hh; clear hh)); (try (rename 0 < r.weekno.length => hh; clear hh)); (try (rename ¬ 0 < r.weekno.length => hh; clear hh)); (try (rename 0 < r.yday.length => hh; clear hh)); (try (rename ¬ 0 < r.yday.length => hh; clear hh)); (try (rename ¬ r.freq = 4 => hh; clear hh)); (try (rename ¬ r.freq = 3 => hh; clear hh)); (try (rename r.freq = 4 => hh; clear hh)); (try (rename r.freq = 3 => hh; clear hh)); (try (rename (r.freq == 4) = false ∧ (r.freq != 6) = false => hh; clear hh)); (try (rename (r.freq == 4) = false => hh; clear hh)); (try (rename (r.freq == 3) = false ∧ (r.freq == 5) = false => hh; clear hh)); (try (rename ((r.setpos.length : Int) == 0) = false => hh; clear hh)); (try (rename ¬ r.freq < 5 => hh; clear hh)); (try (rename 5 ≤ r.freq => hh; clear hh)); (try (rename (r.freq != 6) = false => hh; clear hh)); (try (rename r.mday = [] => hh; clear hh)); (try (rename r.weekno = [] => hh; clear hh)); (try (rename r.yday = [] => hh; clear hh))
      have hlen := lens_bd HL.out Hn.out
      go_loopw [4, 5] (fun o p wr => ∃ q : Nat, 4 ≤ q ∧ q ≤ 12 ∧ p = .int .i64 q ∧ o = .int .i64 (sumTo r q) ∧ w1 = wr) (fun _ p _ => 12 - (intOf p).toNat)
      case atStart => exact ⟨4, by omega, by omega, rfl, by simp [sumTo], rfl⟩
      case round =>
        obtain ⟨q, q4, q12, rfl, rfl, rfl⟩ := hrel
        have hs := sumTo_bd r Hn.out q (by omega)
        have hs0 := hs.1
        have hs1 := hs.2
        clear hs
        by_cases hq : q < 12
        · by_cases hq7 : q = 7
          · subst hq7
            have hx := Lib.hid (show sumTo r 8 = sumTo r 7 by simp [sumTo])
            go_wp2
            go_roundw
            case rel => exact ⟨8, by omega, by omega, by go_num, by rw [hx.out], trivial⟩
            case measure => simp [intOf]
          · have hx := Lib.hid (show sumTo r (q + 1) = sumTo r q + (lst r q).length by simp only [sumTo]; rw [if_pos ⟨q4, hq7⟩])
            obtain ⟨a, c, he⟩ := (HL.out.1 q q4 (by omega) hq7).slice
            have cq := (H7.out q q4 (by omega)).trans (congrArg some he)
            have hlq := Hn.out.1 q q4 (by omega) hq7
            have hq8 : ((q : Int) != 7) = true := by simp; omega
            have FL := Lib.hid (fun w => list_any q b q4 (by omega) hq7 w)
            clear he
            go_wp2_with (first | (go_at_call 41; refine (FL.out _).mono ?_; rintro e w' ⟨rfl, rfl⟩))
            go_roundw
            case rel => exact ⟨q + 1, by omega, by omega, by go_num, by rw [hx.out], trivial⟩
            case measure => simp [intOf]; omega
        · obtain rfl : q = 12 := by omega
          go_wp2
          go_ret
          exact ⟨ret_b hr.out.symm, hB⟩
end Go.Proofs.Ytndicgfafdhieaa.Ra

/- The walk of the law TimesetParts (printed by gen_tparts.py). -/
import Derived.Test.YtndicgfafdhieaaTu
import Derived.Laws.AppendOwnNone
import Derived.Deep.RegionHeld3
import Derived.Deep.DeepCutAuto
namespace Go.Proofs.Ytndicgfafdhieaa.Tm
open Go.RowKit Ru Ut Cw Ra
/-- 'append(out, more...)' -/
theorem push_list {ops : Array Oper} {rest : List Oper} {o : Oper} {a : Act} {Q : Exit → Act → World → Prop} {W : World} (hgd : o.guard = none) (s x : Operand)
    (ho : o.op = .call { callee := .builtin .append, args := #[s, x], argTypes := #[24, 24] }) (B : Nat) (v : Value) (l : List Int) (hs : a.eval s = v) (hown : OwnI W B v l)
    (B2 : Nat) (u : Value) (m : List Int) (hx : a.eval x = u) (hu : OwnI W B2 u m) (hn : l.length + m.length ≤ 1000000) (hB : B ≤ W.heap.size)
    (h : ∀ v' w', OwnI w' B v' (l ++ m) → Below B W w' → wpList Try.prog ops Q rest (a.put o.dst v') w') : wpList Try.prog ops Q (o :: rest) a W := by
  obtain ⟨i0, hi, hz0, hz1, hz2⟩ := info_parts infoInt
  have hu0 := hu
  rcases hu with ⟨_, ⟨rfl, h0⟩ | ⟨g, cap, cur, rfl, hb, hg, hc, hm, hsz, ht⟩⟩
  · obtain rfl : m = [] := List.eq_nil_of_length_eq_zero h0
    refine wpList_append_own_none hgd s x _ ho B 3 i0 1 Try.underlying24 hi v l.length (ic l) hs hown hx ?_
    exact h v W (by rw [List.append_nil]; exact hown) (Below.refl _ _)
  · refine wpList_append_own W hgd s x _ ho B 3 i0 (.int .i64 0) 1 8 Try.underlying24 hi hz0 hz1 hz2 rfl (by decide) v l.length (ic l) hs hown
      ⟨g, 0, none⟩ m.length cap (ic m) hx (by rw [ic_length, Nat.mul_one]) (fun j u hj => ?_) (fun u hu => by
        unfold ic at hu
        obtain ⟨z, -, rfl⟩ := List.mem_map.1 hu
        rfl) (by unfold maxLen; omega) (by omega) hB fun v' w' h1 h2 _ => ?_
    · have hj2 : j < m.length := by
        have := (List.getElem?_eq_some_iff.1 hj).1
        rwa [ic_length] at this
      have := World.ownsRow.cellAt hu0 j (by omega)
      rw [hj] at this
      have ea : (⟨g, 0, none⟩ : Addr).add j = ⟨g, j, none⟩ := by by_cases h0 : j = 0 <;> simp [Addr.add, h0]
      rw [ea]
      exact this
    · refine h v' w' ?_ ((Below.refl B W).grown h2 hB fun k hk => (World.ownsRow.lt hown k hk).1)
      unfold OwnI
      rw [ic_append, List.length_append]
      exact h1
theorem lparts_sum (r : R) (s k : Int) (h0 : 0 ≤ k) (h1 : k ≤ 86400) : secsOf r s 0 86400 = secsOf r s 0 k ++ secsOf r s k 86400 := by
  rw [secs_one r (by omega) (by omega) (by omega), secs_one r (by omega) h0 h1, secs_one r h0 h1 (by omega)]
  have := one_parts r s 0 (k - 0).toNat (86400 - k).toNat
  rw [show (k - 0).toNat + (86400 - k).toNat = (86400 - 0 : Int).toNat by omega, show (0 : Int) + ((k - 0).toNat : Int) = k by omega] at this
  exact this
def hN (r : R) : Nat := if 0 < r.hour.length then r.hour.length else if toldH r then 1 else 24
def mN (r : R) : Nat := if 0 < r.min.length then r.min.length else if toldM r then 1 else 60
theorem nil_of {r : R} {s a b : Int} (h : ¬ chkR r = 0) : secsOf r s a b = [] := by
  unfold secsOf
  rw [if_neg]
  rintro ⟨hm, -⟩
  exact h (may_parts hm).2.2
theorem count_of {r : R} {s : Int} (h0 : 0 ≤ s) (h1 : s ≤ 315537897599) (hc : chkR r = 0) (hf : 1 ≤ r.freq) : ((secsOf r s 0 86400).length : Int) = (hN r : Int) * (mN r : Int) * max 1 (r.sec.length : Int) ∧ (hN r : Int) * (mN r : Int) ≤ 2000 ∧ (hN r : Int) * (mN r : Int) * max 1 (r.sec.length : Int) ≤ 100000 ∧ hN r ≤ 24 ∧ mN r ≤ 60 := by
  have hm : mayT r s = true := by unfold mayT; rw [decide_eq_true h0, decide_eq_true h1, decide_eq_true hc]; rfl
  obtain ⟨e1, e2, e3⟩ := hours_count hm
  obtain ⟨f1, f2, f3⟩ := fine_of hc
  have hh : hN r ≤ 24 := by unfold hN; have := f1.1; split <;> (try split) <;> omega
  have hmn : mN r ≤ 60 := by unfold mN; have := f2.1; split <;> (try split) <;> omega
  have hp := Nat.mul_le_mul hh hmn
  have hs : (if 0 < r.sec.length then r.sec.length else if toldS r then 1 else 60) = max 1 r.sec.length := by
    have : toldS r = true := decide_eq_true hf
    rw [this]
    split
    · omega
    · rw [if_pos rfl]; omega
  have hl := secs_count hm
  rw [e1, e2, e3, hs] at hl
  have h3 : max 1 r.sec.length ≤ 12 := by have := f3.1; omega
  have hq := Nat.mul_le_mul hp h3
  have hl2 : (secsOf r s 0 86400).length = hN r * mN r * max 1 r.sec.length := by rw [hl]; unfold hN mN; rw [Nat.mul_assoc]
  have hmax : ((max 1 r.sec.length : Nat) : Int) = max 1 (r.sec.length : Int) := by omega
  refine ⟨?_, ?_, ?_, hh, hmn⟩
  · rw [hl2, Int.natCast_mul, Int.natCast_mul, hmax]
  · rw [← Int.natCast_mul]; omega
  · rw [← hmax, ← Int.natCast_mul, ← Int.natCast_mul]; omega
set_option maxHeartbeats 16000000 in
set_option maxRecDepth 100000 in
theorem lparts_no (w : World) (r : R) (sv : Nat → Value) (st nk : Int) (hL : Lists w r sv) (hn : ∀ q, 4 ≤ q → q ≤ 12 → q ≠ 7 → (lst r q).length ≤ 9223372036854775807) (hn7 : r.day.length ≤ 9223372036854775807) (hsm : smallR r = false) :
    Calls Try.prog 6 #[ruleV r sv, .int .u64 st, .int .u32 nk] w fun e w' => e = .returned (.bool true) ∧ Below w.heap.size w w' := by
  have FS : ∀ W, Below w.heap.size w W → Calls Try.prog 7 #[ruleV r sv] W fun e w' => e = .returned (.bool false) ∧ Below W.heap.size W w' := fun W hB => by
    have h := small_any W r sv (hL.later hB) hn hn7
    rwa [hsm] at h
  have AW := Lib.hid (fun W => tawake_any W)
  clear hL hn hn7
  unfold ruleV ruleC at *
  replace FS := Lib.hid FS
  go_enter Try.func6, Try.ntmps6
  go_wp2_with (first
    | (go_at_call 7; (with_reducible refine (FS.out _ (by (repeat' (first | assumption | exact Below.refl _ _ | apply Below.next_alloc | apply Below.drew | (apply Below.next; rotate_left; assumption))))).mono ?_); rintro e w1 ⟨rfl, hB1⟩; have b1 := Lib.hid (show Below w.heap.size w w1 from Below.next_allocs' hB1))
    | (go_at_call 8; (with_reducible refine (AW.out _).mono ?_); rintro e w2 ⟨rfl, hB2⟩; have b2 := Lib.hid (Below.next b1.out hB2)))
  go_ret
  exact ⟨rfl, b2.out⟩
set_option maxHeartbeats 16000000 in
set_option maxRecDepth 100000 in
theorem lparts_wake (w : World) (r : R) (sv : Nat → Value) (st nk : Int) (s0 : 0 ≤ st) (s1 : st ≤ 18446744073709551615) (u0 : 0 ≤ nk) (u1 : nk ≤ 4294967295) (hL : Lists w r sv) (hf : 0 ≤ r.freq ∧ 0 ≤ r.uk ∧ r.uk ≤ 255) (hn : ∀ q, 4 ≤ q → q ≤ 12 → q ≠ 7 → (lst r q).length ≤ 9223372036854775807) (hn7 : r.day.length ≤ 9223372036854775807) (hsm : smallR r = true) (hq : r.freq < 1 ∨ (r.freq < 2 ∧ r.hour.length = 0)) :
    Calls Try.prog 6 #[ruleV r sv, .int .u64 st, .int .u32 nk] w fun e w' => e = .returned (.bool true) ∧ Below w.heap.size w w' := by
  have FS : ∀ W, Below w.heap.size w W → Calls Try.prog 7 #[ruleV r sv] W fun e w' => e = .returned (.bool true) ∧ Below W.heap.size W w' := fun W hB => by
    have h := small_any W r sv (hL.later hB) hn hn7
    rwa [hsm] at h
  have hS := short_small hsm
  have FO : ∀ W, Below w.heap.size w W → Calls Try.prog 10 #[ruleV r sv] W (GivesO W r) := fun W hB => (own_any W r sv (hL.later hB) hS).mono fun e w' h => givesO h
  have AW := Lib.hid (fun W => tawake_any W)
  obtain ⟨p4, g4, e4⟩ := ints_slice (hL.1 4 (by decide) (by decide) (by decide))
  change sv 4 = .slice p4 r.sec.length g4 at e4
  obtain ⟨p5, g5, e5⟩ := ints_slice (hL.1 5 (by decide) (by decide) (by decide))
  change sv 5 = .slice p5 r.min.length g5 at e5
  obtain ⟨p6, g6, e6⟩ := ints_slice (hL.1 6 (by decide) (by decide) (by decide))
  change sv 6 = .slice p6 r.hour.length g6 at e6
  have X0 := BoxR.new w r sv 27
  clear hL hn hn7 hS
  unfold ruleV at FS FO ⊢
  unfold ruleC at FS FO X0 ⊢
  have FS' := FS
  have FO' := FO
  rw [e4, e5, e6] at FS' FO'
  rw [e4, e5, e6]
  clear FS FO
  have FS := Lib.hid FS'
  have FO := Lib.hid FO'
  clear FS' FO'
  rw [e4, e5, e6] at X0
  replace X0 := Lib.hid X0
  rcases hq with q1 | q2
  · as_aux_lemma =>
    go_enter Try.func6, Try.ntmps6
    go_wp2_with (first
      | (go_at_call 7; (with_reducible refine (FS.out _ (by (repeat' (first | assumption | exact Below.refl _ _ | apply Below.next_alloc | apply Below.drew | (apply Below.next; rotate_left; assumption))))).mono ?_); rintro e w1 ⟨rfl, hB1⟩; have b1 := Lib.hid (show Below w.heap.size w w1 from Below.next_allocs' hB1); have X1 := Lib.hid (X0.out.keep (by simp) hB1); obtain ⟨k0, k1, k2, k3, k4, k5, k6, k7, k8, k9, k10, k11, k12, k13, k14⟩ := X1.out; rw [e4] at k5; rw [e5] at k6; rw [e6] at k7; have l1 : w.heap.size < w1.heap.size := size1 hB1; clear hB1)
      | (go_at_call 10; (with_reducible refine (FO.out _ b1.out).mono ?_); rintro e w2 ⟨a4, c4, a5, c5, a6, c6, a7, c7, a8, c8, a9, c9, a10, c10, a11, c11, a12, c12, rfl, hL2, hB2⟩; clear k0 k1 k2 k3 k4 k5 k6 k7 k8 k9 k10 k11 k12 k13 k14; have X2 := Lib.hid (X1.out.keep l1 hB2); obtain ⟨k0, -, -, -, -, k5, k6, k7, -⟩ := X2.out; rw [e4] at k5; rw [e5] at k6; rw [e6] at k7; have b2 := Lib.hid (Below.next b1.out hB2); have hL2 := Lib.hid hL2; have l2 : w.heap.size < w2.heap.size := Nat.lt_of_lt_of_le l1 hB2.size; clear hB2)
      | (go_at_call 8; (with_reducible refine (AW.out _).mono ?_); rintro e w9 ⟨rfl, hB9⟩))
    all_goals
      go_ret
      exact ⟨rfl, Below.next (Below.next_alloc b2.out _) hB9⟩
  · as_aux_lemma =>
    obtain ⟨q2, q3⟩ := q2
    have q4 : (r.hour.length : Int) = 0 := by omega
    rw [q3] at e6 FS FO X0 ⊢
    go_enter Try.func6, Try.ntmps6
    go_wp2_with (first
      | (go_at_call 7; (with_reducible refine (FS.out _ (by (repeat' (first | assumption | exact Below.refl _ _ | apply Below.next_alloc | apply Below.drew | (apply Below.next; rotate_left; assumption))))).mono ?_); rintro e w1 ⟨rfl, hB1⟩; have b1 := Lib.hid (show Below w.heap.size w w1 from Below.next_allocs' hB1); have X1 := Lib.hid (X0.out.keep (by simp) hB1); obtain ⟨k0, k1, k2, k3, k4, k5, k6, k7, k8, k9, k10, k11, k12, k13, k14⟩ := X1.out; rw [e4] at k5; rw [e5] at k6; rw [e6] at k7; have l1 : w.heap.size < w1.heap.size := size1 hB1; clear hB1)
      | (go_at_call 10; (with_reducible refine (FO.out _ b1.out).mono ?_); rintro e w2 ⟨a4, c4, a5, c5, a6, c6, a7, c7, a8, c8, a9, c9, a10, c10, a11, c11, a12, c12, rfl, hL2, hB2⟩; clear k0 k1 k2 k3 k4 k5 k6 k7 k8 k9 k10 k11 k12 k13 k14; have X2 := Lib.hid (X1.out.keep l1 hB2); obtain ⟨k0, -, -, -, -, k5, k6, k7, -⟩ := X2.out; rw [e4] at k5; rw [e5] at k6; rw [e6] at k7; have b2 := Lib.hid (Below.next b1.out hB2); have hL2 := Lib.hid hL2; have l2 : w.heap.size < w2.heap.size := Nat.lt_of_lt_of_le l1 hB2.size; clear hB2)
      | (go_at_call 8; (with_reducible refine (AW.out _).mono ?_); rintro e w9 ⟨rfl, hB9⟩))
    all_goals
      go_ret
      exact ⟨rfl, Below.next (Below.next_alloc b2.out _) hB9⟩
end Go.Proofs.Ytndicgfafdhieaa.Tm

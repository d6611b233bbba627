/- The law RsetMember: what it asks is true of every set. -/
import Derived.Test.YtkbohijlhhpfbaaGreatDoorVZx
import Derived.Test.YtkbohijlhhpfbaaGreatDoorVZq
import Derived.Test.YtkbohijlhhpfbaaGreatDoorVZu
namespace Go.Proofs.YtkbohijlhhpfbaaGreatDoor.Rs
open Go.RowKit Ru Ut Cw Ra Xp
theorem last_le {f w : Int} (f0 : 0 ≤ f) (hc : Pd.counts f w = true) : Pd.last f w ≤ 315537897599 := by
 have ih := Pd.idx_hi hc f0
 have bb := Wk.back_bd 3652058 w
 have h3 := (Pd.counts_iff f w).1 hc
 rw [ih]; repeat' split <;> omega
theorem ofE_le (r : R) (s i : Int) : (ofE r s i).length ≤ 3999 := by
 have h := allE_len r s i
 unfold ofE
 split
 ·exact h
 ·exact Nat.le_trans (picksTo_len _ _ _) h
theorem rule_cells (s : St) (p : Nat → Option Addr) (u : Nat → Nat) : ∀ (j : Nat) (v : Value), (ruleQ s p u).toList[j]? = some v → (setQ s p u)[2 + j]? = some v := by
 intro j v h
 have hj : j < 15 := (List.getElem?_eq_some_iff.1 h).1
 have hc : j = 0 ∨ j = 1 ∨ j = 2 ∨ j = 3 ∨ j = 4 ∨ j = 5 ∨ j = 6 ∨ j = 7 ∨ j = 8 ∨ j = 9 ∨ j = 10 ∨ j = 11 ∨ j = 12 ∨ j = 13 ∨ j = 14 := by omega
 rcases hc with rfl | rfl | rfl | rfl | rfl | rfl | rfl | rfl | rfl | rfl | rfl | rfl | rfl | rfl | rfl <;> exact h
theorem rule_one (s : St) (p : Nat → Option Addr) (u : Nat → Nat) : (ruleQ s p u).all (·.oneCell') = true := by unfold ruleQ; simp [Value.oneCell']
theorem candidate_any (w : World) (s : St) (p : Nat → Option Addr) (u : Nat → Nat) (t : Int) (hT : Tab w) (hL : LS w s (svQ s.rule p u) (.slice (p 13) s.inn.length (u 13)) (.slice (p 14) s.out.length (u 14))) (hW : WS s) (hc : chkS s = 0) (t0 : 0 ≤ t) (t1 : t ≤ 315537897599) :
  Calls Tryz.prog 30 #[.agg (setQ s p u), .int .i64 t] w fun e w' => e = .returned (.bool (candidate (pS s 0 0 0 false) t)) ∧ Below w.heap.size w w' := by
 have f0 : 0 ≤ s.rule.freq := hW.1.2.1.1
 have hF := fineS f0 hc 0 0 0 false
 have hk : Pd.counts s.rule.freq s.rule.wkst = true := counts_ok hF.1 hF.2.1
 have hh : 1 ≤ s.rule.interval ∧ s.rule.interval ≤ 1000 ∧ 0 ≤ s.rule.count ∧ s.rule.count ≤ 1000 := head_ok hF.2.1
 have s0 : 0 ≤ s.sec := hF.2.2.1
 have F1 : ∀ x W, Below w.heap.size w W → Calls Tryz.prog 61 #[.int .u8 s.rule.freq, .int .i64 s.rule.wkst, .int .i64 x] W fun e w' => e = .returned (.int .i64 (Pd.index s.rule.freq s.rule.wkst x)) ∧ W = w' := fun x W hB => index_any _ _ x W (hT.later hB) f0
 have FO : ∀ W, Below w.heap.size w W → Calls Tryz.prog 17 #[.agg (ruleQ s p u), .int .i64 s.sec, .int .i64 (Pd.index s.rule.freq s.rule.wkst t)] W fun e w' => ∃ v, e = .returned v ∧ Ints w' v (ofE s.rule s.sec (Pd.index s.rule.freq s.rule.wkst t)) ∧ Below W.heap.size W w' := fun W hB =>
  (qOf hW.1 (hT.later hB) (hL.later hB).1 s.sec _).mono fun e w' ⟨v, he, hO, hb⟩ => ⟨v, he, hO.ints, hb⟩
 have FH : ∀ W v, Ints W v (ofE s.rule s.sec (Pd.index s.rule.freq s.rule.wkst t)) → Calls Tryz.prog 44 #[v, .int .i64 t] W fun e w' => e = .returned (.bool (decide (t ∈ ofE s.rule s.sec (Pd.index s.rule.freq s.rule.wkst t)))) ∧ W = w' := fun W v h => rHas_any t h (by have := ofE_le s.rule s.sec (Pd.index s.rule.freq s.rule.wkst t); omega)
 refine cand_ok w _ (ruleQ s p u) t s.sec _ s.rule.interval s.rule.uk s.rule.us _ _ (Pd.index s.rule.freq s.rule.wkst s.sec) ((Pd.index s.rule.freq s.rule.wkst t - Pd.index s.rule.freq s.rule.wkst s.sec) % s.rule.interval) _ (candidate (pS s 0 0 0 false) t) _ rfl (rule_cells s p u) rfl rfl rfl rfl rfl rfl (rule_one s p u) (F1 t) (F1 s.sec) FO FH hh.1 hh.2.1 ?_
 by_cases h1 : t < s.sec
 ·refine .inl ⟨h1, ?_⟩
  unfold candidate
  rw [decide_eq_false (show ¬ (pS s 0 0 0 false).start ≤ t from Int.not_le.2 h1)]; rfl
 have h1' : s.sec ≤ t := Int.not_lt.1 h1
 have hm := index_mono f0 hk s0 h1' t1
 have hi1 := (index_in f0 hk t0 t1).2
 have hi0 := (Pd.index_bd hk f0 s0 (by omega)).1
 have hl := last_le f0 hk
 have hmod : (Pd.index s.rule.freq s.rule.wkst t - Pd.index s.rule.freq s.rule.wkst s.sec).tmod s.rule.interval = (Pd.index s.rule.freq s.rule.wkst t - Pd.index s.rule.freq s.rule.wkst s.sec) % s.rule.interval := Int.tmod_eq_emod_of_nonneg (by omega)
 have key : t ≤ finS s → candidate (pS s 0 0 0 false) t = (decide ((Pd.index s.rule.freq s.rule.wkst t - Pd.index s.rule.freq s.rule.wkst s.sec) % s.rule.interval = 0) && decide (t ∈ ofE s.rule s.sec (Pd.index s.rule.freq s.rule.wkst t))) := fun g2 => by
  unfold candidate
  rw [decide_eq_true (show (pS s 0 0 0 false).start ≤ t from h1'), decide_eq_true (show t ≤ (pS s 0 0 0 false).fin from g2)]
  rfl
 have last : t ≤ finS s → ((((Pd.index s.rule.freq s.rule.wkst t - Pd.index s.rule.freq s.rule.wkst s.sec) % s.rule.interval != 0) = true ∧ candidate (pS s 0 0 0 false) t = false) ∨ (((Pd.index s.rule.freq s.rule.wkst t - Pd.index s.rule.freq s.rule.wkst s.sec) % s.rule.interval != 0) = false ∧ candidate (pS s 0 0 0 false) t = decide (t ∈ ofE s.rule s.sec (Pd.index s.rule.freq s.rule.wkst t)))) := fun g => by
  rw [key g]
  by_cases h3 : (Pd.index s.rule.freq s.rule.wkst t - Pd.index s.rule.freq s.rule.wkst s.sec) % s.rule.interval = 0
  ·exact .inr ⟨by rw [h3]; rfl, by rw [decide_eq_true h3, Bool.true_and]⟩
  ·exact .inl ⟨bne_iff_ne.2 h3, by rw [decide_eq_false h3, Bool.false_and]⟩
 by_cases h2 : s.rule.uk = 0
 ·exact .inr (.inr ⟨h1', .inl h2, hi0, hm, by omega, hmod, last (by unfold finS; rw [if_neg (by simp [h2])]; exact t1)⟩)
 ·have hu : (s.rule.uk != 0) = true := bne_iff_ne.2 h2
  have hfe : finS s = s.rule.us := by unfold finS; rw [if_pos h2]
  by_cases h4 : s.rule.us < t
  ·refine .inr (.inl ⟨h1', hu, h4, ?_⟩)
   unfold candidate
   rw [decide_eq_false (show ¬ t ≤ (pS s 0 0 0 false).fin from by show ¬ t ≤ finS s; omega), Bool.false_and, Bool.and_false]
  ·exact .inr (.inr ⟨h1', .inr ⟨hu, by omega⟩, hi0, hm, by omega, hmod, last (by omega)⟩)
theorem rankF_to (s : St) (t last : Int) : ∀ (n : Nat) (i : Int), rankF s.sec t last s.rule.interval (ofE s.rule s.sec) n i = rankTo s t last n i
 | 0, _ => rfl
 | n + 1, i => by
  rw [rankF, rankTo, rankF_to s t last n]
  rfl
def rankL (s : St) (t : Int) : Nat := if (Pd.index s.rule.freq s.rule.wkst t - first (pS s 0 0 0 false)) / s.rule.interval ≤ 300 then rankTo s t (Pd.index s.rule.freq s.rule.wkst t) (fuel (pS s 0 0 0 false) (first (pS s 0 0 0 false))) (first (pS s 0 0 0 false)) else 0
theorem rank_any (w : World) (s : St) (p : Nat → Option Addr) (u : Nat → Nat) (t : Int) (hT : Tab w) (hL : LS w s (svQ s.rule p u) (.slice (p 13) s.inn.length (u 13)) (.slice (p 14) s.out.length (u 14))) (hW : WS s) (hc : chkS s = 0) (h1 : s.sec ≤ t) (t1 : t ≤ 315537897599) :
  Calls Tryz.prog 31 #[.agg (setQ s p u), .int .i64 t] w fun e w' => e = .returned (.int .i64 (rankL s t : Nat)) ∧ Below w.heap.size w w' := by
 have f0 : 0 ≤ s.rule.freq := hW.1.2.1.1
 have hF := fineS f0 hc 0 0 0 false
 have hk : Pd.counts s.rule.freq s.rule.wkst = true := counts_ok hF.1 hF.2.1
 have hh : 1 ≤ s.rule.interval ∧ s.rule.interval ≤ 1000 ∧ 0 ≤ s.rule.count ∧ s.rule.count ≤ 1000 := head_ok hF.2.1
 have s0 : 0 ≤ s.sec := hF.2.2.1
 have F1 : ∀ x W, Below w.heap.size w W → Calls Tryz.prog 61 #[.int .u8 s.rule.freq, .int .i64 s.rule.wkst, .int .i64 x] W fun e w' => e = .returned (.int .i64 (Pd.index s.rule.freq s.rule.wkst x)) ∧ W = w' := fun x W hB => index_any _ _ x W (hT.later hB) f0
 have FO : ∀ i W, Below w.heap.size w W → Calls Tryz.prog 17 #[.agg (ruleQ s p u), .int .i64 s.sec, .int .i64 i] W fun e w' => ∃ v, e = .returned v ∧ Ints w' v (ofE s.rule s.sec i) ∧ Below W.heap.size W w' := fun i W hB =>
  (qOf hW.1 (hT.later hB) (hL.later hB).1 s.sec i).mono fun e w' ⟨v, he, hO, hb⟩ => ⟨v, he, hO.ints, hb⟩
 have hm := index_mono f0 hk s0 h1 t1
 have hi1 := (index_in f0 hk (t := t) (by omega) t1).2
 have hi0 := (Pd.index_bd hk f0 s0 (by omega)).1
 have hl := last_le f0 hk
 have hq0 : 0 ≤ (Pd.index s.rule.freq s.rule.wkst t - Pd.index s.rule.freq s.rule.wkst s.sec) / s.rule.interval := Int.ediv_nonneg (by omega) (by omega)
 have hq1 : (Pd.index s.rule.freq s.rule.wkst t - Pd.index s.rule.freq s.rule.wkst s.sec) / s.rule.interval ≤ 1000000000000 := Int.le_trans (Int.ediv_le_self _ (by omega)) (by omega)
 have hdiv : (Pd.index s.rule.freq s.rule.wkst t - Pd.index s.rule.freq s.rule.wkst s.sec).tdiv s.rule.interval = (Pd.index s.rule.freq s.rule.wkst t - Pd.index s.rule.freq s.rule.wkst s.sec) / s.rule.interval := Int.tdiv_eq_ediv_of_nonneg (by omega)
 unfold rankL
 by_cases h3 : (Pd.index s.rule.freq s.rule.wkst t - first (pS s 0 0 0 false)) / s.rule.interval ≤ 300
 ·rw [if_pos h3, ← rankF_to]
  exact rank_ok w _ (ruleQ s p u) t s.sec _ s.rule.interval _ _ _ _ (ofE s.rule s.sec) rfl (rule_cells s p u) rfl rfl rfl rfl (rule_one s p u) (F1 s.sec) (F1 t) FO (ofE_le s.rule s.sec) hh.1 hh.2.1 hi0 hm (by omega) hdiv hq0 hq1 h3 _ (by unfold fuel lastP; show (Pd.index s.rule.freq s.rule.wkst t - Pd.index s.rule.freq s.rule.wkst s.sec).toNat < (Pd.last s.rule.freq s.rule.wkst - Pd.index s.rule.freq s.rule.wkst s.sec).toNat + 1; omega)
 ·rw [if_neg h3]
  exact rank_far w _ (ruleQ s p u) t s.sec _ s.rule.interval _ _ _ _ (ofE s.rule s.sec) rfl (rule_cells s p u) rfl rfl rfl rfl (rule_one s p u) (F1 s.sec) (F1 t) FO hh.1 hh.2.1 hi0 hm (by omega) hdiv hq0 hq1 (by have : ¬ (Pd.index s.rule.freq s.rule.wkst t - Pd.index s.rule.freq s.rule.wkst s.sec) / s.rule.interval ≤ 300 := h3; omega)
theorem lmem_any (w : World) (s : St) (sv : Nat → Value) (vi vo : Value) (sec : Int) (hT : Tab w) (hL0 : LS w s sv vi vo) (hA : ArgS s) (s0 : 0 ≤ sec) (s1 : sec ≤ 18446744073709551615) : Calls Tryz.prog 6 #[setV s sv vi vo, .int .u64 sec] w fun e w' => e = .returned (.bool true) ∧ Below w.heap.size w w' := by
 obtain ⟨a, c, hq, hL⟩ := ls_q hL0
 unfold setV
 rw [hq]
 cases hsm : smS s
 ·exact lmem_no w (setQ s a c) sec rfl (fsS hL hA hsm) (awS hT)
 obtain ⟨hW, -, hni, hno⟩ := sm_facts hA hsm
 have f0 := hA.2.1.1
 obtain ⟨T, hTT⟩ : ∃ T, T = sec % 315537897600 := ⟨_, rfl⟩
 have t0 : 0 ≤ T := by omega
 have t1 : T ≤ 315537897599 := by omega
 have FS := fsS hL hA hsm
 have FO := foS hL hA hsm
 have AW := awS hT
 have hXc : ∀ SX W, XS s SX W → SX[4]? = some (.int .i64 s.rule.count) ∧ ∃ ai ni ci ao no co, SX[17]? = some (.slice ai ni ci) ∧ SX[18]? = some (.slice ao no co) := by
  rintro SX W ⟨p, u, rfl, -⟩
  exact ⟨rfl, _, _, _, _, _, _, rfl, rfl⟩
 have FH : ∀ SX W, XS s SX W → Below w.heap.size w W → Calls Tryz.prog 24 #[.agg SX, .int .i64 T, .int .i64 4000] W fun r w' => r = .returned (.tuple #[.bool (hasF s T 4000).1, .int .i64 (hasF s T 4000).2]) ∧ Below W.heap.size W w' := by
  rintro SX W ⟨p, u, rfl, hX⟩ hB
  exact phas_any W s p u T 4000 (hT.later hB) hX hW
 have FI : ∀ SX W v, XS s SX W → SX[17]? = some v → Calls Tryz.prog 32 #[v, .int .i64 T] W fun e w' => e = .returned (.bool (decide (T ∈ secs s.inn))) ∧ W = w' := by
  rintro SX W v ⟨p, u, rfl, hX⟩ hv
  obtain rfl : Value.slice (p 13) s.inn.length (u 13) = v := Option.some.inj hv
  exact lhas_any T hX.2.1 (by omega)
 have FT : ∀ SX W v, XS s SX W → SX[18]? = some v → Calls Tryz.prog 32 #[v, .int .i64 T] W fun e w' => e = .returned (.bool (decide (T ∈ secs s.out))) ∧ W = w' := by
  rintro SX W v ⟨p, u, rfl, hX⟩ hv
  obtain rfl : Value.slice (p 14) s.out.length (u 14) = v := Option.some.inj hv
  exact lhas_any T hX.2.2 (by omega)
 by_cases he : (hasF s T 4000).2 = 0
 case neg =>
  rw [has_err he] at FH
  exact lmem_err w _ rfl (XS s) (xs_ok s) (xs_later s) FS FO AW sec T s.rule.count _ hXc s0 s1 hTT.symm FH (bne_iff_ne.2 he)
 obtain ⟨hc, hmem⟩ := has_mem f0 he
 rw [he] at FH
 have hml := member_law f0 hc t0 t1
 have FC : ∀ SX W, XS s SX W → Below w.heap.size w W → Calls Tryz.prog 30 #[.agg SX, .int .i64 T] W fun e w' => e = .returned (.bool (candidate (pS s 0 0 0 false) T)) ∧ Below W.heap.size W w' := by
  rintro SX W ⟨p, u, rfl, hX⟩ hB
  exact candidate_any W s p u T (hT.later hB) hX hW hc t0 t1
 have hMem : (hasF s T 4000).1 = true ↔ (T ∈ rulS s ∨ T ∈ secs s.inn) ∧ T ∉ secs s.out := hmem
 have FR : candidate (pS s 0 0 0 false) T = true → ∀ SX W, XS s SX W → Below w.heap.size w W → Calls Tryz.prog 31 #[.agg SX, .int .i64 T] W fun e w' => e = .returned (.int .i64 (rankL s T : Nat)) ∧ Below W.heap.size W w' := fun hcb => by
  have hst : s.sec ≤ T := by
   unfold candidate at hcb
   simp only [Bool.and_eq_true, decide_eq_true_eq] at hcb
   exact hcb.1
  rintro SX W ⟨p, u, rfl, hX⟩ hB
  exact rank_any W s p u T (hT.later hB) hX hW hc hst t1
 have yes : T ∈ rulS s → (hasF s T 4000).1 = !decide (T ∈ secs s.out) := fun h => by
  rw [Bool.eq_iff_iff, hMem]; simp [h]
 have nay : ¬ T ∈ rulS s → (hasF s T 4000).1 = (decide (T ∈ secs s.inn) && !decide (T ∈ secs s.out)) := fun h => by
  rw [Bool.eq_iff_iff, hMem]; simp [h]
 refine lmem_ok w _ rfl (XS s) (xs_ok s) (xs_later s) FS FO AW sec T s.rule.count _ _ _ _ _ hXc s0 s1 hTT.symm FH FC FR FI FT ?_
 cases hcb : candidate (pS s 0 0 0 false) T
 ·exact .inl ⟨rfl, nay fun h => by have := (hml.1 h).1; rw [hcb] at this; cases this⟩
 ·by_cases hcount : s.rule.count ≤ 0
  ·exact .inr (.inl ⟨rfl, hcount, yes (hml.2 ⟨hcb, fun h => by omega⟩)⟩)
  ·have hc1 : 0 < s.rule.count := by omega
   by_cases hn : rankL s T = 0
   ·exact .inr (.inr (.inl ⟨rfl, hc1, by rw [hn]; rfl⟩))
   ·have hrk : rankL s T = rankTo s T (Pd.index s.rule.freq s.rule.wkst T) (fuel (pS s 0 0 0 false) (first (pS s 0 0 0 false))) (first (pS s 0 0 0 false)) := by
     unfold rankL at hn ⊢
     split at hn
     ·rename_i h; rw [if_pos h]
     ·exact absurd rfl hn
    rw [← hrk] at hml
    by_cases hle : (rankL s T : Int) ≤ s.rule.count
    ·exact .inr (.inr (.inr (.inl ⟨rfl, hc1, by omega, hle, yes (hml.2 ⟨hcb, fun _ => hle⟩)⟩)))
    ·exact .inr (.inr (.inr (.inr ⟨rfl, hc1, by omega, by omega, nay fun h => hle ((hml.1 h).2 hc1)⟩)))
end Go.Proofs.YtkbohijlhhpfbaaGreatDoor.Rs

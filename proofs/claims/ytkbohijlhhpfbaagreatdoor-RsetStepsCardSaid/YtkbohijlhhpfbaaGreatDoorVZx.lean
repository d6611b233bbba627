/- The laws RsetNext and RsetWindows: what they ask is true of every set. -/
import Derived.Test.YtkbohijlhhpfbaaGreatDoorVZl
import Derived.Test.YtkbohijlhhpfbaaGreatDoorVZj
import Derived.Test.YtkbohijlhhpfbaaGreatDoorVZr
namespace Go.Proofs.YtkbohijlhhpfbaaGreatDoor.Rs
open Go.RowKit Ru Ut Cw Ra Xp
def XS (s : St) (SX : Array Value) (W : World) : Prop := ∃ p u, SX = setQ s p u ∧ LS W s (svQ s.rule p u) (.slice (p 13) s.inn.length (u 13)) (.slice (p 14) s.out.length (u 14))
theorem xs_ok (s : St) : ∀ SX W, XS s SX W → SX.size = 19 ∧ SX.all (·.oneCell') = true := by
 rintro SX W ⟨p, u, rfl, -⟩
 exact ⟨rfl, by unfold setQ; simp [Value.oneCell']⟩
theorem xs_later (s : St) : ∀ SX W W2, XS s SX W → Below W.heap.size W W2 → XS s SX W2 := by
 rintro SX W W2 ⟨p, u, rfl, hL⟩ hB
 exact ⟨p, u, rfl, hL.later hB⟩
def ArgS (s : St) : Prop := ((0 ≤ s.kind ∧ s.kind ≤ 255) ∧ KindsOk s.inn ∧ KindsOk s.out) ∧ (0 ≤ s.rule.freq ∧ 0 ≤ s.rule.uk ∧ s.rule.uk ≤ 255) ∧ (∀ q, 4 ≤ q → q ≤ 12 → q ≠ 7 → ∀ z ∈ lst s.rule q, (Lit.int .i64 z).wf = true) ∧
 ((∀ q, 4 ≤ q → q ≤ 12 → q ≠ 7 → (lst s.rule q).length ≤ 9223372036854775807) ∧ s.rule.day.length ≤ 9223372036854775807) ∧ s.inn.length ≤ 9223372036854775807 ∧ s.out.length ≤ 9223372036854775807
def smS (s : St) : Bool := smallR s.rule && decide (s.inn.length ≤ 20) && decide (s.out.length ≤ 20)
theorem shortS {r : R} (h : smallR r = true) : Short r := by
 have h := smallR_iff.1 h
 refine ⟨fun q h4 h12 h7 => ?_, by omega⟩
 have hc : q = 4 ∨ q = 5 ∨ q = 6 ∨ q = 8 ∨ q = 9 ∨ q = 10 ∨ q = 11 ∨ q = 12 := by omega
 rcases hc with rfl | rfl | rfl | rfl | rfl | rfl | rfl | rfl <;> simp [lst] <;> omega
theorem sm_facts {s : St} (hA : ArgS s) (h : smS s = true) : WS s ∧ Short s.rule ∧ s.inn.length ≤ 1000 ∧ s.out.length ≤ 1000 := by
 unfold smS at h
 simp only [Bool.and_eq_true, decide_eq_true_eq] at h
 obtain ⟨⟨h1, h2⟩, h3⟩ := h
 have hS := shortS h1
 exact ⟨⟨⟨hS, hA.2.1, hA.2.2.1⟩, hA.1.1, hA.1.2.1, hA.1.2.2, by omega, by omega⟩, hS, by omega, by omega⟩
section
variable {w : World} {s : St} {a : Nat → Option Addr} {c : Nat → Nat} (hL : LS w s (svQ s.rule a c) (.slice (a 13) s.inn.length (c 13)) (.slice (a 14) s.out.length (c 14))) (hA : ArgS s)
include hL hA
theorem fsS {b : Bool} (hsm : smS s = b) : ∀ W, Below w.heap.size w W → Calls Tryz.prog 19 #[.agg (setQ s a c)] W fun e w' => e = .returned (.bool b) ∧ Below W.heap.size W w' := fun W hB => by
 have h := smallS_any W s a c (hL.later hB) hA.2.2.2.2.1 hA.2.2.2.2.2 hA.2.2.2.1.1 hA.2.2.2.1.2
 unfold smS at hsm
 rwa [hsm] at h
theorem foS (hsm : smS s = true) : ∀ W, Below w.heap.size w W → Calls Tryz.prog 21 #[.agg (setQ s a c)] W fun e w' => ∃ SX, e = .returned (.agg SX) ∧ XS s SX w' ∧ Below W.heap.size W w' := fun W hB => by
 obtain ⟨-, h1, h2, h3⟩ := sm_facts hA hsm
 exact (ownS_any W s a c (hL.later hB) h1 h2 h3).mono fun e w' ⟨p, u, he, hl, hb⟩ => ⟨_, he, ⟨p, u, rfl, hl⟩, hb⟩
end
theorem awS {w : World} (hT : Tab w) : ∀ W, Below w.heap.size w W → Calls Tryz.prog 20 #[] W fun e w' => e = .returned (.bool true) ∧ Below W.heap.size W w' := fun W hB => awake_any W (hT.later hB)
theorem win_len {s : St} (f0 : 0 ≤ s.rule.freq) (hi : s.inn.length ≤ 1000) (x y bud : Int) : (winF s x y bud).1.length ≤ 5000 := by
 by_cases h : (winF s x y bud).2.2 = 0
 ·obtain ⟨-, h2, u, hw, e⟩ := winF_ok f0 h
  rw [e]
  have h3 : 0 ≤ bud ∧ bud ≤ 4000 := by unfold badW at h2; omega
  have h4 := walk_len h3.1 hw
  have h5 := fold_len x y ((rulS s).filter (hit (pS s x y bud false))) s.inn
  have h6 := List.length_filter_le (fun t => !decide (t ∈ secs s.out)) ((within x y (secs s.inn)).foldl insR ((rulS s).filter (hit (pS s x y bud false))))
  show (List.filter _ _).length ≤ 5000
  omega
 ·rw [win_err h]; simp
theorem gives_ints {W : World} {o : List Int × Int × Int} {e : Ending} {w' : World} (h : Gives3 W o e w') : ∃ v, e = .returned (.tuple #[v, .int .i64 o.2.1, .int .i64 o.2.2]) ∧ Ints w' v o.1 ∧ Below W.heap.size W w' := by
 obtain ⟨v, he, hO, hB⟩ := h
 exact ⟨v, he, hO.ints, hB⟩
theorem lnext_any (w : World) (s : St) (sv : Nat → Value) (vi vo : Value) (after bud : Int) (hT : Tab w) (hL0 : LS w s sv vi vo) (hA : ArgS s) : Calls Tryz.prog 5 #[setV s sv vi vo, .int .i64 after, .int .i64 bud] w fun e w' => e = .returned (.bool true) ∧ Below w.heap.size w w' := by
 obtain ⟨a, c, hq, hL⟩ := ls_q hL0
 unfold setV
 rw [hq]
 cases hsm : smS s
 ·exact lnext_no w (setQ s a c) after bud rfl (fsS hL hA hsm) (awS hT)
 ·obtain ⟨hW, -, -, -⟩ := sm_facts hA hsm
  refine lnext_core w (setQ s a c) rfl (XS s) (xs_ok s) (xs_later s) (fsS hL hA hsm) (foS hL hA hsm) (awS hT) after bud _ _ _ ?_ (fun W hB => rnext_any W s a c after bud (hL.later hB) hW)
  rintro SX W ⟨p, u, rfl, hX⟩ hB
  exact pnext_any W s p u after bud (hT.later hB) hX hW
theorem lwin_any (w : World) (s : St) (sv : Nat → Value) (vi vo : Value) (x y z : Int) (hT : Tab w) (hL0 : LS w s sv vi vo) (hA : ArgS s) : Calls Tryz.prog 4 #[setV s sv vi vo, .agg #[.int .i64 x, .int .i64 y, .int .i64 z]] w fun e w' => e = .returned (.bool true) ∧ Below w.heap.size w w' := by
 obtain ⟨a, c, hq, hL⟩ := ls_q hL0
 unfold setV
 rw [hq]
 cases hsm : smS s
 ·exact lwin_no w (setQ s a c) x y z rfl (fsS hL hA hsm) (awS hT)
 ·obtain ⟨hW, -, hi, -⟩ := sm_facts hA hsm
  have hlen := win_len hA.2.1.1 hi x y z
  refine lwin_core w (setQ s a c) rfl (XS s) (xs_ok s) (xs_later s) (fsS hL hA hsm) (foS hL hA hsm) (awS hT) x y z (winF s x y z).2.1 (winF s x y z).2.2 (hasF s x z).2 (chkS s) (hasF s x z).1 (winF s x y z).1 ?_ ?_ ?_ ?_ ?_ ?_ ?_
  ·rintro SX W ⟨p, u, rfl, hX⟩ hB
   exact (pwindow_any W s p u x y z (hT.later hB) hX hW).mono fun _ _ h => gives_ints h
  ·exact fun W hB => (rwindow_any W s a c x y z (hL.later hB) hW).mono fun _ _ h => gives_ints h
  ·rintro SX W ⟨p, u, rfl, hX⟩ hB
   exact phas_any W s p u x z (hT.later hB) hX hW
  ·exact fun W hB => rhasS_any W s a c x z (hL.later hB) hW
  ·rintro SX W ⟨p, u, rfl, hX⟩ hB
   exact checkS_any W s (svQ s.rule p u) (.slice (p 13) s.inn.length (u 13)) (.slice (p 14) s.out.length (u 14)) hX hW
  ·exact fun W hB => rcheckS_any W s a c (hL.later hB) hW
  ·exact fun W v u h1 h2 => same_eq h1 h2 (by omega)
end Go.Proofs.YtkbohijlhhpfbaaGreatDoor.Rs

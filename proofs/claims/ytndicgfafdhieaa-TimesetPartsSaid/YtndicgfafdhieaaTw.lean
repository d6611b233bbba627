/- The walk of the law TimesetParts, where there is much to ask (printed by gen_tparts.py). -/
import Derived.Test.YtndicgfafdhieaaTv
namespace Go.Proofs.Ytndicgfafdhieaa.Tm
open Go.RowKit Ru Ut Cw Ra
theorem wrap_in {x : Int} (h : 0 ≤ x ∧ x ≤ 1000000) : wrap64 x = x := by unfold wrap64; omega
set_option maxHeartbeats 16000000 in
set_option maxRecDepth 100000 in
theorem lparts_main (w : World) (r : R) (sv : Nat → Value) (st nk : Int) (s0 : 0 ≤ st) (s1 : st ≤ 18446744073709551615) (u0 : 0 ≤ nk) (u1 : nk ≤ 4294967295) (hL : Lists w r sv) (hf : 0 ≤ r.freq ∧ 0 ≤ r.uk ∧ r.uk ≤ 255) (hx : ∀ q, 4 ≤ q → q ≤ 12 → q ≠ 7 → ∀ x ∈ lst r q, (Lit.int .i64 x).wf = true) (hn : ∀ q, 4 ≤ q → q ≤ 12 → q ≠ 7 → (lst r q).length ≤ 9223372036854775807) (hn7 : r.day.length ≤ 9223372036854775807) (hsm : smallR r = true) (hq : ¬ (r.freq < 1 ∨ (r.freq < 2 ∧ r.hour.length = 0))) :
    Calls Try.prog 6 #[ruleV r sv, .int .u64 st, .int .u32 nk] w fun e w' => e = .returned (.bool true) ∧ Below w.heap.size w w' := by
  have FS : ∀ W, Below w.heap.size w W → Calls Try.prog 7 #[ruleV r sv] W fun e w' => e = .returned (.bool true) ∧ Below W.heap.size W w' := fun W hB => by
    have h := small_any W r sv (hL.later hB) hn hn7
    rwa [hsm] at h
  have hS := short_small hsm
  have hW : Wide r := ⟨hS, hf, hx⟩
  have FO : ∀ W, Below w.heap.size w W → Calls Try.prog 10 #[ruleV r sv] W (GivesO W r) := fun W hB => (own_any W r sv (hL.later hB) hS).mono fun e w' h => givesO h
  have FC : ∀ W, Below w.heap.size w W → Calls Try.prog 16 #[ruleV r sv] W fun e w' => e = .returned (.int .i64 (chkR r)) ∧ Below W.heap.size W w' := fun W hB => rcheckR_any W r sv (hL.later hB) hW.1 hW.2.1.2 hW.2.1.1
  have AW := Lib.hid (fun W => tawake_any W)
  obtain ⟨p4, g4, e4⟩ := ints_slice (hL.1 4 (by decide) (by decide) (by decide))
  change sv 4 = .slice p4 r.sec.length g4 at e4
  obtain ⟨p5, g5, e5⟩ := ints_slice (hL.1 5 (by decide) (by decide) (by decide))
  change sv 5 = .slice p5 r.min.length g5 at e5
  obtain ⟨p6, g6, e6⟩ := ints_slice (hL.1 6 (by decide) (by decide) (by decide))
  change sv 6 = .slice p6 r.hour.length g6 at e6
  have ns4 : r.sec.length ≤ 1000 := hS.1 4 (by decide) (by decide) (by decide)
  have ns5 : r.min.length ≤ 1000 := hS.1 5 (by decide) (by decide) (by decide)
  have ns6 : r.hour.length ≤ 1000 := hS.1 6 (by decide) (by decide) (by decide)
  have hk : 0 ≤ nk % 86401 ∧ nk % 86401 ≤ 86400 := by omega
  have hs : 0 ≤ st % 315537897600 ∧ st % 315537897600 ≤ 315537897599 := by omega
  have hsum := lparts_sum r (st % 315537897600) (nk % 86401) hk.1 hk.2
  have FA := oOf hW (st % 315537897600) 0 86400
  have FB := oOf hW (st % 315537897600) 0 (nk % 86401)
  have FD := oOf hW (st % 315537897600) (nk % 86401) 86400
  have CB := oCount hW (st % 315537897600) 0 (nk % 86401)
  have CD := oCount hW (st % 315537897600) (nk % 86401) 86400
  rw [hsum] at FA
  have z1 := secsOf_few r (st % 315537897600) 0 (nk % 86401)
  have z2 := secsOf_few r (st % 315537897600) (nk % 86401) 86400
  have hnil : ¬ chkR r = 0 → secsOf r (st % 315537897600) 0 (nk % 86401) = [] ∧ secsOf r (st % 315537897600) (nk % 86401) 86400 = [] := fun h => ⟨nil_of h, nil_of h⟩
  have hcnt : chkR r = 0 → 1 ≤ r.freq → ((secsOf r (st % 315537897600) 0 (nk % 86401)).length : Int) + (secsOf r (st % 315537897600) (nk % 86401) 86400).length = (hN r : Int) * (mN r : Int) * max 1 (r.sec.length : Int) ∧ (hN r : Int) * (mN r : Int) ≤ 2000 ∧ (hN r : Int) * (mN r : Int) * max 1 (r.sec.length : Int) ≤ 100000 ∧ hN r ≤ 24 ∧ mN r ≤ 60 := fun h1 h2 => by
    have := count_of hs.1 hs.2 h1 h2
    rwa [hsum, List.length_append, Int.natCast_add] at this
  clear hsum
  generalize secsOf r (st % 315537897600) 0 (nk % 86401) = L1 at *
  generalize secsOf r (st % 315537897600) (nk % 86401) 86400 = L2 at *
  have FQ : ∀ v u W, Ints W v (L1 ++ L2) → Ints W u ([] ++ L1 ++ L2) → Calls Try.prog 13 #[v, u] W fun e w' => e = .returned (.bool true) ∧ Below W.heap.size W w' := fun v u W h1 h2 => by
    have h := rSame_any h1 h2 (by rw [List.length_append]; omega) (by rw [List.length_append, List.length_append]; simp; omega)
    rwa [List.nil_append, decide_eq_true rfl] at h
  have X0 := BoxR.new w r sv 27
  replace FA := Lib.hid FA
  replace FB := Lib.hid FB
  replace FD := Lib.hid FD
  replace CB := Lib.hid CB
  replace CD := Lib.hid CD
  replace FQ := Lib.hid FQ
  replace hnil := Lib.hid hnil
  replace hcnt := Lib.hid hcnt
  clear hL hn hn7 hx hW hS
  unfold ruleV at FS FO FC ⊢
  unfold ruleC at FS FO FC X0 ⊢
  have FS' := FS
  have FO' := FO
  have FC' := FC
  rw [e4, e5, e6] at FS' FO' FC'
  rw [e4, e5, e6]
  clear FS FO FC
  have FS := Lib.hid FS'
  have FO := Lib.hid FO'
  have FC := Lib.hid FC'
  clear FS' FO' FC'
  rw [e4, e5, e6] at X0
  replace X0 := Lib.hid X0
  have q1 : ¬ r.freq < 1 := fun h => hq (.inl h)
  have q2 : ¬ (r.freq < 2 ∧ r.hour.length = 0) := fun h => hq (.inr h)
  clear hq
  go_enter Try.func6, Try.ntmps6
  go_upto_region 4 with (first
    | (go_at_call 7; (with_reducible refine (FS.out _ (by (repeat' (first | assumption | exact Below.refl _ _ | apply Below.next_alloc | apply Below.drew | (apply Below.next; rotate_left; assumption))))).mono ?_); rintro e w1 ⟨rfl, hB1⟩; have b1 := Lib.hid (show Below w.heap.size w w1 from Below.next_allocs' hB1); have X1 := Lib.hid (X0.out.keep (by simp) hB1); obtain ⟨k0, k1, k2, k3, k4, k5, k6, k7, k8, k9, k10, k11, k12, k13, k14⟩ := X1.out; rw [e4] at k5; rw [e5] at k6; rw [e6] at k7; have l1 : w.heap.size < w1.heap.size := size1 hB1; clear hB1)
    | (go_at_call 10; (with_reducible refine (FO.out _ b1.out).mono ?_); rintro e w2 ⟨a4, c4, a5, c5, a6, c6, a7, c7, a8, c8, a9, c9, a10, c10, a11, c11, a12, c12, rfl, hL2, hB2⟩; clear k0 k1 k2 k3 k4 k5 k6 k7 k8 k9 k10 k11 k12 k13 k14; have X2 := Lib.hid (X1.out.keep l1 hB2); obtain ⟨k0, -, -, -, -, k5, k6, k7, -⟩ := X2.out; rw [e4] at k5; rw [e5] at k6; rw [e6] at k7; have b2 := Lib.hid (Below.next b1.out hB2); have hL2 := Lib.hid hL2; have l2 : w.heap.size < w2.heap.size := Nat.lt_of_lt_of_le l1 hB2.size; clear hB2))
  have BX : ∀ W, Below (w2.alloc (.cells #[.int .u8 r.freq, .int .i64 r.interval, .int .i64 r.count, .int .u8 r.uk, .int .i64 r.us, .slice a4 r.sec.length c4, .slice a5 r.min.length c5, .slice a6 r.hour.length c6, .slice a7 r.day.length c7, .slice a8 r.mday.length c8, .slice a9 r.yday.length c9, .slice a10 r.weekno.length c10, .slice a11 r.month.length c11, .slice a12 r.setpos.length c12, .int .i64 r.wkst] 34)).heap.size (w2.alloc (.cells #[.int .u8 r.freq, .int .i64 r.interval, .int .i64 r.count, .int .u8 r.uk, .int .i64 r.us, .slice a4 r.sec.length c4, .slice a5 r.min.length c5, .slice a6 r.hour.length c6, .slice a7 r.day.length c7, .slice a8 r.mday.length c8, .slice a9 r.yday.length c9, .slice a10 r.weekno.length c10, .slice a11 r.month.length c11, .slice a12 r.setpos.length c12, .int .i64 r.wkst] 34)) W → w2.heap.size < W.heap.size ∧ W.cell? ⟨w2.heap.size, 0, none⟩ = some (.int .u8 r.freq) ∧ W.cell? ⟨w2.heap.size, 1, none⟩ = some (.int .i64 r.interval) ∧ W.cell? ⟨w2.heap.size, 2, none⟩ = some (.int .i64 r.count) ∧ W.cell? ⟨w2.heap.size, 3, none⟩ = some (.int .u8 r.uk) ∧ W.cell? ⟨w2.heap.size, 4, none⟩ = some (.int .i64 r.us) ∧ W.cell? ⟨w2.heap.size, 5, none⟩ = some (.slice a4 r.sec.length c4) ∧ W.cell? ⟨w2.heap.size, 6, none⟩ = some (.slice a5 r.min.length c5) ∧ W.cell? ⟨w2.heap.size, 7, none⟩ = some (.slice a6 r.hour.length c6) ∧ W.cell? ⟨w2.heap.size, 8, none⟩ = some (.slice a7 r.day.length c7) ∧ W.cell? ⟨w2.heap.size, 9, none⟩ = some (.slice a8 r.mday.length c8) ∧ W.cell? ⟨w2.heap.size, 10, none⟩ = some (.slice a9 r.yday.length c9) ∧ W.cell? ⟨w2.heap.size, 11, none⟩ = some (.slice a10 r.weekno.length c10) ∧ W.cell? ⟨w2.heap.size, 12, none⟩ = some (.slice a11 r.month.length c11) ∧ W.cell? ⟨w2.heap.size, 13, none⟩ = some (.slice a12 r.setpos.length c12) ∧ W.cell? ⟨w2.heap.size, 14, none⟩ = some (.int .i64 r.wkst) := fun W hB => oBox w2 r (.slice a4 r.sec.length c4) (.slice a5 r.min.length c5) (.slice a6 r.hour.length c6) (.slice a7 r.day.length c7) (.slice a8 r.mday.length c8) (.slice a9 r.yday.length c9) (.slice a10 r.weekno.length c10) (.slice a11 r.month.length c11) (.slice a12 r.setpos.length c12) _ hB
  have KX : ∀ W, Below (w2.alloc (.cells #[.int .u8 r.freq, .int .i64 r.interval, .int .i64 r.count, .int .u8 r.uk, .int .i64 r.us, .slice a4 r.sec.length c4, .slice a5 r.min.length c5, .slice a6 r.hour.length c6, .slice a7 r.day.length c7, .slice a8 r.mday.length c8, .slice a9 r.yday.length c9, .slice a10 r.weekno.length c10, .slice a11 r.month.length c11, .slice a12 r.setpos.length c12, .int .i64 r.wkst] 34)).heap.size (w2.alloc (.cells #[.int .u8 r.freq, .int .i64 r.interval, .int .i64 r.count, .int .u8 r.uk, .int .i64 r.us, .slice a4 r.sec.length c4, .slice a5 r.min.length c5, .slice a6 r.hour.length c6, .slice a7 r.day.length c7, .slice a8 r.mday.length c8, .slice a9 r.yday.length c9, .slice a10 r.weekno.length c10, .slice a11 r.month.length c11, .slice a12 r.setpos.length c12, .int .i64 r.wkst] 34)) W → W.cell? ⟨w.heap.size, 0, none⟩ = some (.int .u8 r.freq) ∧ W.cell? ⟨w.heap.size, 5, none⟩ = some (.slice p4 r.sec.length g4) ∧ W.cell? ⟨w.heap.size, 6, none⟩ = some (.slice p5 r.min.length g5) ∧ W.cell? ⟨w.heap.size, 7, none⟩ = some (.slice p6 r.hour.length g6) := fun W hB => by
    have h := Below.next_allocs' hB
    have k : ∀ i v, w2.cell? ⟨w.heap.size, i, none⟩ = some v → W.cell? ⟨w.heap.size, i, none⟩ = some v := fun i v hv => (h.cell (p := ⟨w.heap.size, i, none⟩) l2).trans hv
    exact ⟨k _ _ k0, k _ _ k5, k _ _ k6, k _ _ k7⟩
  have RX : ∀ W, Below (w2.alloc (.cells #[.int .u8 r.freq, .int .i64 r.interval, .int .i64 r.count, .int .u8 r.uk, .int .i64 r.us, .slice a4 r.sec.length c4, .slice a5 r.min.length c5, .slice a6 r.hour.length c6, .slice a7 r.day.length c7, .slice a8 r.mday.length c8, .slice a9 r.yday.length c9, .slice a10 r.weekno.length c10, .slice a11 r.month.length c11, .slice a12 r.setpos.length c12, .int .i64 r.wkst] 34)).heap.size (w2.alloc (.cells #[.int .u8 r.freq, .int .i64 r.interval, .int .i64 r.count, .int .u8 r.uk, .int .i64 r.us, .slice a4 r.sec.length c4, .slice a5 r.min.length c5, .slice a6 r.hour.length c6, .slice a7 r.day.length c7, .slice a8 r.mday.length c8, .slice a9 r.yday.length c9, .slice a10 r.weekno.length c10, .slice a11 r.month.length c11, .slice a12 r.setpos.length c12, .int .i64 r.wkst] 34)) W → BoxR W w.heap.size r sv := fun W hB => X2.out.keep l2 (Below.next_allocs' hB)
  have LA : ∀ W, Below (w2.alloc (.cells #[.int .u8 r.freq, .int .i64 r.interval, .int .i64 r.count, .int .u8 r.uk, .int .i64 r.us, .slice a4 r.sec.length c4, .slice a5 r.min.length c5, .slice a6 r.hour.length c6, .slice a7 r.day.length c7, .slice a8 r.mday.length c8, .slice a9 r.yday.length c9, .slice a10 r.weekno.length c10, .slice a11 r.month.length c11, .slice a12 r.setpos.length c12, .int .i64 r.wkst] 34)).heap.size (w2.alloc (.cells #[.int .u8 r.freq, .int .i64 r.interval, .int .i64 r.count, .int .u8 r.uk, .int .i64 r.us, .slice a4 r.sec.length c4, .slice a5 r.min.length c5, .slice a6 r.hour.length c6, .slice a7 r.day.length c7, .slice a8 r.mday.length c8, .slice a9 r.yday.length c9, .slice a10 r.weekno.length c10, .slice a11 r.month.length c11, .slice a12 r.setpos.length c12, .int .i64 r.wkst] 34)) W → Lists W r (sv9 (.slice a4 r.sec.length c4) (.slice a5 r.min.length c5) (.slice a6 r.hour.length c6) (.slice a7 r.day.length c7) (.slice a8 r.mday.length c8) (.slice a9 r.yday.length c9) (.slice a10 r.weekno.length c10) (.slice a11 r.month.length c11) (.slice a12 r.setpos.length c12)) := fun W hB => hL2.out.later (Below.next_allocs' hB)
  have B0 := Lib.hid (Below.next_alloc b2.out (.cells #[.int .u8 r.freq, .int .i64 r.interval, .int .i64 r.count, .int .u8 r.uk, .int .i64 r.us, .slice a4 r.sec.length c4, .slice a5 r.min.length c5, .slice a6 r.hour.length c6, .slice a7 r.day.length c7, .slice a8 r.mday.length c8, .slice a9 r.yday.length c9, .slice a10 r.weekno.length c10, .slice a11 r.month.length c11, .slice a12 r.setpos.length c12, .int .i64 r.wkst] 34))
  clear X1 X2 k0 k5 k6 k7 hL2 b2 l2 b1 l1
  obtain ⟨W0, hW0⟩ : ∃ W0, w2.alloc (.cells #[.int .u8 r.freq, .int .i64 r.interval, .int .i64 r.count, .int .u8 r.uk, .int .i64 r.us, .slice a4 r.sec.length c4, .slice a5 r.min.length c5, .slice a6 r.hour.length c6, .slice a7 r.day.length c7, .slice a8 r.mday.length c8, .slice a9 r.yday.length c9, .slice a10 r.weekno.length c10, .slice a11 r.month.length c11, .slice a12 r.setpos.length c12, .int .i64 r.wkst] 34) = W0 := ⟨_, rfl⟩
  rw [hW0] at BX KX RX LA B0 ⊢
  clear hW0
  have hx0 := (BX W0 (Below.refl _ _)).1
  obtain ⟨k0, k5, k6, k7⟩ := KX W0 (Below.refl _ _)
  replace BX := Lib.hid BX
  replace KX := Lib.hid KX
  replace RX := Lib.hid RX
  replace LA := Lib.hid LA
  go_cut [39] (fun c wx => c = .bool false ∧ W0 = wx)
  case first => as_aux_lemma =>
    have d1 : decide (r.freq < 1) = false := decide_eq_false (by omega)
    by_cases q3 : r.freq < 2
    · have q4 : ¬ (r.hour.length : Int) = 0 := by omega
      have d4 : ((r.hour.length : Int) == 0) = false := by rw [beq_eq_false_iff_ne]; exact q4
      go_wp2
      go_meet
      exact ⟨rfl, rfl⟩
    · go_wp2
      go_meet
      exact ⟨rfl, rfl⟩
  case rest => as_aux_lemma =>
  obtain ⟨rfl, rfl⟩ := hcut
  clear k0 k5 k6 k7 q2
  obtain ⟨y0, x0, x1, x2, x3, x4, x5, x6, x7, x8, x9, x10, x11, x12, x13, x14⟩ := BX.out W0 (Below.refl _ _)
  go_wp2_with (first
    | (at_builtin; refine push_list rfl _ _ rfl w3.heap.size _ ([] ++ L1) rfl (hO5.below hB6) _ _ L2 rfl hO6 (by simp; omega) (Below.next hB5.out hB6).size ?_; intro v7 w7 hO7 hC7; obtain ⟨h1, h2, h3⟩ := hO7.slice; simp only [List.length_append, List.length_nil, Nat.zero_add] at h3; subst h3; have hB7 := Lib.hid ((Below.next hB5.out hB6).trans hC7); clear y0 x0 x1 x2 x3 x4 x5 x6 x7 x8 x9 x10 x11 x12 x13 x14; obtain ⟨y0, x0, x1, x2, x3, x4, x5, x6, x7, x8, x9, x10, x11, x12, x13, x14⟩ := BX.out w7 (Below.next hB3.out hB7.out))
    | (at_builtin; refine push_list rfl _ _ rfl w3.heap.size (.slice none 0 0) [] rfl (OwnI.nil _ _) _ _ L1 rfl hO4 (by simp; omega) hB4.size ?_; intro v5 w5 hO5 hC5; obtain ⟨h1, h2, h3⟩ := hO5.slice; simp only [List.length_append, List.length_nil, Nat.zero_add] at h3; subst h3; have hB5 := Lib.hid (hB4.trans hC5); clear y0 x0 x1 x2 x3 x4 x5 x6 x7 x8 x9 x10 x11 x12 x13 x14; obtain ⟨y0, x0, x1, x2, x3, x4, x5, x6, x7, x8, x9, x10, x11, x12, x13, x14⟩ := BX.out w5 (Below.next hB3.out hB5.out))
    | (go_at_call 12; (with_reducible refine (FA.out (.slice a4 r.sec.length c4) (.slice a5 r.min.length c5) (.slice a6 r.hour.length c6) (.slice a7 r.day.length c7) (.slice a8 r.mday.length c8) (.slice a9 r.yday.length c9) (.slice a10 r.weekno.length c10) (.slice a11 r.month.length c11) (.slice a12 r.setpos.length c12) _ (LA.out _ (Below.refl _ _))).mono ?_); rintro e w3 ⟨v3, rfl, hO3, hB3⟩; obtain ⟨h1, h2, h3⟩ := hO3.slice; simp only [List.length_append] at h3; subst h3; replace hB3 := Lib.hid hB3; clear y0 x0 x1 x2 x3 x4 x5 x6 x7 x8 x9 x10 x11 x12 x13 x14; obtain ⟨y0, x0, x1, x2, x3, x4, x5, x6, x7, x8, x9, x10, x11, x12, x13, x14⟩ := BX.out w3 hB3.out)
    | (go_at_call 12; (with_reducible refine (FB.out (.slice a4 r.sec.length c4) (.slice a5 r.min.length c5) (.slice a6 r.hour.length c6) (.slice a7 r.day.length c7) (.slice a8 r.mday.length c8) (.slice a9 r.yday.length c9) (.slice a10 r.weekno.length c10) (.slice a11 r.month.length c11) (.slice a12 r.setpos.length c12) _ (LA.out _ hB3.out)).mono ?_); rintro e w4 ⟨v4, rfl, hO4, hB4⟩)
    | (go_at_call 12; (with_reducible refine (FD.out (.slice a4 r.sec.length c4) (.slice a5 r.min.length c5) (.slice a6 r.hour.length c6) (.slice a7 r.day.length c7) (.slice a8 r.mday.length c8) (.slice a9 r.yday.length c9) (.slice a10 r.weekno.length c10) (.slice a11 r.month.length c11) (.slice a12 r.setpos.length c12) _ (LA.out _ (Below.next hB3.out hB5.out))).mono ?_); rintro e w6 ⟨v6, rfl, hO6, hB6⟩))
  have i3 := Lib.hid (hO3.ints.below hB7.out)
  have i7 := Lib.hid hO7.ints
  have b7 := Lib.hid (Below.next hB3.out hB7.out)
  clear hO3 hO4 hO5 hO6 hO7 hB4 hC5 hB6 hC7 hB5 hB3 hB7
  have SL := Lib.hid (fun W (hB : Below w7.heap.size w7 W) => (BX.out W (Below.next b7.out hB)).2)
  go_region_held3 (fun w' => w'.cell? ⟨w2.heap.size, 0, none⟩ = some (.int .u8 r.freq) ∧ w'.cell? ⟨w2.heap.size, 1, none⟩ = some (.int .i64 r.interval) ∧ w'.cell? ⟨w2.heap.size, 2, none⟩ = some (.int .i64 r.count) ∧ w'.cell? ⟨w2.heap.size, 3, none⟩ = some (.int .u8 r.uk) ∧ w'.cell? ⟨w2.heap.size, 4, none⟩ = some (.int .i64 r.us) ∧ w'.cell? ⟨w2.heap.size, 5, none⟩ = some (.slice a4 r.sec.length c4) ∧ w'.cell? ⟨w2.heap.size, 6, none⟩ = some (.slice a5 r.min.length c5) ∧ w'.cell? ⟨w2.heap.size, 7, none⟩ = some (.slice a6 r.hour.length c6) ∧ w'.cell? ⟨w2.heap.size, 8, none⟩ = some (.slice a7 r.day.length c7) ∧ w'.cell? ⟨w2.heap.size, 9, none⟩ = some (.slice a8 r.mday.length c8) ∧ w'.cell? ⟨w2.heap.size, 10, none⟩ = some (.slice a9 r.yday.length c9) ∧ w'.cell? ⟨w2.heap.size, 11, none⟩ = some (.slice a10 r.weekno.length c10) ∧ w'.cell? ⟨w2.heap.size, 12, none⟩ = some (.slice a11 r.month.length c11) ∧ w'.cell? ⟨w2.heap.size, 13, none⟩ = some (.slice a12 r.setpos.length c12) ∧ w'.cell? ⟨w2.heap.size, 14, none⟩ = some (.int .i64 r.wkst)) (first | ((with_reducible refine SL.out _ ?_); (with_reducible (repeat' (first | assumption | exact Below.refl _ _ | apply Below.next_alloc | apply Below.drew | (apply Below.next; rotate_left; assumption)))); done) | go_keep)
    (first
      | (go_at_call 13; (with_reducible refine (FQ.out _ _ _ (Ints.below i3.out (by (repeat' (first | assumption | exact Below.refl _ _ | apply Below.next_alloc | apply Below.drew | (apply Below.next; rotate_left; assumption))))) (Ints.below i7.out (by (repeat' (first | assumption | exact Below.refl _ _ | apply Below.next_alloc | apply Below.drew | (apply Below.next; rotate_left; assumption)))))).mono ?_); rintro e y1 ⟨rfl, hD1⟩)
      | (go_at_call 15; (with_reducible refine (CB.out (.slice a4 r.sec.length c4) (.slice a5 r.min.length c5) (.slice a6 r.hour.length c6) (.slice a7 r.day.length c7) (.slice a8 r.mday.length c8) (.slice a9 r.yday.length c9) (.slice a10 r.weekno.length c10) (.slice a11 r.month.length c11) (.slice a12 r.setpos.length c12) _ (LA.out _ (Below.next b7.out (by (repeat' (first | assumption | exact Below.refl _ _ | apply Below.next_alloc | apply Below.drew | (apply Below.next; rotate_left; assumption))))))).mono ?_); rintro e y2 ⟨rfl, hD2⟩)
      | (go_at_call 15; (with_reducible refine (CD.out (.slice a4 r.sec.length c4) (.slice a5 r.min.length c5) (.slice a6 r.hour.length c6) (.slice a7 r.day.length c7) (.slice a8 r.mday.length c8) (.slice a9 r.yday.length c9) (.slice a10 r.weekno.length c10) (.slice a11 r.month.length c11) (.slice a12 r.setpos.length c12) _ (LA.out _ (Below.next b7.out (by (repeat' (first | assumption | exact Below.refl _ _ | apply Below.next_alloc | apply Below.drew | (apply Below.next; rotate_left; assumption))))))).mono ?_); rintro e y3 ⟨rfl, hD3⟩))
  as_aux_lemma =>
  have BB := Lib.hid (show Below W0.heap.size W0 y3 from Below.next b7.out (by (repeat' (first | assumption | exact Below.refl _ _ | apply Below.next_alloc | apply Below.drew | (apply Below.next; rotate_left; assumption)))))
  have BW := Lib.hid (Below.next B0.out BB.out)
  obtain ⟨k0, k1, k2, k3, k4, k5, k6, k7, k8, k9, k10, k11, k12, k13, k14⟩ := RX.out y3 BB.out
  rw [e4] at k5
  rw [e5] at k6
  rw [e6] at k7
  have hx1 := hcnt.out
  have t3 : (IntKind.i64.wrap ((L1.length : Int) + (L2.length : Int)) != (L1.length : Int) + (L2.length : Int)) = false := by rw [Go.IntWalk.i64_in _ (by omega)]; simp
  clear SL LA BX FQ CB CD hD1 hD2 hD3 b7 i3 i7 FA FB FD FS FO hcnt B0
  by_cases hc : chkR r = 0
  · rw [hc] at FC
    replace hx1 := Lib.hid (hx1 hc (by omega))
    clear hnil hc
    go_wp2_with (first
      | (go_at_call 16; (with_reducible refine (FC.out _ BW.out).mono ?_); rintro e y4 ⟨rfl, hE4⟩; have B4 := Lib.hid (Below.next BW.out hE4); clear k0 k1 k2 k3 k4 k5 k6 k7 k8 k9 k10 k11 k12 k13 k14; obtain ⟨k0, k5, k6, k7⟩ := KX.out y4 (Below.next BB.out hE4); clear hE4))
    clear FC
    go_quiet (fail)
    obtain ⟨c1, c2, c3, c4, c5⟩ := hx1.out
    clear hx1
    have H3 : (0 < r.hour.length ∧ hN r = r.hour.length) ∨ (r.hour.length = 0 ∧ 3 ≤ r.freq ∧ hN r = 1) ∨ (r.hour.length = 0 ∧ r.freq < 3 ∧ hN r = 24) := by
      unfold hN toldH
      by_cases h1 : 0 < r.hour.length
      · exact .inl ⟨h1, by rw [if_pos h1]⟩
      · by_cases h2 : 3 ≤ r.freq
        · exact .inr (.inl ⟨by omega, h2, by rw [if_neg h1, decide_eq_true h2, if_pos rfl]⟩)
        · exact .inr (.inr ⟨by omega, by omega, by rw [if_neg h1, decide_eq_false h2]; rfl⟩)
    have M3 : (0 < r.min.length ∧ mN r = r.min.length) ∨ (r.min.length = 0 ∧ 2 ≤ r.freq ∧ mN r = 1) ∨ (r.min.length = 0 ∧ r.freq < 2 ∧ mN r = 60) := by
      unfold mN toldM
      by_cases h1 : 0 < r.min.length
      · exact .inl ⟨h1, by rw [if_pos h1]⟩
      · by_cases h2 : 2 ≤ r.freq
        · exact .inr (.inl ⟨by omega, h2, by rw [if_neg h1, decide_eq_true h2, if_pos rfl]⟩)
        · exact .inr (.inr ⟨by omega, by omega, by rw [if_neg h1, decide_eq_false h2]; rfl⟩)
    rcases H3 with ⟨h1, hv⟩ | ⟨h1, h2, hv⟩ | ⟨h1, h2, hv⟩
    · rcases M3 with ⟨m1, mv⟩ | ⟨m1, m2, mv⟩ | ⟨m1, m2, mv⟩
      · as_aux_lemma =>
        rw [hv] at c4
        rw [mv] at c5
        have c1' : (L1.length : Int) + (L2.length : Int) = ((r.hour.length : Int) * (r.min.length : Int)) * max 1 (r.sec.length : Int) := by
          have h := c1
          rw [hv, mv] at h
          first | exact h | omega | (rw [h]; simp)
        have c2' : 0 ≤ ((r.hour.length : Int) * (r.min.length : Int)) ∧ ((r.hour.length : Int) * (r.min.length : Int)) ≤ 2000 := by
          have h : ((r.hour.length : Int) * (r.min.length : Int)) = (hN r : Int) * (mN r : Int) := by
            rw [hv, mv]
            (try first | rfl | simp | omega)
          rw [h]
          exact ⟨Int.mul_nonneg (by omega) (by omega), c2⟩
        have c3' : 0 ≤ ((r.hour.length : Int) * (r.min.length : Int)) * max 1 (r.sec.length : Int) ∧ ((r.hour.length : Int) * (r.min.length : Int)) * max 1 (r.sec.length : Int) ≤ 100000 := by rw [← c1']; omega
        have W1 : wrap64 ((r.hour.length : Int) * (r.min.length : Int)) = ((r.hour.length : Int) * (r.min.length : Int)) := wrap_in (by omega)
        have W2 : wrap64 (((r.hour.length : Int) * (r.min.length : Int)) * max 1 (r.sec.length : Int)) = ((r.hour.length : Int) * (r.min.length : Int)) * max 1 (r.sec.length : Int) := wrap_in (by omega)
        clear c1 c2 c3 hv mv
        replace c1' := Lib.hid c1'
        replace c2' := Lib.hid c2'
        replace c3' := Lib.hid c3'
        have tH : ((r.hour.length : Int) == 0) = false := by rw [beq_eq_false_iff_ne]; omega
        have tM : ((r.min.length : Int) == 0) = false := by rw [beq_eq_false_iff_ne]; omega
        go_wp2_with (first | (go_at_call 8; (with_reducible refine (AW.out _).mono ?_); rintro e y5 ⟨rfl, hE5⟩))
        · go_ret
          exact ⟨rfl, Below.next (Base.below_drewN B4.out _) hE5⟩
      · as_aux_lemma =>
        rw [hv] at c4
        rw [mv] at c5
        have c1' : (L1.length : Int) + (L2.length : Int) = (r.hour.length : Int) * max 1 (r.sec.length : Int) := by
          have h := c1
          rw [hv, mv] at h
          first | exact h | omega | (rw [h]; simp)
        have c2' : 0 ≤ (r.hour.length : Int) ∧ (r.hour.length : Int) ≤ 2000 := by
          have h : (r.hour.length : Int) = (hN r : Int) * (mN r : Int) := by
            rw [hv, mv]
            (try first | rfl | simp | omega)
          rw [h]
          exact ⟨Int.mul_nonneg (by omega) (by omega), c2⟩
        have c3' : 0 ≤ (r.hour.length : Int) * max 1 (r.sec.length : Int) ∧ (r.hour.length : Int) * max 1 (r.sec.length : Int) ≤ 100000 := by rw [← c1']; omega
        have W1 : wrap64 (r.hour.length : Int) = (r.hour.length : Int) := wrap_in (by omega)
        have W2 : wrap64 ((r.hour.length : Int) * max 1 (r.sec.length : Int)) = (r.hour.length : Int) * max 1 (r.sec.length : Int) := wrap_in (by omega)
        clear c1 c2 c3 hv mv
        replace c1' := Lib.hid c1'
        replace c2' := Lib.hid c2'
        replace c3' := Lib.hid c3'
        replace W1 := Lib.hid W1
        replace W2 := Lib.hid W2
        have tH : ((r.hour.length : Int) == 0) = false := by rw [beq_eq_false_iff_ne]; omega
        have tM : ((r.min.length : Int) == 0) = true := by rw [beq_iff_eq]; omega
        go_wp2_with (first | (go_at_call 8; (with_reducible refine (AW.out _).mono ?_); rintro e y5 ⟨rfl, hE5⟩))
        · go_ret
          exact ⟨rfl, Below.next (Base.below_drewN B4.out _) hE5⟩
        · rename_i hne
          refine (hne ?_).elim
          (try rw [W1.out])
          (try rw [W2.out])
          have := c1'.out
          first | exact this | omega
      · as_aux_lemma =>
        rw [hv] at c4
        rw [mv] at c5
        have c1' : (L1.length : Int) + (L2.length : Int) = ((r.hour.length : Int) * 60) * max 1 (r.sec.length : Int) := by
          have h := c1
          rw [hv, mv] at h
          first | exact h | omega | (rw [h]; simp)
        have c2' : 0 ≤ ((r.hour.length : Int) * 60) ∧ ((r.hour.length : Int) * 60) ≤ 2000 := by
          have h : ((r.hour.length : Int) * 60) = (hN r : Int) * (mN r : Int) := by
            rw [hv, mv]
            (try first | rfl | simp | omega)
          rw [h]
          exact ⟨Int.mul_nonneg (by omega) (by omega), c2⟩
        have c3' : 0 ≤ ((r.hour.length : Int) * 60) * max 1 (r.sec.length : Int) ∧ ((r.hour.length : Int) * 60) * max 1 (r.sec.length : Int) ≤ 100000 := by rw [← c1']; omega
        have W1 : wrap64 ((r.hour.length : Int) * 60) = ((r.hour.length : Int) * 60) := wrap_in (by omega)
        have W2 : wrap64 (((r.hour.length : Int) * 60) * max 1 (r.sec.length : Int)) = ((r.hour.length : Int) * 60) * max 1 (r.sec.length : Int) := wrap_in (by omega)
        clear c1 c2 c3 hv mv
        replace c1' := Lib.hid c1'
        replace c2' := Lib.hid c2'
        replace c3' := Lib.hid c3'
        replace W1 := Lib.hid W1
        replace W2 := Lib.hid W2
        have tH : ((r.hour.length : Int) == 0) = false := by rw [beq_eq_false_iff_ne]; omega
        have tM : ((r.min.length : Int) == 0) = true := by rw [beq_iff_eq]; omega
        go_wp2_with (first | (go_at_call 8; (with_reducible refine (AW.out _).mono ?_); rintro e y5 ⟨rfl, hE5⟩))
        · go_ret
          exact ⟨rfl, Below.next (Base.below_drewN B4.out _) hE5⟩
        · rename_i hne
          refine (hne ?_).elim
          (try rw [W1.out])
          (try rw [W2.out])
          have := c1'.out
          first | exact this | omega
    · rcases M3 with ⟨m1, mv⟩ | ⟨m1, m2, mv⟩ | ⟨m1, m2, mv⟩
      · as_aux_lemma =>
        rw [hv] at c4
        rw [mv] at c5
        have c1' : (L1.length : Int) + (L2.length : Int) = (r.min.length : Int) * max 1 (r.sec.length : Int) := by
          have h := c1
          rw [hv, mv] at h
          first | exact h | omega | (rw [h]; simp)
        have c2' : 0 ≤ (r.min.length : Int) ∧ (r.min.length : Int) ≤ 2000 := by
          have h : (r.min.length : Int) = (hN r : Int) * (mN r : Int) := by
            rw [hv, mv]
            (try first | rfl | simp | omega)
          rw [h]
          exact ⟨Int.mul_nonneg (by omega) (by omega), c2⟩
        have c3' : 0 ≤ (r.min.length : Int) * max 1 (r.sec.length : Int) ∧ (r.min.length : Int) * max 1 (r.sec.length : Int) ≤ 100000 := by rw [← c1']; omega
        have W1 : wrap64 (r.min.length : Int) = (r.min.length : Int) := wrap_in (by omega)
        have W2 : wrap64 ((r.min.length : Int) * max 1 (r.sec.length : Int)) = (r.min.length : Int) * max 1 (r.sec.length : Int) := wrap_in (by omega)
        clear c1 c2 c3 hv mv
        replace c1' := Lib.hid c1'
        replace c2' := Lib.hid c2'
        replace c3' := Lib.hid c3'
        replace W1 := Lib.hid W1
        replace W2 := Lib.hid W2
        have tH : ((r.hour.length : Int) == 0) = true := by rw [beq_iff_eq]; omega
        have tM : ((r.min.length : Int) == 0) = false := by rw [beq_eq_false_iff_ne]; omega
        go_wp2_with (first | (go_at_call 8; (with_reducible refine (AW.out _).mono ?_); rintro e y5 ⟨rfl, hE5⟩))
        · go_ret
          exact ⟨rfl, Below.next (Base.below_drewN B4.out _) hE5⟩
        · rename_i hne
          refine (hne ?_).elim
          (try rw [W1.out])
          (try rw [W2.out])
          have := c1'.out
          first | exact this | omega
      · as_aux_lemma =>
        rw [hv] at c4
        rw [mv] at c5
        have c1' : (L1.length : Int) + (L2.length : Int) = max 1 (r.sec.length : Int) := by
          have h := c1
          rw [hv, mv] at h
          first | exact h | omega | (rw [h]; simp)
        have c2' : (0 : Int) ≤ 1 ∧ (1 : Int) ≤ 2000 := by decide
        have c3' : 0 ≤ max 1 (r.sec.length : Int) ∧ max 1 (r.sec.length : Int) ≤ 100000 := by rw [← c1']; omega
        have W1 : wrap64 (1) = 1 := wrap_in (by omega)
        have W2 : wrap64 (max 1 (r.sec.length : Int)) = max 1 (r.sec.length : Int) := wrap_in (by omega)
        clear c1 c2 c3 hv mv
        replace c1' := Lib.hid c1'
        replace c2' := Lib.hid c2'
        replace c3' := Lib.hid c3'
        replace W1 := Lib.hid W1
        replace W2 := Lib.hid W2
        have tH : ((r.hour.length : Int) == 0) = true := by rw [beq_iff_eq]; omega
        have tM : ((r.min.length : Int) == 0) = true := by rw [beq_iff_eq]; omega
        go_wp2_with (first | (go_at_call 8; (with_reducible refine (AW.out _).mono ?_); rintro e y5 ⟨rfl, hE5⟩))
        · go_ret
          exact ⟨rfl, Below.next (Base.below_drewN B4.out _) hE5⟩
      · omega
    · rcases M3 with ⟨m1, mv⟩ | ⟨m1, m2, mv⟩ | ⟨m1, m2, mv⟩
      · as_aux_lemma =>
        rw [hv] at c4
        rw [mv] at c5
        have c1' : (L1.length : Int) + (L2.length : Int) = (24 * (r.min.length : Int)) * max 1 (r.sec.length : Int) := by
          have h := c1
          rw [hv, mv] at h
          first | exact h | omega | (rw [h]; simp)
        have c2' : 0 ≤ (24 * (r.min.length : Int)) ∧ (24 * (r.min.length : Int)) ≤ 2000 := by
          have h : (24 * (r.min.length : Int)) = (hN r : Int) * (mN r : Int) := by
            rw [hv, mv]
            (try first | rfl | simp | omega)
          rw [h]
          exact ⟨Int.mul_nonneg (by omega) (by omega), c2⟩
        have c3' : 0 ≤ (24 * (r.min.length : Int)) * max 1 (r.sec.length : Int) ∧ (24 * (r.min.length : Int)) * max 1 (r.sec.length : Int) ≤ 100000 := by rw [← c1']; omega
        have W1 : wrap64 (24 * (r.min.length : Int)) = (24 * (r.min.length : Int)) := wrap_in (by omega)
        have W2 : wrap64 ((24 * (r.min.length : Int)) * max 1 (r.sec.length : Int)) = (24 * (r.min.length : Int)) * max 1 (r.sec.length : Int) := wrap_in (by omega)
        clear c1 c2 c3 hv mv
        replace c1' := Lib.hid c1'
        replace c2' := Lib.hid c2'
        replace c3' := Lib.hid c3'
        replace W1 := Lib.hid W1
        replace W2 := Lib.hid W2
        have tH : ((r.hour.length : Int) == 0) = true := by rw [beq_iff_eq]; omega
        have tM : ((r.min.length : Int) == 0) = false := by rw [beq_eq_false_iff_ne]; omega
        go_wp2_with (first | (go_at_call 8; (with_reducible refine (AW.out _).mono ?_); rintro e y5 ⟨rfl, hE5⟩))
        · go_ret
          exact ⟨rfl, Below.next (Base.below_drewN B4.out _) hE5⟩
        · rename_i hne
          refine (hne ?_).elim
          (try rw [W1.out])
          (try rw [W2.out])
          have := c1'.out
          first | exact this | omega
      · as_aux_lemma =>
        rw [hv] at c4
        rw [mv] at c5
        have c1' : (L1.length : Int) + (L2.length : Int) = 24 * max 1 (r.sec.length : Int) := by
          have h := c1
          rw [hv, mv] at h
          first | exact h | omega | (rw [h]; simp)
        have c2' : (0 : Int) ≤ 24 ∧ (24 : Int) ≤ 2000 := by decide
        have c3' : 0 ≤ 24 * max 1 (r.sec.length : Int) ∧ 24 * max 1 (r.sec.length : Int) ≤ 100000 := by rw [← c1']; omega
        have W1 : wrap64 (24) = 24 := wrap_in (by omega)
        have W2 : wrap64 (24 * max 1 (r.sec.length : Int)) = 24 * max 1 (r.sec.length : Int) := wrap_in (by omega)
        clear c1 c2 c3 hv mv
        replace c1' := Lib.hid c1'
        replace c2' := Lib.hid c2'
        replace c3' := Lib.hid c3'
        replace W1 := Lib.hid W1
        replace W2 := Lib.hid W2
        have tH : ((r.hour.length : Int) == 0) = true := by rw [beq_iff_eq]; omega
        have tM : ((r.min.length : Int) == 0) = true := by rw [beq_iff_eq]; omega
        go_wp2_with (first | (go_at_call 8; (with_reducible refine (AW.out _).mono ?_); rintro e y5 ⟨rfl, hE5⟩))
        · go_ret
          exact ⟨rfl, Below.next (Base.below_drewN B4.out _) hE5⟩
      · as_aux_lemma =>
        rw [hv] at c4
        rw [mv] at c5
        have c1' : (L1.length : Int) + (L2.length : Int) = 1440 * max 1 (r.sec.length : Int) := by
          have h := c1
          rw [hv, mv] at h
          first | exact h | omega | (rw [h]; simp)
        have c2' : (0 : Int) ≤ 1440 ∧ (1440 : Int) ≤ 2000 := by decide
        have c3' : 0 ≤ 1440 * max 1 (r.sec.length : Int) ∧ 1440 * max 1 (r.sec.length : Int) ≤ 100000 := by rw [← c1']; omega
        have W1 : wrap64 (1440) = 1440 := wrap_in (by omega)
        have W2 : wrap64 (1440 * max 1 (r.sec.length : Int)) = 1440 * max 1 (r.sec.length : Int) := wrap_in (by omega)
        clear c1 c2 c3 hv mv
        replace c1' := Lib.hid c1'
        replace c2' := Lib.hid c2'
        replace c3' := Lib.hid c3'
        replace W1 := Lib.hid W1
        replace W2 := Lib.hid W2
        have tH : ((r.hour.length : Int) == 0) = true := by rw [beq_iff_eq]; omega
        have tM : ((r.min.length : Int) == 0) = true := by rw [beq_iff_eq]; omega
        go_wp2_with (first | (go_at_call 8; (with_reducible refine (AW.out _).mono ?_); rintro e y5 ⟨rfl, hE5⟩))
        · go_ret
          exact ⟨rfl, Below.next (Base.below_drewN B4.out _) hE5⟩
  · have t1 : (chkR r == 0) = false := by simp [hc]
    obtain ⟨n1, n2⟩ := hnil.out hc
    subst n1 n2
    clear hx1 hc
    go_wp2_with (first
      | (go_at_call 16; (with_reducible refine (FC.out _ BW.out).mono ?_); rintro e y4 ⟨rfl, hE4⟩; have B4 := Lib.hid (Below.next BW.out hE4); clear k0 k1 k2 k3 k4 k5 k6 k7 k8 k9 k10 k11 k12 k13 k14)
      | (go_at_call 8; (with_reducible refine (AW.out _).mono ?_); rintro e y5 ⟨rfl, hE5⟩))
    go_ret
    exact ⟨rfl, Below.next B4.out hE5⟩
theorem lparts_any (w : World) (r : R) (sv : Nat → Value) (st nk : Int) (s0 : 0 ≤ st ∧ st ≤ 18446744073709551615) (u0 : 0 ≤ nk ∧ nk ≤ 4294967295) (hL : Lists w r sv) (hf : 0 ≤ r.freq ∧ 0 ≤ r.uk ∧ r.uk ≤ 255) (hx : ∀ q, 4 ≤ q → q ≤ 12 → q ≠ 7 → ∀ x ∈ lst r q, (Lit.int .i64 x).wf = true) (hn : ∀ q, 4 ≤ q → q ≤ 12 → q ≠ 7 → (lst r q).length ≤ 9223372036854775807) (hn7 : r.day.length ≤ 9223372036854775807) :
    Calls Try.prog 6 #[ruleV r sv, .int .u64 st, .int .u32 nk] w fun e w' => e = .returned (.bool true) ∧ Below w.heap.size w w' := by
  cases h : smallR r
  · exact lparts_no w r sv st nk hL hn hn7 h
  · by_cases hq : r.freq < 1 ∨ (r.freq < 2 ∧ r.hour.length = 0)
    · exact lparts_wake w r sv st nk s0.1 s0.2 u0.1 u0.2 hL hf hn hn7 h hq
    · exact lparts_main w r sv st nk s0.1 s0.2 u0.1 u0.2 hL hf hx hn hn7 h hq
end Go.Proofs.Ytndicgfafdhieaa.Tm

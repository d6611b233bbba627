/- An argument that is a set, by value: what it is in memory (printed by gen_open.py). -/
import Derived.Test.YtkbohijlhhpfbaaGreatDoorVLc
import Derived.Test.YtkbohijlhhpfbaaGreatDoorVYy
namespace Go.Proofs.YtkbohijlhhpfbaaGreatDoor.Rs
open Go.ChangeShapes Go.WideShapes Go.RowKit Go.Deep Ru Ra Xp
section
variable {H : Type} {enc : TypeId × Value → H} {P : Program} {w : World} {base : Nat} {spare : Nat → Bool} {held : Bool}
theorem open_vals {t e : TypeId} {f0 f1 : Field} {n : Nat} {v : Value} {x : DataW H × List MemPlace} (ht : P.underlying t = some (.slice e)) (he : P.underlying e = some (.struct #[f0, f1]))
  (ce : P.cellsOf e = 2) (o0 : f0.offset = 0) (o1 : f1.offset = 1) (c0 : P.cellsOf f0.type = 1) (c1 : P.cellsOf f1.type = 1) (u0 : P.underlying f0.type = some (.int .u8)) (u1 : P.underlying f1.type = some (.int .i64))
  (h : DataW.trod enc P w base spare held n t [v] = some x) : ∃ l, Vals w v l ∧ KindsOk l ∧ l.length ≤ 9223372036854775807 := by
 rcases open_slice_pairs ht he ce o0 o1 c0 c1 h with ⟨hc, _⟩ | ⟨a, len, cap, m, k, V0, V1, D0, D1, P0, P1, hc, _, hl, hm, hmm, hx, hall⟩
 ·simp only [List.cons.injEq, and_true] at hc
  subst hc
  exact ⟨[], .inl ⟨rfl, _, _, rfl, fun _ => rfl⟩, (fun x hx => by cases hx), by simp⟩
 ·simp only [List.cons.injEq, and_true] at hc
  subst hc
  have hlm : len ≤ m := by rw [hmm]; split <;> omega
  by_cases h0 : 0 < len
  ·obtain ⟨b, o, spot⟩ := a
   have hspot : spot = none := by simpa [Addr.add] using World.cell?_spot (hall 0 (by omega)).1
   subst hspot
   have hs : ∀ i, i < len → (V0 i = .int .u8 (i64At (V0 i)) ∧ V1 i = .int .i64 (i64At (V1 i))) ∧ 0 ≤ i64At (V0 i) ∧ i64At (V0 i) ≤ 255 := fun i hi => by
    have hh := hall i (by omega)
    obtain ⟨s, h1, _, wk⟩ := DataW.trod_int u0 hh.2.2.1
    obtain ⟨z, h2, _, _⟩ := DataW.trod_int u1 hh.2.2.2
    have hb := bounds_u8 wk
    simp only [List.cons.injEq, and_true] at h1 h2
    rw [h1, h2]; exact ⟨⟨rfl, rfl⟩, hb.1, hb.2⟩
   have hblk : b < w.heap.size := World.block_lt_of_cell? (a := (⟨b, o, none⟩ : Addr).add (0 * 2)) _ (hall 0 (by omega)).1
   refine ⟨(List.range len).map fun i => (i64At (V0 i), i64At (V1 i)), .inr ⟨by simpa using h0, b, o, cap, by simp, hblk, by simpa using hl, fun i hi => ?_⟩, fun x hx => ?_, ?_⟩
   ·have hi' : i < len := by simpa using hi
    have hh := hall i (by omega)
    have g := (hs i hi').1
    simp only [List.getElem_map, List.getElem_range]
    rw [← g.1, ← g.2]
    have e1 := hh.1
    have e2 := hh.2.1
    rw [Ra.add_eq] at e1 e2
    exact ⟨e1, by rw [Nat.add_assoc]; exact e2⟩
   ·obtain ⟨i, hi, rfl⟩ := List.mem_map.1 hx
    exact (hs i (List.mem_range.1 hi)).2
   ·simp only [List.length_map, List.length_range]; have : maxLen = 9223372036854775807 := by decide
    omega
  ·obtain rfl : len = 0 := by omega
   exact ⟨[], .inl ⟨rfl, _, _, rfl, fun h => by cases h⟩, (fun x hx => by cases hx), by simp⟩
set_option maxRecDepth 100000 in
theorem open_cells {n : Nat} {c0 c1 c2 c3 c4 c5 c6 c7 c8 c9 c10 c11 c12 c13 c14 : Value} {y : DataW H × List MemPlace} {t T8 TI TV TL TD eI eD : TypeId} {fs : Array Field} {v0 v1 d0 d1 : Field} (hs : P.underlying t = some (.struct fs))
  (hF : fs.toList.map (fun f => (f.offset, P.cellsOf f.type, f.type)) = [(0, 1, T8), (1, 1, TI), (2, 1, TI), (3, 2, TV), (5, 1, TL), (6, 1, TL), (7, 1, TL), (8, 1, TD), (9, 1, TL), (10, 1, TL), (11, 1, TL), (12, 1, TL), (13, 1, TL), (14, 1, TI)])
  (u8 : P.underlying T8 = some (.int .u8)) (uI : P.underlying TI = some (.int .i64)) (uV : P.underlying TV = some (.struct #[v0, v1])) (oV0 : v0.offset = 0) (oV1 : v1.offset = 1) (cV0 : P.cellsOf v0.type = 1) (cV1 : P.cellsOf v1.type = 1)
  (uV0 : P.underlying v0.type = some (.int .u8)) (uV1 : P.underlying v1.type = some (.int .i64)) (uL : P.underlying TL = some (.slice eI)) (heI : P.underlying eI = some (.int .i64)) (ceI : P.cellsOf eI = 1)
  (uD : P.underlying TD = some (.slice eD)) (heD : P.underlying eD = some (.struct #[d0, d1])) (ceD : P.cellsOf eD = 2) (oD0 : d0.offset = 0) (oD1 : d1.offset = 1) (cD0 : P.cellsOf d0.type = 1) (cD1 : P.cellsOf d1.type = 1) (uD0 : P.underlying d0.type = some (.int .i64)) (uD1 : P.underlying d1.type = some (.int .i64))
  (hf : DataW.trod enc P w base spare held n t [c0, c1, c2, c3, c4, c5, c6, c7, c8, c9, c10, c11, c12, c13, c14] = some y) :
  ∃ (x : R) (sv : Nat → Value), #[c0, c1, c2, c3, c4, c5, c6, c7, c8, c9, c10, c11, c12, c13, c14] = ruleC x sv ∧ Lists w x sv ∧ (0 ≤ x.freq ∧ 0 ≤ x.uk ∧ x.uk ≤ 255) ∧ (∀ q, 4 ≤ q → q ≤ 12 → q ≠ 7 → ∀ z ∈ lst x q, (Lit.int .i64 z).wf = true) ∧ (∀ q, 4 ≤ q → q ≤ 12 → q ≠ 7 → (lst x q).length ≤ 9223372036854775807) ∧ x.day.length ≤ 9223372036854775807 := by
 obtain ⟨xs, n, _, _, _, hxl, hg⟩ := DataW.trod_struct hs hf
 have part : ∀ (j o c : Nat) (T : TypeId), ([(0, 1, T8), (1, 1, TI), (2, 1, TI), (3, 2, TV), (5, 1, TL), (6, 1, TL), (7, 1, TL), (8, 1, TD), (9, 1, TL), (10, 1, TL), (11, 1, TL), (12, 1, TL), (13, 1, TL), (14, 1, TI)] : List (Nat × Nat × TypeId))[j]? = some (o, c, T) → ∃ y, DataW.trod enc P w base spare held n T (([c0, c1, c2, c3, c4, c5, c6, c7, c8, c9, c10, c11, c12, c13, c14].drop o).take c) = some y := by
  intro j o c T hj
  obtain ⟨f, hf, he⟩ := Ra.field_at hF j _ hj
  simp only [Prod.mk.injEq] at he
  have h1 := hg j f hf
  have hlt : j < fs.size := (Array.getElem?_eq_some_iff.1 hf).1
  rw [List.getElem?_eq_getElem (by omega), he.1, he.2.1, he.2.2] at h1
  exact ⟨_, h1⟩
 obtain ⟨y0, g0⟩ := part 0 0 1 T8 rfl
 obtain ⟨k, hk, _, wk⟩ := DataW.trod_int u8 g0
 obtain ⟨y1, g1⟩ := part 1 1 1 TI rfl
 obtain ⟨iv, hiv, _, _⟩ := DataW.trod_int uI g1
 obtain ⟨y2, g2⟩ := part 2 2 1 TI rfl
 obtain ⟨ct, hct, _, _⟩ := DataW.trod_int uI g2
 obtain ⟨y3, g3⟩ := part 3 3 2 TV rfl
 obtain ⟨ys, m, _, _, _, hyl, hq⟩ := DataW.trod_struct uV g3
 have hyl2 : ys.length = 2 := hyl
 have q0 := hq 0 v0 rfl
 have q1 := hq 1 v1 rfl
 rw [oV0, cV0, List.getElem?_eq_getElem (by omega)] at q0
 rw [oV1, cV1, List.getElem?_eq_getElem (by omega)] at q1
 obtain ⟨uk, huk, _, wuk⟩ := DataW.trod_int uV0 q0
 obtain ⟨us, hus, _, _⟩ := DataW.trod_int uV1 q1
 obtain ⟨y13, g13⟩ := part 13 14 1 TI rfl
 obtain ⟨ws, hws, _, _⟩ := DataW.trod_int uI g13
 obtain ⟨y7, g7⟩ := part 7 8 1 TD rfl
 obtain ⟨ld, hld, nld⟩ := Ra.open_days uD heD ceD oD0 oD1 cD0 cD1 uD0 uD1 g7
 obtain ⟨y4, g4⟩ := part 4 5 1 TL rfl
 obtain ⟨l4, hl4, wl4, nl4⟩ := Ra.open_ints uL heI ceI g4
 obtain ⟨y5, g5⟩ := part 5 6 1 TL rfl
 obtain ⟨l5, hl5, wl5, nl5⟩ := Ra.open_ints uL heI ceI g5
 obtain ⟨y6, g6⟩ := part 6 7 1 TL rfl
 obtain ⟨l6, hl6, wl6, nl6⟩ := Ra.open_ints uL heI ceI g6
 obtain ⟨y8, g8⟩ := part 8 9 1 TL rfl
 obtain ⟨l8, hl8, wl8, nl8⟩ := Ra.open_ints uL heI ceI g8
 obtain ⟨y9, g9⟩ := part 9 10 1 TL rfl
 obtain ⟨l9, hl9, wl9, nl9⟩ := Ra.open_ints uL heI ceI g9
 obtain ⟨y10, g10⟩ := part 10 11 1 TL rfl
 obtain ⟨l10, hl10, wl10, nl10⟩ := Ra.open_ints uL heI ceI g10
 obtain ⟨y11, g11⟩ := part 11 12 1 TL rfl
 obtain ⟨l11, hl11, wl11, nl11⟩ := Ra.open_ints uL heI ceI g11
 obtain ⟨y12, g12⟩ := part 12 13 1 TL rfl
 obtain ⟨l12, hl12, wl12, nl12⟩ := Ra.open_ints uL heI ceI g12
 simp only [List.drop, List.take, List.cons.injEq, and_true] at hk hiv hct huk hus hws
 subst hk hiv hct huk hus hws
 refine ⟨⟨k, iv, ct, uk, us, l4, l5, l6, ld, l8, l9, l10, l11, l12, ws⟩, sv9 c5 c6 c7 c8 c9 c10 c11 c12 c13, rfl, ⟨fun q h4 h12 h7 => ?_, hld⟩, ?_, fun q h4 h12 h7 => ?_, fun q h4 h12 h7 => ?_, nld⟩
 ·have hc : q = 4 ∨ q = 5 ∨ q = 6 ∨ q = 8 ∨ q = 9 ∨ q = 10 ∨ q = 11 ∨ q = 12 := by omega
  rcases hc with rfl | rfl | rfl | rfl | rfl | rfl | rfl | rfl <;> assumption
 ·have b1 := bounds_u8 wk
  have b2 := bounds_u8 wuk
  exact ⟨b1.1, b2.1, b2.2⟩
 ·have hc : q = 4 ∨ q = 5 ∨ q = 6 ∨ q = 8 ∨ q = 9 ∨ q = 10 ∨ q = 11 ∨ q = 12 := by omega
  rcases hc with rfl | rfl | rfl | rfl | rfl | rfl | rfl | rfl <;> assumption
 ·have hc : q = 4 ∨ q = 5 ∨ q = 6 ∨ q = 8 ∨ q = 9 ∨ q = 10 ∨ q = 11 ∨ q = 12 := by omega
  rcases hc with rfl | rfl | rfl | rfl | rfl | rfl | rfl | rfl <;> assumption
set_option maxRecDepth 100000 in
theorem open_set {r : Reach} {b0 : Nat} {t TR TS T8 TI TV TL TD eI eD : TypeId} {ss fs : Array Field} {v0 v1 d0 d1 : Field} {v : Value} {d : DataW H} {p : List MemPlace} (hS : P.underlying t = some (.struct ss)) (hC : P.cellsOf t = 19)
  (hF : ss.toList.map (fun f => (f.offset, P.cellsOf f.type, f.type)) = [(0, 2, TV), (2, 15, TR), (17, 1, TS), (18, 1, TS)]) (hs : P.underlying TR = some (.struct fs))
  (hR : fs.toList.map (fun f => (f.offset, P.cellsOf f.type, f.type)) = [(0, 1, T8), (1, 1, TI), (2, 1, TI), (3, 2, TV), (5, 1, TL), (6, 1, TL), (7, 1, TL), (8, 1, TD), (9, 1, TL), (10, 1, TL), (11, 1, TL), (12, 1, TL), (13, 1, TL), (14, 1, TI)])
  (u8 : P.underlying T8 = some (.int .u8)) (uI : P.underlying TI = some (.int .i64)) (uV : P.underlying TV = some (.struct #[v0, v1])) (oV0 : v0.offset = 0) (oV1 : v1.offset = 1) (cV0 : P.cellsOf v0.type = 1) (cV1 : P.cellsOf v1.type = 1)
  (uV0 : P.underlying v0.type = some (.int .u8)) (uV1 : P.underlying v1.type = some (.int .i64)) (uL : P.underlying TL = some (.slice eI)) (heI : P.underlying eI = some (.int .i64)) (ceI : P.cellsOf eI = 1)
  (uD : P.underlying TD = some (.slice eD)) (heD : P.underlying eD = some (.struct #[d0, d1])) (ceD : P.cellsOf eD = 2) (oD0 : d0.offset = 0) (oD1 : d1.offset = 1) (cD0 : P.cellsOf d0.type = 1) (cD1 : P.cellsOf d1.type = 1) (uD0 : P.underlying d0.type = some (.int .i64)) (uD1 : P.underlying d1.type = some (.int .i64))
  (uS : P.underlying TS = some (.slice TV)) (cV : P.cellsOf TV = 2)
  (hv : Value.okWide P w r b0 t v) (h : DataW.Trod enc P w base spare held t v d p) :
  ∃ (s : St) (sv : Nat → Value) (vi vo : Value), v = setV s sv vi vo ∧ LS w s sv vi vo ∧ ((0 ≤ s.kind ∧ s.kind ≤ 255) ∧ KindsOk s.inn ∧ KindsOk s.out) ∧ (0 ≤ s.rule.freq ∧ 0 ≤ s.rule.uk ∧ s.rule.uk ≤ 255) ∧ (∀ q, 4 ≤ q → q ≤ 12 → q ≠ 7 → ∀ z ∈ lst s.rule q, (Lit.int .i64 z).wf = true) ∧
   ((∀ q, 4 ≤ q → q ≤ 12 → q ≠ 7 → (lst s.rule q).length ≤ 9223372036854775807) ∧ s.rule.day.length ≤ 9223372036854775807) ∧ s.inn.length ≤ 9223372036854775807 ∧ s.out.length ≤ 9223372036854775807 := by
 unfold Value.okWide at hv
 rw [hS] at hv
 obtain ⟨cs, rfl, hsz, _⟩ := hv
 rw [hC] at hsz
 obtain ⟨cl⟩ := cs
 match cl, hsz with
 | [e0, e1, e2, e3, e4, e5, e6, e7, e8, e9, e10, e11, e12, e13, e14, e15, e16, e17, e18], _ =>
  obtain ⟨fuel, hf⟩ := h
  obtain ⟨xs, n, _, _, _, hxl, hg⟩ := DataW.trod_struct hS hf
  have part : ∀ (j o c : Nat) (T : TypeId), ([(0, 2, TV), (2, 15, TR), (17, 1, TS), (18, 1, TS)] : List (Nat × Nat × TypeId))[j]? = some (o, c, T) → ∃ y, DataW.trod enc P w base spare held n T (([e0, e1, e2, e3, e4, e5, e6, e7, e8, e9, e10, e11, e12, e13, e14, e15, e16, e17, e18].drop o).take c) = some y := by
   intro j o c T hj
   obtain ⟨f, hf, he⟩ := Ra.field_at hF j _ hj
   simp only [Prod.mk.injEq] at he
   have h1 := hg j f hf
   have hlt : j < ss.size := (Array.getElem?_eq_some_iff.1 hf).1
   rw [List.getElem?_eq_getElem (by omega), he.1, he.2.1, he.2.2] at h1
   exact ⟨_, h1⟩
  obtain ⟨y0, g0⟩ := part 0 0 2 TV rfl
  obtain ⟨ys, m, _, _, _, hyl, hq⟩ := DataW.trod_struct uV g0
  have hyl2 : ys.length = 2 := hyl
  have q0 := hq 0 v0 rfl
  have q1 := hq 1 v1 rfl
  rw [oV0, cV0, List.getElem?_eq_getElem (by omega)] at q0
  rw [oV1, cV1, List.getElem?_eq_getElem (by omega)] at q1
  obtain ⟨k, hk, _, wk⟩ := DataW.trod_int uV0 q0
  obtain ⟨sc, hsc, _, _⟩ := DataW.trod_int uV1 q1
  obtain ⟨y1, g1⟩ := part 1 2 15 TR rfl
  obtain ⟨x, sv, hx, hL, hf3, hwf, hlen, hlen7⟩ := open_cells hs hR u8 uI uV oV0 oV1 cV0 cV1 uV0 uV1 uL heI ceI uD heD ceD oD0 oD1 cD0 cD1 uD0 uD1 (show DataW.trod enc P w base spare held n TR [e2, e3, e4, e5, e6, e7, e8, e9, e10, e11, e12, e13, e14, e15, e16] = some y1 from g1)
  obtain ⟨y2, g2⟩ := part 2 17 1 TS rfl
  obtain ⟨li, hli, kli, nli⟩ := open_vals uS uV cV oV0 oV1 cV0 cV1 uV0 uV1 g2
  obtain ⟨y3, g3⟩ := part 3 18 1 TS rfl
  obtain ⟨lo, hlo, klo, nlo⟩ := open_vals uS uV cV oV0 oV1 cV0 cV1 uV0 uV1 g3
  simp only [List.drop, List.take, List.cons.injEq, and_true] at hk hsc
  subst hk hsc
  have bk := bounds_u8 wk
  refine ⟨⟨k, sc, x, li, lo⟩, sv, e17, e18, ?_, ⟨hL, hli, hlo⟩, ⟨⟨bk.1, bk.2⟩, kli, klo⟩, hf3, hwf, ⟨hlen, hlen7⟩, nli, nlo⟩
  unfold ruleC at hx
  simp only [Array.mk.injEq, List.cons.injEq, and_true] at hx
  obtain ⟨rfl, rfl, rfl, rfl, rfl, rfl, rfl, rfl, rfl, rfl, rfl, rfl, rfl, rfl, rfl⟩ := hx
  rfl
end
end Go.Proofs.YtkbohijlhhpfbaaGreatDoor.Rs

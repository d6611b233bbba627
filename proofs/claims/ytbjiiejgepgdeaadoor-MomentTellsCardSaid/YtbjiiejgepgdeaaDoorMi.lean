/- The walk through moment's Parse where it tells a value. -/
import Derived.Test.YtbjiiejgepgdeaaDoorMh
namespace Go.Proofs.YtbjiiejgepgdeaaDoor.Ma
open Go.RowKit Mo Ut Cw
set_option maxHeartbeats 4000000 in
set_option maxRecDepth 100000 in
theorem parseE (L a b : List UInt8) (k y m d h i s : Int) (hn : L.length ≤ 1000) (w : World) (hT : Tab w) (hf : form L = some (k, a, b)) (ha : Mo.fields [4, 2, 2] a = some [y, m, d]) (hb : Mo.fields [2, 2, 2] b = some [h, i, s])
    (hE : Civ.dayE y m d = 0) (n0 : 0 ≤ Civ.day y m d) (n1 : Civ.day y m d ≤ 3652058) (h0 : 0 ≤ h) (i0 : 0 ≤ i) (s0 : 0 ≤ s) (h1 : ¬ 23 < h) (i1 : ¬ 59 < i) (s1 : ¬ 59 < s) :
    Calls Tryd.prog 8 #[.string (str L)] w fun e w' => e = .returned (.tuple #[val k (Civ.day y m d * 86400 + (h * 60 + i) * 60 + s), .int .i64 0]) ∧ Below w.heap.size w w' := by
  have F := fun w => form_any (str L) (by rw [str_size]; omega) w
  rw [bts_str, show formV L = .tuple #[.int .u8 k, .string (str a), .string (str b), .bool true] by unfold formV; rw [hf]] at F
  have FH := Lib.hid F
  have GH := Lib.hid (four22 a _ ha)
  have HH := Lib.hid (two22 b _ hb)
  have HT := Lib.hid hT
  clear F hf ha hb hT
  have hq : (Civ.dayE y m d != 0) = false := by simp [hE]
  clear hE
  go_enter Tryd.func8, Tryd.ntmps8
  go_wp2_with (first
    | (go_at_call 20; refine (FH.out _).mono ?_; rintro e w1 ⟨rfl, hB1⟩; have hx := (Bx.start w _).later hB1)
    | (go_at_call 21; refine (GH.out _).mono ?_; rintro e w2 ⟨hG, hB2⟩; clear GH; obtain ⟨g, cap, rfl, hg, g0, g1, g2⟩ := hG.three; have hx2 := hx.next hB2)
    | (go_at_call 21; refine (HH.out _).mono ?_; rintro e w3 ⟨hG3, hB3⟩; clear HH; obtain ⟨g', cap', rfl, hg', t0, t1, t2⟩ := hG3.three; obtain ⟨hlt, c0, c1, f0, f1⟩ := hx2.next hB3; have g0 := keepc hB3 hg g0; have g1 := keepc hB3 hg g1; have g2 := keepc hB3 hg g2; have HT3 := HT.out.later (Below.next_allocs (Below.next_allocs (head hB1) hB2) hB3)))
  go_quiet ((first | (go_at_call 22; exact Base.qsame (day_any _ _ _ _ (HT3.drewN _)))))
  go_wp2
  go_region
  go_wp2
  refine bodyPost_ret (v := .tuple #[val k (Civ.day y m d * 86400 + (h * 60 + i) * 60 + s), .int .i64 0]) (by simp [results, Tryd.results8, go_sem, val, c0, c1]) rfl ?_
  exact ⟨rfl, (Base.below_drewN (Below.next_allocs (Below.next_allocs (head hB1) hB2) hB3) _).setCell (Nat.le_refl _) _ |>.setCell (Nat.le_refl _) _⟩
end Go.Proofs.YtbjiiejgepgdeaaDoor.Ma

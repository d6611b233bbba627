/- The walk through DueixSorts. -/
import Derived.Test.YtncneoggnoiknaaLx
namespace Go.Proofs.Ytncneoggnoiknaa.Du
open Go.RowKit Sp Ut Me
theorem cnt_step (M : List E) (e : E) (k : Nat) (hk : k < M.length) : (M.take (k + 1)).countP (fun x => decide (x = e)) = (M.take k).countP (fun x => decide (x = e)) + if M[k] = e then 1 else 0 := by
  rw [List.take_succ_eq_append_getElem hk, List.countP_append]
  congr 1
  by_cases h : M[k] = e <;> simp [h]
theorem cnt_small (M : List E) (e : E) (k : Nat) : (M.take k).countP (fun x => decide (x = e)) ≤ M.length := by
  have h1 := List.countP_le_length (p := fun x : E => decide (x = e)) (l := M.take k)
  have h2 : (M.take k).length ≤ M.length := by rw [List.length_take]; omega
  omega
set_option maxHeartbeats 8000000 in
set_option maxRecDepth 100000 in
theorem sorts_any {w : World} {v : Value} {l : List E} (hl : Ents w v l) : Calls Try.prog 5 #[v] w fun e w' => e = .returned (.bool true) ∧ Below w.heap.size w w' := by
  obtain ⟨va, vc, rfl⟩ := hl.slice
  by_cases h0 : l.length ≤ 60
  · have HL := Lib.hid hl
    have hg : (l.length : Int) ≤ 60 := by omega
    clear hl
    go_enter Try.func5, Try.ntmps5
    go_wp2_with (go_at_call 9; (with_reducible refine (newH _).mono ?_); rintro e w1 ⟨p, O0, rfl, hI0, hO0, hB1⟩)
    have I0 := Lib.hid hI0
    have P0 := Lib.hid hO0
    have B1 := Lib.hid hB1
    clear hI0 hO0 hB1
    go_loopw [4] (fun q wr => ∃ (k : Nat) (O : Nat → Prop), k ≤ l.length ∧ q = .int .i64 k ∧ Hid (Has wr p O (puts (l.take k))) ∧ Hid (∀ j, O j → w.heap.size ≤ j) ∧ Hid (Below w.heap.size w wr)) (fun q _ => l.length - (intOf q).toNat)
    case atStart => exact ⟨0, O0, by omega, rfl, I0, P0, B1⟩
    case round =>
      obtain ⟨k, O, hk1, rfl, hI, hO, hB⟩ := hrel
      have hsz := hB.out.size
      obtain ⟨ps1, ps2, ps3⟩ := puts_spec (l.take k)
      have hpl : (puts (l.take k)).length ≤ 1000 := by rw [List.length_take] at ps3; omega
      clear ps1 ps2 ps3
      by_cases hk : k < l.length
      · rcases HL.out with ⟨hnil, _⟩ | ⟨hpos, bb, oo, cc, hvv, hlt, hcc, hcell⟩
        · rw [hnil] at hk; simp at hk
        · cases hvv
          obtain ⟨c1, c2⟩ := hcell k hk
          have hpt := puts_take hk
          obtain ⟨x, s, hxs⟩ : ∃ x s, l[k] = (x, s) := ⟨_, _, rfl⟩
          rw [hxs] at c1 c2 hpt
          replace c1 := (hB.out.cell (p := ⟨bb, oo + k * 2, none⟩) hlt).trans c1
          replace c2 := (hB.out.cell (p := ⟨bb, oo + k * 2 + 1, none⟩) hlt).trans c2
          have i2 : (k : Int) < (l.length : Int) := by omega
          have CP := Lib.hid (putH x s _ _ hI.out hpl rfl hpt.symm)
          clear hcell hxs hpt
          by_cases hs : s.size ≤ 30
          · go_wp2_with (go_at_call 13; (with_reducible refine CP.out.mono ?_); rintro e w2 ⟨rfl, O', hI', hV'⟩)
            go_roundw
            case rel => exact ⟨k + 1, O', by omega, by go_num, Lib.hid hI', Lib.hid (hV'.above hO.out hsz), Lib.hid (hB.out.trans (hV'.below hO.out hsz))⟩
            case measure => simp [intOf]; omega
          · go_wp2_with (go_at_call 8; (with_reducible refine (awake_any _).mono ?_); rintro e w2 ⟨rfl, hB2⟩)
            go_ret
            exact ⟨rfl, Below.next hB.out hB2⟩
      · obtain rfl : k = l.length := by omega
        rw [List.take_length] at hI hpl
        obtain ⟨M, hM⟩ : ∃ M, puts l = M := ⟨_, rfl⟩
        obtain ⟨hsor, hmem, hlen⟩ := puts_spec l
        rw [hM] at hI hpl hsor hmem hlen
        clear hM
        have HSR := Lib.hid hsor
        have HME := Lib.hid hmem
        have CALL := Lib.hid (allH hI.out hpl)
        have HPL := Lib.hid hpl
        clear hsor hmem hg hpl
        obtain ⟨x0, rfl⟩ : ∃ x, x = wr := ⟨_, rfl⟩
        go_wp2_with (go_at_call 23; (with_reducible refine CALL.out.mono ?_); rintro e y1 ⟨va1, rfl, ho1, hb1⟩; obtain ⟨ma, mc, rfl⟩ := ho1.ents.slice)
        have E1 := Lib.hid ho1.ents
        have HX := Lib.hid (hB.out.trans (hb1.mono hsz))
        have hI1 := Lib.hid (hI.out.below hb1)
        clear ho1 hb1 CALL hI
        go_loopw [6] (fun q wr => ∃ i : Nat, i ≤ l.length ∧ q = .int .i64 i ∧ Hid (Below y1.heap.size y1 wr)) (fun q _ => l.length - (intOf q).toNat)
        case atStart => exact ⟨0, by omega, rfl, Lib.hid (Below.refl _ _)⟩
        case round =>
          obtain ⟨i, hi1, rfl, hBi⟩ := hrel
          by_cases hi : i < l.length
          · rcases HL.out with ⟨hnil, _⟩ | ⟨hpos, bb, oo, cc, hvv, hlt, hcc, hcell⟩
            · rw [hnil] at hi; simp at hi
            · cases hvv
              have C12 := hcell i hi
              obtain ⟨x, s, hxs⟩ : ∃ x s, l[i] = (x, s) := ⟨_, _, rfl⟩
              rw [hxs] at C12
              have C12 := Lib.hid C12
              have hin := Lib.hid ((HME.out (x, s)).2 (by rw [← hxs]; exact List.getElem_mem hi))
              have i2 : (i : Int) < (l.length : Int) := by omega
              clear hcell hxs
              go_wp2
              obtain ⟨x1, rfl⟩ : ∃ x, x = wr := ⟨_, rfl⟩
              go_loopw [7, 8] (fun r q wr => ∃ k c : Nat, k ≤ M.length ∧ q = .int .i64 k ∧ r = .int .i64 c ∧ Hid (c = (M.take k).countP (fun x' => decide (x' = (x, s)))) ∧ Hid (Below y1.heap.size y1 wr)) (fun _ q _ => M.length - (intOf q).toNat)
              case atStart => exact ⟨0, 0, by omega, rfl, rfl, Lib.hid (by simp), hBi⟩
              case round =>
                obtain ⟨k, c, hk1, rfl, rfl, hc, hBk⟩ := hrel
                have hBw : Below w.heap.size w wr := HX.out.trans (hBk.out.mono HX.out.size)
                have c1 := (hBw.cell (p := ⟨bb, oo + i * 2, none⟩) hlt).trans C12.out.1
                have c2 := (hBw.cell (p := ⟨bb, oo + i * 2 + 1, none⟩) hlt).trans C12.out.2
                by_cases hk : k < M.length
                · rcases E1.out with ⟨hnil, _⟩ | ⟨hpos', mb, mo, mc', hvv, hlm, hcm, hcellm⟩
                  · rw [hnil] at hk; simp at hk
                  · cases hvv
                    obtain ⟨c3, c4⟩ := hcellm k hk
                    obtain ⟨z, u, hzu⟩ : ∃ z u, M[k] = (z, u) := ⟨_, _, rfl⟩
                    rw [hzu] at c3 c4
                    replace c3 := (hBk.out.cell (p := ⟨mb, mo + k * 2, none⟩) hlm).trans c3
                    replace c4 := (hBk.out.cell (p := ⟨mb, mo + k * 2 + 1, none⟩) hlm).trans c4
                    have i3 : (k : Int) < (M.length : Int) := by omega
                    have hcs := cnt_step M (x, s) k hk
                    rw [hzu] at hcs
                    have hcl : c ≤ M.length := by rw [hc.out]; exact cnt_small M (x, s) k
                    clear hcellm hzu hBw
                    by_cases he : ((z, u) : E) = (x, s)
                    · have EQ := fun W => eqD_is (decide_eq_true he) W
                      rw [if_pos he] at hcs
                      have HCS := Lib.hid (show c + 1 = (M.take (k + 1)).countP (fun x' => decide (x' = (x, s))) from by rw [hcs, ← hc.out])
                      clear hcs he
                      go_wp2
                      go_quiet (fail)
                      go_wp2
                      go_roundw
                      case rel => exact ⟨k + 1, c + 1, by omega, by go_num, by go_num, HCS, Lib.hid (Base.below_drewN hBk.out _)⟩
                      case measure => simp [intOf]; omega
                    · have EQ := fun W => eqD_is (decide_eq_false he) W
                      rw [if_neg he] at hcs
                      have HCS := Lib.hid (show c = (M.take (k + 1)).countP (fun x' => decide (x' = (x, s))) from by rw [hcs, ← hc.out, Nat.add_zero])
                      clear hcs he
                      go_wp2
                      go_quiet (fail)
                      go_wp2
                      go_roundw
                      case rel => exact ⟨k + 1, c, by omega, by go_num, rfl, HCS, Lib.hid (Base.below_drewN hBk.out _)⟩
                      case measure => simp [intOf]; omega
                · obtain rfl : k = M.length := by omega
                  obtain rfl : c = 1 := by rw [hc.out, List.take_length]; exact once HSR.out hin.out
                  have CH := Lib.hid (hasH x s true (hI1.out.below hBk.out) HPL.out (has_iff.2 hin.out))
                  clear hBw
                  go_wp2_with (go_at_call 10; (with_reducible refine CH.out.mono ?_); rintro e y2 ⟨rfl, hB2⟩)
                  go_roundw
                  case rel => exact ⟨i + 1, by omega, by go_num, Lib.hid (Below.next hBk.out hB2)⟩
                  case measure => simp [intOf]; omega
          · obtain rfl : i = l.length := by omega
            obtain ⟨x1, rfl⟩ : ∃ x, x = wr := ⟨_, rfl⟩
            go_wp2
            go_loopw [9] (fun q wr => ∃ k : Nat, k ≤ M.length ∧ q = .int .i64 k ∧ Hid (Below y1.heap.size y1 wr)) (fun q _ => M.length - (intOf q).toNat)
            case atStart => exact ⟨0, by omega, rfl, hBi⟩
            case round =>
              obtain ⟨k, hk1, rfl, hBk⟩ := hrel
              by_cases hk : k < M.length
              · rcases E1.out with ⟨hnil, _⟩ | ⟨hpos', mb, mo, mc', hvv, hlm, hcm, hcellm⟩
                · rw [hnil] at hk; simp at hk
                · cases hvv
                  obtain ⟨c3, c4⟩ := hcellm k hk
                  have hnx := next_at HSR.out hk
                  obtain ⟨x1, s1, hxs1⟩ : ∃ x s, M[k] = (x, s) := ⟨_, _, rfl⟩
                  rw [hxs1] at c3 c4 hnx
                  replace c3 := (hBk.out.cell (p := ⟨mb, mo + k * 2, none⟩) hlm).trans c3
                  replace c4 := (hBk.out.cell (p := ⟨mb, mo + k * 2 + 1, none⟩) hlm).trans c4
                  have i3 : (k : Int) < (M.length : Int) := by omega
                  by_cases hk2 : k + 1 < M.length
                  · obtain ⟨c5, c6⟩ := hcellm (k + 1) hk2
                    obtain ⟨x2, s2, hxs2⟩ : ∃ x s, M[k + 1] = (x, s) := ⟨_, _, rfl⟩
                    rw [hxs2] at c5 c6
                    rw [List.getElem?_eq_getElem hk2, hxs2] at hnx
                    have hls : less (x1, s1) (x2, s2) = true := by
                      have := List.pairwise_iff_getElem.1 HSR.out k (k + 1) hk hk2 (by omega)
                      rw [hxs1, hxs2] at this
                      exact this
                    have FL := Lib.hid (less_at x1 x2 s1 s2 true hls)
                    have CN := Lib.hid (nextH x1 s1 (.tuple #[.agg #[.int .i64 x2, .string s2], .bool true]) (hI1.out.below hBk.out) HPL.out (by rw [hnx]; rfl))
                    have EQ := fun W => eqD_is (x := x2) (y := x2) (s := s2) (t := s2) (q := true) (decide_eq_true rfl) W
                    clear hcellm hxs1 hxs2 hnx hls
                    go_wp2_with (go_at_call 16; (with_reducible refine CN.out.mono ?_); rintro e yk ⟨rfl, hbk⟩)
                    have hW : Below yk.heap.size yk (yk.alloc (.cells #[.int .i64 x2, .string s2] 29)) := (Below.refl _ _).alloc (Nat.le_refl _) _
                    obtain ⟨z3, d6, d7⟩ := boxed2 (w := yk) (a := .int .i64 x2) (b := .string s2) (t := 29) (Below.refl _ _)
                    have hWr : Below wr.heap.size wr (yk.alloc (.cells #[.int .i64 x2, .string s2] 29)) := Below.next hbk hW
                    have hmw : mb < wr.heap.size := Nat.lt_of_lt_of_le hlm hBk.out.size
                    replace c5 := (hBk.out.cell (p := ⟨mb, mo + (k + 1) * 2, none⟩) hlm).trans c5
                    replace c6 := (hBk.out.cell (p := ⟨mb, mo + (k + 1) * 2 + 1, none⟩) hlm).trans c6
                    replace c3 := (hWr.cell (p := ⟨mb, mo + k * 2, none⟩) hmw).trans c3
                    replace c4 := (hWr.cell (p := ⟨mb, mo + k * 2 + 1, none⟩) hmw).trans c4
                    replace c5 := (hWr.cell (p := ⟨mb, mo + (k + 1) * 2, none⟩) hmw).trans c5
                    replace c6 := (hWr.cell (p := ⟨mb, mo + (k + 1) * 2 + 1, none⟩) hmw).trans c6
                    have hmW : mb < (yk.alloc (.cells #[.int .i64 x2, .string s2] 29)).heap.size := Nat.lt_of_lt_of_le hmw hWr.size
                    have HWR := Lib.hid hWr
                    generalize yk.alloc (.cells #[.int .i64 x2, .string s2] 29) = W1 at *
                    have SL := Lib.hid (show ∀ W, Below W1.heap.size W1 W → W.cell? ⟨yk.heap.size, 0, none⟩ = some (.int .i64 x2) ∧ W.cell? ⟨yk.heap.size, 1, none⟩ = some (.string s2) ∧ W.cell? ⟨mb, mo + k * 2, none⟩ = some (.int .i64 x1) ∧ W.cell? ⟨mb, mo + k * 2 + 1, none⟩ = some (.string s1) ∧ W.cell? ⟨mb, mo + (k + 1) * 2, none⟩ = some (.int .i64 x2) ∧ W.cell? ⟨mb, mo + (k + 1) * 2 + 1, none⟩ = some (.string s2) from fun W hW =>
                      ⟨(hW.cell (p := ⟨yk.heap.size, 0, none⟩) z3).trans d6, (hW.cell (p := ⟨yk.heap.size, 1, none⟩) z3).trans d7, (hW.cell (p := ⟨mb, mo + k * 2, none⟩) hmW).trans c3, (hW.cell (p := ⟨mb, mo + k * 2 + 1, none⟩) hmW).trans c4, (hW.cell (p := ⟨mb, mo + (k + 1) * 2, none⟩) hmW).trans c5, (hW.cell (p := ⟨mb, mo + (k + 1) * 2 + 1, none⟩) hmW).trans c6⟩)
                    have g1 : ((k : Int) + 1 == (M.length : Int)) = false := by rw [beq_eq_false_iff_ne]; omega
                    have g2 : decide ((k : Int) + 1 < (M.length : Int)) = true := decide_eq_true (by omega)
                    have g3 : (k : Int) + 1 < (M.length : Int) := by omega
                    have g4 : (0 : Int) ≤ (k : Int) + 1 := by omega
                    have g5 : ((k : Int) + 1).toNat = k + 1 := by omega
                    have g6 : IntKind.i64.wrap ((k : Int) + 1) = (k : Int) + 1 := by rw [IntKind.wrap_i64]; omega
                    have g7 : (0 : Int) ≤ (k : Int) := by omega
                    clear d6 d7 c3 c4 c5 c6 hW hWr hbk
                    refine wp_region_held_drew (S := (fun w' => w'.cell? ⟨yk.heap.size, 0, none⟩ = some (.int .i64 x2) ∧ w'.cell? ⟨yk.heap.size, 1, none⟩ = some (.string s2) ∧ w'.cell? ⟨mb, mo + k * 2, none⟩ = some (.int .i64 x1) ∧ w'.cell? ⟨mb, mo + k * 2 + 1, none⟩ = some (.string s1) ∧ w'.cell? ⟨mb, mo + (k + 1) * 2, none⟩ = some (.int .i64 x2) ∧ w'.cell? ⟨mb, mo + (k + 1) * 2 + 1, none⟩ = some (.string s2))) (by kernel_rfl) ?_ (fun hHeld => ?_)
                    · exact SL.out _ ((Below.refl _ _).drew)
                    refine wpAnyH_take (i := 0) (v := ?_) rfl (by kernel_rfl) (by kernel_rfl) (by kernel_rfl) (fun _ _ _ h => h) (Or.inl ⟨by rfl, ?_⟩) hHeld ?_
                    rotate_left
                    · intro w hSw
                      simp only [List.getElem_toArray, List.getElem_cons_zero]
                      (try dsimp only at hSw)
                      go_simp
                      (try with_reducible rfl)
                    simp only [Act.put, List.getElem_toArray, List.getElem_cons_zero, List.setIfInBounds_toArray, List.set_cons_zero, List.set_cons_succ]
                    refine wpAnyH_take (i := 1) (v := ?_) rfl (by kernel_rfl) (by kernel_rfl) (by kernel_rfl) (fun _ _ _ h => h) (Or.inl ⟨by rfl, ?_⟩) hHeld ?_
                    rotate_left
                    · intro w hSw
                      simp only [List.getElem_toArray, List.getElem_cons_zero, List.getElem_cons_succ]
                      (try dsimp only at hSw)
                      go_simp
                      (try with_reducible rfl)
                    simp only [Act.put, List.getElem_toArray, List.getElem_cons_zero, List.getElem_cons_succ, List.setIfInBounds_toArray, List.set_cons_zero, List.set_cons_succ]
                    refine wpAnyH_take (i := 2) (v := ?_) rfl (by kernel_rfl) (by kernel_rfl) (by kernel_rfl) (fun _ _ _ h => h) (Or.inl ⟨by rfl, ?_⟩) hHeld ?_
                    rotate_left
                    · intro w hSw
                      simp only [List.getElem_toArray, List.getElem_cons_zero, List.getElem_cons_succ]
                      (try dsimp only at hSw)
                      go_simp
                      (try with_reducible rfl)
                    simp only [Act.put, List.getElem_toArray, List.getElem_cons_zero, List.getElem_cons_succ, List.setIfInBounds_toArray, List.set_cons_zero, List.set_cons_succ]
                    refine wpAnyH_take (i := 3) (v := ?_) rfl (by kernel_rfl) (by kernel_rfl) (by kernel_rfl) (fun _ _ _ h => h) (Or.inl ⟨by rfl, ?_⟩) hHeld ?_
                    rotate_left
                    · intro w hSw
                      simp only [List.getElem_toArray, List.getElem_cons_zero, List.getElem_cons_succ]
                      (try dsimp only at hSw)
                      go_simp
                      (try with_reducible rfl)
                    simp only [Act.put, List.getElem_toArray, List.getElem_cons_zero, List.getElem_cons_succ, List.setIfInBounds_toArray, List.set_cons_zero, List.set_cons_succ]
                    refine wpAnyH_take (i := 4) (v := ?_) rfl (by kernel_rfl) (by kernel_rfl) (by kernel_rfl) (fun _ _ _ h => h) (Or.inl ⟨by rfl, ?_⟩) hHeld ?_
                    rotate_left
                    · intro w hSw
                      simp only [List.getElem_toArray, List.getElem_cons_zero, List.getElem_cons_succ]
                      (try dsimp only at hSw)
                      go_simp
                      (try with_reducible rfl)
                    simp only [Act.put, List.getElem_toArray, List.getElem_cons_zero, List.getElem_cons_succ, List.setIfInBounds_toArray, List.set_cons_zero, List.set_cons_succ]
                    refine wpAnyH_take (i := 5) (v := ?_) rfl (by kernel_rfl) (by kernel_rfl) (by kernel_rfl) (fun _ _ _ h => h) (Or.inl ⟨by rfl, ?_⟩) hHeld ?_
                    rotate_left
                    · intro w hSw
                      simp only [List.getElem_toArray, List.getElem_cons_zero, List.getElem_cons_succ]
                      (try dsimp only at hSw)
                      go_simp
                      (try with_reducible rfl)
                    simp only [Act.put, List.getElem_toArray, List.getElem_cons_zero, List.getElem_cons_succ, List.setIfInBounds_toArray, List.set_cons_zero, List.set_cons_succ]
                    refine wpAnyH_take (i := 6) (v := undef) rfl (by kernel_rfl) (by kernel_rfl) (by kernel_rfl) (fun _ _ _ h => h) (Or.inr ⟨rfl, rfl⟩) hHeld ?_
                    simp only [Act.put, List.getElem_toArray, List.getElem_cons_zero, List.getElem_cons_succ, List.setIfInBounds_toArray, List.set_cons_zero, List.set_cons_succ]
                    refine wpAnyH_take (i := 7) (v := ?_) rfl (by kernel_rfl) (by kernel_rfl) (by kernel_rfl) (fun _ _ _ h => h) (Or.inl ⟨by rfl, ?_⟩) hHeld ?_
                    rotate_left
                    · intro w hSw
                      simp only [List.getElem_toArray, List.getElem_cons_zero, List.getElem_cons_succ]
                      (try dsimp only at hSw)
                      go_simp
                      (try with_reducible rfl)
                    simp only [Act.put, List.getElem_toArray, List.getElem_cons_zero, List.getElem_cons_succ, List.setIfInBounds_toArray, List.set_cons_zero, List.set_cons_succ]
                    refine wpAnyH_take (i := 8) (v := ?_) rfl (by kernel_rfl) (by kernel_rfl) (by kernel_rfl) (fun _ _ _ h => h) (Or.inl ⟨by rfl, ?_⟩) hHeld ?_
                    rotate_left
                    · intro w hSw
                      simp only [List.getElem_toArray, List.getElem_cons_zero, List.getElem_cons_succ]
                      (try dsimp only at hSw)
                      go_simp
                      (try with_reducible rfl)
                    simp only [Act.put, List.getElem_toArray, List.getElem_cons_zero, List.getElem_cons_succ, List.setIfInBounds_toArray, List.set_cons_zero, List.set_cons_succ]
                    refine wpAnyH_take (i := 9) (v := ?_) rfl (by kernel_rfl) (by kernel_rfl) (by kernel_rfl) (fun _ _ _ h => h) (Or.inl ⟨by rfl, ?_⟩) hHeld ?_
                    rotate_left
                    · intro w hSw
                      simp only [List.getElem_toArray, List.getElem_cons_zero, List.getElem_cons_succ]
                      (try dsimp only at hSw)
                      go_simp
                      (try with_reducible rfl)
                    simp only [Act.put, List.getElem_toArray, List.getElem_cons_zero, List.getElem_cons_succ, List.setIfInBounds_toArray, List.set_cons_zero, List.set_cons_succ]
                    refine wpAnyH_take (i := 10) (v := ?_) rfl (by kernel_rfl) (by kernel_rfl) (by kernel_rfl) (fun _ _ _ h => h) (Or.inl ⟨by rfl, ?_⟩) hHeld ?_
                    rotate_left
                    · intro w hSw
                      simp only [List.getElem_toArray, List.getElem_cons_zero, List.getElem_cons_succ]
                      (try dsimp only at hSw)
                      go_simp
                      (try with_reducible rfl)
                    simp only [Act.put, List.getElem_toArray, List.getElem_cons_zero, List.getElem_cons_succ, List.setIfInBounds_toArray, List.set_cons_zero, List.set_cons_succ]
                    refine wpAnyH_take (i := 11) (v := ?_) rfl (by kernel_rfl) (by kernel_rfl) (by kernel_rfl) (fun _ _ _ h => h) (Or.inl ⟨by rfl, ?_⟩) hHeld ?_
                    rotate_left
                    · intro w hSw
                      simp only [List.getElem_toArray, List.getElem_cons_zero, List.getElem_cons_succ]
                      (try dsimp only at hSw)
                      go_simp
                      (try with_reducible rfl)
                    simp only [Act.put, List.getElem_toArray, List.getElem_cons_zero, List.getElem_cons_succ, List.setIfInBounds_toArray, List.set_cons_zero, List.set_cons_succ]
                    refine wpAnyH_take (i := 12) (v := ?_) rfl (by kernel_rfl) (by kernel_rfl) (by kernel_rfl) (fun _ _ _ h => h) (Or.inl ⟨by rfl, ?_⟩) hHeld ?_
                    rotate_left
                    · intro w hSw
                      simp only [List.getElem_toArray, List.getElem_cons_zero, List.getElem_cons_succ]
                      (try dsimp only at hSw)
                      go_simp
                      (try with_reducible rfl)
                    simp only [Act.put, List.getElem_toArray, List.getElem_cons_zero, List.getElem_cons_succ, List.setIfInBounds_toArray, List.set_cons_zero, List.set_cons_succ]
                    refine wpAnyH_take (i := 13) (v := ?_) rfl (by kernel_rfl) (by kernel_rfl) (by kernel_rfl) (fun _ _ _ h => h) (Or.inl ⟨by rfl, ?_⟩) hHeld ?_
                    rotate_left
                    · intro w hSw
                      simp only [List.getElem_toArray, List.getElem_cons_zero, List.getElem_cons_succ]
                      (try dsimp only at hSw)
                      go_simp
                      (try with_reducible rfl)
                    simp only [Act.put, List.getElem_toArray, List.getElem_cons_zero, List.getElem_cons_succ, List.setIfInBounds_toArray, List.set_cons_zero, List.set_cons_succ]
                    refine wpAnyH_take (i := 14) (v := ?_) rfl (by kernel_rfl) (by kernel_rfl) (by kernel_rfl) (fun _ _ _ h => h) (Or.inl ⟨by rfl, ?_⟩) hHeld ?_
                    rotate_left
                    · intro w hSw
                      simp only [List.getElem_toArray, List.getElem_cons_zero, List.getElem_cons_succ]
                      (try dsimp only at hSw)
                      go_simp
                      (try with_reducible rfl)
                    simp only [Act.put, List.getElem_toArray, List.getElem_cons_zero, List.getElem_cons_succ, List.setIfInBounds_toArray, List.set_cons_zero, List.set_cons_succ]
                    refine wpAnyH_take (i := 15) (v := ?_) rfl (by kernel_rfl) (by kernel_rfl) (by kernel_rfl) (fun _ _ _ h => h) (Or.inl ⟨by rfl, ?_⟩) hHeld ?_
                    rotate_left
                    · intro w hSw
                      simp only [List.getElem_toArray, List.getElem_cons_zero, List.getElem_cons_succ]
                      (try dsimp only at hSw)
                      go_simp
                      (try with_reducible rfl)
                    simp only [Act.put, List.getElem_toArray, List.getElem_cons_zero, List.getElem_cons_succ, List.setIfInBounds_toArray, List.set_cons_zero, List.set_cons_succ]
                    refine wpAnyH_take (i := 16) (v := ?_) rfl (by kernel_rfl) (by kernel_rfl) (by kernel_rfl) (fun _ _ _ h => h) (Or.inl ⟨by rfl, ?_⟩) hHeld ?_
                    rotate_left
                    · intro w hSw
                      simp only [List.getElem_toArray, List.getElem_cons_zero, List.getElem_cons_succ]
                      (try dsimp only at hSw)
                      go_simp
                      (try with_reducible rfl)
                    simp only [Act.put, List.getElem_toArray, List.getElem_cons_zero, List.getElem_cons_succ, List.setIfInBounds_toArray, List.set_cons_zero, List.set_cons_succ]
                    refine wpAnyH_take (i := 17) (v := ?_) rfl (by kernel_rfl) (by kernel_rfl) (by kernel_rfl) (fun _ _ _ h => h) (Or.inl ⟨by rfl, ?_⟩) hHeld ?_
                    rotate_left
                    · intro w hSw
                      simp only [List.getElem_toArray, List.getElem_cons_zero, List.getElem_cons_succ]
                      (try dsimp only at hSw)
                      go_simp
                      (try with_reducible rfl)
                    simp only [Act.put, List.getElem_toArray, List.getElem_cons_zero, List.getElem_cons_succ, List.setIfInBounds_toArray, List.set_cons_zero, List.set_cons_succ]
                    refine wpAnyH_take (i := 18) (v := ?_) rfl (by kernel_rfl) (by kernel_rfl) (by kernel_rfl) (fun _ _ _ h => h) (Or.inl ⟨by rfl, ?_⟩) hHeld ?_
                    rotate_left
                    · intro w hSw
                      simp only [List.getElem_toArray, List.getElem_cons_zero, List.getElem_cons_succ]
                      (try dsimp only at hSw)
                      go_simp
                      (try with_reducible rfl)
                    simp only [Act.put, List.getElem_toArray, List.getElem_cons_zero, List.getElem_cons_succ, List.setIfInBounds_toArray, List.set_cons_zero, List.set_cons_succ]
                    refine wpAnyH_take (i := 19) (v := ?_) rfl (by kernel_rfl) (by kernel_rfl) (by kernel_rfl) (fun _ _ _ h => h) (Or.inl ⟨by rfl, ?_⟩) hHeld ?_
                    rotate_left
                    · intro w hSw
                      simp only [List.getElem_toArray, List.getElem_cons_zero, List.getElem_cons_succ]
                      (try dsimp only at hSw)
                      go_simp
                      (try with_reducible rfl)
                    simp only [Act.put, List.getElem_toArray, List.getElem_cons_zero, List.getElem_cons_succ, List.setIfInBounds_toArray, List.set_cons_zero, List.set_cons_succ]
                    refine wpAnyH_take (i := 20) (v := ?_) rfl (by kernel_rfl) (by kernel_rfl) (by kernel_rfl) (fun _ _ _ h => h) (Or.inl ⟨by rfl, ?_⟩) hHeld ?_
                    rotate_left
                    · intro w hSw
                      simp only [List.getElem_toArray, List.getElem_cons_zero, List.getElem_cons_succ]
                      (try dsimp only at hSw)
                      go_simp
                      (try with_reducible rfl)
                    simp only [Act.put, List.getElem_toArray, List.getElem_cons_zero, List.getElem_cons_succ, List.setIfInBounds_toArray, List.set_cons_zero, List.set_cons_succ]
                    refine wpAnyH_take (i := 21) (v := ?_) rfl (by kernel_rfl) (by kernel_rfl) (by kernel_rfl) (fun _ _ _ h => h) (Or.inl ⟨by rfl, ?_⟩) hHeld ?_
                    rotate_left
                    · intro w hSw
                      simp only [List.getElem_toArray, List.getElem_cons_zero, List.getElem_cons_succ]
                      (try dsimp only at hSw)
                      go_simp
                      (try with_reducible rfl)
                    simp only [Act.put, List.getElem_toArray, List.getElem_cons_zero, List.getElem_cons_succ, List.setIfInBounds_toArray, List.set_cons_zero, List.set_cons_succ]
                    refine wpAnyH_take (i := 22) (v := ?_) rfl (by kernel_rfl) (by kernel_rfl) (by kernel_rfl) (fun _ _ _ h => h) (Or.inl ⟨by rfl, ?_⟩) hHeld ?_
                    rotate_left
                    · intro w hSw
                      simp only [List.getElem_toArray, List.getElem_cons_zero, List.getElem_cons_succ]
                      (try dsimp only at hSw)
                      go_simp
                      (try with_reducible rfl)
                    simp only [Act.put, List.getElem_toArray, List.getElem_cons_zero, List.getElem_cons_succ, List.setIfInBounds_toArray, List.set_cons_zero, List.set_cons_succ]
                    refine wpAnyH_take (i := 23) (v := ?_) rfl (by kernel_rfl) (by kernel_rfl) (by kernel_rfl) (fun _ _ _ h => h) (Or.inl ⟨by rfl, ?_⟩) hHeld ?_
                    rotate_left
                    · intro w hSw
                      simp only [List.getElem_toArray, List.getElem_cons_zero, List.getElem_cons_succ]
                      (try dsimp only at hSw)
                      go_simp
                      (try with_reducible rfl)
                    simp only [Act.put, List.getElem_toArray, List.getElem_cons_zero, List.getElem_cons_succ, List.setIfInBounds_toArray, List.set_cons_zero, List.set_cons_succ]
                    refine wpAnyH_take (i := 24) (v := ?_) rfl (by kernel_rfl) (by kernel_rfl) (by kernel_rfl) (fun _ _ _ h => h) (Or.inl ⟨by rfl, ?_⟩) hHeld ?_
                    rotate_left
                    · intro w hSw
                      simp only [List.getElem_toArray, List.getElem_cons_zero, List.getElem_cons_succ]
                      (try dsimp only at hSw)
                      go_simp
                      (try with_reducible rfl)
                    simp only [Act.put, List.getElem_toArray, List.getElem_cons_zero, List.getElem_cons_succ, List.setIfInBounds_toArray, List.set_cons_zero, List.set_cons_succ]
                    refine wpAnyH_take (i := 25) (v := ?_) rfl (by kernel_rfl) (by kernel_rfl) (by kernel_rfl) (fun _ _ _ h => h) (Or.inl ⟨by rfl, ?_⟩) hHeld ?_
                    rotate_left
                    · intro w hSw
                      simp only [List.getElem_toArray, List.getElem_cons_zero, List.getElem_cons_succ]
                      (try dsimp only at hSw)
                      go_simp
                      (try with_reducible rfl)
                    simp only [Act.put, List.getElem_toArray, List.getElem_cons_zero, List.getElem_cons_succ, List.setIfInBounds_toArray, List.set_cons_zero, List.set_cons_succ]
                    refine wpAnyH_take (i := 26) (v := ?_) rfl (by kernel_rfl) (by kernel_rfl) (by kernel_rfl) (fun _ _ _ h => h) (Or.inl ⟨by rfl, ?_⟩) hHeld ?_
                    rotate_left
                    · intro w hSw
                      simp only [List.getElem_toArray, List.getElem_cons_zero, List.getElem_cons_succ]
                      (try dsimp only at hSw)
                      go_simp
                      (try with_reducible rfl)
                    simp only [Act.put, List.getElem_toArray, List.getElem_cons_zero, List.getElem_cons_succ, List.setIfInBounds_toArray, List.set_cons_zero, List.set_cons_succ]
                    refine wpAnyH_take (i := 27) (v := ?_) rfl (by kernel_rfl) (by kernel_rfl) (by kernel_rfl) (fun _ _ _ h => h) (Or.inl ⟨by rfl, ?_⟩) hHeld ?_
                    rotate_left
                    · intro w hSw
                      simp only [List.getElem_toArray, List.getElem_cons_zero, List.getElem_cons_succ]
                      (try dsimp only at hSw)
                      go_simp
                      (try with_reducible rfl)
                    simp only [Act.put, List.getElem_toArray, List.getElem_cons_zero, List.getElem_cons_succ, List.setIfInBounds_toArray, List.set_cons_zero, List.set_cons_succ]
                    refine wpAnyH_take (i := 28) (v := ?_) rfl (by kernel_rfl) (by kernel_rfl) (by kernel_rfl) (fun _ _ _ h => h) (Or.inl ⟨by rfl, ?_⟩) hHeld ?_
                    rotate_left
                    · intro w hSw
                      simp only [List.getElem_toArray, List.getElem_cons_zero, List.getElem_cons_succ]
                      (try dsimp only at hSw)
                      go_simp
                      (try with_reducible rfl)
                    simp only [Act.put, List.getElem_toArray, List.getElem_cons_zero, List.getElem_cons_succ, List.setIfInBounds_toArray, List.set_cons_zero, List.set_cons_succ]
                    refine wpAnyH_take (i := 29) (v := ?_) rfl (by kernel_rfl) (by kernel_rfl) (by kernel_rfl) (fun _ _ _ h => h) (Or.inl ⟨by rfl, ?_⟩) hHeld ?_
                    rotate_left
                    · intro w hSw
                      simp only [List.getElem_toArray, List.getElem_cons_zero, List.getElem_cons_succ]
                      (try dsimp only at hSw)
                      go_simp
                      (try with_reducible rfl)
                    simp only [Act.put, List.getElem_toArray, List.getElem_cons_zero, List.getElem_cons_succ, List.setIfInBounds_toArray, List.set_cons_zero, List.set_cons_succ]
                    refine wpAnyH_take (i := 30) (v := ?_) rfl (by kernel_rfl) (by kernel_rfl) (by kernel_rfl) (fun _ _ _ h => h) (Or.inl ⟨by rfl, ?_⟩) hHeld ?_
                    rotate_left
                    · intro w hSw
                      simp only [List.getElem_toArray, List.getElem_cons_zero, List.getElem_cons_succ]
                      (try dsimp only at hSw)
                      go_simp
                      (try with_reducible rfl)
                    simp only [Act.put, List.getElem_toArray, List.getElem_cons_zero, List.getElem_cons_succ, List.setIfInBounds_toArray, List.set_cons_zero, List.set_cons_succ]
                    refine wpAnyH_take (i := 31) (v := ?_) rfl (by kernel_rfl) (by kernel_rfl) (by kernel_rfl) (fun _ _ _ h => h) (Or.inl ⟨by rfl, ?_⟩) hHeld ?_
                    rotate_left
                    · intro w hSw
                      simp only [List.getElem_toArray, List.getElem_cons_zero, List.getElem_cons_succ]
                      (try dsimp only at hSw)
                      go_simp
                      (try with_reducible rfl)
                    simp only [Act.put, List.getElem_toArray, List.getElem_cons_zero, List.getElem_cons_succ, List.setIfInBounds_toArray, List.set_cons_zero, List.set_cons_succ]
                    refine wpAnyH_take (i := 32) (v := ?_) rfl (by kernel_rfl) (by kernel_rfl) (by kernel_rfl) (fun _ _ _ h => h) (Or.inl ⟨by rfl, ?_⟩) hHeld ?_
                    rotate_left
                    · intro w hSw
                      simp only [List.getElem_toArray, List.getElem_cons_zero, List.getElem_cons_succ]
                      (try dsimp only at hSw)
                      go_simp
                      (try with_reducible rfl)
                    simp only [Act.put, List.getElem_toArray, List.getElem_cons_zero, List.getElem_cons_succ, List.setIfInBounds_toArray, List.set_cons_zero, List.set_cons_succ]
                    refine wpAnyH_take (i := 33) (v := ?_) rfl (by kernel_rfl) (by kernel_rfl) (by kernel_rfl) (fun _ _ _ h => h) (Or.inl ⟨by rfl, ?_⟩) hHeld ?_
                    rotate_left
                    · intro w hSw
                      simp only [List.getElem_toArray, List.getElem_cons_zero, List.getElem_cons_succ]
                      (try dsimp only at hSw)
                      go_simp
                      (try with_reducible rfl)
                    simp only [Act.put, List.getElem_toArray, List.getElem_cons_zero, List.getElem_cons_succ, List.setIfInBounds_toArray, List.set_cons_zero, List.set_cons_succ]
                    refine wpAnyH_take (i := 34) (v := ?_) rfl (by kernel_rfl) (by kernel_rfl) (by kernel_rfl) (fun _ _ _ h => h) (Or.inl ⟨by rfl, ?_⟩) hHeld ?_
                    rotate_left
                    · intro w hSw
                      simp only [List.getElem_toArray, List.getElem_cons_zero, List.getElem_cons_succ]
                      (try dsimp only at hSw)
                      go_simp
                      (try with_reducible rfl)
                    simp only [Act.put, List.getElem_toArray, List.getElem_cons_zero, List.getElem_cons_succ, List.setIfInBounds_toArray, List.set_cons_zero, List.set_cons_succ]
                    refine wpAnyH_take (i := 35) (v := ?_) rfl (by kernel_rfl) (by kernel_rfl) (by kernel_rfl) (fun _ _ _ h => h) (Or.inl ⟨by rfl, ?_⟩) hHeld ?_
                    rotate_left
                    · intro w hSw
                      simp only [List.getElem_toArray, List.getElem_cons_zero, List.getElem_cons_succ]
                      (try dsimp only at hSw)
                      go_simp
                      (try with_reducible rfl)
                    simp only [Act.put, List.getElem_toArray, List.getElem_cons_zero, List.getElem_cons_succ, List.setIfInBounds_toArray, List.set_cons_zero, List.set_cons_succ]
                    refine wpAnyH_ready (rs := [36]) (by kernel_rfl) (by simp) ?_
                    refine AllReadyH.cons (o := _) rfl (fun K hK => ?_) AllReadyH.nil
                    simp only [List.getElem_toArray, List.getElem_cons_zero, List.getElem_cons_succ]
                    rw [if_pos (by rfl)]
                    go_simp
                    (go_at_call 24; (with_reducible refine (FL.out _).mono ?_); rintro e y9 ⟨rfl, hb9⟩)
                    refine hK.out _ _ ?_ (fun hHeld => ?_)
                    · exact SL.out _ (by (with_reducible (repeat' (first | assumption | exact Below.refl _ _ | apply Below.next_alloc | apply Below.drew | (apply Below.next; rotate_left; assumption)))))
                    clear hK K
                    refine wpAnyH_take (i := 37) (v := ?_) rfl (by kernel_rfl) (by kernel_rfl) (by kernel_rfl) (fun _ _ _ h => h) (Or.inl ⟨by rfl, ?_⟩) hHeld ?_
                    rotate_left
                    · intro w hSw
                      simp only [List.getElem_toArray, List.getElem_cons_zero, List.getElem_cons_succ]
                      (try dsimp only at hSw)
                      go_simp
                      (try with_reducible rfl)
                    simp only [Act.put, List.getElem_toArray, List.getElem_cons_zero, List.getElem_cons_succ, List.setIfInBounds_toArray, List.set_cons_zero, List.set_cons_succ]
                    refine wpAnyH_take (i := 38) (v := ?_) rfl (by kernel_rfl) (by kernel_rfl) (by kernel_rfl) (fun _ _ _ h => h) (Or.inl ⟨by rfl, ?_⟩) hHeld ?_
                    rotate_left
                    · intro w hSw
                      simp only [List.getElem_toArray, List.getElem_cons_zero, List.getElem_cons_succ]
                      (try dsimp only at hSw)
                      go_simp
                      (try with_reducible rfl)
                    simp only [Act.put, List.getElem_toArray, List.getElem_cons_zero, List.getElem_cons_succ, List.setIfInBounds_toArray, List.set_cons_zero, List.set_cons_succ]
                    refine wpAnyH_take (i := 39) (v := ?_) rfl (by kernel_rfl) (by kernel_rfl) (by kernel_rfl) (fun _ _ _ h => h) (Or.inl ⟨by rfl, ?_⟩) hHeld ?_
                    rotate_left
                    · intro w hSw
                      simp only [List.getElem_toArray, List.getElem_cons_zero, List.getElem_cons_succ]
                      (try dsimp only at hSw)
                      go_simp
                      (try with_reducible rfl)
                    simp only [Act.put, List.getElem_toArray, List.getElem_cons_zero, List.getElem_cons_succ, List.setIfInBounds_toArray, List.set_cons_zero, List.set_cons_succ]
                    refine wpAnyH_take (i := 40) (v := ?_) rfl (by kernel_rfl) (by kernel_rfl) (by kernel_rfl) (fun _ _ _ h => h) (Or.inl ⟨by rfl, ?_⟩) hHeld ?_
                    rotate_left
                    · intro w hSw
                      simp only [List.getElem_toArray, List.getElem_cons_zero, List.getElem_cons_succ]
                      (try dsimp only at hSw)
                      go_simp
                      (try with_reducible rfl)
                    simp only [Act.put, List.getElem_toArray, List.getElem_cons_zero, List.getElem_cons_succ, List.setIfInBounds_toArray, List.set_cons_zero, List.set_cons_succ]
                    refine wpAnyH_done (by kernel_rfl) ?_ _
                    go_wp2
                    go_roundw
                    case rel => exact ⟨k + 1, by omega, by go_num, Lib.hid (Below.next hBk.out (Below.next HWR.out (by (repeat' (first | assumption | exact Below.refl _ _ | apply Below.next_alloc | apply Below.drew | (apply Below.next; rotate_left; assumption))))))⟩
                    case measure => simp [intOf]; omega
                  · rw [List.getElem?_eq_none (by omega)] at hnx
                    have CN := Lib.hid (nextH x1 s1 (.tuple #[.agg #[.int .i64 0, .string ⟨#[]⟩], .bool false]) (hI1.out.below hBk.out) HPL.out (by rw [hnx]; rfl))
                    obtain ⟨n, hn⟩ : ∃ n, M.length = n := ⟨_, rfl⟩
                    clear hcellm hxs1 hnx hn
                    go_wp2_with (go_at_call 16; (with_reducible refine CN.out.mono ?_); rintro e yk ⟨rfl, hbk⟩)
                    have g1 : ((k : Int) + 1 == (M.length : Int)) = true := by rw [beq_iff_eq]; omega
                    have g2 : decide ((k : Int) + 1 < (M.length : Int)) = false := decide_eq_false (by omega)
                    have g6 : IntKind.i64.wrap ((k : Int) + 1) = (k : Int) + 1 := by rw [IntKind.wrap_i64]; omega
                    have HWR := Lib.hid (show Below wr.heap.size wr (yk.alloc (.cells #[.int .i64 0, .string ⟨#[]⟩] 29)) from Below.next hbk ((Below.refl _ _).alloc (Nat.le_refl _) _))
                    generalize yk.alloc (.cells #[.int .i64 0, .string ⟨#[]⟩] 29) = W1 at *
                    clear c3 c4 hbk
                    go_quiet (fail)
                    go_wp2
                    go_roundw
                    case rel => exact ⟨k + 1, by omega, by go_num, Lib.hid (Below.next hBk.out (Base.below_drewN HWR.out _))⟩
                    case measure => simp [intOf]; omega
              · obtain rfl : k = M.length := by omega
                have CLN := Lib.hid (lenH M.length (hI1.out.below hBk.out) rfl)
                have i5 : (M.length : Int) ≤ (l.length : Int) := by omega
                go_wp2_with (first
                  | (go_at_call 22; (with_reducible refine CLN.out.mono ?_); rintro e y2 ⟨rfl, rfl⟩)
                  | (go_at_call 8; (with_reducible refine (awake_any _).mono ?_); rintro e y3 ⟨rfl, hb3⟩))
                go_ret
                exact ⟨rfl, Below.next HX.out (Below.next hBk.out hb3)⟩
  · clear hl
    go_enter Try.func5, Try.ntmps5
    go_wp2_with (go_at_call 8; (with_reducible refine (awake_any _).mono ?_); rintro e w1 ⟨rfl, hB1⟩)
    go_ret
    exact ⟨rfl, by (repeat' (first | assumption | exact Below.refl _ _ | apply Below.next_alloc | apply Below.drew | (apply Below.next; rotate_left; assumption)))⟩
end Go.Proofs.Ytncneoggnoiknaa.Du

/- The walk through the reference's Order, the function itself. -/
import Derived.Test.YthelkkbjflohgaaHd
namespace Go.Proofs.Ythelkkbjflohgaa.Ds
open Go.RowKit Ut Gr Go.Maps
/-- how the loop over what is left stands -/
def RO (w wr : World) (l : List (ByteArray × ByteArray)) (names : List ByteArray) (gk : Nat) (v6 v8 : Value) : Prop :=
  ∃ cur acc, cur.length = gk ∧ OwnS wr w.heap.size v6 cur ∧ OwnS wr w.heap.size v8 acc ∧ (∀ g, v6.ownBlock = some g → v8.ownBlock ≠ some g) ∧ cur.Nodup ∧ Acc ltN l names acc cur ∧ acc.length + cur.length ≤ 1000 ∧ Below w.heap.size w wr
theorem OwnS.ge {w : World} {B : Nat} {v : Value} {l : List ByteArray} (h : OwnS w B v l) : ∀ g, v.ownBlock = some g → B ≤ g := by
  rcases h with ⟨_, ⟨rfl, _⟩ | ⟨g, cap, cur, rfl, hb, _⟩⟩
  · intro g hg; cases hg
  · intro g' hg'; cases hg'; exact hb
theorem OwnS.to {w : World} {B : Nat} {v : Value} {l m : List ByteArray} (h : OwnS w B v l) (e : l = m) : OwnS w B v m := e ▸ h
set_option maxHeartbeats 16000000 in
set_option maxRecDepth 100000 in
theorem rOrder_any {w : World} {v u : Value} {l : List (ByteArray × ByteArray)} {names : List ByteArray} (hl : Edgs w v l) (hn : l.length ≤ 1000) (hs : Strs w u names) (hm : names.length ≤ 1000) : Calls Try.prog 11 #[v, u] w (GivesO w l names) := by
  have HL := Lib.hid hl
  have HS := Lib.hid hs
  obtain ⟨av, cv, rfl⟩ := hl.slice
  obtain ⟨au, cu, rfl⟩ := hs.slice
  clear hl hs
  go_enter Try.func11, Try.ntmps11
  go_wp2
  go_loopw [6, 7] (fun v i wr => ∃ (cur : List ByteArray) (k : Nat), k ≤ names.length ∧ i = .int .i64 k ∧ OwnS wr w.heap.size v cur ∧ Hid ((∀ x, x ∈ cur ↔ x ∈ names.take k) ∧ cur.Nodup ∧ cur.length ≤ k) ∧ Hid (Below w.heap.size w wr)) (fun _ i _ => names.length - (intOf i).toNat)
  case atStart => exact ⟨[], 0, by omega, rfl, OwnS.nil _ _, Lib.hid ⟨by simp, .nil, by simp⟩, Lib.hid (Below.refl _ _)⟩
  case round =>
    obtain ⟨cur, k, hk, rfl, hown, hcur, hB⟩ := hrel
    replace hown := Lib.hid hown
    by_cases hkl : k < names.length
    · rcases HS.out.below hB.out with ⟨rfl, -⟩ | ⟨-, b, o, cap, hv, hlt, -, hcell⟩
      · simp at hkl
      obtain ⟨rfl, -, rfl⟩ := Value.slice.inj hv
      have c0 := hcell k hkl
      have i2 : (k : Int) < (names.length : Int) := by omega
      have i3 : (0 : Int) ≤ (k : Int) := by omega
      have hcl : cur.length ≤ 1000 := by have := hcur.out.2.2; omega
      have FH := Lib.hid (rHas_any names[k] hown.out.strs (by omega))
      clear hv hcell
      by_cases hin : names[k] ∈ cur
      · have h1 := Lib.hid (dedup_step hkl hcur.out.1 hin)
        have hb := isIn_yes hin
        clear hin
        generalize names[k] = x at *
        go_wp2_with (first
          | (go_at_call 35; (with_reducible refine FH.out.mono ?_); rintro e w' ⟨rfl, rfl⟩))
        go_roundw
        case rel => exact ⟨cur, k + 1, by omega, by go_num, hown.out, Lib.hid ⟨h1.out, hcur.out.2.1, by have := hcur.out.2.2; omega⟩, hB⟩
        case measure => simp [intOf]; omega
      · have h1 := Lib.hid (dedup_add hkl hcur.out.1)
        have h2 := Lib.hid (show (cur ++ [names[k]]).Nodup from List.nodup_append.2 ⟨hcur.out.2.1, by simp, fun a ha b hb => by rw [List.mem_singleton] at hb; subst hb; exact fun e => hin (e ▸ ha)⟩)
        have hb := isIn_no hin
        clear hin
        generalize names[k] = x at *
        go_wp2_with (first
          | (go_at_call 35; (with_reducible refine FH.out.mono ?_); rintro e w' ⟨rfl, rfl⟩)
          | (at_builtin; refine push_str rfl _ _ rfl w.heap.size _ cur rfl hown.out rfl (by omega) hB.out.size ?_; intro v5 w5 hown5 hB5))
        go_roundw
        case rel => exact ⟨cur ++ [x], k + 1, by omega, by go_num, hown5, Lib.hid ⟨h1.out, h2.out, by have := hcur.out.2.2; rw [List.length_append]; simp; omega⟩, Lib.hid (hB.out.trans hB5)⟩
        case measure => simp [intOf]; omega
    · obtain rfl : k = names.length := by omega
      have hcl : cur.length ≤ 1000 := by have := hcur.out.2.2; omega
      have hacc := Lib.hid (acc_start (lt := ltN) (l := l) (names := names) (cur := cur) (fun x => by rw [hcur.out.1 x, List.take_length]))
      obtain ⟨W1, hW1⟩ : ∃ W, W = wr := ⟨_, rfl⟩
      subst hW1
      go_wp2
      go_loopg [6, 8] cur.length (fun gk v6 v8 wr => Hid (RO w wr l names gk v6 v8))
      case atStart => exact Lib.hid ⟨cur, [], rfl, hown.out, OwnS.nil _ _, (fun g _ h => by cases h), hcur.out.2.1, hacc.out, by simp; omega, hB.out⟩
      case round =>
        clear hown hacc hcur hB hcl
        obtain ⟨cur, acc, rfl, hc6, hc8, hne, hnd, hA, hal, hB⟩ := hrel.out
        by_cases hk0 : 0 < cur.length
        rotate_left
        · obtain rfl : cur = [] := List.eq_nil_of_length_eq_zero (by omega)
          obtain ⟨a6, c6, rfl⟩ := hc6.slice
          have hr := Lib.hid (acc_done hA (by simp))
          have hc8 := Lib.hid hc8
          have hB := Lib.hid hB
          clear hrel hc6 hne hA
          go_wp2
          go_ret2
          exact ⟨acc, true, _, rfl, hr.out, hc8.out, hB.out⟩
        · obtain ⟨g, c6, rfl, hBg, hg, hcap, hcell⟩ := hc6.pos hk0
          obtain ⟨W2, hW2⟩ : ∃ W, W = wr := ⟨_, rfl⟩
          subst hW2
          have hc6 := Lib.hid hc6
          have hc8 := Lib.hid hc8
          have hne := Lib.hid hne
          have hnd := Lib.hid hnd
          have hA := Lib.hid hA
          have hB := Lib.hid hB
          have hcell := Lib.hid hcell
          clear hrel
          go_wp2
          go_loopw [9, 10] (fun b i wk => ∃ (bb : Int) (k : Nat), k ≤ cur.length ∧ i = .int .i64 k ∧ b = .int .i64 bb ∧ Hid (Best l cur k bb) ∧ Hid (Below W2.heap.size W2 wk)) (fun _ i _ => cur.length - (intOf i).toNat)
          case atStart => exact ⟨-1, 0, by omega, rfl, rfl, Lib.hid (best_start l cur), Lib.hid (Below.refl _ _)⟩
          case round =>
            obtain ⟨bb, k, hk, rfl, rfl, hbest, hB3⟩ := hrel
            by_cases hkl : k < cur.length
            · have hkk : k < cur.length := hkl
              have b3 := Lib.hid (hB.out.trans (hB3.out.mono hB.out.size))
              have c0 := (hB3.out.cell (p := ⟨g, k, none⟩) hg).trans (hcell.out k _ (List.getElem?_eq_getElem hkl))
              have i2 : (k : Int) < (cur.length : Int) := by omega
              have i3 : (0 : Int) ≤ (k : Int) := by omega
              have FW := Lib.hid (reached_any cur[k] (HL.out.below b3.out) hn)
              go_wp2_with (first
                | (go_at_call 36; (with_reducible refine FW.out.mono ?_); rintro e w5 ⟨to, v5, rfl, hO, hto, htl, hB5⟩; have hO := Lib.hid hO; have hto := Lib.hid hto; have b5 := Lib.hid (Below.next hB3.out hB5); have hB5 := Lib.hid hB5))
              go_loopw [11, 13] (fun f i wk => ∃ (ff : Bool) (j : Nat), j ≤ cur.length ∧ i = .int .i64 j ∧ f = .bool ff ∧ Hid (ff = noneK cur to j) ∧ w5 = wk) (fun _ i _ => cur.length - (intOf i).toNat)
              case atStart => exact ⟨true, 0, by omega, rfl, rfl, Lib.hid (by simp [noneK]), rfl⟩
              case round =>
                obtain ⟨ff, j, hj, rfl, rfl, hff, rfl⟩ := hrel
                by_cases hjl : j < cur.length
                · have d0 := (b5.out.cell (p := ⟨g, j, none⟩) hg).trans (hcell.out j _ (List.getElem?_eq_getElem hjl))
                  have i2 : (j : Int) < (cur.length : Int) := by omega
                  have i3 : (0 : Int) ≤ (j : Int) := by omega
                  have hnx := Lib.hid (noneK_next (to := to) hjl)
                  have FH := Lib.hid (rHas_any cur[j] hO.out.strs (by omega))
                  generalize cur[j] = y at *
                  cases ff
                  · go_wp2
                    go_roundw
                    case rel => exact ⟨false, j + 1, by omega, by go_num, rfl, Lib.hid (by rw [hnx.out, ← hff.out]; rfl), trivial⟩
                    case measure => simp [intOf]; omega
                  · cases hin : isIn y to
                    · go_wp2_with (first
                        | (go_at_call 35; (with_reducible refine FH.out.mono ?_); rintro e w' ⟨rfl, rfl⟩))
                      go_roundw
                      case rel => exact ⟨true, j + 1, by omega, by go_num, rfl, Lib.hid (by rw [hnx.out, ← hff.out, hin]; rfl), trivial⟩
                      case measure => simp [intOf]; omega
                    · go_wp2_with (first
                        | (go_at_call 35; (with_reducible refine FH.out.mono ?_); rintro e w' ⟨rfl, rfl⟩))
                      go_roundw
                      case rel => exact ⟨false, j + 1, by omega, by go_num, rfl, Lib.hid (by rw [hnx.out, ← hff.out, hin]; rfl), trivial⟩
                      case measure => simp [intOf]; omega
                · obtain rfl : j = cur.length := by omega
                  have hfree := noneK_free (l := l) (cur := cur) (to := to) (x := cur[k]) hto.out
                  rw [← hff.out] at hfree
                  have d0 := (b5.out.cell (p := ⟨g, k, none⟩) hg).trans (hcell.out k _ (List.getElem?_eq_getElem hkl))
                  cases ff
                  · have hb2 := Lib.hid (best_skip hbest.out hkl (fun h => by have := hfree.2 h; cases this))
                    clear hfree
                    go_wp2
                    go_quiet (fail)
                    go_wp2
                    go_roundw
                    case rel => exact ⟨bb, k + 1, by omega, by go_num, rfl, hb2, Lib.hid (Base.below_drewN b5.out _)⟩
                    case measure => simp [intOf]; omega
                  · have hfr := hfree.1 rfl
                    rcases best_bd hbest.out with rfl | ⟨m, rfl, hm1, -⟩
                    · have hb2 := Lib.hid (best_first hbest.out hkl hfr)
                      clear hfree hfr
                      go_wp2
                      go_quiet (fail)
                      go_wp2
                      go_roundw
                      case rel => exact ⟨k, k + 1, by omega, by go_num, rfl, hb2, Lib.hid (Base.below_drewN b5.out _)⟩
                      case measure => simp [intOf]; omega
                    · have d1 := (b5.out.cell (p := ⟨g, m, none⟩) hg).trans (hcell.out m _ (List.getElem?_eq_getElem hm1))
                      have j2 : (m : Int) < (cur.length : Int) := by omega
                      have j3 : (0 : Int) ≤ (m : Int) := by omega
                      have j4 : ¬ ((m : Int) < 0) := by omega
                      have j5 : decide ((m : Int) < 0) = false := decide_eq_false j4
                      cases hlt : ltN cur[k] cur[m]
                      · have hb2 := Lib.hid (best_stay hbest.out hkl hm1 hlt)
                        have hq : Op.bytesLess cur[k].toList cur[m].toList = false := hlt
                        clear hfree hfr hlt
                        go_wp2
                        go_quiet (fail)
                        go_wp2
                        go_roundw
                        case rel => exact ⟨m, k + 1, by omega, by go_num, rfl, hb2, Lib.hid (Base.below_drewN b5.out _)⟩
                        case measure => simp [intOf]; omega
                      · have hb2 := Lib.hid (best_less hbest.out hkl hm1 hfr hlt)
                        have hq : Op.bytesLess cur[k].toList cur[m].toList = true := hlt
                        clear hfree hfr hlt
                        go_wp2
                        go_quiet (fail)
                        go_wp2
                        go_roundw
                        case rel => exact ⟨k, k + 1, by omega, by go_num, rfl, hb2, Lib.hid (Base.below_drewN b5.out _)⟩
                        case measure => simp [intOf]; omega
            · obtain rfl : k = cur.length := by omega
              rcases best_bd hbest.out with rfl | ⟨m, rfl, hm1, -⟩
              · have hr := Lib.hid (acc_stuck hA.out (by obtain ⟨x, hx⟩ := List.exists_mem_of_length_pos hk0; exact ⟨x, hx⟩) (best_none hbest.out))
                go_wp2
                go_ret2
                exact ⟨[], false, _, rfl, hr.out, OwnS.nil _ _, hB.out.trans (hB3.out.mono hB.out.size)⟩
              · have b3 := Lib.hid (hB.out.trans (hB3.out.mono hB.out.size))
                have c0 := (hB3.out.cell (p := ⟨g, m, none⟩) hg).trans (hcell.out m _ (List.getElem?_eq_getElem hm1))
                have j2 : (m : Int) < (cur.length : Int) := by omega
                have j3 : (0 : Int) ≤ (m : Int) := by omega
                have j4 : ¬ ((m : Int) < 0) := by omega
                have h6 := Lib.hid (hc6.out.below hB3.out)
                have h8 := Lib.hid (hc8.out.below hB3.out)
                have hnx := best_next hm1 hbest.out
                have hme := mem_erase_nodup hnd.out hm1
                have hA2 := Lib.hid (acc_step hA.out hnx hme)
                have hnd2 := Lib.hid (hnd.out.sublist (List.eraseIdx_sublist cur m))
                have hel := Lib.hid (show (cur.eraseIdx m).length = cur.length - 1 by rw [List.length_eraseIdx, if_pos hm1])
                have htd := Lib.hid (take_drop_erase cur m)
                generalize cur[m] = x at *
                have hne2 := Lib.hid (hne.out g rfl)
                clear hbest hnx hme hcell hnd
                by_cases hcm : c6 = m + 1
                · have hcl0 := hcm
                  have hcl2 : cur.length = m + 1 := by omega
                  have htail := Lib.hid (show cur.take m = cur.eraseIdx m by rw [← htd.out, List.drop_of_length_le (by omega), List.append_nil])
                  subst hcm
                  clear hcl0
                  go_wp2_with (first
                    | (at_builtin; refine push_str_at rfl _ _ rfl w.heap.size _ acc rfl h8.out rfl (by omega) b3.out.size ?_; intro v9 w9 hown9 hg9 hl9; have k6 := Lib.hid (h6.out.kept2 hg9 (fun g' hg' e => hne2.out (by cases hg'; exact e.symm))); have hown9 := Lib.hid hown9; have hg9 := Lib.hid hg9)
                    | (at_builtin; refine app_strs rfl _ _ rfl w9.heap.size _ [] rfl (OwnS.nil _ _) _ (cur.take m) rfl (OwnS.head k6.out hk0 m (by omega)) (by rw [List.length_take]; simp; omega) (Nat.le_refl _) ?_; intro v10 w10 hown10 hB10; have k10 := Lib.hid (k6.out.below hB10); have hown10 := Lib.hid hown10)
                    | (at_builtin; refine app_strs rfl _ _ rfl w9.heap.size _ (cur.take m) rfl hown10.out _ [] rfl (.inl ⟨rfl, _, _, rfl, fun h => by cases h⟩) (by rw [List.length_take]; simp; omega) hB10.size ?_; intro v11 w11 hown11 hB11))
                  have b9 := Lib.hid ((b3.out.grown hg9.out b3.out.size (fun j hj => OwnS.ge h8.out j hj)))
                  have hB911 := Lib.hid (hB10.trans hB11)
                  have h11 := Lib.hid (show OwnS w11 w9.heap.size v11 (cur.eraseIdx m) from hown11.to (by rw [List.append_nil]; exact htail.out))
                  go_roundg (cur.length - 1)
                  case measure => omega
                  case rel =>
                    refine Lib.hid ⟨cur.eraseIdx m, acc ++ [x], hel.out, OwnS.base h11.out b9.out.size, hown9.out.below hB911.out, fun g' h1 h2 => ?_, hnd2.out, hA2.out, by rw [hel.out, List.length_append, List.length_singleton]; omega, b9.out.trans (hB911.out.mono b9.out.size)⟩
                    have h3 := OwnS.ge h11.out g' h1
                    have h4 := hown9.out.lt' g' h2
                    omega
                · have hcm2 : m + 1 < c6 := by omega
                  go_wp2_with (first
                    | (at_builtin; refine push_str_at rfl _ _ rfl w.heap.size _ acc rfl h8.out rfl (by omega) b3.out.size ?_; intro v9 w9 hown9 hg9 hl9; have k6 := Lib.hid (h6.out.kept2 hg9 (fun g' hg' e => hne2.out (by cases hg'; exact e.symm))); have hown9 := Lib.hid hown9; have hg9 := Lib.hid hg9)
                    | (at_builtin; refine app_strs rfl _ _ rfl w9.heap.size _ [] rfl (OwnS.nil _ _) _ (cur.take m) rfl (OwnS.head k6.out hk0 m (by omega)) (by rw [List.length_take]; simp; omega) (Nat.le_refl _) ?_; intro v10 w10 hown10 hB10; have k10 := Lib.hid (k6.out.below hB10); have hown10 := Lib.hid hown10)
                    | (at_builtin; refine app_strs rfl _ _ rfl w9.heap.size _ (cur.take m) rfl hown10.out _ (cur.drop (m + 1)) rfl (OwnS.tail k10.out hk0 (m + 1) (by omega)) (by rw [List.length_take, List.length_drop]; omega) hB10.size ?_; intro v11 w11 hown11 hB11))
                  have b9 := Lib.hid ((b3.out.grown hg9.out b3.out.size (fun j hj => OwnS.ge h8.out j hj)))
                  have hB911 := Lib.hid (hB10.trans hB11)
                  have h11 := Lib.hid (show OwnS w11 w9.heap.size v11 (cur.eraseIdx m) from hown11.to htd.out)
                  go_roundg (cur.length - 1)
                  case measure => omega
                  case rel =>
                    refine Lib.hid ⟨cur.eraseIdx m, acc ++ [x], hel.out, OwnS.base h11.out b9.out.size, hown9.out.below hB911.out, fun g' h1 h2 => ?_, hnd2.out, hA2.out, by rw [hel.out, List.length_append, List.length_singleton]; omega, b9.out.trans (hB911.out.mono b9.out.size)⟩
                    have h3 := OwnS.ge h11.out g' h1
                    have h4 := hown9.out.lt' g' h2
                    omega
end Go.Proofs.Ythelkkbjflohgaa.Ds

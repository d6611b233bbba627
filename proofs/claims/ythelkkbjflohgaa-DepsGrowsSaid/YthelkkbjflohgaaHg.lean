/- The walk through errandlaw31's behind, where there is no circle. -/
import Derived.Test.YthelkkbjflohgaaHf
namespace Go.Proofs.Ythelkkbjflohgaa.Ds
open Go.RowKit Ut Gr Go.Maps
set_option maxHeartbeats 4000000 in
set_option maxRecDepth 100000 in
theorem behind_any {w : World} {v u : Value} {l : List (ByteArray × ByteArray)} {o : List ByteArray} (hl : Edgs w v l) (ho : Strs w u o) (hn : l.length ≤ 1000) (hz : Short l) (hm : o.length ≤ 1000) (hs : ∀ x ∈ o, x.size ≤ maxLen)
    (hp : o.Pairwise fun x y => x ≠ y) (hw : ∀ i j (hj : j < o.length) (hi : i ≤ j), ¬ Leads l o[i] o[j]) : Calls Try.prog 27 #[v, u] w fun e w' => e = .returned (.bool true) ∧ Below w.heap.size w w' := by
  have FR := Lib.hid (fun W (hB : Below w.heap.size w W) (s t : ByteArray) (ht : t.size ≤ maxLen) => reach_any (w := W) s t (hl.below hB) hn hz ht)
  obtain ⟨av, cv, rfl⟩ := hl.slice
  clear hl hz
  rcases ho with ⟨rfl, a', cap, rfl, -⟩ | ⟨h0, b, of, cap, rfl, hlt, hcap, hcell⟩
  · go_enter Try.func27, Try.ntmps27
    go_wp2
    refine wp_loop_rounds 1 ?_
    rw [rounds_succ]
    go_wp2
    go_ret
    exact ⟨rfl, by (repeat' (first | assumption | exact Below.refl _ _ | apply Below.next_alloc | apply Below.drew | (apply Below.next; rotate_left; assumption)))⟩
  have HC := Lib.hid hcell
  have HP := Lib.hid (List.pairwise_iff_getElem.1 hp)
  have HW := Lib.hid hw
  have HS := Lib.hid hs
  clear hcell hp hw hs
  go_enter Try.func27, Try.ntmps27
  go_wp2
  go_loopw [5] (fun i wr => ∃ k : Nat, k ≤ o.length ∧ i = .int .i64 k ∧ Hid (Below w.heap.size w wr)) (fun i _ => o.length - (intOf i).toNat)
  case atStart => exact ⟨0, by omega, rfl, Lib.hid (Below.refl _ _)⟩
  case round =>
    obtain ⟨i, hi, rfl, hB⟩ := hrel
    by_cases hi2 : i < o.length
    · have j2 : (i : Int) < (o.length : Int) := by omega
      have j3 : (0 : Int) ≤ (i : Int) := by omega
      go_wp2
      obtain ⟨W2, hW2⟩ : ∃ W, W = wr := ⟨_, rfl⟩
      subst hW2
      go_loopw [6] (fun q wr => ∃ k : Nat, i ≤ k ∧ k ≤ o.length ∧ q = .int .i64 k ∧ Hid (Below w.heap.size w wr)) (fun q _ => o.length - (intOf q).toNat)
      case atStart => exact ⟨i, by omega, by omega, rfl, hB⟩
      case round =>
        clear hB
        obtain ⟨k, hik, hk, rfl, hB⟩ := hrel
        by_cases hk2 : k < o.length
        · have i2 : (k : Int) < (o.length : Int) := by omega
          have i3 : (0 : Int) ≤ (k : Int) := by omega
          have c0 := (hB.out.cell (p := ⟨b, of + i, none⟩) hlt).trans (HC.out i hi2)
          have c1 := (hB.out.cell (p := ⟨b, of + k, none⟩) hlt).trans (HC.out k hk2)
          have hlt2 : b < wr.heap.size := Nat.lt_of_lt_of_le hlt hB.out.size
          have SL := Lib.hid (show ∀ W, Below wr.heap.size wr W → W.cell? ⟨b, of + i, none⟩ = some (.string o[i]) from fun W hW => (hW.cell (p := ⟨b, of + i, none⟩) hlt2).trans c0)
          have SL2 := Lib.hid (show ∀ W, Below wr.heap.size wr W → W.cell? ⟨b, of + i, none⟩ = some (.string o[i]) ∧ W.cell? ⟨b, of + k, none⟩ = some (.string o[k]) from fun W hW => ⟨(hW.cell (p := ⟨b, of + i, none⟩) hlt2).trans c0, (hW.cell (p := ⟨b, of + k, none⟩) hlt2).trans c1⟩)
          have F := fun W hW => FR.out W hW o[i] o[k] (HS.out _ (List.getElem_mem hk2))
          rw [way_no.2 (HW.out i k hk2 hik)] at F
          by_cases he : i = k
          · subst he
            have F := Lib.hid F
            have hne : ((i : Int) != (i : Int)) = false := by simp
            have heq : (o[i].toList == o[i].toList) = true := by simp
            generalize o[i] = x at *
            go_wp2
            go_region_held3 (fun w' => w'.cell? ⟨b, of + i, none⟩ = some (.string x)) (first | ((with_reducible refine SL.out _ ?_); (with_reducible (repeat' (first | assumption | exact Below.refl _ _ | apply Below.next_alloc | apply Below.drew | (apply Below.next; rotate_left; assumption)))); done) | go_keep)
              (first
                | (go_at_call 13; (with_reducible refine (F.out _ (Below.next hB.out (by (repeat' (first | assumption | exact Below.refl _ _ | apply Below.next_alloc | apply Below.drew | (apply Below.next; rotate_left; assumption)))))).mono ?_); rintro e y1 ⟨rfl, hB1⟩))
            go_wp2
            go_roundw
            case rel => exact ⟨i + 1, by omega, by omega, by go_num, Lib.hid (Below.next hB.out (by (repeat' (first | assumption | exact Below.refl _ _ | apply Below.next_alloc | apply Below.drew | (apply Below.next; rotate_left; assumption)))))⟩
            case measure => simp [intOf]; omega
          · have hq := eqS_no (HP.out i k hi2 hk2 (by omega))
            have F := Lib.hid F
            generalize o[i] = x at *
            generalize o[k] = y at *
            go_wp2
            clear FR HC HP HW HS
            refine wp_region_held_drew (S := (fun w' => w'.cell? ⟨b, of + i, none⟩ = some (.string x) ∧ w'.cell? ⟨b, of + k, none⟩ = some (.string y))) (by kernel_rfl) ?_ (fun hHeld => ?_)
            · exact SL2.out _ (by (repeat' (first | assumption | exact Below.refl _ _ | apply Below.next_alloc | apply Below.drew | (apply Below.next; rotate_left; assumption))))
            refine wpAnyH_take (i := 0) (v := ?_) rfl (by kernel_rfl) (by kernel_rfl) (by kernel_rfl) (fun _ _ _ h => h) (Or.inl ⟨by rfl, ?_⟩) hHeld ?_
            rotate_left
            · intro w hSw
              simp only [List.getElem_toArray, List.getElem_cons_zero]
              (try dsimp only at hSw)
              go_simp
              (try with_reducible rfl)
            simp only [Act.put, List.getElem_toArray, List.getElem_cons_zero, List.setIfInBounds_toArray, List.set_cons_zero, List.set_cons_succ]
            refine wpAnyH_take (i := 1) (v := ?_) rfl (by kernel_rfl) (by kernel_rfl) (by kernel_rfl) (fun _ _ _ h => h) (Or.inl ⟨by rfl, ?_⟩) hHeld ?_
            rotate_left
            · intro w hSw
              simp only [List.getElem_toArray, List.getElem_cons_zero, List.getElem_cons_succ]
              (try dsimp only at hSw)
              go_simp
              (try with_reducible rfl)
            simp only [Act.put, List.getElem_toArray, List.getElem_cons_zero, List.getElem_cons_succ, List.setIfInBounds_toArray, List.set_cons_zero, List.set_cons_succ]
            refine wpAnyH_take (i := 2) (v := ?_) rfl (by kernel_rfl) (by kernel_rfl) (by kernel_rfl) (fun _ _ _ h => h) (Or.inl ⟨by rfl, ?_⟩) hHeld ?_
            rotate_left
            · intro w hSw
              simp only [List.getElem_toArray, List.getElem_cons_zero, List.getElem_cons_succ]
              (try dsimp only at hSw)
              go_simp
              (try with_reducible rfl)
            simp only [Act.put, List.getElem_toArray, List.getElem_cons_zero, List.getElem_cons_succ, List.setIfInBounds_toArray, List.set_cons_zero, List.set_cons_succ]
            refine wpAnyH_take (i := 3) (v := ?_) rfl (by kernel_rfl) (by kernel_rfl) (by kernel_rfl) (fun _ _ _ h => h) (Or.inl ⟨by rfl, ?_⟩) hHeld ?_
            rotate_left
            · intro w hSw
              simp only [List.getElem_toArray, List.getElem_cons_zero, List.getElem_cons_succ]
              (try dsimp only at hSw)
              go_simp
              (try with_reducible rfl)
            simp only [Act.put, List.getElem_toArray, List.getElem_cons_zero, List.getElem_cons_succ, List.setIfInBounds_toArray, List.set_cons_zero, List.set_cons_succ]
            refine wpAnyH_take (i := 4) (v := ?_) rfl (by kernel_rfl) (by kernel_rfl) (by kernel_rfl) (fun _ _ _ h => h) (Or.inl ⟨by rfl, ?_⟩) hHeld ?_
            rotate_left
            · intro w hSw
              simp only [List.getElem_toArray, List.getElem_cons_zero, List.getElem_cons_succ]
              (try dsimp only at hSw)
              go_simp
              (try with_reducible rfl)
            simp only [Act.put, List.getElem_toArray, List.getElem_cons_zero, List.getElem_cons_succ, List.setIfInBounds_toArray, List.set_cons_zero, List.set_cons_succ]
            refine wpAnyH_take (i := 5) (v := ?_) rfl (by kernel_rfl) (by kernel_rfl) (by kernel_rfl) (fun _ _ _ h => h) (Or.inl ⟨by rfl, ?_⟩) hHeld ?_
            rotate_left
            · intro w hSw
              simp only [List.getElem_toArray, List.getElem_cons_zero, List.getElem_cons_succ]
              (try dsimp only at hSw)
              go_simp
              (try with_reducible rfl)
            simp only [Act.put, List.getElem_toArray, List.getElem_cons_zero, List.getElem_cons_succ, List.setIfInBounds_toArray, List.set_cons_zero, List.set_cons_succ]
            refine wpAnyH_take (i := 6) (v := ?_) rfl (by kernel_rfl) (by kernel_rfl) (by kernel_rfl) (fun _ _ _ h => h) (Or.inl ⟨by rfl, ?_⟩) hHeld ?_
            rotate_left
            · intro w hSw
              simp only [List.getElem_toArray, List.getElem_cons_zero, List.getElem_cons_succ]
              (try dsimp only at hSw)
              go_simp
              (try with_reducible rfl)
            simp only [Act.put, List.getElem_toArray, List.getElem_cons_zero, List.getElem_cons_succ, List.setIfInBounds_toArray, List.set_cons_zero, List.set_cons_succ]
            refine wpAnyH_take (i := 7) (v := ?_) rfl (by kernel_rfl) (by kernel_rfl) (by kernel_rfl) (fun _ _ _ h => h) (Or.inl ⟨by rfl, ?_⟩) hHeld ?_
            rotate_left
            · intro w hSw
              simp only [List.getElem_toArray, List.getElem_cons_zero, List.getElem_cons_succ]
              (try dsimp only at hSw)
              go_simp
              (try with_reducible rfl)
            simp only [Act.put, List.getElem_toArray, List.getElem_cons_zero, List.getElem_cons_succ, List.setIfInBounds_toArray, List.set_cons_zero, List.set_cons_succ]
            refine wpAnyH_take (i := 8) (v := ?_) rfl (by kernel_rfl) (by kernel_rfl) (by kernel_rfl) (fun _ _ _ h => h) (Or.inl ⟨by rfl, ?_⟩) hHeld ?_
            rotate_left
            · intro w hSw
              simp only [List.getElem_toArray, List.getElem_cons_zero, List.getElem_cons_succ]
              (try dsimp only at hSw)
              go_simp
              (try with_reducible rfl)
            simp only [Act.put, List.getElem_toArray, List.getElem_cons_zero, List.getElem_cons_succ, List.setIfInBounds_toArray, List.set_cons_zero, List.set_cons_succ]
            refine wpAnyH_take (i := 9) (v := ?_) rfl (by kernel_rfl) (by kernel_rfl) (by kernel_rfl) (fun _ _ _ h => h) (Or.inl ⟨by rfl, ?_⟩) hHeld ?_
            rotate_left
            · intro w hSw
              simp only [List.getElem_toArray, List.getElem_cons_zero, List.getElem_cons_succ]
              (try dsimp only at hSw)
              go_simp
              (try with_reducible rfl)
            simp only [Act.put, List.getElem_toArray, List.getElem_cons_zero, List.getElem_cons_succ, List.setIfInBounds_toArray, List.set_cons_zero, List.set_cons_succ]
            refine wpAnyH_take (i := 10) (v := undef) rfl (by kernel_rfl) (by kernel_rfl) (by kernel_rfl) (fun _ _ _ h => h) (Or.inr ⟨rfl, rfl⟩) hHeld ?_
            simp only [Act.put, List.getElem_toArray, List.getElem_cons_zero, List.getElem_cons_succ, List.setIfInBounds_toArray, List.set_cons_zero, List.set_cons_succ]
            refine wpAnyH_take (i := 11) (v := undef) rfl (by kernel_rfl) (by kernel_rfl) (by kernel_rfl) (fun _ _ _ h => h) (Or.inr ⟨rfl, rfl⟩) hHeld ?_
            simp only [Act.put, List.getElem_toArray, List.getElem_cons_zero, List.getElem_cons_succ, List.setIfInBounds_toArray, List.set_cons_zero, List.set_cons_succ]
            refine wpAnyH_take (i := 12) (v := undef) rfl (by kernel_rfl) (by kernel_rfl) (by kernel_rfl) (fun _ _ _ h => h) (Or.inr ⟨rfl, rfl⟩) hHeld ?_
            simp only [Act.put, List.getElem_toArray, List.getElem_cons_zero, List.getElem_cons_succ, List.setIfInBounds_toArray, List.set_cons_zero, List.set_cons_succ]
            refine wpAnyH_take (i := 13) (v := ?_) rfl (by kernel_rfl) (by kernel_rfl) (by kernel_rfl) (fun _ _ _ h => h) (Or.inl ⟨by rfl, ?_⟩) hHeld ?_
            rotate_left
            · intro w hSw
              simp only [List.getElem_toArray, List.getElem_cons_zero, List.getElem_cons_succ]
              (try dsimp only at hSw)
              go_simp
              (try with_reducible rfl)
            simp only [Act.put, List.getElem_toArray, List.getElem_cons_zero, List.getElem_cons_succ, List.setIfInBounds_toArray, List.set_cons_zero, List.set_cons_succ]
            refine wpAnyH_take (i := 14) (v := ?_) rfl (by kernel_rfl) (by kernel_rfl) (by kernel_rfl) (fun _ _ _ h => h) (Or.inl ⟨by rfl, ?_⟩) hHeld ?_
            rotate_left
            · intro w hSw
              simp only [List.getElem_toArray, List.getElem_cons_zero, List.getElem_cons_succ]
              (try dsimp only at hSw)
              go_simp
              (try with_reducible rfl)
            simp only [Act.put, List.getElem_toArray, List.getElem_cons_zero, List.getElem_cons_succ, List.setIfInBounds_toArray, List.set_cons_zero, List.set_cons_succ]
            refine wpAnyH_take (i := 15) (v := ?_) rfl (by kernel_rfl) (by kernel_rfl) (by kernel_rfl) (fun _ _ _ h => h) (Or.inl ⟨by rfl, ?_⟩) hHeld ?_
            rotate_left
            · intro w hSw
              simp only [List.getElem_toArray, List.getElem_cons_zero, List.getElem_cons_succ]
              (try dsimp only at hSw)
              go_simp
              (try with_reducible rfl)
            simp only [Act.put, List.getElem_toArray, List.getElem_cons_zero, List.getElem_cons_succ, List.setIfInBounds_toArray, List.set_cons_zero, List.set_cons_succ]
            refine wpAnyH_take (i := 16) (v := ?_) rfl (by kernel_rfl) (by kernel_rfl) (by kernel_rfl) (fun _ _ _ h => h) (Or.inl ⟨by rfl, ?_⟩) hHeld ?_
            rotate_left
            · intro w hSw
              simp only [List.getElem_toArray, List.getElem_cons_zero, List.getElem_cons_succ]
              (try dsimp only at hSw)
              go_simp
              (try with_reducible rfl)
            simp only [Act.put, List.getElem_toArray, List.getElem_cons_zero, List.getElem_cons_succ, List.setIfInBounds_toArray, List.set_cons_zero, List.set_cons_succ]
            refine wpAnyH_take (i := 17) (v := ?_) rfl (by kernel_rfl) (by kernel_rfl) (by kernel_rfl) (fun _ _ _ h => h) (Or.inl ⟨by rfl, ?_⟩) hHeld ?_
            rotate_left
            · intro w hSw
              simp only [List.getElem_toArray, List.getElem_cons_zero, List.getElem_cons_succ]
              (try dsimp only at hSw)
              go_simp
              (try with_reducible rfl)
            simp only [Act.put, List.getElem_toArray, List.getElem_cons_zero, List.getElem_cons_succ, List.setIfInBounds_toArray, List.set_cons_zero, List.set_cons_succ]
            refine wpAnyH_take (i := 18) (v := ?_) rfl (by kernel_rfl) (by kernel_rfl) (by kernel_rfl) (fun _ _ _ h => h) (Or.inl ⟨by rfl, ?_⟩) hHeld ?_
            rotate_left
            · intro w hSw
              simp only [List.getElem_toArray, List.getElem_cons_zero, List.getElem_cons_succ]
              (try dsimp only at hSw)
              go_simp
              (try with_reducible rfl)
            simp only [Act.put, List.getElem_toArray, List.getElem_cons_zero, List.getElem_cons_succ, List.setIfInBounds_toArray, List.set_cons_zero, List.set_cons_succ]
            refine wpAnyH_take (i := 19) (v := ?_) rfl (by kernel_rfl) (by kernel_rfl) (by kernel_rfl) (fun _ _ _ h => h) (Or.inl ⟨by rfl, ?_⟩) hHeld ?_
            rotate_left
            · intro w hSw
              simp only [List.getElem_toArray, List.getElem_cons_zero, List.getElem_cons_succ]
              (try dsimp only at hSw)
              go_simp
              (try with_reducible rfl)
            simp only [Act.put, List.getElem_toArray, List.getElem_cons_zero, List.getElem_cons_succ, List.setIfInBounds_toArray, List.set_cons_zero, List.set_cons_succ]
            refine wpAnyH_take (i := 20) (v := ?_) rfl (by kernel_rfl) (by kernel_rfl) (by kernel_rfl) (fun _ _ _ h => h) (Or.inl ⟨by rfl, ?_⟩) hHeld ?_
            rotate_left
            · intro w hSw
              simp only [List.getElem_toArray, List.getElem_cons_zero, List.getElem_cons_succ]
              (try dsimp only at hSw)
              go_simp
              (try with_reducible rfl)
            simp only [Act.put, List.getElem_toArray, List.getElem_cons_zero, List.getElem_cons_succ, List.setIfInBounds_toArray, List.set_cons_zero, List.set_cons_succ]
            refine wpAnyH_take (i := 21) (v := ?_) rfl (by kernel_rfl) (by kernel_rfl) (by kernel_rfl) (fun _ _ _ h => h) (Or.inl ⟨by rfl, ?_⟩) hHeld ?_
            rotate_left
            · intro w hSw
              simp only [List.getElem_toArray, List.getElem_cons_zero, List.getElem_cons_succ]
              (try dsimp only at hSw)
              go_simp
              (try with_reducible rfl)
            simp only [Act.put, List.getElem_toArray, List.getElem_cons_zero, List.getElem_cons_succ, List.setIfInBounds_toArray, List.set_cons_zero, List.set_cons_succ]
            refine wpAnyH_take (i := 22) (v := ?_) rfl (by kernel_rfl) (by kernel_rfl) (by kernel_rfl) (fun _ _ _ h => h) (Or.inl ⟨by rfl, ?_⟩) hHeld ?_
            rotate_left
            · intro w hSw
              simp only [List.getElem_toArray, List.getElem_cons_zero, List.getElem_cons_succ]
              (try dsimp only at hSw)
              go_simp
              (try with_reducible rfl)
            simp only [Act.put, List.getElem_toArray, List.getElem_cons_zero, List.getElem_cons_succ, List.setIfInBounds_toArray, List.set_cons_zero, List.set_cons_succ]
            refine wpAnyH_take (i := 23) (v := ?_) rfl (by kernel_rfl) (by kernel_rfl) (by kernel_rfl) (fun _ _ _ h => h) (Or.inl ⟨by rfl, ?_⟩) hHeld ?_
            rotate_left
            · intro w hSw
              simp only [List.getElem_toArray, List.getElem_cons_zero, List.getElem_cons_succ]
              (try dsimp only at hSw)
              go_simp
              (try with_reducible rfl)
            simp only [Act.put, List.getElem_toArray, List.getElem_cons_zero, List.getElem_cons_succ, List.setIfInBounds_toArray, List.set_cons_zero, List.set_cons_succ]
            refine wpAnyH_ready (rs := [24]) (by kernel_rfl) (by simp) ?_
            refine AllReadyH.cons (o := _) rfl (fun K hK => ?_) AllReadyH.nil
            simp only [List.getElem_toArray, List.getElem_cons_zero, List.getElem_cons_succ]
            rw [if_pos (by rfl)]
            go_simp
            (go_at_call 13; (with_reducible refine (F.out _ (Below.next hB.out (by (repeat' (first | assumption | exact Below.refl _ _ | apply Below.next_alloc | apply Below.drew | (apply Below.next; rotate_left; assumption)))))).mono ?_); rintro e y1 ⟨rfl, hB1⟩)
            refine hK.out _ _ ?_ (fun hHeld => ?_)
            · exact SL2.out _ (by (repeat' (first | assumption | exact Below.refl _ _ | apply Below.next_alloc | apply Below.drew | (apply Below.next; rotate_left; assumption))))
            clear hK K
            refine wpAnyH_take (i := 25) (v := ?_) rfl (by kernel_rfl) (by kernel_rfl) (by kernel_rfl) (fun _ _ _ h => h) (Or.inl ⟨by rfl, ?_⟩) hHeld ?_
            rotate_left
            · intro w hSw
              simp only [List.getElem_toArray, List.getElem_cons_zero, List.getElem_cons_succ]
              (try dsimp only at hSw)
              go_simp
              (try with_reducible rfl)
            simp only [Act.put, List.getElem_toArray, List.getElem_cons_zero, List.getElem_cons_succ, List.setIfInBounds_toArray, List.set_cons_zero, List.set_cons_succ]
            refine wpAnyH_done (by kernel_rfl) ?_ _
            go_wp2
            go_roundw
            case rel => exact ⟨k + 1, by omega, by omega, by go_num, Lib.hid (Below.next hB.out (by (repeat' (first | assumption | exact Below.refl _ _ | apply Below.next_alloc | apply Below.drew | (apply Below.next; rotate_left; assumption)))))⟩
            case measure => simp [intOf]; omega
        · go_wp2
          go_roundw
          case rel => exact ⟨i + 1, by omega, by go_num, hB⟩
          case measure => simp [intOf]; omega
    · go_wp2
      go_ret
      exact ⟨rfl, hB.out⟩
end Go.Proofs.Ythelkkbjflohgaa.Ds
